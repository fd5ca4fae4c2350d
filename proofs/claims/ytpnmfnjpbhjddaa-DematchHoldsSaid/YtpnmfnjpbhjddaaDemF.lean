/- userplane/dematch: Add, the values combined. -/
import Derived.Test.YtpnmfnjpbhjddaaDemE
namespace Go.Proofs.Ytpnmfnjpbhjddaa
open Go.RowKit Go.Shelf
set_option linter.unusedVariables false
attribute [local go_sem ↓] Go.wp_at_zero Go.wp_at_succ
set_option maxHeartbeats 1000000 in
/-- The values are combined. -/
theorem dadd_ok {w : World} {g q k f : Nat} {limit n : Int} {V L : List Int} (rv : Int) {vl : Value} (hD : DB w g q k f limit V n) (hl : Vw w vl (L.map (Value.int .i64))) (hLb : L.length ≤ 131072) (hbad : Soft.bad L = false) (hE : (Rm.posR k f limit rv L.length).2 = 0)
    (hVb : V.length ≤ 100000) (hAL : (Rm.posR k f limit rv L.length).1.length = L.length) (hA : ∀ i, i < L.length → ∃ j : Nat, (Rm.posR k f limit rv L.length).1.getD i 0 = j ∧ j < V.length)
    (hnl : ∀ b off n c, vl = .slice (some ⟨b, off, none⟩) n c → 0 < n → b ≠ q) (hn0 : 0 ≤ n) (hn1 : n ≤ 1000000000) :
    Calls Try.prog 12 #[.pointer (some ⟨g, 0, none⟩), .int .i64 rv, vl] w fun e w' => e = .returned (.int .i64 0) ∧ DB w' g q k f limit (De.comb V (Rm.posR k f limit rv L.length).1 L L.length) (n + L.length) ∧ Fr (fun j => j = g ∨ j = q ∨ w.heap.size ≤ j) w w' := by
  have HN := hid (dnone_no hD)
  have HV := hid (valid_any w vl L hl (by omega))
  rw [hbad] at HV
  have HP := hid (rmPosA_any k f limit rv L.length)
  rw [hE] at HP
  generalize (Rm.posR k f limit rv L.length).1 = A at HP hAL hA ⊢
  have HL := hid hl
  have HNL := hid hnl
  have HA := hid hA
  have HAL := hid hAL
  have HVb := hid hVb
  have hqw := hD.lt.2
  have hgw := hD.lt.1
  have hgq := hD.ne
  have hLw := hid hl.lt
  obtain ⟨al, cl, rfl, _⟩ := hl
  simp only [List.length_map] at HV HL HNL hLw ⊢
  have HD := hid hD
  have hd : decide (131072 < (L.length : Int)) = false := decide_eq_false (by omega)
  have hcw : IntKind.i64.wrap (n + (L.length : Int)) = n + (L.length : Int) := IntWalk.i64_in _ (by omega)
  clear hD hE hbad hnl hA hAL hVb
  go_enter Try.func12, Try.ntmps12
  go_wp2_with fail
  go_step3
  go_wp2_with fail
  refine HN.out.mono ?_
  rintro r w1 ⟨rfl, rfl⟩
  go_wp2_with fail
  refine HV.out.mono ?_
  rintro r w1 ⟨rfl, B1⟩
  have hS0 := hid (HD.out.blw B1)
  have HB1 := hid B1
  have hw1 := B1.size
  clear B1
  go_wp2_with fail
  have HS := hid (fun U (h : Below w1.heap.size w1 U) => (show U.cell? ⟨g, 0, none⟩ = some (.int .i64 k) ∧ U.cell? ⟨g, 1, none⟩ = some (.int .i64 f) ∧ U.cell? ⟨g, 2, none⟩ = some (.int .i64 limit) from
    (hS0.out.blw h).ex.elim fun cap hh => ⟨hh.1.cell 0, hh.1.cell 1, hh.1.cell 2⟩))
  have K := hid (fun U (h : Below w1.heap.size w1 U) => (HP.out U).mono fun e V' h' => (show (∃ v', e = .returned (.tuple #[v', .int .i64 0]) ∧ VwA V' w1.heap.size v' (A.map (Value.int .i64))) ∧ Below w1.heap.size w1 V' from ⟨h'.1.elim fun v' hv => ⟨v', hv.1, hv.2.mono h.size⟩, below_then h h'.2⟩))
  have hB0 : Below w1.heap.size w1 w1.drew := below_drewN w1 1
  go_region_held3 (fun U => U.cell? ⟨g, 0, none⟩ = some (.int .i64 k) ∧ U.cell? ⟨g, 1, none⟩ = some (.int .i64 f) ∧ U.cell? ⟨g, 2, none⟩ = some (.int .i64 limit)) (exact HS.out _ (by assumption))
    ((first
      | (go_at_call 23; refine (K.out _ (by assumption)).mono ?_; rintro e w2 ⟨⟨v', rfl, hVA⟩, hB2⟩)))
  all_goals
    have HD2 := hid (hS0.out.blw hB2)
    have HL2 := hid ((HL.out.below HB1.out (Nat.le_refl _)).below hB2 (Nat.le_refl _))
    have HB2 := hid (below_then HB1.out hB2)
    have HVA := hid hVA
    obtain ⟨aa, ca, rfl, _⟩ := hVA.vw
    simp only [List.length_map] at HVA ⊢
    obtain ⟨hne, cap, hBk, hO⟩ := HD2.out
    have p3 : w2.cell? ⟨g, 3, none⟩ = some (.slice (some ⟨q, 0, none⟩) V.length cap) := hBk.cell 3
    have HC := hid (comb_any w2 q cap V.length V A L (.slice aa A.length ca) (.slice al L.length cl) (hO.rebase rfl) rfl HVb.out HVA.out.vw HL2.out HAL.out (by omega) HA.out (fun b off n c e h0 => by have := HVA.out.hi b off n c e; omega) HNL.out)
    have hw2 := hB2.size
    have HBk := hid hBk
    clear hVA hB2 hB0 hBk hO HS K hS0
    go_wp2_with fail
    refine HC.out.mono ?_
    rintro e w3 ⟨rfl, hO3, hF3⟩
    have hBk3 := HBk.out.fr hF3 (by have := HBk.out.lt; omega)
    have HD3 := hid (show DB w3 g q k f limit (De.comb V A L L.length) n from ⟨hne, cap, by rw [De.comb_len]; exact hBk3, by rw [De.comb_len]; exact hO3⟩)
    have HF3 := hid hF3
    have p4 : w3.cell? ⟨g, 4, none⟩ = some (.int .i64 n) := hBk3.cell 4
    have z4 := hBk3.frozen 4
    clear p3 hO3 hF3 hBk3 HC
    go_wp2
    first
    | go_ret
    | (rw [Exit.noGoto_ret]; go_ret)
    | trace_state
    exact ⟨rfl, (HD3.out.cnt _).1, ((Fr.of_below HB2.out).mono (fun j hj h => .inr (.inr h))).trans ((HF3.out.mono (fun j hj h => by omega)).trans ((HD3.out.cnt (n + L.length)).2.mono (fun j hj h => .inl h)))⟩
end Go.Proofs.Ytpnmfnjpbhjddaa
