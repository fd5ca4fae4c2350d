/- userplane/dematch: combined. -/
import Derived.Test.YtpnmfnjpbhjddaaDemA
namespace Go.Proofs.Ytpnmfnjpbhjddaa
open Go.RowKit Go.Shelf
set_option linter.unusedVariables false
attribute [local go_sem ↓] Go.wp_at_zero Go.wp_at_succ
theorem add1_any (a b : Int) (w : World) : Calls Try.prog 34 #[.int .i64 a, .int .i64 b] w fun e w' => e = .returned (.int .i64 (Soft.add a b)) ∧ Below w.heap.size w w' := by
  have HA := hid (add_any a b w)
  go_enter Try.func34, Try.ntmps34
  go_wp2_with fail
  refine HA.out.mono ?_
  rintro r w1 ⟨rfl, B1⟩
  go_wp2
  go_ret
  exact ⟨rfl, B1⟩
set_option maxHeartbeats 4000000 in
theorem comb_any (w : World) (q cap N : Nat) (V A L : List Int) (va vl : Value) (hO : OwnL w q 3 (.slice (some ⟨q, 0, none⟩) N cap) (V.map (Value.int .i64))) (hN : V.length = N) (hNb : N ≤ 100000)
    (ha : Vw w va (A.map (Value.int .i64))) (hl : Vw w vl (L.map (Value.int .i64))) (hAL : A.length = L.length) (hLb : L.length ≤ 1000000) (hA : ∀ i, i < L.length → ∃ j : Nat, A.getD i 0 = j ∧ j < N)
    (hna : ∀ b off n c, va = .slice (some ⟨b, off, none⟩) n c → 0 < n → b ≠ q) (hnl : ∀ b off n c, vl = .slice (some ⟨b, off, none⟩) n c → 0 < n → b ≠ q) :
    Calls Try.prog 33 #[.slice (some ⟨q, 0, none⟩) N cap, va, vl, .func (.func 34) #[] #[]] w fun e w' => e = .returned (.tuple #[]) ∧ OwnL w' q 3 (.slice (some ⟨q, 0, none⟩) N cap) ((De.comb V A L L.length).map (Value.int .i64)) ∧ Fr (fun j => j = q ∨ w.heap.size ≤ j) w w' := by
  have HO := hid hO
  have HA := hid ha
  have HL := hid hl
  have HNA := hid hna
  have HNL := hid hnl
  have HN := hid hN
  have HIdx := hid hA
  have HADD := hid (fun a b W => add1_any a b W)
  obtain ⟨aa, ca, rfl, _⟩ := ha
  obtain ⟨al, cl, rfl, _⟩ := hl
  simp only [List.length_map] at HA HL HNA HNL ⊢
  rw [hAL] at HA HNA ⊢
  have HAL := hid hAL
  clear hO hna hnl hN hA hAL
  generalize hM : L.length = M at *
  have HM := hid hM
  clear hM
  have hq := (HO.out.block (g := q) rfl).2
  go_enter Try.func33, Try.ntmps33
  go_wp2
  go_loopw [12] (fun i wr => ∃ m : Nat, m ≤ M ∧ i = .int .i64 m ∧ Hid (OwnL wr q 3 (.slice (some ⟨q, 0, none⟩) N cap) ((De.comb V A L m).map (Value.int .i64))) ∧ Hid (Fr (fun j => j = q ∨ w.heap.size ≤ j) w wr)) (fun i _ => M - (intOf i).toNat)
  case atStart => exact ⟨0, Nat.zero_le _, rfl, HO, Fr.refl _ _⟩
  case round =>
    obtain ⟨m, hm, rfl, hO, hF⟩ := hrel
    by_cases hlt : m < M
    · have hVs := Nat.le_trans (Nat.le_refl _) hF.out.size
      have hKeep : KeepT (fun b => b ≠ q) w wr := ⟨hF.out.size, fun k hk ht => hF.out.block k hk (by omega)⟩
      have hVA := HA.out.keep hKeep (fun b off n c e h0 => HNA.out b off n c e h0)
      have hVL := HL.out.keep hKeep (fun b off n c e h0 => HNL.out b off n c e h0)
      have hAlen := HAL.out
      have hMl := HM.out
      obtain ⟨b1, o1, c1, e1, hx⟩ := vw_at hVA (show m < A.length by omega)
      obtain ⟨b2, o2, c2, e2, hy⟩ := vw_at hVL (show m < L.length by omega)
      rw [hAlen] at e1
      rw [hMl] at e2
      cases e1
      cases e2
      have hb1 : b1 ≠ q := HNA.out b1 o1 M _ rfl (by omega)
      have hb2 : b2 ≠ q := HNL.out b2 o2 M _ rfl (by omega)
      obtain ⟨j, hj, hjN⟩ := HIdx.out m (by omega)
      rw [hj] at hx
      have hCN := hid (show De.comb V A L (m + 1) = (De.comb V A L m).set j (Soft.add ((De.comb V A L m).getD j 0) (L.getD m 0)) by rw [De.comb, hj, Int.toNat_natCast])
      have hz := OwnL.at hO.out j (by rw [List.length_map, De.comb_len, HN.out]; exact hjN)
      rw [List.getElem_map, show (De.comb V A L m)[j]'(by rw [De.comb_len, HN.out]; exact hjN) = (De.comb V A L m).getD j 0 by simp [List.getD, De.comb_len, HN.out, hjN]] at hz
      have zz := hO.out.free j
      generalize L.getD m 0 = x at *
      generalize (De.comb V A L m).getD j 0 = y at *
      clear hVA hVL hAlen hMl hj hKeep
      have K := hid ((HADD.out y x wr.drew).mono fun r w' h' => (show _ ∧ Below wr.heap.size wr w' from ⟨h'.1, (below_drewN wr 1).trans h'.2⟩))
      have HF := hid hF.out
      have HO2 := hid hO.out
      have hqr : q < wr.heap.size := (hO.out.block (g := q) rfl).2
      have hbr1 : b1 < wr.heap.size := World.block_lt_of_cell? wr _ hx
      clear hO hF HO
      go_wp2_with fail
      go_region_law ((go_simp; refine K.out.mono ?_; rintro r w2 ⟨rfl, B2⟩; have hx2 : w2.cell? ⟨b1, o1 + m, none⟩ = some (.int .i64 j) := (B2.cell (p := ⟨b1, o1 + m, none⟩) hbr1).trans hx; have hz2 : w2.cell? ⟨q, j, none⟩ = some (.int .i64 y) := (B2.cell (p := ⟨q, j, none⟩) hqr).trans hz; have HO3 := hid (HO2.out.fr (Fr.of_below B2) (fun g' e => by simp [Value.ownBlock] at e; omega)); have zz2 := HO3.out.free j))
      all_goals
        have HO4 := hid (HO3.out.stoI j (Soft.add y x))
        have F4 := hid (Fr.setCell (S := fun k => k = q) w2 ⟨q, j, none⟩ (.int .i64 (Soft.add y x)) rfl)
        rw [← hCN.out] at HO4
        generalize World.setCell _ _ _ = w4 at HO4 F4 ⊢
        have HF4 := hid (HF.out.trans (((Fr.of_below B2).mono (fun k hk h => absurd hk (by omega))).trans (F4.out.mono (fun k _ e => .inl e))))
        clear hx hz zz hx2 hz2 zz2 HO3 B2 hy
        go_wp2
        go_roundw
        case rel => exact ⟨m + 1, by omega, by go_num, HO4, HF4⟩
        case measure => simp [intOf]; omega
    · obtain rfl : m = M := by omega
      go_wp2
      go_end0
      exact ⟨rfl, hO.out, hF.out⟩
end Go.Proofs.Ytpnmfnjpbhjddaa
