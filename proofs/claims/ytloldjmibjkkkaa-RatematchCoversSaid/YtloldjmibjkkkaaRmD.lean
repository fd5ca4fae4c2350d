/- userplane/ratematch: usable; slices.DeleteFunc at usable. -/
import Derived.Test.YtloldjmibjkkkaaRmC
import Derived.Lib.SliceRun
import Derived.Test.YtloldjmibjkkkaaVw2
namespace Go.Proofs.Ytloldjmibjkkkaa
open Go.RowKit Go.Shelf
set_option linter.unusedVariables false
namespace Rm
def us (x : Int) : Bool := decide (0 ≤ x)
/-- The number of usable elements among the first n. -/
def cnt (L : List Int) : Nat → Nat
  | 0 => 0
  | n + 1 => cnt L n + (if us (L.getD n 0) = true then 1 else 0)
theorem cnt_le (L : List Int) : ∀ n, cnt L n ≤ n
  | 0 => Nat.le_refl _
  | n + 1 => by have := cnt_le L n; unfold cnt; split <;> omega
theorem cnt_all {L : List Int} : ∀ {n : Nat}, (∀ j, j < n → us (L.getD j 0) = true) → cnt L n = n
  | 0, _ => rfl
  | n + 1, h => by
    have := cnt_all (n := n) fun j hj => h j (by omega)
    unfold cnt; rw [this, if_pos (h n (by omega))]
end Rm
theorem usable_any (x : Int) (w : World) : Calls Try.prog 26 #[.int .i64 x] w fun e w' => e = .returned (.bool (Rm.us x)) ∧ w = w' := by
  go_enter Try.func26, Try.ntmps26
  go_wp2
  go_ret
  exact ⟨rfl, rfl⟩
theorem unusable_any (x : Int) (w : World) : Calls Try.prog 25 #[.int .i64 x] w fun e w' => e = .returned (.bool (!Rm.us x)) ∧ w = w' := by
  have C := hid (usable_any x w)
  generalize Rm.us x = b at *
  go_enter Try.func25, Try.ntmps25
  go_wp2_with (go_at_call 26; refine C.out.mono ?_; rintro e w' ⟨rfl, rfl⟩)
  go_ret
  exact ⟨rfl, rfl⟩
set_option maxHeartbeats 1000000 in
/-- The first element that is not usable. -/
theorem uindex_any (w : World) (v : Value) (A : List Int) (hv : Vw w v (A.map (Value.int .i64))) (hl : A.length ≤ 9223372036854775807) :
    Calls Try.prog 35 #[v, .func (.func 25) #[] #[]] w fun e w' => (∃ n : Int, e = .returned (.int .i64 n) ∧ Hid ((n = -1 ∧ ∀ j, j < A.length → Rm.us (A.getD j 0) = true) ∨ (∃ k : Nat, n = k ∧ k < A.length ∧ Rm.us (A.getD k 0) = false ∧ ∀ j, j < k → Rm.us (A.getD j 0) = true))) ∧ w = w' := by
  rcases vw_split hv with ⟨a, c, rfl, rfl⟩ | ⟨b, off, c, rfl, hp0, hc⟩
  · clear hv
    go_enter Try.func35, Try.ntmps35
    go_wp2
    refine wp_loop_rounds 1 ?_
    rw [rounds_succ]
    go_wp2
    go_ret
    exact ⟨⟨-1, rfl, .inl ⟨rfl, by simp⟩⟩, rfl⟩
  · have HC := hid hc
    clear hc hv
    go_enter Try.func35, Try.ntmps35
    go_wp2
    go_loop [8] (fun i => ∃ k : Nat, k ≤ A.length ∧ i = .int .i64 k ∧ Hid (∀ j, j < k → Rm.us (A.getD j 0) = true)) (fun i => A.length - (intOf i).toNat)
    case atStart => exact ⟨0, Nat.zero_le _, rfl, fun j hj => absurd hj (Nat.not_lt_zero _)⟩
    case round =>
      obtain ⟨k, hk, rfl, hno⟩ := hrel
      by_cases hlt : k < A.length
      · have hck := HC.out k hlt
        have C := hid (unusable_any (A.getD k 0))
        obtain ⟨x, hx⟩ : ∃ x, x = A.getD k 0 := ⟨_, rfl⟩
        rw [← hx] at hck C
        have HX := hid hx
        clear hx
        cases hpk : Rm.us x with
        | false =>
          rw [hpk] at C
          have HK := hid hpk
          clear hpk
          go_wp2_with (refine (C.out _).mono ?_; rintro e w' ⟨rfl, rfl⟩)
          go_ret
          exact ⟨⟨k, rfl, .inr ⟨k, rfl, hlt, by rw [← HX.out]; exact HK.out, hno.out⟩⟩, rfl⟩
        | true =>
          rw [hpk] at C
          have HK := hid hpk
          clear hpk
          go_wp2_with (refine (C.out _).mono ?_; rintro e w' ⟨rfl, rfl⟩)
          go_round
          case rel =>
            refine ⟨k + 1, by omega, by go_num, fun j hj => ?_⟩
            by_cases hjk : j = k
            · subst hjk; rw [← HX.out]; exact HK.out
            · exact hno.out j (by omega)
          case measure => simp [intOf]; omega
      · obtain rfl : k = A.length := by omega
        go_wp2
        go_ret
        exact ⟨⟨-1, rfl, .inl ⟨rfl, hno.out⟩⟩, rfl⟩
theorem Fr.setCells {S : Nat → Prop} (g : Nat) (hS : S g) : ∀ (l : List Value) (o : Nat) (w : World), Fr S w (w.setCells g o l)
  | [], o, w => Fr.refl _ _
  | v :: l, o, w => (Fr.setCell w ⟨g, o, none⟩ v hS).trans (Fr.setCells g hS l (o + 1) _)
theorem zero_int : ∀ w : World, (zeroValue 3).run Try.prog w = .ok (.int .i64 0) w := fun _ => by kernel_rfl
set_option maxHeartbeats 2000000 in
theorem udel_any (w : World) (base g n cap : Nat) (A : List Int) (hown : OwnL w base 3 (.slice (some ⟨g, 0, none⟩) n cap) (A.map (Value.int .i64))) (hA : A.length = n) (hl : n ≤ 100000) :
    Calls Try.prog 24 #[.slice (some ⟨g, 0, none⟩) n cap, .func (.func 25) #[] #[]] w fun e w' => (∃ a c, e = .returned (.slice a (Rm.cnt A n) c)) ∧ Fr (fun b => b = g) w w' := by
  have HI := hid (uindex_any w _ A hown.vw (by omega))
  have hcap := hown.cap
  have HA := hid hA
  have HO := hid hown
  clear hown hA
  have HC0 := hid (show ∀ w : World, Calls Try.prog 35 #[.slice (some ⟨g, 0, none⟩) n cap, .func (.func 25) #[] #[]] w = Calls Try.prog 35 #[.slice (some ⟨g, 0, none⟩) n cap, .func (.func 25) #[] #[]] w from fun _ => rfl)
  clear HC0
  go_enter Try.func24, Try.ntmps24
  go_wp2_with fail
  refine HI.out.mono ?_
  rintro e w' ⟨⟨i, rfl, hi⟩, rfl⟩
  rcases hi.out with ⟨hm, hall⟩ | ⟨k, hk, hkn, hku, hkb⟩
  · subst hm
    have HR := hid (show Rm.cnt A n = n from Rm.cnt_all (fun j hj => hall j (by rw [HA.out]; exact hj)))
    clear hi hall
    go_wp2
    go_ret
    rw [HR.out]
    exact ⟨⟨some ⟨g, 0, none⟩, cap, rfl⟩, Fr.refl _ _⟩
  · subst hk
    have hkn' : k < n := by have := HA.out; omega
    have HK := hid (show Rm.cnt A (k + 1) = k by rw [Rm.cnt, Rm.cnt_all hkb, hku]; simp)
    have hk1 : ((k : Int) == -1) = false := by rw [beq_eq_false_iff_ne]; omega
    clear hi hku hkb hkn
    go_wp2
    go_loopw [5, 6] (fun i j wr => ∃ (p q : Nat) (L : List Int), q ≤ n ∧ p < q ∧ i = .int .i64 p ∧ j = .int .i64 q ∧ Hid (Rm.cnt A q = p) ∧ Hid (L.length = n) ∧ OwnL wr base 3 (.slice (some ⟨g, 0, none⟩) n cap) (L.map (Value.int .i64)) ∧ Hid (∀ t, q ≤ t → t < n → L.getD t 0 = A.getD t 0) ∧ Fr (fun b => b = g) w wr) (fun _ j _ => n - (intOf j).toNat)
    case atStart => exact ⟨k, k + 1, A, by omega, by omega, rfl, by go_num, HK.out, HA.out, HO.out, fun t _ _ => rfl, Fr.refl _ _⟩
    case round =>
      obtain ⟨p, q, L, hq, hpq, rfl, rfl, hc, hL, hown, hkeep, hfr⟩ := hrel
      by_cases hlt : q < n
      · have hcell := hown.at q (by rw [List.length_map, hL.out]; exact hlt)
        have hLq : L.getD q 0 = A.getD q 0 := hkeep.out q (Nat.le_refl _) hlt
        have hqL : q < L.length := by rw [hL.out]; exact hlt
        rw [List.getElem_map, show L[q] = A.getD q 0 by rw [← hLq]; simp [List.getD, hqL]] at hcell
        have C := hid (unusable_any (A.getD q 0))
        have HCs := hid (show Rm.cnt A (q + 1) = Rm.cnt A q + (if Rm.us (A.getD q 0) = true then 1 else 0) from rfl)
        generalize A.getD q 0 = x at *
        have hfz := hown.free p
        obtain ⟨u, hu⟩ : ∃ u : Value, wr.cell? ⟨g, p, none⟩ = some u := ⟨_, hown.at p (by rw [List.length_map, hL.out]; omega)⟩
        have HO2 := hid hown
        have HF2 := hid hfr
        clear hown hfr hLq hqL
        cases hux : Rm.us x with
        | true =>
          rw [hux] at C
          have HC2 := hid (show Rm.cnt A (q + 1) = p + 1 by rw [HCs.out, hux, hc.out]; rfl)
          clear hux
          go_wp2_with (refine (C.out _).mono ?_; rintro e w' ⟨rfl, rfl⟩)
          go_roundw
          case rel =>
            refine ⟨p + 1, q + 1, L.set p x, by omega, by omega, by go_num, by go_num, HC2.out, by simp [Hid, hL.out], ?_, ?_, HF2.out.trans (Fr.setCell _ _ _ rfl)⟩
            · have := HO2.out.stored p (.int .i64 x)
              rwa [← List.map_set] at this
            · intro t h1 h2
              have := hkeep.out t (by omega) h2
              rw [← this]
              have hpt : ¬ p = t := by omega
              simp [List.getD, List.getElem?_set, hpt]
          case measure => simp [intOf]; omega
        | false =>
          rw [hux] at C
          have HC2 := hid (show Rm.cnt A (q + 1) = p by rw [HCs.out, hux, hc.out]; rfl)
          clear hux
          go_wp2_with (refine (C.out _).mono ?_; rintro e w' ⟨rfl, rfl⟩)
          go_roundw
          case rel => exact ⟨p, q + 1, L, by omega, by omega, rfl, by go_num, HC2.out, hL.out, HO2.out, fun t h1 h2 => hkeep.out t (by omega) h2, HF2.out⟩
          case measure => simp [intOf]; omega
      · obtain rfl : q = n := by omega
        have hcl : ∀ ty, (Builtin.clear_ #[22] ty #[.slice (some ⟨g, p, none⟩) (q - p) (cap - p)]).run Try.prog wr = .ok (.tuple #[]) (wr.setCells g p (List.replicate (q - p) (.int .i64 0))) :=
          fun ty => Lib.run_clear_slice wr _ _ ty _ Try.underlying22 zero_int rfl rfl g p _ _ (by omega) (fun t ht => by rw [hown.at (p + t) (by rw [List.length_map, hL.out]; omega)]; rfl) (fun t ht => hown.free (p + t))
        have HF2 := hid (hfr.trans (Fr.setCells (S := fun b => b = g) g rfl (List.replicate (q - p) (.int .i64 0)) p wr))
        have hb1 : (p : Int) ≤ (q : Int) := by omega
        have hb2 : (p : Int) ≤ (cap : Int) := by omega
        clear hown hfr
        go_wp2
        go_ret
        rw [hc.out]
        exact ⟨⟨some ⟨g, 0, none⟩, cap, rfl⟩, HF2.out⟩
end Go.Proofs.Ytloldjmibjkkkaa
