/- userplane/ratematch: Buffer, Usable, Start. -/
import Derived.Test.YtloldjmibjkkkaaRmD
namespace Go.Proofs.Ytloldjmibjkkkaa
open Go.RowKit Go.Shelf
set_option linter.unusedVariables false
namespace Rm
/-- What Buffer returns. -/
def bufR (k f limit : Int) : List Int × Int := if valid k f limit = true then (buf k.toNat f.toNat (rows k.toNat) (size k.toNat limit), 0) else ([], 2)
def usableR (k f limit : Int) : Nat × Int := if valid k f limit = true then (cnt (buf k.toNat f.toNat (rows k.toNat) (size k.toNat limit)) (size k.toNat limit), 0) else (0, 2)
def startR (k limit rv : Int) : Nat × Int := if valid k 0 limit = true ∧ 0 ≤ rv ∧ rv ≤ 3 then (start (rows k.toNat) (size k.toNat limit) rv.toNat, 0) else (0, 2)
theorem rows_bd {k : Nat} (h1 : 40 ≤ k) (h2 : k ≤ 6144) : 2 ≤ rows k ∧ rows k ≤ 193 ∧ k + 4 ≤ 32 * rows k ∧ 32 * rows k < k + 4 + 32 := by unfold rows; omega
theorem size_bd {k : Nat} {limit : Int} (h : 1 ≤ limit) (h1 : 40 ≤ k) : 1 ≤ size k limit ∧ size k limit ≤ 96 * rows k := by
  have : 2 ≤ rows k := by unfold rows; omega
  unfold size; omega
theorem valid_nat {k f : Nat} {limit : Int} (h1 : 40 ≤ k) (h2 : k ≤ 6144) (h3 : f < k) (h4 : 1 ≤ limit) : valid k f limit = true := by
  simp [valid]; omega
end Rm
set_option maxHeartbeats 1000000 in
theorem rmBuffer_any (k f limit : Int) (w : World) :
    Calls Try.prog 10 #[.int .i64 k, .int .i64 f, .int .i64 limit] w fun e w' => (∃ v', e = .returned (.tuple #[v', .int .i64 (Rm.bufR k f limit).2]) ∧ OwnL w' w.heap.size 3 v' ((Rm.bufR k f limit).1.map (Value.int .i64))) ∧ Below w.heap.size w w' := by
  unfold Rm.bufR
  cases hv : Rm.valid k f limit with
  | false =>
    rw [if_neg (by simp)]
    have C := hid (rmOf_err k f limit hv)
    clear hv
    go_enter Try.func10, Try.ntmps10
    go_wp2_with (go_at_call 21; refine (C.out _).mono ?_; rintro e w1 ⟨rfl, B1⟩)
    go_ret2
    exact ⟨⟨_, rfl, OwnL.nil _ _ _⟩, B1.trans ((below_alloc _ _).mono B1.size)⟩
  | true =>
    rw [if_pos rfl]
    obtain ⟨h1, h2, h3, h4, h5⟩ := Rm.valid_of hv
    clear hv
    obtain ⟨k, rfl⟩ := Int.eq_ofNat_of_zero_le (show 0 ≤ k by omega)
    obtain ⟨f, rfl⟩ := Int.eq_ofNat_of_zero_le h3
    rw [Int.toNat_natCast, Int.toNat_natCast]
    have hr := Rm.rows_bd (k := k) (by omega) (by omega)
    have hs := Rm.size_bd (k := k) h5 (by omega)
    have C := hid (rmOf_ok k f limit (by omega) (by omega) (by omega) h5)
    have CB := hid (fun w => buffer_any k f (Rm.rows k) (Rm.size k limit) (by omega) (by omega) (by omega) hr.2.2.1 hr.2.2.2 hs.2 w)
    have HL := hid (show (Rm.buf k f (Rm.rows k) (Rm.size k limit)).length ≤ 20000 by rw [Rm.buf_len hs.2]; omega)
    generalize Rm.buf k f (Rm.rows k) (Rm.size k limit) = L at *
    unfold wordV at CB
    generalize Rm.rows k = R at *
    generalize Rm.size k limit = S at *
    go_enter Try.func10, Try.ntmps10
    go_wp2_with fail
    refine (C.out _).mono ?_
    rintro e w1 ⟨rfl, B1⟩
    go_wp2_with fail
    refine (CB.out _).mono ?_
    rintro e w2 ⟨⟨v2, rfl, V2⟩, B2⟩
    go_wp2_with fail
    refine (clone_any _ _ L V2 (by have := HL.out; omega)).mono ?_
    rintro e w3 ⟨⟨v3, rfl, O3⟩, B3⟩
    have B12 : Below w.heap.size w w2 := below_then B1 (below_then (below_alloc _ _) B2)
    go_wp2
    go_ret2
    exact ⟨⟨_, rfl, O3.base_mono B12.size⟩, below_then B12 B3⟩
set_option maxHeartbeats 1000000 in
theorem rmUsable_any (k f limit : Int) (w : World) :
    Calls Try.prog 11 #[.int .i64 k, .int .i64 f, .int .i64 limit] w fun e w' => e = .returned (.tuple #[.int .i64 (Rm.usableR k f limit).1, .int .i64 (Rm.usableR k f limit).2]) ∧ Below w.heap.size w w' := by
  have C := hid (rmBuffer_any k f limit)
  unfold Rm.usableR
  cases hv : Rm.valid k f limit with
  | false =>
    rw [Rm.bufR, hv, if_neg (by simp)] at C
    rw [if_neg (by simp)]
    clear hv
    have CD := hid (show ∀ w a c, Calls Try.prog 35 #[.slice a 0 c, .func (.func 25) #[] #[]] w fun e w' => e = .returned (.int .i64 (-1)) ∧ w = w' from fun w a c => by
      refine (uindex_any w (.slice a 0 c) [] (Vw.nil _ _ _) (by simp)).mono ?_
      rintro e w' ⟨⟨n, rfl, h⟩, rfl⟩
      rcases h.out with ⟨rfl, _⟩ | ⟨k, _, h, _⟩
      · exact ⟨rfl, rfl⟩
      · simp at h)
    have CE := hid (show ∀ w a c, Calls Try.prog 24 #[.slice a 0 c, .func (.func 25) #[] #[]] w fun e w' => e = .returned (.slice a 0 c) ∧ w = w' from fun w a c => by
      go_enter Try.func24, Try.ntmps24
      go_wp2_with (go_at_call 35; refine (CD.out _ _ _).mono ?_; rintro e w' ⟨rfl, rfl⟩)
      go_ret
      exact ⟨rfl, rfl⟩)
    go_enter Try.func11, Try.ntmps11
    go_wp2_with fail
    refine (C.out _).mono ?_
    rintro e w1 ⟨⟨v, rfl, O⟩, B1⟩
    obtain ⟨a, c, rfl⟩ := O.is_slice
    clear O
    rw [List.map_nil, List.length_nil]
    go_wp2_with (go_at_call 24; refine (CE.out _ _ _).mono ?_; rintro e w' ⟨rfl, rfl⟩)
    go_ret2
    exact ⟨rfl, B1⟩
  | true =>
    rw [Rm.bufR, hv, if_pos rfl] at C
    rw [if_pos rfl]
    obtain ⟨h1, h2, h3, h4, h5⟩ := Rm.valid_of hv
    clear hv
    obtain ⟨k, rfl⟩ := Int.eq_ofNat_of_zero_le (show 0 ≤ k by omega)
    obtain ⟨f, rfl⟩ := Int.eq_ofNat_of_zero_le h3
    rw [Int.toNat_natCast, Int.toNat_natCast] at *
    have hr := Rm.rows_bd (k := k) (by omega) (by omega)
    have hs := Rm.size_bd (k := k) h5 (by omega)
    have HL := hid (Rm.buf_len (k := k) (f := f) hs.2)
    have hsz : Rm.size k limit ≤ 20000 := by omega
    have hs0 := hs.1
    generalize Rm.size k limit = S at *
    generalize Rm.buf k f (Rm.rows k) S = L at *
    clear hr hs
    go_enter Try.func11, Try.ntmps11
    go_wp2_with fail
    refine (C.out _).mono ?_
    rintro e w1 ⟨⟨v, rfl, O⟩, B1⟩
    obtain ⟨g, cap, rfl⟩ := O.shape S (by rw [List.length_map, HL.out]) (by omega)
    have HO := hid O
    clear O
    go_wp2_with fail
    refine (udel_any w1 _ g S cap L HO.out HL.out (by omega)).mono ?_
    rintro e w2 ⟨⟨a, c, rfl⟩, F2⟩
    go_wp2
    go_ret2
    have hg := (HO.out.block (g := g) rfl).1
    exact ⟨rfl, B1.trans (F2.below B1.size (fun b hb e => by omega))⟩
set_option maxHeartbeats 1000000 in
theorem rmStart_any (k limit rv : Int) (w : World) :
    Calls Try.prog 17 #[.int .i64 k, .int .i64 limit, .int .i64 rv] w fun e w' => e = .returned (.tuple #[.int .i64 (Rm.startR k limit rv).1, .int .i64 (Rm.startR k limit rv).2]) ∧ Below w.heap.size w w' := by
  unfold Rm.startR
  cases hv : Rm.valid k 0 limit with
  | false =>
    rw [if_neg (by simp)]
    have C := hid (rmOf_err k 0 limit hv)
    clear hv
    go_enter Try.func17, Try.ntmps17
    go_wp2_with (go_at_call 21; refine (C.out _).mono ?_; rintro e w1 ⟨rfl, B1⟩)
    go_ret2
    exact ⟨rfl, below_then B1 (below_alloc _ _)⟩
  | true =>
    obtain ⟨h1, h2, h3, h4, h5⟩ := Rm.valid_of hv
    clear hv
    obtain ⟨k, rfl⟩ := Int.eq_ofNat_of_zero_le (show 0 ≤ k by omega)
    rw [Int.toNat_natCast]
    have C := hid (show ∀ w, Calls Try.prog 21 #[.int .i64 k, .int .i64 0, .int .i64 limit] w _ from rmOf_ok k 0 limit (by omega) (by omega) (by omega) h5)
    have hr := Rm.rows_bd (k := k) (by omega) (by omega)
    have hs := Rm.size_bd (k := k) h5 (by omega)
    by_cases e1 : rv < 0
    · rw [if_neg (by omega)]
      generalize Rm.rows k = R at *
      generalize Rm.size k limit = S at *
      go_enter Try.func17, Try.ntmps17
      go_wp2_with (go_at_call 21; refine (C.out _).mono ?_; rintro e w1 ⟨rfl, B1⟩)
      go_ret2
      exact ⟨rfl, below_then B1 (below_alloc _ _)⟩
    by_cases e2 : 3 < rv
    · rw [if_neg (by omega)]
      generalize Rm.rows k = R at *
      generalize Rm.size k limit = S at *
      go_enter Try.func17, Try.ntmps17
      go_wp2_with (go_at_call 21; refine (C.out _).mono ?_; rintro e w1 ⟨rfl, B1⟩)
      go_ret2
      exact ⟨rfl, below_then B1 (below_alloc _ _)⟩
    rw [if_pos ⟨rfl, by omega, by omega⟩]
    obtain ⟨rv, rfl⟩ := Int.eq_ofNat_of_zero_le (show 0 ≤ rv by omega)
    rw [Int.toNat_natCast]
    have CB := hid (fun w => start_any k 0 (Rm.rows k) (Rm.size k limit) rv (by omega) (by omega) hs.1 hs.2 (by omega) w)
    generalize Rm.start (Rm.rows k) (Rm.size k limit) rv = X at *
    unfold wordV at CB
    generalize Rm.rows k = R at *
    generalize Rm.size k limit = S at *
    have e3 : ¬ 3 < rv := by omega
    go_enter Try.func17, Try.ntmps17
    go_wp2_with fail
    refine (C.out _).mono ?_
    rintro e w1 ⟨rfl, B1⟩
    go_wp2_with fail
    refine (CB.out _).mono ?_
    rintro e w2 ⟨rfl, B2⟩
    go_wp2
    go_ret2
    exact ⟨rfl, below_then B1 (below_then (below_alloc _ _) B2)⟩
end Go.Proofs.Ytloldjmibjkkkaa
