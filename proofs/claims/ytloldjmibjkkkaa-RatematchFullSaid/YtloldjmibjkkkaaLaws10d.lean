/- userplanelaw10: RatematchFull. -/
import Derived.Test.YtloldjmibjkkkaaLaws10b
import Derived.Test.YtloldjmibjkkkaaCov9b
namespace Go.Proofs.Ytloldjmibjkkkaa
open Go.RowKit Go.Shelf
set_option linter.unusedVariables false
theorem elem_bool : Elem1 Try.prog 39 4 1 (.bool false) := Elem1.mk' Try.underlying39 (by kernel_rfl) rfl
set_option maxRecDepth 100000 in
set_option maxHeartbeats 1000000 in
theorem full_err (k f : Int) (hv : Rm.valid k f 1099511627776 = false) (w : World) :
    Calls Try.prog 8 #[.int .i64 k, .int .i64 f] w fun e w' => e = .returned (.bool true) ∧ Below w.heap.size w w' := by
  have C1 := hid (rmBuffer_any k f 1099511627776)
  have C2 := hid (rmUsable_any k f 1099511627776)
  unfold Rm.bufR at C1
  unfold Rm.usableR at C2
  rw [hv, if_neg (by simp)] at C1 C2
  clear hv
  go_enter Try.func8, Try.ntmps8
  go_wp2_with fail
  refine (C1.out _).mono ?_
  rintro e w1 ⟨⟨v1, rfl, o1⟩, B1⟩
  clear o1
  go_wp2_with fail
  refine (C2.out _).mono ?_
  rintro e w2 ⟨rfl, B2⟩
  go_wp2_with fail
  refine (known10_true _).mono ?_
  rintro e w4 ⟨rfl, B4⟩
  go_wp2
  go_ret
  exact ⟨rfl, below_then (below_then B1 B2) B4⟩
set_option maxRecDepth 100000 in
set_option maxHeartbeats 2000000 in
theorem full_ok (k f d D R S N : Nat) (L : List Int) (hk1 : 40 ≤ k) (hk2 : k ≤ 6144) (hf : f < k) (hd : d = k + 4) (hD : D = 3 * d) (hR : R = Rm.rows k) (hS : S = Rm.size k 1099511627776) (hL : L = Rm.buf k f R S) (hN : N = Rm.cnt L S) (w : World) :
    Calls Try.prog 8 #[.int .i64 k, .int .i64 f] w fun e w' => e = .returned (.bool true) ∧ Below w.heap.size w w' := by
  have C1 := hid (show ∀ w, Calls Try.prog 10 #[.int .i64 k, .int .i64 f, .int .i64 1099511627776] w fun e w' => (∃ v', e = .returned (.tuple #[v', .int .i64 0]) ∧ OwnL w' w.heap.size 3 v' (L.map (Value.int .i64))) ∧ Below w.heap.size w w' from fun w => by
    have := rmBuffer_any k f 1099511627776 w
    rw [Rm.bufR, Rm.valid_nat hk1 hk2 hf (by omega), if_pos rfl, Int.toNat_natCast, Int.toNat_natCast, ← hR, ← hS, ← hL] at this
    exact this)
  have C2 := hid (show ∀ w, Calls Try.prog 11 #[.int .i64 k, .int .i64 f, .int .i64 1099511627776] w fun e w' => e = .returned (.tuple #[.int .i64 N, .int .i64 0]) ∧ Below w.heap.size w w' from fun w => by
    have := rmUsable_any k f 1099511627776 w
    rw [Rm.usableR, Rm.valid_nat hk1 hk2 hf (by omega), if_pos rfl, Int.toNat_natCast, Int.toNat_natCast, ← hR, ← hS, ← hL, ← hN] at this
    exact this)
  have hr := Rm.rows_bd hk1 hk2
  rw [← hR] at hr
  have hS' : S = 96 * R := by rw [hS, Rm.size, ← hR]; simp; omega
  have hNe : N = 3 * (k + 4) - 2 * f := by
    have := Rm.cnt_full (k := k) (f := f) (R := R) (by omega) hf
    rw [hN, hL, hS']; exact this
  have HL := hid (show L.length = S by rw [hL]; exact Rm.buf_len (by omega))
  have HX := hid (show ∀ j, j < S → Rm.us (L.getD j 0) = true → (f : Int) ≤ L.getD j 0 ∧ L.getD j 0 < 3 * ((k : Int) + 4) ∧ ¬ ((k : Int) + 4 ≤ L.getD j 0 ∧ L.getD j 0 < (k : Int) + 4 + f) ∧ Rm.met L j (L.getD j 0) = false from fun j hj hu => by
    rw [hL] at hu ⊢
    have hu' := hu
    rw [Rm.buf_at (by omega) hj] at hu'
    have := Rm.full_bd (by omega) hf (by omega) hu'
    rw [← Rm.buf_at (n := S) (by omega) hj] at this
    exact ⟨this.1, this.2.1, this.2.2, Rm.met_no (by omega) (by omega) hj hu⟩)
  have hSb : S ≤ 20000 := by omega
  have hS0 : 0 < S := by omega
  have E1 := hid (show ((k : Int) + 4 = (d : Int)) ∧ (3 * (d : Int) = (D : Int)) ∧ ((D : Int) - 2 * (f : Int) = (N : Int)) ∧ D ≤ 20000 ∧ d ≤ 6148 ∧ d < D from ⟨by omega, by omega, by omega, by omega, by omega, by omega⟩)
  have i1 : (40 : Int) ≤ (k : Int) := by omega
  have i2 : (k : Int) ≤ 6144 := by omega
  have i3 : (f : Int) < (k : Int) := by omega
  obtain ⟨x1, x2, x3, x4, x5, x6⟩ := E1.out
  have y1 : IntKind.i64.wrap ((k : Int) + 4) = (d : Int) := by rw [x1]; exact IntWalk.i64_in _ (by omega)
  have y2 : IntKind.i64.wrap (3 * (d : Int)) = (D : Int) := by rw [x2]; exact IntWalk.i64_in _ (by omega)
  clear hR hS hL hN hr hS' hNe hk1 hk2 hf hd hD
  go_enter Try.func8, Try.ntmps8
  go_wp2_with fail
  refine (C1.out _).mono ?_
  rintro e w1 ⟨⟨v1, rfl, o1⟩, B1⟩
  obtain ⟨g1, c1, rfl⟩ := o1.shape S (by rw [List.length_map, HL.out]) (by omega)
  have ho1 := hid o1
  clear o1
  go_wp2_with fail
  refine (C2.out _).mono ?_
  rintro e w2 ⟨rfl, B2⟩
  have hbl := (ho1.out.block (g := g1) rfl).2
  have HC := hid (show ∀ j, j < S → w2.cell? ⟨g1, j, none⟩ = some (.int .i64 (L.getD j 0)) from fun j hj => by
    have hj' : j < L.length := by rw [HL.out]; exact hj
    rw [B2.cell (p := ⟨g1, j, none⟩) hbl, ho1.out.at j (by simpa using hj')]
    simp [List.getD, hj'])
  have hg2 : g1 < w2.heap.size := by have := B2.size; omega
  have BB := hid (below_then B1 B2)
  clear C1 C2 ho1 B1 B2 hbl
  go_wp2_with (at_make; refine wpList_run_value rfl (exec_make_one elem_bool (.tmp 63) (.tmp 63) rfl .i64 .i64 _ _ D D rfl rfl (by simp [x2]) (by simp [x2]) (Nat.le_refl _) (by omega) (by omega)) ?_)
  have hW : OwnL (w2.alloc (.cells (Array.replicate D (.bool false)) 4)) w2.heap.size 4 (.slice (some ⟨w2.heap.size, 0, none⟩) D D) (Rm.seenB D L 0) := by
    rw [Rm.seenB_zero]
    exact OwnL.zeros w2 w2.heap.size 4 D (.bool false) (Nat.le_refl _) (by omega)
  have HW := hid hW
  clear hW
  go_loopw [11] (fun i wr => ∃ j : Nat, j ≤ S ∧ i = .int .i64 j ∧ OwnL wr w2.heap.size 4 (.slice (some ⟨w2.heap.size, 0, none⟩) D D) (Rm.seenB D L j) ∧ Below w2.heap.size w2 wr) (fun i _ => S - (intOf i).toNat)
  case atStart => exact ⟨0, Nat.zero_le _, rfl, HW.out, below_alloc _ _⟩
  case round =>
    clear HW
    obtain ⟨j, hj, rfl, hown, hB⟩ := hrel
    by_cases hlt : j < S
    · have hx := (hB.cell (p := ⟨g1, j, none⟩) hg2).trans (HC.out j hlt)
      have HXj := hid (HX.out j hlt)
      have HMi := hid (@Rm.seenB_miss D L j)
      have HHi := hid (show ∀ y : Nat, L.getD j 0 = (y : Int) → y < D → (Rm.seenB D L j).set y (.bool true) = Rm.seenB D L (j + 1) from fun y h hy => Rm.seenB_hit h hy)
      have HB := hid hB
      have HO := hid hown
      obtain ⟨x, hxe⟩ : ∃ x, x = L.getD j 0 := ⟨_, rfl⟩
      rw [← hxe] at hx HXj HMi HHi
      clear hB hown hxe
      by_cases hn : x < 0
      · go_wp2
        go_roundw
        case rel => exact ⟨j + 1, by omega, by go_num, by rw [HMi.out hn]; exact HO.out, HB.out⟩
        case measure => simp [intOf]; omega
      · obtain ⟨b1, b2, b3, b4⟩ := HXj.out (by simp [Rm.us]; omega)
        obtain ⟨y, rfl⟩ := Int.eq_ofNat_of_zero_le (show 0 ≤ x by omega)
        rw [x1] at b2 b3
        rw [x2] at b2
        have hyD : y < D := by omega
        have hc := HO.out.at y (by rw [Rm.seenB_len]; exact hyD)
        rw [Rm.seenB_at hyD, b4] at hc
        have hfz := HO.out.free y
        have hst := HO.out.stored y (.bool true)
        rw [HHi.out y rfl hyD] at hst
        have HSt := hid hst
        have HB' := hid (HB.out.trans ((Fr.setCell (S := fun b => b = w2.heap.size) wr ⟨w2.heap.size, y, none⟩ (.bool true) rfl).below HB.out.size (fun i hi e => by omega)))
        have h0y : (0 : Int) ≤ (y : Int) := by omega
        clear hst b4 HXj HMi HHi HO HB
        by_cases hyd : (y : Int) < (d : Int)
        · clear b3
          go_wp2
          go_roundw
          case rel => exact ⟨j + 1, by omega, by go_num, HSt.out, HB'.out⟩
          case measure => simp [intOf]; omega
        · have hyf : (d : Int) + (f : Int) ≤ (y : Int) := by omega
          have hww : IntKind.i64.wrap ((d : Int) + (f : Int)) = (d : Int) + (f : Int) := IntWalk.i64_in _ (by omega)
          clear b3
          go_wp2
          go_roundw
          case rel => exact ⟨j + 1, by omega, by go_num, HSt.out, HB'.out⟩
          case measure => simp [intOf]; omega
    · obtain rfl : j = S := by omega
      have HB := hid hB
      clear hB hown
      go_wp2_with fail
      refine (known10_true _).mono ?_
      rintro e w4 ⟨rfl, B4⟩
      have BB4 := hid (below_then (below_then BB.out HB.out) B4)
      clear B4 BB HB
      go_wp2
      go_ret
      exact ⟨rfl, BB4.out⟩
theorem law_RatematchFull (k f : Int) (w0 : (Lit.int .i64 k).wf = true) (w1 : (Lit.int .i64 f).wf = true) (w : World) :
    Calls Try.prog 8 #[.int .i64 k, .int .i64 f] w fun e w' => e = .returned (.bool true) ∧ Below w.heap.size w w' := by
  clear w0 w1
  cases hv : Rm.valid k f 1099511627776 with
  | false => exact full_err k f hv w
  | true =>
    obtain ⟨h1, h2, h3, h4, h5⟩ := Rm.valid_of hv
    obtain ⟨k, rfl⟩ := Int.eq_ofNat_of_zero_le (show 0 ≤ k by omega)
    obtain ⟨f, rfl⟩ := Int.eq_ofNat_of_zero_le h3
    exact full_ok k f _ _ _ _ _ _ (by omega) (by omega) (by omega) rfl rfl rfl rfl rfl rfl w
end Go.Proofs.Ytloldjmibjkkkaa
