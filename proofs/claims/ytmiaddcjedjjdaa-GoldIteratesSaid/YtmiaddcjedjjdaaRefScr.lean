/- userplaneref04.Scramble and ScrambleSoft: their contracts. -/
import Derived.Test.YtmiaddcjedjjdaaRefSeq
import Derived.Deep.RegionHeld3
import Derived.IntWalk
namespace Go.Proofs.Ytmiaddcjedjjdaa
open Go.RowKit Go.Shelf
set_option linter.unusedVariables false
/-- An element of a slice that can be read. -/
theorem vw_get {w : World} {v : Value} {A : List Int} {k : IntKind} (h : Vw w v (A.map (Value.int k))) {j : Nat} (hj : j < A.length) : ∃ b off c, v = .slice (some ⟨b, off, none⟩) A.length c ∧ w.cell? ⟨b, off + j, none⟩ = some (.int k (A.getD j 0)) := by
  rcases vw_split h with ⟨a, c, rfl, rfl⟩ | ⟨b, off, c, rfl, hp, hc⟩
  · simp at hj
  · exact ⟨b, off, c, rfl, hc j hj⟩
namespace Scr
theorem bbad_of {B : List Int} {i : Nat} (hi : i < B.length) (h : binv (B.getD i 0) = true) : bbad B = true := by
  refine List.any_eq_true.2 ⟨B[i], List.getElem_mem hi, ?_⟩
  simpa [List.getD, hi] using h
theorem bbad_no {B : List Int} (h : ∀ i, i < B.length → binv (B.getD i 0) = false) : bbad B = false := by
  rw [bbad, List.any_eq_false]
  intro x hx
  obtain ⟨i, hi, rfl⟩ := List.getElem_of_mem hx
  have := h i hi
  simpa [List.getD, hi] using this
theorem ibad_of {B : List Int} {i : Nat} (hi : i < B.length) (h : iinv (B.getD i 0) = true) : ibad B = true := by
  refine List.any_eq_true.2 ⟨B[i], List.getElem_mem hi, ?_⟩
  simpa [List.getD, hi] using h
theorem ibad_no {B : List Int} (h : ∀ i, i < B.length → iinv (B.getD i 0) = false) : ibad B = false := by
  rw [ibad, List.any_eq_false]
  intro x hx
  obtain ⟨i, hi, rfl⟩ := List.getElem_of_mem hx
  have := h i hi
  simpa [List.getD, hi] using this
theorem seqL_at {i n k : Nat} (h : k < n) : (seqL i n).getD k 0 = ((Reg.c i k).toNat : Int) := by simp [seqL, List.getD, h]
theorem bel_at {i : Nat} {B : List Int} {k : Nat} (h : bok (B.getD k 0)) : bel i B k = (B.getD k 0 + ((Reg.c i k).toNat : Int)).tmod 2 := by
  unfold bel bflip bok at *
  generalize B.getD k 0 = x at *
  cases Reg.c i k with
  | true => rw [if_pos rfl, Int.tmod_eq_emod_of_nonneg (by simp; omega)]; simp; omega
  | false => rw [if_neg (by simp), Int.tmod_eq_emod_of_nonneg (by simp; omega)]; simp; omega
theorem iel_at {i : Nat} {B : List Int} {k : Nat} : iel i B k = B.getD k 0 * (1 - 2 * ((Reg.c i k).toNat : Int)) := by
  unfold iel iflip
  cases Reg.c i k with
  | true => rw [if_pos rfl]; simp
  | false => rw [if_neg (by simp)]; simp
end Scr

set_option maxHeartbeats 1000000 in
theorem refbscr_any (w : World) (v : Value) (i : Nat) (hi : i < 4294967296) (B : List Int) (hv : Vw w v (B.map (Value.int .u8))) (hl : B.length ≤ 9223372036854775807) (hwf : ∀ n ∈ B, (Lit.int .u8 n).wf = true) :
    Calls Try.prog 20 #[.int .u32 i, v] w fun e w' => (∃ v', e = .returned (.tuple #[v', .int .i64 (Scr.bR i B).2]) ∧ Vw w' v' ((Scr.bR i B).1.map (Value.int .u8))) ∧ Below w.heap.size w w' := by
  have HV := hid hv
  have HW := hid hwf
  clear hwf
  unfold Scr.bR
  obtain ⟨va, vc, rfl, _⟩ := hv
  rw [List.length_map] at HV ⊢
  by_cases h1 : 2147483648 ≤ i
  · rw [if_pos h1]
    have hd : decide (2147483648 ≤ (i : Int)) = true := by simp; omega
    clear h1
    go_enter Try.func20, Try.ntmps20
    go_wp2
    go_ret2
    exact ⟨⟨_, rfl, Vw.nil _ _ _⟩, Below.refl _ _⟩
  rw [if_neg h1]
  have hd : decide (2147483648 ≤ (i : Int)) = false := by simp; omega
  have HI := hid h1
  clear h1
  by_cases h2 : 131072 < B.length
  · rw [if_pos h2]
    have hd2 : decide (131072 < (B.length : Int)) = true := by simp; omega
    clear h2
    go_enter Try.func20, Try.ntmps20
    go_wp2
    go_ret2
    exact ⟨⟨_, rfl, Vw.nil _ _ _⟩, Below.refl _ _⟩
  rw [if_neg h2]
  have hd2 : decide (131072 < (B.length : Int)) = false := by simp; omega
  have HL := hid (show B.length ≤ 131072 by omega)
  clear h2
  have CS := hid (fun w => refSeq_any w i (by have := HI.out; omega) B.length HL.out)
  cases hbB : Scr.bbad B with
  | true =>
    rw [if_pos rfl]
    have HbB := hid hbB
    clear hbB
    go_enter Try.func20, Try.ntmps20
    go_wp2
    go_loop [6] (fun j => ∃ k : Nat, k ≤ B.length ∧ j = .int .i64 k ∧ Hid (∀ m, m < k → Scr.binv (B.getD m 0) = false)) (fun j => B.length - (intOf j).toNat)
    case atStart => exact ⟨0, Nat.zero_le _, rfl, fun j hj => absurd hj (Nat.not_lt_zero _)⟩
    case round =>
      obtain ⟨k, hk, rfl, hno⟩ := hrel
      by_cases hlt : k < B.length
      · obtain ⟨b1, o1, c1, e1, hx⟩ := vw_get HV.out hlt
        cases e1
        have HB := hid (show Scr.binv (B.getD k 0) = true → Scr.bbad B = true from fun h => Scr.bbad_of hlt h)
        obtain ⟨x, hx'⟩ : ∃ x, x = B.getD k 0 := ⟨_, rfl⟩
        rw [← hx'] at hx HB
        have HXk := hid hx'
        clear hx'
        by_cases hb : 1 < x
        · have hC := hid (HB.out (by simp [Scr.binv, hb]))
          go_wp2
          go_ret2
          exact ⟨⟨_, rfl, Vw.nil _ _ _⟩, Below.refl _ _⟩
        · go_wp2
          go_round
          case rel =>
            refine ⟨k + 1, by omega, by go_num, fun j hj => ?_⟩
            by_cases hjk : j = k
            · subst hjk; rw [← HXk.out]; simp [Scr.binv]; omega
            · exact hno.out j (by omega)
          case measure => simp [intOf]; omega
      · obtain rfl : k = B.length := by omega
        exact absurd HbB.out (by rw [Scr.bbad_no hno.out]; simp)
  | false =>
    rw [if_neg (by simp)]
    have HbB := hid hbB
    clear hbB
    go_enter Try.func20, Try.ntmps20
    go_wp2
    go_loop [6] (fun j => ∃ k : Nat, k ≤ B.length ∧ j = .int .i64 k ∧ Hid (∀ m, m < k → Scr.binv (B.getD m 0) = false)) (fun j => B.length - (intOf j).toNat)
    case atStart => exact ⟨0, Nat.zero_le _, rfl, fun j hj => absurd hj (Nat.not_lt_zero _)⟩
    case round =>
      obtain ⟨k, hk, rfl, hno⟩ := hrel
      by_cases hlt : k < B.length
      · obtain ⟨b1, o1, c1, e1, hx⟩ := vw_get HV.out hlt
        cases e1
        have HB := hid (show Scr.binv (B.getD k 0) = true → Scr.bbad B = true from fun h => Scr.bbad_of hlt h)
        obtain ⟨x, hx'⟩ : ∃ x, x = B.getD k 0 := ⟨_, rfl⟩
        rw [← hx'] at hx HB
        have HXk := hid hx'
        clear hx'
        by_cases hb : 1 < x
        · have hC := hid (HB.out (by simp [Scr.binv, hb]))
          exact absurd hC.out (by rw [HbB.out]; simp)
        · go_wp2
          go_round
          case rel =>
            refine ⟨k + 1, by omega, by go_num, fun j hj => ?_⟩
            by_cases hjk : j = k
            · subst hjk; rw [← HXk.out]; simp [Scr.binv]; omega
            · exact hno.out j (by omega)
          case measure => simp [intOf]; omega
      · obtain rfl : k = B.length := by omega
        clear hno
        have hBl : B.length ≤ 131072 := HL.out
        go_wp2_with (go_at_call 17; refine (CS.out _).mono ?_; rintro e w1 ⟨⟨vs, rfl, hs⟩, hB1⟩)
        have HSq := hid hs.vw
        obtain ⟨sa, sc, rfl, _⟩ := hs.vw
        rw [List.length_map, Scr.seqL_len] at HSq
        rw [List.length_map, Scr.seqL_len]
        have HVs := hid (HV.out.below hB1 (Nat.le_refl _))
        have HB1 := hid hB1
        clear hs hB1
        go_loopw [8, 9] (fun o j wr => ∃ k : Nat, k ≤ B.length ∧ j = .int .i64 k ∧ OwnL wr w1.heap.size 5 o ((Scr.bscr i B k).map (Value.int .u8)) ∧ Below w1.heap.size w1 wr) (fun _ j _ => B.length - (intOf j).toNat)
        case atStart => exact ⟨0, Nat.zero_le _, rfl, OwnL.nil _ _ _, Below.refl _ _⟩
        case round =>
          obtain ⟨k, hk, rfl, hown, hB⟩ := hrel
          by_cases hlt : k < B.length
          · obtain ⟨b1, o1, c1, e1, hx0⟩ := vw_get HVs.out hlt
            have hls : k < (Scr.seqL i B.length).length := by rw [Scr.seqL_len]; exact hlt
            obtain ⟨b2, o2, c2, e2, hy0⟩ := vw_get HSq.out hls
            cases e1
            rw [Scr.seqL_len] at e2
            cases e2
            have hbw1 : b1 < w1.heap.size := World.block_lt_of_cell? _ _ hx0
            have hbw2 : b2 < w1.heap.size := World.block_lt_of_cell? _ _ hy0
            have hxd : wr.drew.cell? ⟨b1, o1 + k, none⟩ = some (.int .u8 (B.getD k 0)) := (hB.cell (p := ⟨b1, o1 + k, none⟩) hbw1).trans hx0
            have hyd : wr.drew.cell? ⟨b2, o2 + k, none⟩ = some (.int .u8 ((Reg.c i k).toNat : Nat)) := by rw [← Scr.seqL_at hlt]; exact (hB.cell (p := ⟨b2, o2 + k, none⟩) hbw2).trans hy0
            clear hx0 hy0
            have hown' := hown.fr (Fr.drew (fun _ => False) wr) (fun _ _ h => h)
            have hB' := hB.trans ((Fr.drew (fun _ => False) wr).below hB.size (fun _ _ h => h))
            have hsz' : w1.heap.size ≤ wr.drew.heap.size := hB.size
            have HS := hid (Scr.bscr_succ i B k)
            have HN := hid (show ((Scr.bscr i B k).map (Value.int .u8)).length = k by simp [Scr.bscr_len])
            have hxo := Scr.bok_of (Scr.bbad_at HbB.out hlt) (HW.out (B.getD k 0) (by simp [List.getD, hlt]))
            have HEl := hid (Scr.bel_at (i := i) hxo)
            unfold Scr.bok at hxo
            have hc1 : (Reg.c i k).toNat ≤ 1 := by cases Reg.c i k <;> simp
            generalize B.getD k 0 = x at *
            generalize (Reg.c i k).toNat = c at *
            obtain ⟨y, HY⟩ : ∃ y, Hid (Scr.bel i B k = y) := ⟨_, rfl⟩
            have hyv : (IntKind.u8.wrap (x + (c : Int))).tmod 2 = y := by rw [← HY.out, HEl.out, IntKind.wrap_u8', show (x + (c : Int)) % 256 = x + c by omega]
            have hw1 : IntKind.u8.wrap (x + (c : Int)) = x + (c : Int) := by rw [IntKind.wrap_u8']; omega
            rw [hw1] at hyv
            have hyv2 : (x + (c : Int)) % 2 = y := by rw [← hyv, Int.tmod_eq_emod_of_nonneg (by omega)]
            clear hown hB
            have hbl1 : b1 < wr.drew.heap.size := World.block_lt_of_cell? _ _ hxd
            have hbl2 : b2 < wr.drew.heap.size := World.block_lt_of_cell? _ _ hyd
            go_wp2
            go_region_held3 (fun w' => w'.cell? ⟨b1, o1 + k, none⟩ = some (.int .u8 x) ∧ w'.cell? ⟨b2, o2 + k, none⟩ = some (.int .u8 c))
              (first
                | exact ⟨hxd, hyd⟩
                | (go_split_ands; exact ⟨by assumption, by assumption⟩)
                | exact ⟨((Fr.alloc (fun _ => False) wr.drew _).cell (p := ⟨b1, o1 + k, none⟩) hbl1 (fun h => h)).trans hxd, ((Fr.alloc (fun _ => False) wr.drew _).cell (p := ⟨b2, o2 + k, none⟩) hbl2 (fun h => h)).trans hyd⟩
                | exact ⟨(hf.cell (p := ⟨b1, o1 + k, none⟩) hbl1 (fun e => by have := (hown'.block e).1; dsimp only at this; omega)).trans hxd, (hf.cell (p := ⟨b2, o2 + k, none⟩) hbl2 (fun e => by have := (hown'.block e).1; dsimp only at this; omega)).trans hyd⟩
                | go_keep)
              ((refine step_append_one rfl elem_b (.tmp 36) (.tmp 47) rfl w1.heap.size _ k _ HN.out ?_ hown' _ ?_ ?_ (by omega) (by omega) hsz' ?_; rfl; rfl; rfl; intro g1 cap1 w2 hown2 hf))
            skip
            have hB4 := hB'.trans (hf.below hsz' (fun i hi e => by have := (hown'.block e).1; omega))
            clear hown' hf hB'
            go_wp2
            go_roundw
            case rel => exact ⟨k + 1, by omega, by go_num, by rw [HS.out, List.map_append, HY.out]; exact hown2, hB4⟩
            case measure => simp [intOf]; omega
          · obtain rfl : k = B.length := by omega
            go_wp2
            go_ret2
            exact ⟨⟨_, rfl, hown.vw⟩, below_then HB1.out hB⟩

set_option maxHeartbeats 1000000 in
theorem refiscr_any (w : World) (v : Value) (i : Nat) (hi : i < 4294967296) (B : List Int) (hv : Vw w v (B.map (Value.int .i64))) (hl : B.length ≤ 9223372036854775807) (hwf : ∀ n ∈ B, (Lit.int .i64 n).wf = true) :
    Calls Try.prog 23 #[.int .u32 i, v] w fun e w' => (∃ v', e = .returned (.tuple #[v', .int .i64 (Scr.iR i B).2]) ∧ Vw w' v' ((Scr.iR i B).1.map (Value.int .i64))) ∧ Below w.heap.size w w' := by
  have HV := hid hv
  have HW := hid hwf
  clear hwf
  unfold Scr.iR
  obtain ⟨va, vc, rfl, _⟩ := hv
  rw [List.length_map] at HV ⊢
  by_cases h1 : 2147483648 ≤ i
  · rw [if_pos h1]
    have hd : decide (2147483648 ≤ (i : Int)) = true := by simp; omega
    clear h1
    go_enter Try.func23, Try.ntmps23
    go_wp2
    go_ret2
    exact ⟨⟨_, rfl, Vw.nil _ _ _⟩, Below.refl _ _⟩
  rw [if_neg h1]
  have hd : decide (2147483648 ≤ (i : Int)) = false := by simp; omega
  have HI := hid h1
  clear h1
  by_cases h2 : 131072 < B.length
  · rw [if_pos h2]
    have hd2 : decide (131072 < (B.length : Int)) = true := by simp; omega
    clear h2
    go_enter Try.func23, Try.ntmps23
    go_wp2
    go_ret2
    exact ⟨⟨_, rfl, Vw.nil _ _ _⟩, Below.refl _ _⟩
  rw [if_neg h2]
  have hd2 : decide (131072 < (B.length : Int)) = false := by simp; omega
  have HL := hid (show B.length ≤ 131072 by omega)
  clear h2
  have CS := hid (fun w => refSeq_any w i (by have := HI.out; omega) B.length HL.out)
  cases hbB : Scr.ibad B with
  | true =>
    rw [if_pos rfl]
    have HbB := hid hbB
    clear hbB
    go_enter Try.func23, Try.ntmps23
    go_wp2
    go_loop [6] (fun j => ∃ k : Nat, k ≤ B.length ∧ j = .int .i64 k ∧ Hid (∀ m, m < k → Scr.iinv (B.getD m 0) = false)) (fun j => B.length - (intOf j).toNat)
    case atStart => exact ⟨0, Nat.zero_le _, rfl, fun j hj => absurd hj (Nat.not_lt_zero _)⟩
    case round =>
      obtain ⟨k, hk, rfl, hno⟩ := hrel
      by_cases hlt : k < B.length
      · obtain ⟨b1, o1, c1, e1, hx⟩ := vw_get HV.out hlt
        cases e1
        have HB := hid (show Scr.iinv (B.getD k 0) = true → Scr.ibad B = true from fun h => Scr.ibad_of hlt h)
        obtain ⟨x, hx'⟩ : ∃ x, x = B.getD k 0 := ⟨_, rfl⟩
        rw [← hx'] at hx HB
        have HXk := hid hx'
        clear hx'
        by_cases hb : x < -127
        · have hC := hid (HB.out (by simp [Scr.iinv, hb]))
          go_wp2
          go_ret2
          exact ⟨⟨_, rfl, Vw.nil _ _ _⟩, Below.refl _ _⟩
        by_cases hb2 : 127 < x
        · have hC := hid (HB.out (by simp [Scr.iinv, hb2]))
          go_wp2
          go_ret2
          exact ⟨⟨_, rfl, Vw.nil _ _ _⟩, Below.refl _ _⟩
        · go_wp2
          go_round
          case rel =>
            refine ⟨k + 1, by omega, by go_num, fun j hj => ?_⟩
            by_cases hjk : j = k
            · subst hjk; rw [← HXk.out]; simp [Scr.iinv]; omega
            · exact hno.out j (by omega)
          case measure => simp [intOf]; omega
      · obtain rfl : k = B.length := by omega
        exact absurd HbB.out (by rw [Scr.ibad_no hno.out]; simp)
  | false =>
    rw [if_neg (by simp)]
    have HbB := hid hbB
    clear hbB
    go_enter Try.func23, Try.ntmps23
    go_wp2
    go_loop [6] (fun j => ∃ k : Nat, k ≤ B.length ∧ j = .int .i64 k ∧ Hid (∀ m, m < k → Scr.iinv (B.getD m 0) = false)) (fun j => B.length - (intOf j).toNat)
    case atStart => exact ⟨0, Nat.zero_le _, rfl, fun j hj => absurd hj (Nat.not_lt_zero _)⟩
    case round =>
      obtain ⟨k, hk, rfl, hno⟩ := hrel
      by_cases hlt : k < B.length
      · obtain ⟨b1, o1, c1, e1, hx⟩ := vw_get HV.out hlt
        cases e1
        have HB := hid (show Scr.iinv (B.getD k 0) = true → Scr.ibad B = true from fun h => Scr.ibad_of hlt h)
        obtain ⟨x, hx'⟩ : ∃ x, x = B.getD k 0 := ⟨_, rfl⟩
        rw [← hx'] at hx HB
        have HXk := hid hx'
        clear hx'
        by_cases hb : x < -127
        · have hC := hid (HB.out (by simp [Scr.iinv, hb]))
          exact absurd hC.out (by rw [HbB.out]; simp)
        by_cases hb2 : 127 < x
        · have hC := hid (HB.out (by simp [Scr.iinv, hb2]))
          exact absurd hC.out (by rw [HbB.out]; simp)
        · go_wp2
          go_round
          case rel =>
            refine ⟨k + 1, by omega, by go_num, fun j hj => ?_⟩
            by_cases hjk : j = k
            · subst hjk; rw [← HXk.out]; simp [Scr.iinv]; omega
            · exact hno.out j (by omega)
          case measure => simp [intOf]; omega
      · obtain rfl : k = B.length := by omega
        clear hno
        have hBl : B.length ≤ 131072 := HL.out
        go_wp2_with (go_at_call 17; refine (CS.out _).mono ?_; rintro e w1 ⟨⟨vs, rfl, hs⟩, hB1⟩)
        have HSq := hid hs.vw
        obtain ⟨sa, sc, rfl, _⟩ := hs.vw
        rw [List.length_map, Scr.seqL_len] at HSq
        rw [List.length_map, Scr.seqL_len]
        have HVs := hid (HV.out.below hB1 (Nat.le_refl _))
        have HB1 := hid hB1
        clear hs hB1
        go_loopw [8, 9] (fun o j wr => ∃ k : Nat, k ≤ B.length ∧ j = .int .i64 k ∧ OwnL wr w1.heap.size 3 o ((Scr.iscr i B k).map (Value.int .i64)) ∧ Below w1.heap.size w1 wr) (fun _ j _ => B.length - (intOf j).toNat)
        case atStart => exact ⟨0, Nat.zero_le _, rfl, OwnL.nil _ _ _, Below.refl _ _⟩
        case round =>
          obtain ⟨k, hk, rfl, hown, hB⟩ := hrel
          by_cases hlt : k < B.length
          · obtain ⟨b1, o1, c1, e1, hx0⟩ := vw_get HVs.out hlt
            have hls : k < (Scr.seqL i B.length).length := by rw [Scr.seqL_len]; exact hlt
            obtain ⟨b2, o2, c2, e2, hy0⟩ := vw_get HSq.out hls
            cases e1
            rw [Scr.seqL_len] at e2
            cases e2
            have hbw1 : b1 < w1.heap.size := World.block_lt_of_cell? _ _ hx0
            have hbw2 : b2 < w1.heap.size := World.block_lt_of_cell? _ _ hy0
            have hxd : wr.drew.cell? ⟨b1, o1 + k, none⟩ = some (.int .i64 (B.getD k 0)) := (hB.cell (p := ⟨b1, o1 + k, none⟩) hbw1).trans hx0
            have hyd : wr.drew.cell? ⟨b2, o2 + k, none⟩ = some (.int .u8 ((Reg.c i k).toNat : Nat)) := by rw [← Scr.seqL_at hlt]; exact (hB.cell (p := ⟨b2, o2 + k, none⟩) hbw2).trans hy0
            clear hx0 hy0
            have hown' := hown.fr (Fr.drew (fun _ => False) wr) (fun _ _ h => h)
            have hB' := hB.trans ((Fr.drew (fun _ => False) wr).below hB.size (fun _ _ h => h))
            have hsz' : w1.heap.size ≤ wr.drew.heap.size := hB.size
            have HS := hid (Scr.iscr_succ i B k)
            have HN := hid (show ((Scr.iscr i B k).map (Value.int .i64)).length = k by simp [Scr.iscr_len])
            have hxo := Scr.iok_of (Scr.ibad_at HbB.out hlt) (HW.out (B.getD k 0) (by simp [List.getD, hlt]))
            have HEl := hid (Scr.iel_at (i := i) (B := B) (k := k))
            unfold Scr.iok at hxo
            have hc1 : (Reg.c i k).toNat ≤ 1 := by cases Reg.c i k <;> simp
            generalize B.getD k 0 = x at *
            generalize (Reg.c i k).toNat = c at *
            obtain ⟨y, HY⟩ : ∃ y, Hid (Scr.iel i B k = y) := ⟨_, rfl⟩
            have hw1 : IntKind.i64.wrap (2 * (c : Int)) = 2 * (c : Int) := IntWalk.i64_in _ (by omega)
            have hw2 : IntKind.i64.wrap (1 - 2 * (c : Int)) = 1 - 2 * (c : Int) := IntWalk.i64_in _ (by omega)
            have hyv : x * (1 - 2 * (c : Int)) = y := by rw [← HY.out, HEl.out]
            have hyb : -127 ≤ y ∧ y ≤ 127 := by
              rw [← hyv]
              rcases (show c = 0 ∨ c = 1 by omega) with rfl | rfl <;> simp <;> omega
            have hw3 : IntKind.i64.wrap y = y := IntWalk.i64_in _ (by omega)
            have hw0 : IntKind.i64.wrap (c : Int) = (c : Int) := IntWalk.i64_in _ (by omega)
            have HVal := hid (show IntKind.i64.wrap (x * IntKind.i64.wrap (1 - IntKind.i64.wrap (2 * IntKind.i64.wrap (c : Int)))) = y by rw [hw0, hw1, hw2, hyv, hw3])
            clear hw0 hw1 hw2 hw3 hyv
            clear hown hB
            have hbl1 : b1 < wr.drew.heap.size := World.block_lt_of_cell? _ _ hxd
            have hbl2 : b2 < wr.drew.heap.size := World.block_lt_of_cell? _ _ hyd
            go_wp2
            go_region_held3 (fun w' => w'.cell? ⟨b1, o1 + k, none⟩ = some (.int .i64 x) ∧ w'.cell? ⟨b2, o2 + k, none⟩ = some (.int .u8 c))
              (first
                | exact ⟨hxd, hyd⟩
                | (go_split_ands; exact ⟨by assumption, by assumption⟩)
                | exact ⟨((Fr.alloc (fun _ => False) wr.drew _).cell (p := ⟨b1, o1 + k, none⟩) hbl1 (fun h => h)).trans hxd, ((Fr.alloc (fun _ => False) wr.drew _).cell (p := ⟨b2, o2 + k, none⟩) hbl2 (fun h => h)).trans hyd⟩
                | exact ⟨(hf.cell (p := ⟨b1, o1 + k, none⟩) hbl1 (fun e => by have := (hown'.block e).1; dsimp only at this; omega)).trans hxd, (hf.cell (p := ⟨b2, o2 + k, none⟩) hbl2 (fun e => by have := (hown'.block e).1; dsimp only at this; omega)).trans hyd⟩
                | go_keep)
              ((refine step_append_one rfl elem_i (.tmp 43) (.tmp 56) rfl w1.heap.size _ k _ HN.out ?_ hown' _ ?_ ?_ (by omega) (by omega) hsz' ?_; rfl; rfl; rfl; intro g1 cap1 w2 hown2 hf))
            rw [HVal.out] at hown2
            have hB4 := hB'.trans (hf.below hsz' (fun i hi e => by have := (hown'.block e).1; omega))
            clear hown' hf hB'
            go_wp2
            go_roundw
            case rel => exact ⟨k + 1, by omega, by go_num, by rw [HS.out, List.map_append, HY.out]; exact hown2, hB4⟩
            case measure => simp [intOf]; omega
          · obtain rfl : k = B.length := by omega
            go_wp2
            go_ret2
            exact ⟨⟨_, rfl, hown.vw⟩, below_then HB1.out hB⟩
end Go.Proofs.Ytmiaddcjedjjdaa
