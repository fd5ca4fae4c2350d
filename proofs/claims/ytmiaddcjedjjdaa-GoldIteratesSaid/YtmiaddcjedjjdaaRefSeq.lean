/- userplaneref04.Sequence: its contract. -/
import Derived.Test.YtmiaddcjedjjdaaStepApp
import Derived.Test.YtmiaddcjedjjdaaScram
import Derived.StillTailTactics
import Derived.RegionTactic
namespace Go.Proofs.Ytmiaddcjedjjdaa
open Go.RowKit Go.Shelf
set_option linter.unusedVariables false
namespace Reg
/-- An array of which the first k elements are known. -/
def part (s : Nat → Bool) (M k : Nat) : List Int := (List.range M).map fun j => if j < k then ((s j).toNat : Int) else 0
theorem part_len (s : Nat → Bool) (M k : Nat) : (part s M k).length = M := by simp [part]
theorem part_zero (s : Nat → Bool) (M : Nat) : part s M 0 = List.replicate M 0 := by
  apply List.ext_getElem
  · simp [part]
  · intro i h1 h2; simp [part]
theorem part_get {s : Nat → Bool} {M k j : Nat} (hj : j < M) (hk : j < k) : (part s M k).getD j 0 = ((s j).toNat : Int) := by
  simp [part, hj, hk]
theorem part_set {s : Nat → Bool} {M k : Nat} (x : Int) (hx : x = ((s k).toNat : Int)) : (part s M k).set k x = part s M (k + 1) := by
  subst hx
  apply List.ext_getElem
  · simp [part]
  · intro i h1 h2
    rw [List.getElem_set]
    by_cases hik : k = i
    · subst hik; simp [part]
    · have : i < k ↔ i < k + 1 := by omega
      simp [part, hik, this]
theorem part_one {M : Nat} (hM : 31 ≤ M) : (List.replicate M (0 : Int)).set 0 1 = part s1 M 31 := by
  apply List.ext_getElem
  · simp [part]
  · intro i h1 h2
    rw [List.getElem_set]
    simp only [part, List.getElem_map, List.getElem_range, List.getElem_replicate]
    by_cases h : i < 31
    · rw [if_pos h, s1_start i (by omega)]
      by_cases h0 : 0 = i
      · subst h0; simp
      · rw [if_neg h0]; have : ¬ i = 0 := fun e => h0 e.symm
        simp [this]
    · rw [if_neg h, if_neg (by omega)]
end Reg
theorem make_eq {P : Program} {t e : TypeId} {bytes : Nat} {z : Value} (E : Elem1 P t e bytes z) (n : Nat) (hb : bytes * n ≤ 281474976710656) (hm : n ≤ 9223372036854775807) (w : World) :
    (Instr.makeSlice t (.int .i64 (n : Int)) (.int .i64 (n : Int))).run P w = .ok (.slice (some ⟨w.heap.size, 0, none⟩) n n) (w.alloc (.cells (Array.replicate n z) e)) := by
  obtain ⟨i, hi, hz, hsz, hby⟩ := E.info
  have hr := run_make (P := P) w t e i z E.slice hi hz .i64 .i64 n n (by omega) (by omega) (by rw [hby]; omega) (by omega)
  simp only [Int.toNat_natCast, hsz, Nat.mul_one] at hr
  rw [show madeCells z.cells n = Array.replicate n z from by rw [E.one]; apply Array.toList_inj.1; rw [toList_madeCells_one z n]; simp] at hr
  exact hr
theorem shift_bit {i k : Nat} (hi : i < 2147483648) (hk : k ≤ 30) : bits .and .u32 ((i : Int) / (2 : Int) ^ k) 1 % 256 = (((Reg.s2 i k).toNat : Nat) : Int) := by
  have e : (i : Int) / (2 : Int) ^ k = Nat.cast (i / 2 ^ k) := by rw [Int.natCast_ediv, Int.natCast_pow]; rfl
  have hl : i / 2 ^ k < 4294967296 := Nat.lt_of_le_of_lt (Nat.div_le_self _ _) (by omega)
  rw [e, show (1 : Int) = ((1 : Nat) : Int) from rfl, u32_and_nat _ _ hl (by omega), Nat.and_one_is_mod, Reg.s2_start hi k hk, Nat.testBit_eq_decide_div_mod_eq]
  rcases Nat.mod_two_eq_zero_or_one (i / 2 ^ k) with h | h <;> simp [h]
set_option maxHeartbeats 2000000 in
theorem refSeq_any (w : World) (i : Nat) (hi : i < 2147483648) (n : Nat) (hn : n ≤ 131072) :
    Calls Try.prog 17 #[.int .u32 i, .int .i64 n] w fun e w' => (∃ v', e = .returned v' ∧ OwnL w' w.heap.size 5 v' ((Scr.seqL i n).map (Value.int .u8))) ∧ Below w.heap.size w w' := by
  have hmk := fun w => make_eq elem_b (1600 + n + 31) (by omega) (by omega) w
  have ec : ((1600 + n + 31 : Nat) : Int) = 1600 + (n : Int) + 31 := by omega
  rw [ec] at hmk
  clear ec
  go_enter Try.func17, Try.ntmps17
  go_wp2
  go_region
  · obtain ⟨t, ht⟩ : ∃ t, t = 1600 + n := ⟨_, rfl⟩
    have et : 1600 + (n : Int) = (t : Int) := by omega
    rw [et, ← ht]
    obtain ⟨M, hM⟩ : ∃ M, M = t + 31 := ⟨_, rfl⟩
    rw [← hM]
    have hM1 : M ≤ t + 31 := by omega
    have hM2 : t + 31 ≤ M := by omega
    clear hM
    have HT := hid ht
    have hb : t ≤ 132672 := by omega
    generalize hW : World.alloc _ _ = W
    replace hW := hW.symm
    have hzA : OwnL W w.heap.size 5 (.slice (some ⟨w.heap.size, 0, none⟩) M M) ((List.replicate M 0).map (Value.int .u8)) := by
      rw [hW, List.map_replicate]
      exact (OwnL.zeros w w.heap.size 5 M (.int .u8 0) (Nat.le_refl _) (by omega)).alloc _
    have hzB : OwnL W w.heap.size 5 (.slice (some ⟨w.heap.size + 1, 0, none⟩) M M) ((List.replicate M 0).map (Value.int .u8)) := by
      rw [hW, List.map_replicate]
      have := OwnL.zeros (w.alloc (.cells (Array.replicate M (.int .u8 0)) 5)) w.heap.size 5 M (.int .u8 0) (by rw [World.size_alloc]; exact Nat.le_succ _) (by omega)
      rw [World.size_alloc] at this
      exact this
    have hz1 : OwnL W w.heap.size 5 (.slice (some ⟨w.heap.size, 0, none⟩) M M) ((List.replicate M 0).map (Value.int .u8)) := by first | exact hzA | exact hzB
    have hz2 : OwnL W w.heap.size 5 (.slice (some ⟨w.heap.size + 1, 0, none⟩) M M) ((Reg.part (Reg.s2 i) M 0).map (Value.int .u8)) := by
      rw [Reg.part_zero]; first | exact hzA | exact hzB
    have hBW : Below w.heap.size w W := by
      rw [hW]
      refine Below.alloc (Below.alloc (Below.refl _ _) (Nat.le_refl _) _) ?_ _
      rw [World.size_alloc]; exact Nat.le_succ _
    clear hW hmk hzA hzB
    have hfr := hz1.free 0
    obtain ⟨u, hu⟩ : ∃ u : Value, W.cell? ⟨w.heap.size, 0, none⟩ = some u := ⟨_, hz1.at 0 (by simp; omega)⟩
    have hp1 := hz1.stored 0 (.int .u8 1)
    rw [← List.map_set, Reg.part_one (by omega)] at hp1
    have hp2 := hz2.fr (Fr.setCell (S := fun j => j = w.heap.size) W ⟨w.heap.size, 0, none⟩ (.int .u8 1) rfl) (fun g e h => by simp [Value.ownBlock] at e; omega)
    have hB0 := hBW.setCell (p := ⟨w.heap.size, 0, none⟩) (show w.heap.size ≤ w.heap.size by omega) (.int .u8 1)
    have P1 := hid (hp1.fr (Fr.drew (fun _ => False) _) (fun _ _ h => h))
    have P2 := hid (hp2.fr (Fr.drew (fun _ => False) _) (fun _ _ h => h))
    have PB := hid (hB0.trans ((Fr.drew (fun _ => False) _).below hB0.size (fun _ _ h => h)))
    clear hz1 hz2 hBW hp1 hp2 hB0 et ht
    go_wp2
    generalize (W.setCell ⟨w.heap.size, 0, none⟩ (.int .u8 1)).drew = W1 at P1 P2 PB ⊢
    clear hfr hu
    go_loopw [8] (fun v wr => ∃ k : Nat, k ≤ 31 ∧ v = .int .i64 k ∧ OwnL wr w.heap.size 5 (.slice (some ⟨w.heap.size, 0, none⟩) M M) ((Reg.part Reg.s1 M 31).map (Value.int .u8)) ∧ OwnL wr w.heap.size 5 (.slice (some ⟨w.heap.size + 1, 0, none⟩) M M) ((Reg.part (Reg.s2 i) M k).map (Value.int .u8)) ∧ Below w.heap.size w wr) (fun v _ => 31 - (intOf v).toNat)
    case atStart => exact ⟨0, by omega, rfl, P1.out, P2.out, PB.out⟩
    case round =>
      obtain ⟨k, hk, rfl, hx1, hx2, hB⟩ := hrel
      have HX1 := hid hx1
      have HX2 := hid hx2
      have HB := hid hB
      clear hx1 hx2 hB P1 P2 PB
      by_cases hlt : k < 31
      · have hkt : k < M := by omega
        have hfr := HX2.out.free k
        obtain ⟨u, hu⟩ : ∃ u : Value, wr.cell? ⟨w.heap.size + 1, k, none⟩ = some u := ⟨_, HX2.out.at k (by simp [Reg.part_len]; omega)⟩
        go_wp2
        go_roundw
        case rel =>
          rw [shift_bit hi (by omega)]
          refine ⟨k + 1, by omega, by go_num, HX1.out.fr (Fr.setCell (S := fun j => j = w.heap.size + 1) _ ⟨w.heap.size + 1, k, none⟩ _ rfl) (fun g e h => by simp [Value.ownBlock] at e; omega), ?_, HB.out.setCell (p := ⟨w.heap.size + 1, k, none⟩) (show w.heap.size ≤ w.heap.size + 1 by omega) _⟩
          have := HX2.out.stored k (.int .u8 ((Reg.s2 i k).toNat : Nat))
          rw [← List.map_set, Reg.part_set _ rfl] at this
          exact this
        case measure => simp [intOf]; omega
      · obtain rfl : k = 31 := by omega
        go_wp2
        clear hk hlt
        go_loopw [9] (fun v wr => ∃ k : Nat, k ≤ t ∧ v = .int .i64 k ∧ OwnL wr w.heap.size 5 (.slice (some ⟨w.heap.size, 0, none⟩) M M) ((Reg.part Reg.s1 M (k + 31)).map (Value.int .u8)) ∧ OwnL wr w.heap.size 5 (.slice (some ⟨w.heap.size + 1, 0, none⟩) M M) ((Reg.part (Reg.s2 i) M (k + 31)).map (Value.int .u8)) ∧ Below w.heap.size w wr) (fun v _ => t - (intOf v).toNat)
        case atStart => exact ⟨0, by omega, rfl, HX1.out, HX2.out, HB.out⟩
        case round =>
          clear HX1 HX2 HB
          obtain ⟨k, hk, rfl, hx1, hx2, hB⟩ := hrel
          have HX1 := hid (hx1.fr (Fr.drew (fun _ => False) _) (fun _ _ h => h))
          have HX2 := hid (hx2.fr (Fr.drew (fun _ => False) _) (fun _ _ h => h))
          have HB := hid (hB.trans ((Fr.drew (fun _ => False) _).below hB.size (fun _ _ h => h)))
          by_cases hlt : k < t
          · obtain ⟨p, hp⟩ : ∃ p, p = k + 31 := ⟨_, rfl⟩
            obtain ⟨p3, hp3⟩ : ∃ p, p = k + 3 := ⟨_, rfl⟩
            have hk1 : p < M := by omega
            have hk2 : p3 < M := by omega
            have hk3 : k < M := by omega
            have hcell : ∀ (s : Nat → Bool) (g j : Nat) (wr : World), OwnL wr w.heap.size 5 (.slice (some ⟨g, 0, none⟩) M M) ((Reg.part s M (k + 31)).map (Value.int .u8)) → j < k + 31 → wr.cell? ⟨g, j, none⟩ = some (.int .u8 ((s j).toNat : Nat)) := by
              intro s g j wr h hj
              have hj' : j < M := by omega
              rw [h.at j (by simp [Reg.part_len, hj'])]
              simp [Reg.part, hj]
            have c3 := hcell Reg.s1 (w.heap.size) p3 _ HX1.out (by omega)
            have c0 := hcell Reg.s1 (w.heap.size) k _ HX1.out (by omega)
            have hfr := HX1.out.free p
            obtain ⟨u, hu⟩ : ∃ u : Value, wr.drew.cell? ⟨w.heap.size, p, none⟩ = some u := ⟨_, HX1.out.at p (by simp [Reg.part_len]; omega)⟩
            rw [hp3] at c3
            have HRec := (show (((Reg.s1 (k + 3)).toNat : Nat) + ((Reg.s1 k).toNat : Nat) : Nat) % 2 = ((Reg.s1 (k + 31)).toNat : Nat) by
              rw [Reg.s1_rec]; cases Reg.s1 (k + 3) <;> cases Reg.s1 k <;> rfl)
            have ha : (Reg.s1 (k + 3)).toNat ≤ 1 := by cases Reg.s1 (k + 3) <;> simp
            have hb' : (Reg.s1 k).toNat ≤ 1 := by cases Reg.s1 k <;> simp
            have HCell := hid hcell
            obtain ⟨c, hc⟩ : ∃ c, c = (Reg.s1 (k + 31)).toNat := ⟨_, rfl⟩
            rw [← hc] at HRec
            have HCv := hid hc
            clear hcell hx1 hx2 hB hc
            generalize (Reg.s1 (k + 3)).toNat = a at c3 HRec ha
            rw [← hp3] at c3
            generalize (Reg.s1 k).toNat = b at c0 HRec hb'
            have hw1 : IntKind.i64.wrap ((k : Int) + 31) = (p : Int) := by rw [IntWalk.i64_in _ (by omega)]; omega
            have hw2 : IntKind.i64.wrap ((k : Int) + 3) = (p3 : Int) := by rw [IntWalk.i64_in _ (by omega)]; omega
            have hw3 : IntKind.u8.wrap ((a : Int) + (b : Int)) = ((a + b : Nat) : Int) := by rw [IntKind.wrap_u8']; omega
            have hw4 : ((a + b : Nat) : Int).tmod 2 = (c : Int) := by rw [Int.tmod_eq_emod_of_nonneg (by omega)]; omega
            have hw5 : IntKind.u8.wrap (c : Int) = (c : Int) := by rw [IntKind.wrap_u8']; omega
            have HVal := hid (show ((a : Int) + (b : Int)) % 2 = (c : Int) by omega)
            have HP := hid hp
            clear HRec hp hp3
            go_wp2
            go_still_tail 15, (by kernel_rfl)
            change wpList _ _ _ _ _ wr.drew
            generalize wr.drew = W2 at HX1 HX2 HB hfr hu c3 c0 ⊢
            go_wp2
            try rw [HVal.out]
            have hf1 : Fr (fun j => j = w.heap.size) W2 (W2.setCell ⟨w.heap.size, p, none⟩ (.int .u8 c)) := Fr.setCell _ _ _ rfl
            have HY1 := hid (show OwnL (W2.setCell ⟨w.heap.size, p, none⟩ (.int .u8 c)) w.heap.size 5 (.slice (some ⟨w.heap.size, 0, none⟩) M M) ((Reg.part Reg.s1 M (k + 1 + 31)).map (Value.int .u8)) by
              have := HX1.out.stored p (.int .u8 c)
              rw [← List.map_set, HP.out, Reg.part_set _ (by rw [HCv.out])] at this
              rw [HP.out, show k + 1 + 31 = k + 31 + 1 by omega]; exact this)
            have HY2 := hid (HX2.out.fr hf1 (fun g e h => by simp [Value.ownBlock] at e; omega))
            have HYB := hid (HB.out.setCell (p := ⟨w.heap.size, p, none⟩) (show w.heap.size ≤ w.heap.size by omega) (.int .u8 c))
            generalize W2.setCell ⟨w.heap.size, p, none⟩ (.int .u8 c) = W3 at HY1 HY2 HYB ⊢
            clear hfr hu c3 c0 HX1 HX2 HB hf1
            have HD1 := hid (HY1.out.fr (Fr.drew (fun _ => False) _) (fun _ _ h => h))
            have HD2 := hid (HY2.out.fr (Fr.drew (fun _ => False) _) (fun _ _ h => h))
            have HDB := hid (HYB.out.trans ((Fr.drew (fun _ => False) _).below HYB.out.size (fun _ _ h => h)))
            clear hw1 hw2 hw3 hw4 hw5 ha hb' hk2
            obtain ⟨p3, hp3⟩ : ∃ p, p = k + 3 := ⟨_, rfl⟩
            obtain ⟨p2, hp2⟩ : ∃ p, p = k + 2 := ⟨_, rfl⟩
            obtain ⟨p1, hp1⟩ : ∃ p, p = k + 1 := ⟨_, rfl⟩
            have hp := HP.out
            have hq3 : p3 < M := by omega
            have hq2 : p2 < M := by omega
            have hq1 : p1 < M := by omega
            have d3 := HCell.out (Reg.s2 i) (w.heap.size + 1) p3 _ HD2.out (by omega)
            have d2 := HCell.out (Reg.s2 i) (w.heap.size + 1) p2 _ HD2.out (by omega)
            have d1 := HCell.out (Reg.s2 i) (w.heap.size + 1) p1 _ HD2.out (by omega)
            have d0 := HCell.out (Reg.s2 i) (w.heap.size + 1) k _ HD2.out (by omega)
            have hfr := HD2.out.free p
            obtain ⟨u', hu'⟩ : ∃ u : Value, W3.drew.cell? ⟨w.heap.size + 1, p, none⟩ = some u := ⟨_, HD2.out.at p (by simp [Reg.part_len]; omega)⟩
            have HRec : ((Reg.s2 i p3).toNat + (Reg.s2 i p2).toNat + (Reg.s2 i p1).toNat + (Reg.s2 i k).toNat) % 2 = (Reg.s2 i (k + 31)).toNat := by
              rw [hp3, hp2, hp1, Reg.s2_rec hi]; cases Reg.s2 i (k + 3) <;> cases Reg.s2 i (k + 2) <;> cases Reg.s2 i (k + 1) <;> cases Reg.s2 i k <;> rfl
            have ha3 : (Reg.s2 i p3).toNat ≤ 1 := by cases Reg.s2 i p3 <;> simp
            have ha2 : (Reg.s2 i p2).toNat ≤ 1 := by cases Reg.s2 i p2 <;> simp
            have ha1 : (Reg.s2 i p1).toNat ≤ 1 := by cases Reg.s2 i p1 <;> simp
            have ha0 : (Reg.s2 i k).toNat ≤ 1 := by cases Reg.s2 i k <;> simp
            obtain ⟨e, he⟩ : ∃ e, e = (Reg.s2 i (k + 31)).toNat := ⟨_, rfl⟩
            rw [← he] at HRec
            have HEv := hid he
            clear he HCv
            generalize (Reg.s2 i p3).toNat = a3 at d3 HRec ha3
            generalize (Reg.s2 i p2).toNat = a2 at d2 HRec ha2
            generalize (Reg.s2 i p1).toNat = a1 at d1 HRec ha1
            generalize (Reg.s2 i k).toNat = a0 at d0 HRec ha0
            have hw1 : IntKind.i64.wrap ((k : Int) + 31) = (p : Int) := by rw [IntWalk.i64_in _ (by omega)]; omega
            have hw2 : IntKind.i64.wrap ((k : Int) + 3) = (p3 : Int) := by rw [IntWalk.i64_in _ (by omega)]; omega
            have hw3 : IntKind.i64.wrap ((k : Int) + 2) = (p2 : Int) := by rw [IntWalk.i64_in _ (by omega)]; omega
            have hw4 : IntKind.i64.wrap ((k : Int) + 1) = (p1 : Int) := by rw [IntWalk.i64_in _ (by omega)]; omega
            obtain ⟨x1, hx1⟩ : ∃ x, x = a3 + a2 := ⟨_, rfl⟩
            obtain ⟨x2, hx2⟩ : ∃ x, x = x1 + a1 := ⟨_, rfl⟩
            obtain ⟨x3, hx3⟩ : ∃ x, x = x2 + a0 := ⟨_, rfl⟩
            have hw5 : IntKind.u8.wrap ((a3 : Int) + (a2 : Int)) = (x1 : Int) := by rw [IntKind.wrap_u8']; omega
            have hw6 : IntKind.u8.wrap ((x1 : Int) + (a1 : Int)) = (x2 : Int) := by rw [IntKind.wrap_u8']; omega
            have hw7 : IntKind.u8.wrap ((x2 : Int) + (a0 : Int)) = (x3 : Int) := by rw [IntKind.wrap_u8']; omega
            have hw8 : (x3 : Int).tmod 2 = (e : Int) := by rw [Int.tmod_eq_emod_of_nonneg (by omega)]; omega
            have hw9 : IntKind.u8.wrap (e : Int) = (e : Int) := by rw [IntKind.wrap_u8']; omega
            have HVal2 := hid (show ((a3 : Int) + (a2 : Int) + (a1 : Int) + (a0 : Int)) % 2 = (e : Int) by omega)
            have HP1 := hid hp1
            clear HRec hp hp3 hp2 hp1 hx1 hx2 hx3 ha3 ha2 ha1 ha0 HY1 HY2 HYB
            go_still_tail 27, (by kernel_rfl)
            change wpList _ _ _ _ _ W3.drew
            generalize W3.drew = W4 at HD1 HD2 HDB hfr hu' d3 d2 d1 d0 ⊢
            go_wp2
            try rw [HVal2.out]
            go_roundw
            case rel =>
              have hp := HP.out
              have hp1 := HP1.out
              subst hp1
              refine ⟨_, _, _, _, _, _, _, _, _, _, _, _, _, _, _, _, _, _, _, _, _, _, _, _, _, _, _, _, _, _, _, _, _, _, _, _, _, _, _, _, _, _, _, _, _, _, _, _, ⟨k + 1, by omega, rfl, HD1.out.fr (Fr.setCell (S := fun j => j = w.heap.size + 1) _ ⟨w.heap.size + 1, p, none⟩ _ rfl) (fun g e h => by simp [Value.ownBlock] at e; omega), ?_, HDB.out.setCell (p := ⟨w.heap.size + 1, p, none⟩) (show w.heap.size ≤ w.heap.size + 1 by omega) _⟩, rfl⟩
              have := HD2.out.stored p (.int .u8 e)
              rw [← List.map_set, HP.out, Reg.part_set _ (by rw [HEv.out])] at this
              rw [HP.out, show k + 1 + 31 = k + 31 + 1 by omega]; exact this
            case measure => have hp1 := HP1.out; simp [intOf]; omega
          · obtain rfl : k = t := by omega
            clear HX1 HX2 HB
            have HZ1 := hid hx1
            have HZ2 := hid hx2
            have HZB := hid hB
            clear hx1 hx2 hB
            have hbl1 := (HZ1.out.block (g := w.heap.size) rfl).2
            have hbl2 := (HZ2.out.block (g := w.heap.size + 1) rfl).2
            have hnt := HT.out
            go_wp2
            obtain ⟨wz, hwz⟩ : ∃ wz, wz = wr := ⟨_, rfl⟩
            subst hwz
            go_loopw [10, 11] (fun o v wr => ∃ j : Nat, j ≤ n ∧ v = .int .i64 ((1600 + j : Nat) : Int) ∧ OwnL wr wz.heap.size 5 o ((Scr.seqL i j).map (Value.int .u8)) ∧ Below wz.heap.size wz wr) (fun _ v _ => k - (intOf v).toNat)
            case atStart => exact ⟨0, Nat.zero_le _, rfl, OwnL.nil _ _ _, Below.refl _ _⟩
            case round =>
              obtain ⟨j, hj, rfl, hown, hBl⟩ := hrel
              obtain ⟨q, hq⟩ : ∃ q, q = 1600 + j := ⟨_, rfl⟩
              rw [← hq]
              have HQ := hid hq
              have hbq : q ≤ 200000 := by omega
              by_cases hlt : j < n
              · have hqt : q < k := by omega
                have hqM : q < M := by omega
                have c1 : wr.cell? ⟨w.heap.size, q, none⟩ = some (.int .u8 ((Reg.s1 q).toNat : Nat)) := by
                  rw [hBl.cell (p := ⟨w.heap.size, q, none⟩) hbl1, HZ1.out.at q (by simp [Reg.part_len, hqM])]
                  have : q < k + 31 := by omega
                  simp [Reg.part, this]
                have c2 : wr.cell? ⟨w.heap.size + 1, q, none⟩ = some (.int .u8 ((Reg.s2 i q).toNat : Nat)) := by
                  rw [hBl.cell (p := ⟨w.heap.size + 1, q, none⟩) hbl2, HZ2.out.at q (by simp [Reg.part_len, hqM])]
                  have : q < k + 31 := by omega
                  simp [Reg.part, this]
                have HS := hid (show Scr.seqL i (j + 1) = Scr.seqL i j ++ [((Reg.c i j).toNat : Int)] by simp [Scr.seqL, List.range_succ])
                have HV : ((Reg.s1 q).toNat + (Reg.s2 i q).toNat) % 2 = (Reg.c i j).toNat := by
                  rw [hq, Reg.c]; cases Reg.s1 (1600 + j) <;> cases Reg.s2 i (1600 + j) <;> rfl
                have ha : (Reg.s1 q).toNat ≤ 1 := by cases Reg.s1 q <;> simp
                have hb0 : (Reg.s2 i q).toNat ≤ 1 := by cases Reg.s2 i q <;> simp
                have HN := hid (show ((Scr.seqL i j).map (Value.int .u8)).length = j by simp [Scr.seqL_len])
                have hown' := hown.fr (Fr.drew (fun _ => False) wr) (fun _ _ h => h)
                have hsz' : wz.heap.size ≤ wr.drew.heap.size := hBl.size
                have HBl := hid hBl
                clear hown hBl
                generalize (Reg.s1 q).toNat = a at c1 HV ha
                generalize (Reg.s2 i q).toNat = b at c2 HV hb0
                generalize (Reg.c i j).toNat = cc at HV HS
                have HVal := hid (show (IntKind.u8.wrap ((a : Int) + (b : Int))).tmod 2 = (cc : Int) by rw [IntKind.wrap_u8', Int.tmod_eq_emod_of_nonneg (by omega)]; omega)
                clear HV hq hnt
                go_wp2
                go_region_law (refine step_append_one rfl elem_b (.tmp 86) (.tmp 97) rfl wz.heap.size u10 j _ HN.out ?_ hown' _ ?_ ?_ (by omega) (by omega) hsz' ?_; rfl; rfl; rfl; intro g1 cap1 w1 hown1 hf)
                all_goals (
                  have hB4 := HBl.out.trans (((Fr.drew (fun _ => False) wr).below HBl.out.size (fun _ _ h => h)).trans (hf.below hsz' (fun i hi e => by have := (hown'.block e).1; omega)))
                  clear hown' hf
                  rw [HVal.out] at hown1
                  go_wp2
                  go_roundw
                  case rel =>
                    refine ⟨_, _, _, _, _, _, _, _, _, _, _, _, _, _, _, _, _, _, _, _, ⟨j + 1, by omega, ?_, ?_, hB4⟩, rfl⟩
                    · have := HQ.out; go_num
                    · rw [HS.out, List.map_append]; exact hown1
                  case measure => have := HQ.out; simp [intOf]; omega)
              · obtain rfl : j = n := by omega
                clear hnt
                have hqk : ¬ q < k := by have := HT.out; omega
                clear hq
                go_wp2
                go_ret
                exact ⟨⟨_, rfl, hown.base_mono HZB.out.size⟩, HZB.out.trans (hBl.mono HZB.out.size)⟩
  · obtain ⟨t, ht⟩ : ∃ t, t = 1600 + n := ⟨_, rfl⟩
    have et : 1600 + (n : Int) = (t : Int) := by omega
    rw [et, ← ht]
    obtain ⟨M, hM⟩ : ∃ M, M = t + 31 := ⟨_, rfl⟩
    rw [← hM]
    have hM1 : M ≤ t + 31 := by omega
    have hM2 : t + 31 ≤ M := by omega
    clear hM
    have HT := hid ht
    have hb : t ≤ 132672 := by omega
    generalize hW : World.alloc _ _ = W
    replace hW := hW.symm
    have hzA : OwnL W w.heap.size 5 (.slice (some ⟨w.heap.size, 0, none⟩) M M) ((List.replicate M 0).map (Value.int .u8)) := by
      rw [hW, List.map_replicate]
      exact (OwnL.zeros w w.heap.size 5 M (.int .u8 0) (Nat.le_refl _) (by omega)).alloc _
    have hzB : OwnL W w.heap.size 5 (.slice (some ⟨w.heap.size + 1, 0, none⟩) M M) ((List.replicate M 0).map (Value.int .u8)) := by
      rw [hW, List.map_replicate]
      have := OwnL.zeros (w.alloc (.cells (Array.replicate M (.int .u8 0)) 5)) w.heap.size 5 M (.int .u8 0) (by rw [World.size_alloc]; exact Nat.le_succ _) (by omega)
      rw [World.size_alloc] at this
      exact this
    have hz1 : OwnL W w.heap.size 5 (.slice (some ⟨w.heap.size + 1, 0, none⟩) M M) ((List.replicate M 0).map (Value.int .u8)) := by first | exact hzA | exact hzB
    have hz2 : OwnL W w.heap.size 5 (.slice (some ⟨w.heap.size, 0, none⟩) M M) ((Reg.part (Reg.s2 i) M 0).map (Value.int .u8)) := by
      rw [Reg.part_zero]; first | exact hzA | exact hzB
    have hBW : Below w.heap.size w W := by
      rw [hW]
      refine Below.alloc (Below.alloc (Below.refl _ _) (Nat.le_refl _) _) ?_ _
      rw [World.size_alloc]; exact Nat.le_succ _
    clear hW hmk hzA hzB
    have hfr := hz1.free 0
    obtain ⟨u, hu⟩ : ∃ u : Value, W.cell? ⟨w.heap.size + 1, 0, none⟩ = some u := ⟨_, hz1.at 0 (by simp; omega)⟩
    have hp1 := hz1.stored 0 (.int .u8 1)
    rw [← List.map_set, Reg.part_one (by omega)] at hp1
    have hp2 := hz2.fr (Fr.setCell (S := fun j => j = w.heap.size + 1) W ⟨w.heap.size + 1, 0, none⟩ (.int .u8 1) rfl) (fun g e h => by simp [Value.ownBlock] at e; omega)
    have hB0 := hBW.setCell (p := ⟨w.heap.size + 1, 0, none⟩) (show w.heap.size ≤ w.heap.size + 1 by omega) (.int .u8 1)
    have P1 := hid (hp1.fr (Fr.drew (fun _ => False) _) (fun _ _ h => h))
    have P2 := hid (hp2.fr (Fr.drew (fun _ => False) _) (fun _ _ h => h))
    have PB := hid (hB0.trans ((Fr.drew (fun _ => False) _).below hB0.size (fun _ _ h => h)))
    clear hz1 hz2 hBW hp1 hp2 hB0 et ht
    go_wp2
    generalize (W.setCell ⟨w.heap.size + 1, 0, none⟩ (.int .u8 1)).drew = W1 at P1 P2 PB ⊢
    clear hfr hu
    go_loopw [8] (fun v wr => ∃ k : Nat, k ≤ 31 ∧ v = .int .i64 k ∧ OwnL wr w.heap.size 5 (.slice (some ⟨w.heap.size + 1, 0, none⟩) M M) ((Reg.part Reg.s1 M 31).map (Value.int .u8)) ∧ OwnL wr w.heap.size 5 (.slice (some ⟨w.heap.size, 0, none⟩) M M) ((Reg.part (Reg.s2 i) M k).map (Value.int .u8)) ∧ Below w.heap.size w wr) (fun v _ => 31 - (intOf v).toNat)
    case atStart => exact ⟨0, by omega, rfl, P1.out, P2.out, PB.out⟩
    case round =>
      obtain ⟨k, hk, rfl, hx1, hx2, hB⟩ := hrel
      have HX1 := hid hx1
      have HX2 := hid hx2
      have HB := hid hB
      clear hx1 hx2 hB P1 P2 PB
      by_cases hlt : k < 31
      · have hkt : k < M := by omega
        have hfr := HX2.out.free k
        obtain ⟨u, hu⟩ : ∃ u : Value, wr.cell? ⟨w.heap.size, k, none⟩ = some u := ⟨_, HX2.out.at k (by simp [Reg.part_len]; omega)⟩
        go_wp2
        go_roundw
        case rel =>
          rw [shift_bit hi (by omega)]
          refine ⟨k + 1, by omega, by go_num, HX1.out.fr (Fr.setCell (S := fun j => j = w.heap.size) _ ⟨w.heap.size, k, none⟩ _ rfl) (fun g e h => by simp [Value.ownBlock] at e; omega), ?_, HB.out.setCell (p := ⟨w.heap.size, k, none⟩) (show w.heap.size ≤ w.heap.size by omega) _⟩
          have := HX2.out.stored k (.int .u8 ((Reg.s2 i k).toNat : Nat))
          rw [← List.map_set, Reg.part_set _ rfl] at this
          exact this
        case measure => simp [intOf]; omega
      · obtain rfl : k = 31 := by omega
        go_wp2
        clear hk hlt
        go_loopw [9] (fun v wr => ∃ k : Nat, k ≤ t ∧ v = .int .i64 k ∧ OwnL wr w.heap.size 5 (.slice (some ⟨w.heap.size + 1, 0, none⟩) M M) ((Reg.part Reg.s1 M (k + 31)).map (Value.int .u8)) ∧ OwnL wr w.heap.size 5 (.slice (some ⟨w.heap.size, 0, none⟩) M M) ((Reg.part (Reg.s2 i) M (k + 31)).map (Value.int .u8)) ∧ Below w.heap.size w wr) (fun v _ => t - (intOf v).toNat)
        case atStart => exact ⟨0, by omega, rfl, HX1.out, HX2.out, HB.out⟩
        case round =>
          clear HX1 HX2 HB
          obtain ⟨k, hk, rfl, hx1, hx2, hB⟩ := hrel
          have HX1 := hid (hx1.fr (Fr.drew (fun _ => False) _) (fun _ _ h => h))
          have HX2 := hid (hx2.fr (Fr.drew (fun _ => False) _) (fun _ _ h => h))
          have HB := hid (hB.trans ((Fr.drew (fun _ => False) _).below hB.size (fun _ _ h => h)))
          by_cases hlt : k < t
          · obtain ⟨p, hp⟩ : ∃ p, p = k + 31 := ⟨_, rfl⟩
            obtain ⟨p3, hp3⟩ : ∃ p, p = k + 3 := ⟨_, rfl⟩
            have hk1 : p < M := by omega
            have hk2 : p3 < M := by omega
            have hk3 : k < M := by omega
            have hcell : ∀ (s : Nat → Bool) (g j : Nat) (wr : World), OwnL wr w.heap.size 5 (.slice (some ⟨g, 0, none⟩) M M) ((Reg.part s M (k + 31)).map (Value.int .u8)) → j < k + 31 → wr.cell? ⟨g, j, none⟩ = some (.int .u8 ((s j).toNat : Nat)) := by
              intro s g j wr h hj
              have hj' : j < M := by omega
              rw [h.at j (by simp [Reg.part_len, hj'])]
              simp [Reg.part, hj]
            have c3 := hcell Reg.s1 (w.heap.size + 1) p3 _ HX1.out (by omega)
            have c0 := hcell Reg.s1 (w.heap.size + 1) k _ HX1.out (by omega)
            have hfr := HX1.out.free p
            obtain ⟨u, hu⟩ : ∃ u : Value, wr.drew.cell? ⟨w.heap.size + 1, p, none⟩ = some u := ⟨_, HX1.out.at p (by simp [Reg.part_len]; omega)⟩
            rw [hp3] at c3
            have HRec := (show (((Reg.s1 (k + 3)).toNat : Nat) + ((Reg.s1 k).toNat : Nat) : Nat) % 2 = ((Reg.s1 (k + 31)).toNat : Nat) by
              rw [Reg.s1_rec]; cases Reg.s1 (k + 3) <;> cases Reg.s1 k <;> rfl)
            have ha : (Reg.s1 (k + 3)).toNat ≤ 1 := by cases Reg.s1 (k + 3) <;> simp
            have hb' : (Reg.s1 k).toNat ≤ 1 := by cases Reg.s1 k <;> simp
            have HCell := hid hcell
            obtain ⟨c, hc⟩ : ∃ c, c = (Reg.s1 (k + 31)).toNat := ⟨_, rfl⟩
            rw [← hc] at HRec
            have HCv := hid hc
            clear hcell hx1 hx2 hB hc
            generalize (Reg.s1 (k + 3)).toNat = a at c3 HRec ha
            rw [← hp3] at c3
            generalize (Reg.s1 k).toNat = b at c0 HRec hb'
            have hw1 : IntKind.i64.wrap ((k : Int) + 31) = (p : Int) := by rw [IntWalk.i64_in _ (by omega)]; omega
            have hw2 : IntKind.i64.wrap ((k : Int) + 3) = (p3 : Int) := by rw [IntWalk.i64_in _ (by omega)]; omega
            have hw3 : IntKind.u8.wrap ((a : Int) + (b : Int)) = ((a + b : Nat) : Int) := by rw [IntKind.wrap_u8']; omega
            have hw4 : ((a + b : Nat) : Int).tmod 2 = (c : Int) := by rw [Int.tmod_eq_emod_of_nonneg (by omega)]; omega
            have hw5 : IntKind.u8.wrap (c : Int) = (c : Int) := by rw [IntKind.wrap_u8']; omega
            have HVal := hid (show ((a : Int) + (b : Int)) % 2 = (c : Int) by omega)
            have HP := hid hp
            clear HRec hp hp3
            go_wp2
            go_still_tail 15, (by kernel_rfl)
            change wpList _ _ _ _ _ wr.drew
            generalize wr.drew = W2 at HX1 HX2 HB hfr hu c3 c0 ⊢
            go_wp2
            try rw [HVal.out]
            have hf1 : Fr (fun j => j = w.heap.size + 1) W2 (W2.setCell ⟨w.heap.size + 1, p, none⟩ (.int .u8 c)) := Fr.setCell _ _ _ rfl
            have HY1 := hid (show OwnL (W2.setCell ⟨w.heap.size + 1, p, none⟩ (.int .u8 c)) w.heap.size 5 (.slice (some ⟨w.heap.size + 1, 0, none⟩) M M) ((Reg.part Reg.s1 M (k + 1 + 31)).map (Value.int .u8)) by
              have := HX1.out.stored p (.int .u8 c)
              rw [← List.map_set, HP.out, Reg.part_set _ (by rw [HCv.out])] at this
              rw [HP.out, show k + 1 + 31 = k + 31 + 1 by omega]; exact this)
            have HY2 := hid (HX2.out.fr hf1 (fun g e h => by simp [Value.ownBlock] at e; omega))
            have HYB := hid (HB.out.setCell (p := ⟨w.heap.size + 1, p, none⟩) (show w.heap.size ≤ w.heap.size + 1 by omega) (.int .u8 c))
            generalize W2.setCell ⟨w.heap.size + 1, p, none⟩ (.int .u8 c) = W3 at HY1 HY2 HYB ⊢
            clear hfr hu c3 c0 HX1 HX2 HB hf1
            have HD1 := hid (HY1.out.fr (Fr.drew (fun _ => False) _) (fun _ _ h => h))
            have HD2 := hid (HY2.out.fr (Fr.drew (fun _ => False) _) (fun _ _ h => h))
            have HDB := hid (HYB.out.trans ((Fr.drew (fun _ => False) _).below HYB.out.size (fun _ _ h => h)))
            clear hw1 hw2 hw3 hw4 hw5 ha hb' hk2
            obtain ⟨p3, hp3⟩ : ∃ p, p = k + 3 := ⟨_, rfl⟩
            obtain ⟨p2, hp2⟩ : ∃ p, p = k + 2 := ⟨_, rfl⟩
            obtain ⟨p1, hp1⟩ : ∃ p, p = k + 1 := ⟨_, rfl⟩
            have hp := HP.out
            have hq3 : p3 < M := by omega
            have hq2 : p2 < M := by omega
            have hq1 : p1 < M := by omega
            have d3 := HCell.out (Reg.s2 i) (w.heap.size) p3 _ HD2.out (by omega)
            have d2 := HCell.out (Reg.s2 i) (w.heap.size) p2 _ HD2.out (by omega)
            have d1 := HCell.out (Reg.s2 i) (w.heap.size) p1 _ HD2.out (by omega)
            have d0 := HCell.out (Reg.s2 i) (w.heap.size) k _ HD2.out (by omega)
            have hfr := HD2.out.free p
            obtain ⟨u', hu'⟩ : ∃ u : Value, W3.drew.cell? ⟨w.heap.size, p, none⟩ = some u := ⟨_, HD2.out.at p (by simp [Reg.part_len]; omega)⟩
            have HRec : ((Reg.s2 i p3).toNat + (Reg.s2 i p2).toNat + (Reg.s2 i p1).toNat + (Reg.s2 i k).toNat) % 2 = (Reg.s2 i (k + 31)).toNat := by
              rw [hp3, hp2, hp1, Reg.s2_rec hi]; cases Reg.s2 i (k + 3) <;> cases Reg.s2 i (k + 2) <;> cases Reg.s2 i (k + 1) <;> cases Reg.s2 i k <;> rfl
            have ha3 : (Reg.s2 i p3).toNat ≤ 1 := by cases Reg.s2 i p3 <;> simp
            have ha2 : (Reg.s2 i p2).toNat ≤ 1 := by cases Reg.s2 i p2 <;> simp
            have ha1 : (Reg.s2 i p1).toNat ≤ 1 := by cases Reg.s2 i p1 <;> simp
            have ha0 : (Reg.s2 i k).toNat ≤ 1 := by cases Reg.s2 i k <;> simp
            obtain ⟨e, he⟩ : ∃ e, e = (Reg.s2 i (k + 31)).toNat := ⟨_, rfl⟩
            rw [← he] at HRec
            have HEv := hid he
            clear he HCv
            generalize (Reg.s2 i p3).toNat = a3 at d3 HRec ha3
            generalize (Reg.s2 i p2).toNat = a2 at d2 HRec ha2
            generalize (Reg.s2 i p1).toNat = a1 at d1 HRec ha1
            generalize (Reg.s2 i k).toNat = a0 at d0 HRec ha0
            have hw1 : IntKind.i64.wrap ((k : Int) + 31) = (p : Int) := by rw [IntWalk.i64_in _ (by omega)]; omega
            have hw2 : IntKind.i64.wrap ((k : Int) + 3) = (p3 : Int) := by rw [IntWalk.i64_in _ (by omega)]; omega
            have hw3 : IntKind.i64.wrap ((k : Int) + 2) = (p2 : Int) := by rw [IntWalk.i64_in _ (by omega)]; omega
            have hw4 : IntKind.i64.wrap ((k : Int) + 1) = (p1 : Int) := by rw [IntWalk.i64_in _ (by omega)]; omega
            obtain ⟨x1, hx1⟩ : ∃ x, x = a3 + a2 := ⟨_, rfl⟩
            obtain ⟨x2, hx2⟩ : ∃ x, x = x1 + a1 := ⟨_, rfl⟩
            obtain ⟨x3, hx3⟩ : ∃ x, x = x2 + a0 := ⟨_, rfl⟩
            have hw5 : IntKind.u8.wrap ((a3 : Int) + (a2 : Int)) = (x1 : Int) := by rw [IntKind.wrap_u8']; omega
            have hw6 : IntKind.u8.wrap ((x1 : Int) + (a1 : Int)) = (x2 : Int) := by rw [IntKind.wrap_u8']; omega
            have hw7 : IntKind.u8.wrap ((x2 : Int) + (a0 : Int)) = (x3 : Int) := by rw [IntKind.wrap_u8']; omega
            have hw8 : (x3 : Int).tmod 2 = (e : Int) := by rw [Int.tmod_eq_emod_of_nonneg (by omega)]; omega
            have hw9 : IntKind.u8.wrap (e : Int) = (e : Int) := by rw [IntKind.wrap_u8']; omega
            have HVal2 := hid (show ((a3 : Int) + (a2 : Int) + (a1 : Int) + (a0 : Int)) % 2 = (e : Int) by omega)
            have HP1 := hid hp1
            clear HRec hp hp3 hp2 hp1 hx1 hx2 hx3 ha3 ha2 ha1 ha0 HY1 HY2 HYB
            go_still_tail 27, (by kernel_rfl)
            change wpList _ _ _ _ _ W3.drew
            generalize W3.drew = W4 at HD1 HD2 HDB hfr hu' d3 d2 d1 d0 ⊢
            go_wp2
            try rw [HVal2.out]
            go_roundw
            case rel =>
              have hp := HP.out
              have hp1 := HP1.out
              subst hp1
              refine ⟨_, _, _, _, _, _, _, _, _, _, _, _, _, _, _, _, _, _, _, _, _, _, _, _, _, _, _, _, _, _, _, _, _, _, _, _, _, _, _, _, _, _, _, _, _, _, _, _, ⟨k + 1, by omega, rfl, HD1.out.fr (Fr.setCell (S := fun j => j = w.heap.size) _ ⟨w.heap.size, p, none⟩ _ rfl) (fun g e h => by simp [Value.ownBlock] at e; omega), ?_, HDB.out.setCell (p := ⟨w.heap.size, p, none⟩) (show w.heap.size ≤ w.heap.size by omega) _⟩, rfl⟩
              have := HD2.out.stored p (.int .u8 e)
              rw [← List.map_set, HP.out, Reg.part_set _ (by rw [HEv.out])] at this
              rw [HP.out, show k + 1 + 31 = k + 31 + 1 by omega]; exact this
            case measure => have hp1 := HP1.out; simp [intOf]; omega
          · obtain rfl : k = t := by omega
            clear HX1 HX2 HB
            have HZ1 := hid hx1
            have HZ2 := hid hx2
            have HZB := hid hB
            clear hx1 hx2 hB
            have hbl1 := (HZ1.out.block (g := w.heap.size + 1) rfl).2
            have hbl2 := (HZ2.out.block (g := w.heap.size) rfl).2
            have hnt := HT.out
            go_wp2
            obtain ⟨wz, hwz⟩ : ∃ wz, wz = wr := ⟨_, rfl⟩
            subst hwz
            go_loopw [10, 11] (fun o v wr => ∃ j : Nat, j ≤ n ∧ v = .int .i64 ((1600 + j : Nat) : Int) ∧ OwnL wr wz.heap.size 5 o ((Scr.seqL i j).map (Value.int .u8)) ∧ Below wz.heap.size wz wr) (fun _ v _ => k - (intOf v).toNat)
            case atStart => exact ⟨0, Nat.zero_le _, rfl, OwnL.nil _ _ _, Below.refl _ _⟩
            case round =>
              obtain ⟨j, hj, rfl, hown, hBl⟩ := hrel
              obtain ⟨q, hq⟩ : ∃ q, q = 1600 + j := ⟨_, rfl⟩
              rw [← hq]
              have HQ := hid hq
              have hbq : q ≤ 200000 := by omega
              by_cases hlt : j < n
              · have hqt : q < k := by omega
                have hqM : q < M := by omega
                have c1 : wr.cell? ⟨w.heap.size + 1, q, none⟩ = some (.int .u8 ((Reg.s1 q).toNat : Nat)) := by
                  rw [hBl.cell (p := ⟨w.heap.size + 1, q, none⟩) hbl1, HZ1.out.at q (by simp [Reg.part_len, hqM])]
                  have : q < k + 31 := by omega
                  simp [Reg.part, this]
                have c2 : wr.cell? ⟨w.heap.size, q, none⟩ = some (.int .u8 ((Reg.s2 i q).toNat : Nat)) := by
                  rw [hBl.cell (p := ⟨w.heap.size, q, none⟩) hbl2, HZ2.out.at q (by simp [Reg.part_len, hqM])]
                  have : q < k + 31 := by omega
                  simp [Reg.part, this]
                have HS := hid (show Scr.seqL i (j + 1) = Scr.seqL i j ++ [((Reg.c i j).toNat : Int)] by simp [Scr.seqL, List.range_succ])
                have HV : ((Reg.s1 q).toNat + (Reg.s2 i q).toNat) % 2 = (Reg.c i j).toNat := by
                  rw [hq, Reg.c]; cases Reg.s1 (1600 + j) <;> cases Reg.s2 i (1600 + j) <;> rfl
                have ha : (Reg.s1 q).toNat ≤ 1 := by cases Reg.s1 q <;> simp
                have hb0 : (Reg.s2 i q).toNat ≤ 1 := by cases Reg.s2 i q <;> simp
                have HN := hid (show ((Scr.seqL i j).map (Value.int .u8)).length = j by simp [Scr.seqL_len])
                have hown' := hown.fr (Fr.drew (fun _ => False) wr) (fun _ _ h => h)
                have hsz' : wz.heap.size ≤ wr.drew.heap.size := hBl.size
                have HBl := hid hBl
                clear hown hBl
                generalize (Reg.s1 q).toNat = a at c1 HV ha
                generalize (Reg.s2 i q).toNat = b at c2 HV hb0
                generalize (Reg.c i j).toNat = cc at HV HS
                have HVal := hid (show (IntKind.u8.wrap ((a : Int) + (b : Int))).tmod 2 = (cc : Int) by rw [IntKind.wrap_u8', Int.tmod_eq_emod_of_nonneg (by omega)]; omega)
                clear HV hq hnt
                go_wp2
                go_region_law (refine step_append_one rfl elem_b (.tmp 86) (.tmp 97) rfl wz.heap.size u10 j _ HN.out ?_ hown' _ ?_ ?_ (by omega) (by omega) hsz' ?_; rfl; rfl; rfl; intro g1 cap1 w1 hown1 hf)
                all_goals (
                  have hB4 := HBl.out.trans (((Fr.drew (fun _ => False) wr).below HBl.out.size (fun _ _ h => h)).trans (hf.below hsz' (fun i hi e => by have := (hown'.block e).1; omega)))
                  clear hown' hf
                  rw [HVal.out] at hown1
                  go_wp2
                  go_roundw
                  case rel =>
                    refine ⟨_, _, _, _, _, _, _, _, _, _, _, _, _, _, _, _, _, _, _, _, ⟨j + 1, by omega, ?_, ?_, hB4⟩, rfl⟩
                    · have := HQ.out; go_num
                    · rw [HS.out, List.map_append]; exact hown1
                  case measure => have := HQ.out; simp [intOf]; omega)
              · obtain rfl : j = n := by omega
                clear hnt
                have hqk : ¬ q < k := by have := HT.out; omega
                clear hq
                go_wp2
                go_ret
                exact ⟨⟨_, rfl, hown.base_mono HZB.out.size⟩, HZB.out.trans (hBl.mono HZB.out.size)⟩
end Go.Proofs.Ytmiaddcjedjjdaa
