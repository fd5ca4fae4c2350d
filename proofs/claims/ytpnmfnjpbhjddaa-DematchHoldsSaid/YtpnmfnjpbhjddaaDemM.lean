/- userplane/ratematch: Match, of a code word of a valid block. -/
import Derived.Test.YtpnmfnjpbhjddaaDemE
namespace Go.Proofs.Ytpnmfnjpbhjddaa
open Go.RowKit Go.Shelf
set_option linter.unusedVariables false
attribute [local go_sem ↓] Go.wp_at_zero Go.wp_at_succ
theorem belemD : Elem1 Try.prog 25 5 1 (.int .u8 0) := Elem1.mk' Try.underlying25 (by kernel_rfl) rfl
theorem match1_any (x : Int) (w : World) : Calls Try.prog 25 #[.int .u8 x] w fun e w' => e = .returned (.bool (Soft.binv x)) ∧ w' = w := by
  unfold Soft.binv
  by_cases h : 1 < x
  · go_enter Try.func25, Try.ntmps25
    go_wp2
    go_ret
    exact ⟨by simp [h], rfl⟩
  · go_enter Try.func25, Try.ntmps25
    go_wp2
    go_ret
    exact ⟨by simp; omega, rfl⟩
theorem mcont_any (w : World) (v : Value) (B : List Int) (hv : Vw w v (B.map (Value.int .u8))) (hl : B.length ≤ 9223372036854775807) (hb : Soft.bbad B = false) :
    Calls Try.prog 24 #[v, .func (.func 25) #[] #[]] w fun e w' => e = .returned (.bool false) ∧ w' = w := by
  have H := bcontains_any w v (B.map (Value.int .u8)) hv (by simpa using hl) 25 #[] (enters_of Try.func25 (by kernel_rfl) rfl) (fun i => Soft.binv (B.getD i 0))
    (fun i hi => by
      have hi' : i < B.length := by simpa using hi
      have e : (B.map (Value.int .u8))[i] = Value.int .u8 (B.getD i 0) := by simp [List.getD, hi']
      rw [e]
      exact match1_any _ _)
  rw [List.length_map, Soft.bbad_eq, hb] at H
  exact H
def repF (g : Nat → Int) (n m : Nat) : List Int := (List.range n).map fun i => if i < m then g i else 0
theorem repF_len (g : Nat → Int) (n m : Nat) : (repF g n m).length = n := by simp [repF]
theorem repF_zero (g : Nat → Int) (n : Nat) : repF g n 0 = List.replicate n 0 := by
  apply List.ext_getElem
  · simp [repF]
  · intro i h1 h2; simp [repF]
theorem repF_all (g : Nat → Int) (n : Nat) : repF g n n = Soft.tab g n := by
  apply List.ext_getElem
  · simp [repF, Soft.tab]
  · intro i h1 h2
    have : i < n := by simpa [repF] using h1
    simp [repF, Soft.tab, this]
theorem repF_set (g : Nat → Int) (n m : Nat) : (repF g n m).set m (g m) = repF g n (m + 1) := by
  apply List.ext_getElem
  · simp [repF]
  · intro i h1 h2
    rw [List.getElem_set]
    by_cases h : m = i
    · subst h; simp [repF]
    · rw [if_neg h]
      simp only [repF, List.getElem_map, List.getElem_range]
      by_cases h3 : i < m
      · rw [if_pos h3, if_pos (by omega)]
      · rw [if_neg h3, if_neg (by omega)]
theorem OwnL.stoB {w : World} {base : Nat} {e : TypeId} {g n cap : Nat} {V : List Int} (h : OwnL w base e (.slice (some ⟨g, 0, none⟩) n cap) (V.map (Value.int .u8))) (j : Nat) (x : Int) :
    OwnL (w.setCell ⟨g, j, none⟩ (.int .u8 x)) base e (.slice (some ⟨g, 0, none⟩) n cap) ((V.set j x).map (Value.int .u8)) := by
  rw [List.map_set]
  exact h.stored j _
set_option maxHeartbeats 2000000 in
theorem match_none (w : World) (v : Value) (B : List Int) (k f : Nat) (limit rv n E : Int) (hk : k ≤ 6144) (hv : Vw w v (B.map (Value.int .u8))) (hB : B.length = 3 * (k + 4)) (hb : Soft.bbad B = false) (hE : (Rm.posR k f limit rv n).2 = E) (hE0 : E ≠ 0) (hE2 : E ≠ 2) :
    Calls Try.prog 10 #[v, .int .i64 f, .int .i64 limit, .int .i64 rv, .int .i64 n] w fun e w' => e = .returned (.tuple #[.slice none 0 0, .int .i64 E]) ∧ Below w.heap.size w w' := by
  have HP := hid (rmPosA_any k f limit rv n)
  rw [hE] at HP
  generalize (Rm.posR k f limit rv n).1 = A at HP
  have HV := hid hv
  obtain ⟨a, c, rfl, _⟩ := hv
  have HM := hid (fun W (h : Below w.heap.size w W) => mcont_any W _ B (HV.out.below h (Nat.le_refl _)) (by omega) hb)
  rw [List.length_map, hB] at HM ⊢
  have h1 : (E == 2) = false := by simpa using hE2
  have h2 : (E != 0) = true := by simpa using hE0
  clear hE hE0 hE2 hB HV hb
  go_enter Try.func10, Try.ntmps10
  go_wp2_with fail
  refine (HP.out _).mono ?_
  rintro r w1 ⟨⟨v', rfl, hVA⟩, B1⟩
  have HM1 := hid (HM.out w1 B1)
  clear hVA
  go_wp2_with fail
  refine HM1.out.mono ?_
  rintro r w2 ⟨rfl, rfl⟩
  go_wp2
  go_ret2
  exact ⟨rfl, B1⟩
set_option maxHeartbeats 2000000 in
theorem match_ok (w : World) (v : Value) (B : List Int) (k f n : Nat) (limit rv : Int) (hk : k ≤ 6144) (hv : Vw w v (B.map (Value.int .u8))) (hB : B.length = 3 * (k + 4)) (hb : Soft.bbad B = false) (hE : (Rm.posR k f limit rv n).2 = 0)
    (hn : n ≤ 200000) (hAl : (Rm.posR k f limit rv n).1.length = n) (hA : ∀ i, i < n → ∃ j : Nat, (Rm.posR k f limit rv n).1.getD i 0 = j ∧ j < B.length) :
    Calls Try.prog 10 #[v, .int .i64 f, .int .i64 limit, .int .i64 rv, .int .i64 n] w fun e w' => (∃ v', e = .returned (.tuple #[v', .int .i64 0]) ∧ VwA w' w.heap.size v' ((Soft.tab (fun i => B.getD ((Rm.posR k f limit rv n).1.getD i 0).toNat 0) n).map (Value.int .u8))) ∧ Below w.heap.size w w' := by
  have HP := hid (rmPosA_any k f limit rv n)
  rw [hE] at HP
  generalize (Rm.posR k f limit rv n).1 = A at HP hAl hA ⊢
  have HV := hid hv
  obtain ⟨a, c, rfl, _⟩ := hv
  have HM := hid (fun W (h : Below w.heap.size w W) => mcont_any W _ B (HV.out.below h (Nat.le_refl _)) (by omega) hb)
  rw [List.length_map] at HM HV ⊢
  have HA := hid hA
  have HAL := hid hAl
  have HBl := hid hB
  obtain ⟨gF, hgF⟩ : ∃ gF : Nat → Int, gF = fun i => B.getD (A.getD i 0).toNat 0 := ⟨_, rfl⟩
  have HG := hid hgF
  rw [← hgF]
  rw [hB] at HM HV ⊢
  clear hE hB hb hA hAl hgF
  go_enter Try.func10, Try.ntmps10
  go_wp2_with fail
  refine (HP.out _).mono ?_
  rintro r w1 ⟨⟨v', rfl, hVA⟩, B1⟩
  have HM1 := hid (HM.out w1 B1)
  have HVA := hid hVA
  have HB1 := hid B1
  have HV1 := hid (HV.out.below B1 (Nat.le_refl _))
  obtain ⟨aa, ca, rfl, _⟩ := hVA.vw
  rw [List.length_map, HAL.out] at HVA ⊢
  have hw1 := B1.size
  clear hVA B1
  go_wp2_with fail
  refine HM1.out.mono ?_
  rintro r w2 ⟨rfl, rfl⟩
  go_wp2_with (first
    | (at_make; refine wpList_run_value rfl (exec_make_one belemD (.tmp 48) (.tmp 48) rfl .i64 .i64 _ _ n n rfl rfl rfl rfl (Nat.le_refl _) (by omega) (by omega)) ?_;
       generalize hW3 : World.alloc _ _ = w3; have F3 : Fr (fun _ => False) w2 w3 := (by rw [← hW3]; exact Fr.alloc _ _ _);
       have HO3 := hid (show OwnL w3 w2.heap.size 5 (.slice (some ⟨w2.heap.size, 0, none⟩) n n) ((repF gF n 0).map (Value.int .u8)) by rw [← hW3, repF_zero, List.map_replicate]; exact OwnL.zeros w2 _ _ _ _ (by omega) (by omega));
       have HB3 := hid (F3.below (Nat.le_refl w2.heap.size) (fun _ _ h => h)); clear hW3 F3)
    | fail)
  have HVA3 := hid (HVA.out.below HB3.out (Nat.le_refl _))
  have HV3 := hid (HV1.out.below HB3.out (Nat.le_refl _))
  have HVAlt := hid (HVA.out.vw.lt)
  have HVlt := hid (HV1.out.lt)
  obtain ⟨p0, hp0⟩ : ∃ p0, p0 = w2.heap.size := ⟨_, rfl⟩
  rw [← hp0] at HO3 HVAlt HVlt ⊢
  have HP0 := hid hp0
  clear HVA HV1 HM1 hp0
  go_wp2
  go_loopw [52] (fun i wr => ∃ m : Nat, m ≤ n ∧ i = .int .i64 m ∧ Hid (OwnL wr p0 5 (.slice (some ⟨p0, 0, none⟩) n n) ((repF gF n m).map (Value.int .u8))) ∧ Hid (Fr (fun j => j = p0) w3 wr)) (fun i _ => n - (intOf i).toNat)
  case atStart => exact ⟨0, Nat.zero_le _, rfl, HO3, Fr.refl _ _⟩
  case round =>
    obtain ⟨m, hm, rfl, hO, hF⟩ := hrel
    by_cases hlt : m < n
    · have hKeep : KeepT (fun b => b ≠ p0) w3 wr := ⟨hF.out.size, fun k hk ht => hF.out.block k hk ht⟩
      have hVA := HVA3.out.vw.keep hKeep (fun b off n' c e h0 => by have := HVAlt.out b off n' c e h0; omega)
      have hVB := HV3.out.keep hKeep (fun b off n' c e h0 => by have := HVlt.out b off n' c e h0; omega)
      have hAlen := HAL.out
      have hBlen := HBl.out
      obtain ⟨j, hj, hjB⟩ := HA.out m hlt
      obtain ⟨b1, o1, c1, e1, hx⟩ := vw_at hVA (show m < A.length by omega)
      obtain ⟨b2, o2, c2, e2, hy⟩ := vw_at hVB hjB
      rw [hAlen] at e1
      rw [hBlen] at e2
      cases e1
      cases e2
      have hg : B.getD j 0 = gF m := by rw [HG.out]; dsimp only; rw [hj, Int.toNat_natCast]
      rw [hg] at hy
      rw [hj] at hx
      have x1 := hO.out.at m (by rw [List.length_map, repF_len]; omega)
      have z1 := hO.out.free m
      have HSet := hid (repF_set gF n m)
      generalize ((repF gF n m).map (Value.int .u8))[m]'_ = v1 at x1
      generalize gF m = y at *
      rw [hBlen] at hjB
      have hjb : (j : Int) < 3 * ((k : Int) + 4) := by omega
      clear hVA hVB hAlen hBlen hj hKeep hg
      go_wp2
      go_roundw
      case rel => exact ⟨m + 1, by omega, by go_num, by rw [← HSet.out]; exact hO.out.stoB m y, hF.out.trans (Fr.setCell (S := fun j => j = p0) wr ⟨p0, m, none⟩ (.int .u8 y) rfl)⟩
      case measure => simp [intOf]; omega
    · obtain rfl : n = m := by omega
      have HO4 := hO
      rw [repF_all] at HO4
      clear hO
      go_wp2
      go_ret2
      have hp0 := HP0.out
      exact ⟨⟨_, rfl, (HO4.out.vwA).mono (by omega)⟩, (HB1.out.trans (HB3.out.mono hw1)).trans (hF.out.below (by have := HB3.out.size; omega) (fun j hj e => by omega))⟩
end Go.Proofs.Ytpnmfnjpbhjddaa
