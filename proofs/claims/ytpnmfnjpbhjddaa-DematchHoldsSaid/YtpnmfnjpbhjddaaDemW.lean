/- userplanelaw12: num, repeat, works. -/
import Derived.Test.YtpnmfnjpbhjddaaDemF
import Derived.Test.YtpnmfnjpbhjddaaDemC
import Derived.Test.YtpnmfnjpbhjddaaDem9b
namespace Go.Proofs.Ytpnmfnjpbhjddaa
open Go.RowKit Go.Shelf
set_option linter.unusedVariables false
attribute [local go_sem ↓] Go.wp_at_zero Go.wp_at_succ
theorem num_any (e : Int) (w : World) : Calls Try.prog 9 #[.int .i64 e] w fun r w' => r = .returned (.int .i64 e) ∧ w = w' := by
  go_enter Try.func9, Try.ntmps9
  go_wp2
  go_ret
  exact ⟨rfl, rfl⟩
theorem OwnL.blw {w w' : World} {base : Nat} {e : TypeId} {v : Value} {xs : List Value} (h : OwnL w base e v xs) (hb : Below w.heap.size w w') : OwnL w' base e v xs :=
  h.fr (Fr.of_below hb) (fun g he => by have := (h.block he).2; omega)
theorem OwnL.addfr {w w' : World} {base g q : Nat} {e : TypeId} {v : Value} {xs : List Value} (h : OwnL w base e v xs) (hf : Fr (fun j => j = g ∨ j = q ∨ w.heap.size ≤ j) w w') (hg : g < base) (hq : q < base) : OwnL w' base e v xs :=
  h.fr hf (fun g' he => by have := h.block he; omega)
def repN (v : Int) (n m : Nat) : List Int := (List.range n).map fun i => if i < m then v else 0
theorem repN_len (v : Int) (n m : Nat) : (repN v n m).length = n := by simp [repN]
theorem repN_zero (v : Int) (n : Nat) : repN v n 0 = List.replicate n 0 := by
  apply List.ext_getElem
  · simp [repN]
  · intro i h1 h2; simp [repN]
theorem repN_all (v : Int) (n : Nat) : repN v n n = List.replicate n v := by
  apply List.ext_getElem
  · simp [repN]
  · intro i h1 h2
    have : i < n := by simpa [repN] using h1
    simp [repN, this]
theorem repN_set (v : Int) (n m : Nat) : (repN v n m).set m v = repN v n (m + 1) := by
  apply List.ext_getElem
  · simp [repN]
  · intro i h1 h2
    rw [List.getElem_set]
    by_cases h : m = i
    · subst h; simp [repN]
    · rw [if_neg h]
      simp only [repN, List.getElem_map, List.getElem_range]
      by_cases h3 : i < m
      · rw [if_pos h3, if_pos (by omega)]
      · rw [if_neg h3, if_neg (by omega)]
set_option maxHeartbeats 1000000 in
theorem repeat_any (v : Int) (n : Nat) (hn : n ≤ 1000000) (w : World) : Calls Try.prog 17 #[.int .i64 v, .int .i64 n] w fun e w' => (∃ g, e = .returned (.slice (some ⟨g, 0, none⟩) n n) ∧ OwnL w' w.heap.size 3 (.slice (some ⟨g, 0, none⟩) n n) ((List.replicate n v).map (Value.int .i64))) ∧ Below w.heap.size w w' := by
  go_enter Try.func17, Try.ntmps17
  go_wp2_with (first
    | (at_make; refine wpList_run_value rfl (exec_make_one ielem_map (.tmp 7) (.tmp 7) rfl .i64 .i64 _ _ n n rfl rfl rfl rfl (Nat.le_refl _) (by omega) (by omega)) ?_;
       generalize hW2 : World.alloc _ _ = w2; have F2 : Fr (fun _ => False) w w2 := (by rw [← hW2]; exact Fr.alloc _ _ _);
       have HO2 := hid (show OwnL w2 w.heap.size 3 (.slice (some ⟨w.heap.size, 0, none⟩) n n) ((repN v n 0).map (Value.int .i64)) by rw [← hW2, repN_zero, List.map_replicate]; exact OwnL.zeros w _ _ _ _ (by omega) (by omega));
       have HB2 := hid (F2.below (Nat.le_refl w.heap.size) (fun _ _ h => h)); clear hW2 F2)
    | fail)
  go_loopw [6] (fun i wr => ∃ m : Nat, m ≤ n ∧ i = .int .i64 m ∧ Hid (OwnL wr w.heap.size 3 (.slice (some ⟨w.heap.size, 0, none⟩) n n) ((repN v n m).map (Value.int .i64))) ∧ Hid (Below w.heap.size w wr)) (fun i _ => n - (intOf i).toNat)
  case atStart => exact ⟨0, Nat.zero_le _, rfl, HO2, HB2⟩
  case round =>
    obtain ⟨m, hm, rfl, hO, hB⟩ := hrel
    by_cases hlt : m < n
    · have x1 := hO.out.at m (by rw [List.length_map, repN_len]; omega)
      have z1 := hO.out.free m
      generalize ((repN v n m).map (Value.int .i64))[m]'_ = v1 at x1
      go_wp2
      go_roundw
      case rel =>
        exact ⟨m + 1, by omega, by go_num, by rw [← repN_set]; exact hO.out.stoI m v, hB.out.trans ((Fr.setCell (S := fun j => j = w.heap.size) wr ⟨w.heap.size, m, none⟩ (.int .i64 v) rfl).below hB.out.size (fun j hj e => by omega))⟩
      case measure => simp [intOf]; omega
    · obtain rfl : n = m := by omega
      have HO3 := hO
      rw [repN_all] at HO3
      clear hO
      go_wp2
      go_ret
      exact ⟨⟨_, rfl, HO3.out⟩, hB.out⟩
end Go.Proofs.Ytpnmfnjpbhjddaa
