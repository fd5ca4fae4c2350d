/- soft.Ideal of bits: its slice lies in a block of the call's own. -/
import Derived.Test.YtpnmfnjpbhjddaaDemA
namespace Go.Proofs.Ytpnmfnjpbhjddaa
open Go.RowKit Go.Shelf
set_option linter.unusedVariables false
set_option maxHeartbeats 1000000 in
theorem imappedA_ok (w : World) (n : Nat) (F : FuncId) (caps : Array Value) (g : Nat → Int) (hn : n ≤ 17592186044415) (hef : ∀ args w, (callFunc F args).run Try.prog w = .ok (.enter F args) w)
    (hp : ∀ k, k < n → ∀ W, Below w.heap.size w W → Calls Try.prog F (#[.int .i64 k] ++ caps) W fun e w' => e = .returned (.int .i64 (g k)) ∧ Below W.heap.size W w') :
    Calls Try.prog 29 #[.int .i64 0, .int .i64 n, .func (.func F) #[] caps] w fun e w' => (∃ v', e = .returned (.tuple #[v', .int .i64 0]) ∧ VwA w' w.heap.size v' ((Soft.tab g n).map (Value.int .i64))) ∧ Below w.heap.size w w' := by
  have HP := hid hp
  clear hp
  go_enter Try.func29, Try.ntmps29
  go_wp2
  go_step3
  go_wp2
  go_loopw [8, 13] (fun v i wr => ∃ k : Nat, k ≤ n ∧ i = .int .i64 k ∧ OwnL wr w.heap.size 3 v ((Soft.tab g k).map (Value.int .i64)) ∧ Below w.heap.size w wr) (fun _ i _ => n - (intOf i).toNat)
  case atStart => exact ⟨0, Nat.zero_le _, rfl, OwnL.nil _ _ _, Below.refl _ _⟩
  case round =>
    obtain ⟨k, hk, rfl, hown, hB⟩ := hrel
    by_cases hlt : k < n
    · have hcall := hid (HP.out k hlt wr hB)
      have HS := hid (Soft.tab_succ g k)
      have HN := hid (show ((Soft.tab g k).map (Value.int .i64)).length = k by simp [Soft.tab_len])
      go_wp2_with (first
        | (refine hcall.out.mono ?_; rintro e w1 ⟨rfl, hB1⟩; have hown1 := hown.fr (Fr.of_below hB1) (fun g' e => by have := (hown.block e).2; omega); have hB2 := below_then hB hB1; have hsz := hB2.size; clear hown hB hB1)
        | (at_builtin; refine wpList_append_one rfl ielem_map (.tmp 16) (.tmp 20) rfl w.heap.size _ k _ HN.out rfl hown1 _ rfl rfl (by omega) (by omega) hsz ?_; intro g1 cap1 w2 hown2 hf))
      have hB4 := hB2.trans (hf.below hsz (fun i hi e => by have := (hown1.block e).1; omega))
      clear hown1 hf hB2
      go_wp2
      go_roundw
      case rel => exact ⟨k + 1, by omega, by go_num, by rw [HS.out, List.map_append]; exact hown2, hB4⟩
      case measure => simp [intOf]; omega
    · obtain rfl : k = n := by omega
      obtain ⟨a, c, rfl, hc⟩ := hown.vw
      have HI := hid hown.vwA.hi
      have HV := hid hc
      have HN := hid (show ((Soft.tab g k).map (Value.int .i64)).length = k by simp [Soft.tab_len])
      have hcap : k ≤ c := by
        rcases hown.2 with ⟨h1, h2⟩ | ⟨g', cap', cur, h1, _, _, h2, _⟩
        · rw [HN.out] at h2; omega
        · cases h1; rw [HN.out] at h2; exact h2
      rw [HN.out]
      clear hown hc
      go_wp2
      first
      | go_ret2
      | (rw [Exit.noGoto_ret]; go_ret2)
      exact ⟨⟨.slice a k k, rfl, ⟨_, _, by rw [HN.out], HV.out⟩, fun b off n' c' e => HI.out b off _ _ (by simp only [Value.slice.injEq] at e; rw [e.1])⟩, hB⟩
set_option maxHeartbeats 1000000 in
theorem idealA_ok (w : World) (va : Value) (A : List Int) (m : Int) (hva : Vw w va (A.map (Value.int .u8))) (hA : A.length ≤ 17592186044415) (hwf : ∀ n ∈ A, (Lit.int .u8 n).wf = true) (hm0 : 0 ≤ m) (hm1 : m ≤ 127) (hbB : Soft.bbad A = false) :
    Calls Try.prog 11 #[va, .int .i64 m] w fun e w' => (∃ v', e = .returned (.tuple #[v', .int .i64 0]) ∧ VwA w' w.heap.size v' ((Soft.tab (Soft.idlG A m) A.length).map (Value.int .i64))) ∧ Below w.heap.size w w' := by
  have VA := hid (fun w h => binary_any w va A h (by omega))
  have HA := hid hva
  obtain ⟨aa, ca, rfl, _⟩ := hva
  rw [List.length_map] at VA HA ⊢
  have hS0 : ((w.alloc (.cells #[.slice aa A.length ca] 25)).alloc (.cells #[.int .i64 m] 3)).cell? ⟨w.heap.size, 0, none⟩ = some (.slice aa A.length ca) ∧ ((w.alloc (.cells #[.slice aa A.length ca] 25)).alloc (.cells #[.int .i64 m] 3)).cell? ⟨w.heap.size + 1, 0, none⟩ = some (.int .i64 m) ∧ Below w.heap.size w ((w.alloc (.cells #[.slice aa A.length ca] 25)).alloc (.cells #[.int .i64 m] 3)) ∧ w.heap.size + 2 ≤ ((w.alloc (.cells #[.slice aa A.length ca] 25)).alloc (.cells #[.int .i64 m] 3)).heap.size :=
    ⟨by go_simp, by go_simp, two_boxes w _ _, by simp⟩
  have hd0 : decide (0 ≤ m) = true := by simp; omega
  have hd : decide (m ≤ 127) = true := by simp; omega
  rw [hbB] at VA
  have HbB := hid hbB
  have HW := hid hwf
  clear hbB hwf
  have HP := hid (fun w2 (f1 : w2.cell? ⟨w.heap.size, 0, none⟩ = some (.slice aa A.length ca)) (f2 : w2.cell? ⟨w.heap.size + 1, 0, none⟩ = some (.int .i64 m)) (hW2 : Below w.heap.size w w2) (hs2 : w.heap.size + 2 ≤ w2.heap.size) => show ∀ k, k < A.length → ∀ W, Below w2.heap.size w2 W → Calls Try.prog 30 (#[.int .i64 k] ++ #[.pointer (some ⟨w.heap.size + 1, 0, none⟩), .pointer (some ⟨w.heap.size, 0, none⟩)]) W (fun e w' => e = .returned (.int .i64 (Soft.idlG A m k)) ∧ Below W.heap.size W w') from fun k hk W hW => ideal1_any A m (by omega) (by omega) HbB.out HW.out k hk (by omega) _ w.heap.size (w.heap.size + 1) W ((hW.cell (p := ⟨w.heap.size, 0, none⟩) (by dsimp only; omega)).trans f1) ((hW.cell (p := ⟨w.heap.size + 1, 0, none⟩) (by dsimp only; omega)).trans f2) (HA.out.below (hW2.trans (hW.mono (by omega))) (Nat.le_refl _)))
  go_enter Try.func11, Try.ntmps11
  go_wp2_with fail
  generalize World.alloc _ _ = W at hS0 ⊢
  obtain ⟨f1, f2, f3, f4⟩ := hS0
  have hBd : Below w.heap.size w W.drew := f3.trans ((Fr.drew (fun _ => False) W).below f3.size (fun _ _ h => h))
  refine wp_region_still_tail 9 (by kernel_rfl) (by kernel_rfl) ?_
  simp only [List.take_succ_cons, List.take_zero, List.drop_succ_cons, List.drop_zero]
  still_step
  still_step
  still_step
  still_step
  still_step
  still_step
  still_call (Calls.flip (arg_true _))
  still_step
  still_call (Calls.flip (VA.out _ (HA.out.below hBd (Nat.le_refl _))))
  refine wpStill_nil ?_
  change wpList _ _ _ _ _ W.drew
  have k4 := keep2_drew ⟨f1, f2, f3, f4⟩
  clear f1 f2 f3 f4 hBd
  generalize W.drew = W2 at k4 ⊢
  obtain ⟨f1, f2, hBd, f4⟩ := k4
  go_wp2_with fail
  refine (first2_any _ _ _).mono ?_
  rintro e w' ⟨rfl, rfl⟩
  have k5 := keep2_alloc (.cells #[.int .i64 0, .int .i64 0] 29) ⟨f1, f2, hBd, f4⟩
  clear f1 f2 hBd f4
  generalize W2.alloc _ = W3 at k5 ⊢
  obtain ⟨f1, f2, hBa, f4⟩ := k5
  have HPa := hid (HP.out _ f1 f2 hBa f4)
  go_wp2_with (go_at_call 29; refine (imappedA_ok _ A.length 30 #[.pointer (some ⟨w.heap.size + 1, 0, none⟩), .pointer (some ⟨w.heap.size, 0, none⟩)] (Soft.idlG A m) hA (enters_of Try.func30 (by kernel_rfl) rfl) HPa.out).mono ?_; rintro e w3 ⟨⟨v', rfl, hv'⟩, hB3⟩)
  go_ret2
  exact ⟨⟨_, rfl, hv'.mono hBa.size⟩, hBa.trans (hB3.mono hBa.size)⟩
end Go.Proofs.Ytpnmfnjpbhjddaa
