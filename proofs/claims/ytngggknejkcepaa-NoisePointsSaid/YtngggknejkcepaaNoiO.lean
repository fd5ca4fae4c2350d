/- userplane/noise: Outputs, its iterator. -/
import Derived.Test.YtngggknejkcepaaNoiG
import Derived.Test.YtngggknejkcepaaIter
namespace Go.Proofs.Ytngggknejkcepaa
open Go.RowKit Go.Shelf
set_option linter.unusedVariables false
attribute [local go_sem] Oper.semAt_some
theorem outputs_any (w : World) (b x : Nat) (f e s : Int) (hb : NB w b x f e s) (hx : 0 < x) (c : Int) :
    Calls Try.prog 19 #[.pointer (some ⟨b, 0, none⟩), .int .i64 c] w fun e w' => e = .returned (.func (.func 38) #[] #[.pointer (some ⟨w.heap.size + 1, 0, none⟩), .pointer (some ⟨w.heap.size, 0, none⟩)]) ∧ w' = (w.alloc (.cells #[.int .i64 c] 3)).alloc (.cells #[.int .u64 (x : Nat)] 70) := by
  have S := hid (state_any (w.alloc (.cells #[.int .i64 c] 3)) b x f e s (hb.fr (Fr.alloc (fun _ => False) _ _) (fun h => h)) hx)
  clear hb
  go_enter Try.func19, Try.ntmps19
  go_wp2_with fail
  refine S.out.mono ?_
  rintro r w1 ⟨rfl, rfl⟩
  go_wp2
  go_ret
  exact ⟨rfl, rfl⟩
theorem outputs_none (w : World) (n : Value) (hS : ∀ w1, Below w.heap.size w w1 → Calls Try.prog 36 #[n] w1 fun r w' => r = .returned (.bool true) ∧ w1 = w') (c : Int) :
    Calls Try.prog 19 #[n, .int .i64 c] w fun e w' => e = .returned (.func (.func 38) #[] #[.pointer (some ⟨w.heap.size + 1, 0, none⟩), .pointer (some ⟨w.heap.size, 0, none⟩)]) ∧ w' = (w.alloc (.cells #[.int .i64 c] 3)).alloc (.cells #[.int .u64 0] 70) := by
  have S := hid (state_nil (w.alloc (.cells #[.int .i64 c] 3)) n (hS _ (below_alloc _ _)))
  clear hS
  go_enter Try.func19, Try.ntmps19
  go_wp2_with fail
  refine S.out.mono ?_
  rintro r w1 ⟨rfl, rfl⟩
  go_wp2
  go_ret
  exact ⟨rfl, rfl⟩
set_option maxHeartbeats 2000000 in
theorem outputs1_iter (x : Nat) (c : Int) (bo bc : Nat) (hx : x < Noi.M) (h0x : 0 < x) (hc : c ≤ 1000) (T : Nat → Prop) (hTo : T bo) (hTc : T bc) (w : World)
    (hco : w.cell? ⟨bo, 0, none⟩ = some (.int .u64 (x : Nat))) (hcc : w.cell? ⟨bc, 0, none⟩ = some (.int .i64 c)) (hT : ∀ b, T b → b < w.heap.size) :
    IterC Try.prog 38 #[.pointer (some ⟨bo, 0, none⟩), .pointer (some ⟨bc, 0, none⟩)] (fun k => #[.int .i64 k, .int .u64 (Noi.stN x (k + 1) : Nat)]) (some c.toNat) 1 T w := by
  intro l J Jx W hW hJ hJx hY h0 hN
  clear hN
  have hWs := hW.size
  have hco' := (hW.cell (p := ⟨bo, 0, none⟩) (hT bo hTo)).trans hco
  have hcc' := (hW.cell (p := ⟨bc, 0, none⟩) (hT bc hTc)).trans hcc
  have HY := hid hY
  have HJ := hid hJ
  have HJx := hid hJx
  have HX := hid hx
  have HP := hid h0x
  clear hY hJ hco hcc hJx hx h0x
  refine calls_of_wp Try.func38 rfl ?_
  simp only [Try.ntmps38, List.size_toArray, List.length_cons, List.length_nil, Nat.reduceAdd, Nat.reduceSub, Array.replicate_succ, Array.replicate_zero, List.push_toArray, List.append_toArray, List.nil_append, List.cons_append]
  by_cases hcp : c ≤ 0
  · have HN := hid (show c.toNat = 0 by omega)
    rw [HN.out]
    go_step3
    go_wp2
    generalize hW2 : World.alloc _ _ = W2
    have HG2 := hid (show Blk W2 W.heap.size 70 #[.int .u64 (x : Nat)] by rw [← hW2]; exact Blk.new _ _ _)
    have hB2 : Below W.heap.size W W2 := by rw [← hW2]; exact below_alloc _ _
    have hcc2 := (hB2.cell (p := ⟨bc, 0, none⟩) (Nat.lt_of_lt_of_le (hT bc hTc) hWs)).trans hcc'
    have hs2 : W2.heap.size = W.heap.size + 1 := by rw [← hW2]; simp
    have hJ2 : J 0 W2 := HJ.out _ _ _ h0 ((Fr.of_below hB2).mono (fun k hk h => by omega))
    have HS2 := hid hs2
    have HCC2 := hid hcc2
    clear hW2 hs2 hB2 hcc' hco' h0
    go_step3
    go_wp2
    clear hcc2
    refine wp_loop_rounds 1 ?_
    rw [rounds_succ]
    go_wp2
    rw [Exit.noGoto_normal]
    go_end0
    exact ⟨⟨_, rfl⟩, .inl ⟨_, rfl, hJ2⟩⟩
  · obtain ⟨n, rfl⟩ := Int.eq_ofNat_of_zero_le (show 0 ≤ c by omega)
    have hn : 0 < n := by omega
    have hn2 : n ≤ 1000 := by omega
    clear hcp hc
    rw [Int.toNat_natCast]
    go_step3
    go_wp2
    generalize hW2 : World.alloc _ _ = W2
    have HG2 := hid (show Blk W2 W.heap.size 70 #[.int .u64 (x : Nat)] by rw [← hW2]; exact Blk.new _ _ _)
    have hB2 : Below W.heap.size W W2 := by rw [← hW2]; exact below_alloc _ _
    have hcc2 := (hB2.cell (p := ⟨bc, 0, none⟩) (Nat.lt_of_lt_of_le (hT bc hTc) hWs)).trans hcc'
    have hs2 : W2.heap.size = W.heap.size + 1 := by rw [← hW2]; simp
    have hJ2 : J 0 W2 := HJ.out _ _ _ h0 ((Fr.of_below hB2).mono (fun k hk h => by omega))
    have HS2 := hid hs2
    have HCC2 := hid hcc2
    clear hW2 hs2 hB2 hcc' hco' h0
    go_step3
    go_wp2
    clear hcc2
    refine (wpIn_wide (n := 1)).1 ?_
    gi_loopw [9] (fun v wr => ∃ k : Nat, k ≤ n ∧ v = .int .i64 k ∧ J k wr ∧ W2.heap.size ≤ wr.heap.size ∧ Blk wr W.heap.size 70 #[.int .u64 (Noi.stN x k : Nat)]) (fun v _ => n - (intOf v).toNat)
    case atStart => exact ⟨0, Nat.zero_le _, rfl, hJ2, Nat.le_refl _, HG2.out⟩
    case round =>
      clear hJ2
      obtain ⟨k, hk, rfl, hJk, hsz, hG⟩ := hrel
      have c0 := hG.cell 0
      simp only [List.getElem?_toArray, List.getElem?_cons_zero] at c0
      by_cases hlt : k < n
      · have hpos := Noi.stN_pos HP.out HX.out k
        have hlt2 := hid (Noi.stN_lt HX.out k)
        have HY2 := hid (show Noi.stN x (k + 1) = Noi.step (Noi.stN x k) from rfl)
        have hY := HY.out k
        rw [HY2.out] at hY
        generalize Noi.stN x k = st at *
        have hd : ((st : Int) == 0) = false := by rw [beq_eq_false_iff_ne]; omega
        have HSp := hid (step_any W.heap.size _ st hlt2.out [] wr hG)
        have HYk := hid hY
        have HJk := hid hJk
        have HLt := hid hlt
        have hkb : k ≤ 1000 := by omega
        clear hpos hY hJk hG
        gi_wp2
        refine ⟨trivial, callsIn_wide.2 (HSp.out.mono ?_)⟩
        rintro r w1 ⟨rfl, hG1, hF1⟩
        have hJ1 := HJ.out _ _ _ HJk.out (hF1.mono (fun j _ h => by omega))
        have hY := HYk.out w1 (fun n' hn' => by cases hn'; exact HLt.out) hJ1
        have HG1 := hid hG1
        have hsz1 : W2.heap.size ≤ w1.heap.size := Nat.le_trans hsz hF1.size
        clear hG1 hF1 hJ1 c0 hsz
        obtain ⟨fn, tmps, assign, body, hy, hR⟩ := hY
        gi_wp2
        refine hR.mono ?_
        rintro r W3 (⟨rfl, hJ3, hk3⟩ | ⟨rfl, hJx3⟩)
        · have HG3 := hid (show Blk W3 W.heap.size _ _ from (hk3.2 W.heap.size (by have := HS2.out; omega) (.inr (by omega))).trans HG1.out)
          have hsz3 : W2.heap.size ≤ W3.heap.size := Nat.le_trans hsz1 hk3.1
          clear hk3 hsz1 HG1
          gi_wp2
          go_roundw
          case rel => have hlt := HLt.out; exact ⟨k + 1, by omega, by go_num, hJ3, hsz3, by rw [HY2.out]; exact HG3.out⟩
          case measure => have := HLt.out; simp [intOf]; omega
        · gi_wp2
          rw [Exit.noGoto_normal]
          go_end0
          exact ⟨⟨_, rfl⟩, .inr ⟨_, hJx3⟩⟩
      · obtain rfl : k = n := by omega
        gi_wp2
        rw [Exit.noGoto_normal]
        go_end0
        exact ⟨⟨_, rfl⟩, .inl ⟨_, rfl, hJk⟩⟩
end Go.Proofs.Ytngggknejkcepaa
