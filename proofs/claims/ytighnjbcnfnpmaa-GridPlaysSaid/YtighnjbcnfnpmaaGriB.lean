/- userplane/grid: all, Check, Kind. -/
import Derived.Test.YtighnjbcnfnpmaaGriA
namespace Go.Proofs.Ytighnjbcnfnpmaa
open Go.RowKit Go.Shelf
set_option linter.unusedVariables false
attribute [local go_sem ↓] Go.wp_at_zero Go.wp_at_succ
set_option maxHeartbeats 1000000 in
theorem bidx_any (w : World) (v : Value) (L : List Bool) (hv : Vw w v (L.map Value.bool)) (hl : L.length ≤ 1000000) :
    Calls Try.prog 49 #[v, .bool false] w fun e w' => (∃ n : Int, e = .returned (.int .i64 n) ∧ Hid (decide (0 ≤ n) = L.any (fun b => !b))) ∧ w' = w := by
  rcases hv.split with ⟨a, c, rfl, h0⟩ | ⟨b, off, c, rfl, hp0, hc⟩
  · obtain rfl : L = [] := by simpa using h0
    go_enter Try.func49, Try.ntmps49
    go_wp2
    refine wp_loop_rounds 1 ?_
    rw [rounds_succ]
    go_wp2
    go_ret
    exact ⟨⟨-1, rfl, by simp [Hid]⟩, rfl⟩
  · simp only [List.length_map, List.getElem_map] at hc hp0 ⊢
    have HC := hid hc
    clear hc hv
    go_enter Try.func49, Try.ntmps49
    go_wp2
    go_loop [8] (fun i => ∃ k : Nat, k ≤ L.length ∧ i = .int .i64 k ∧ Hid ((L.take k).any (fun b => !b) = false)) (fun i => L.length - (intOf i).toNat)
    case atStart => exact ⟨0, Nat.zero_le _, rfl, by simp [Hid]⟩
    case round =>
      obtain ⟨k, hk, rfl, hno⟩ := hrel
      by_cases hlt : k < L.length
      · have hck := HC.out k hlt
        have HT := hid (List.take_succ_eq_append_getElem hlt)
        have HD := hid (show (L.drop k) = L[k] :: L.drop (k + 1) from List.drop_eq_getElem_cons hlt)
        have HTD := hid (List.take_append_drop k L)
        generalize L[k] = x at *
        cases x with
        | false =>
          go_wp2
          go_ret
          refine ⟨⟨k, rfl, ?_⟩, rfl⟩
          rw [Hid, ← HTD.out, HD.out]; simp
        | true =>
          go_wp2
          go_round
          case rel => exact ⟨k + 1, by omega, by go_num, by rw [Hid, HT.out, List.any_append, hno.out]; rfl⟩
          case measure => simp [intOf]; omega
      · obtain rfl : k = L.length := by omega
        go_wp2
        go_ret
        exact ⟨⟨-1, rfl, by have := hno.out; rw [List.take_length] at this; rw [Hid, this]; rfl⟩, rfl⟩
theorem all_any (w : World) (v : Value) (L : List Bool) (hv : Vw w v (L.map Value.bool)) (hl : L.length ≤ 1000000) :
    Calls Try.prog 36 #[v] w fun e w' => e = .returned (.bool (!L.any (fun b => !b))) ∧ w = w' := by
  have HI := hid (bidx_any w v L hv hl)
  have HC : Calls Try.prog 47 #[v, .bool false] w fun e w' => e = .returned (.bool (L.any (fun b => !b))) ∧ w = w' := by
    clear hv
    go_enter Try.func47, Try.ntmps47
    go_wp2_with fail
    refine HI.out.mono ?_
    rintro e w' ⟨⟨n, rfl, hn⟩, rfl⟩
    go_wp2
    go_ret
    exact ⟨ret_bool hn.out, rfl⟩
  have HC' := hid HC
  clear HC hv HI
  go_enter Try.func36, Try.ntmps36
  go_wp2_with fail
  refine HC'.out.mono ?_
  rintro e w' ⟨rfl, rfl⟩
  go_wp2
  go_ret
  exact ⟨rfl, rfl⟩
theorem all_lit (p q r x : Bool) (hx : x = (p && q && r)) (w : World) :
    Calls Try.prog 36 #[.slice (some ⟨w.heap.size, 0, none⟩) 3 3] (w.alloc (.cells #[.bool p, .bool q, .bool r] 4)).drew fun e w' => e = .returned (.bool x) ∧ (w.alloc (.cells #[.bool p, .bool q, .bool r] 4)).drew = w' := by
  have hv := Vw.lit w #[.bool p, .bool q, .bool r] 4 3 rfl
  have := all_any _ _ [p, q, r] (show Vw (w.alloc (.cells #[.bool p, .bool q, .bool r] 4)).drew _ _ from hv.drewN 1) (by simp)
  rw [hx, show (p && q && r) = (!([p, q, r].any fun b => !b)) by cases p <;> cases q <;> cases r <;> rfl]
  exact this
theorem all_lit0 (p q r x : Bool) (hx : x = (p && q && r)) (w : World) :
    Calls Try.prog 36 #[.slice (some ⟨w.heap.size, 0, none⟩) 3 3] (w.alloc (.cells #[.bool p, .bool q, .bool r] 4)) fun e w' => e = .returned (.bool x) ∧ w.alloc (.cells #[.bool p, .bool q, .bool r] 4) = w' := by
  have hv := Vw.lit w #[.bool p, .bool q, .bool r] 4 3 rfl
  have := all_any _ _ [p, q, r] hv (by simp)
  rw [hx, show (p && q && r) = (!([p, q, r].any fun b => !b)) by cases p <;> cases q <;> cases r <;> rfl]
  exact this
set_option maxHeartbeats 2000000 in
theorem check_any (b t l : Int) (w : World) : Calls Try.prog 13 #[CV b t l] w fun e w' => e = .returned (.int .i64 (if Gr.vld b t l = true then 0 else 2)) ∧ Below w.heap.size w w' := by
  have H1 := hid (fun w => between_any b 6 100 w)
  have H2 := hid (fun w => between_any t 1 3 w)
  have H3 := hid (fun w => between_any l 0 503 w)
  have HA := hid (fun w => all_lit (decide (6 ≤ b) && decide (b ≤ 100)) (decide (1 ≤ t) && decide (t ≤ 3)) (decide (0 ≤ l) && decide (l ≤ 503)) (Gr.vld b t l) rfl w)
  generalize (decide (6 ≤ b) && decide (b ≤ 100)) = q1 at *
  generalize (decide (1 ≤ t) && decide (t ≤ 3)) = q2 at *
  generalize (decide (0 ≤ l) && decide (l ≤ 503)) = q3 at *
  generalize Gr.vld b t l = vv at *
  cases vv
  all_goals
    go_enter Try.func13, Try.ntmps13
    go_wp2
    generalize hW : World.alloc _ _ = W
    have HP := hid (show Blk W w.heap.size 23 #[.int .i64 b, .int .i64 t, .int .i64 l] by rw [← hW]; exact Blk.new w _ _)
    have HB := hid (show Below w.heap.size w W by rw [← hW]; exact below_alloc _ _)
    clear hW
    have HS := hid (show ∀ V, Below W.heap.size W V → V.cell? ⟨w.heap.size, 0, none⟩ = some (.int .i64 b) ∧ V.cell? ⟨w.heap.size, 1, none⟩ = some (.int .i64 t) ∧ V.cell? ⟨w.heap.size, 2, none⟩ = some (.int .i64 l) from fun V hV =>
      ⟨(HP.out.below hV HP.out.lt).cell 0, (HP.out.below hV HP.out.lt).cell 1, (HP.out.below hV HP.out.lt).cell 2⟩)
    have B0 : Below W.heap.size W W.drew := below_drewN W 1
    go_region_held3 (fun V => V.cell? ⟨w.heap.size, 0, none⟩ = some (.int .i64 b) ∧ V.cell? ⟨w.heap.size, 1, none⟩ = some (.int .i64 t) ∧ V.cell? ⟨w.heap.size, 2, none⟩ = some (.int .i64 l)) (first | exact HS.out _ (by assumption) | exact HS.out _ (bal (by assumption) _))
      ((first
        | (go_at_call 33; (with_reducible refine (H1.out _).mono ?_); rintro r w6 ⟨rfl, rfl⟩)
        | (go_at_call 33; (with_reducible refine (H2.out _).mono ?_); rintro r w6 ⟨rfl, rfl⟩)
        | (go_at_call 33; (with_reducible refine (H3.out _).mono ?_); rintro r w6 ⟨rfl, rfl⟩)
        | (go_at_call 36; refine (HA.out _).mono ?_; rintro r w6 ⟨rfl, rfl⟩)))
    all_goals
      go_wp2
      go_ret
      exact ⟨rfl, below_then HB.out (bal B0 _)⟩
end Go.Proofs.Ytighnjbcnfnpmaa
