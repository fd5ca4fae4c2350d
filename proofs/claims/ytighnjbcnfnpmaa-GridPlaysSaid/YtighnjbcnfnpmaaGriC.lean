/- userplane/grid: Kind, selected, references, Data. -/
import Derived.Test.YtighnjbcnfnpmaaGriB
import Derived.Test.YtighnjbcnfnpmaaApp
import Derived.Test.YtighnjbcnfnpmaaJump
import Derived.Test.YtighnjbcnfnpmaaVwB
namespace Go.Proofs.Ytighnjbcnfnpmaa
open Go.RowKit Go.Shelf
set_option linter.unusedVariables false
attribute [local go_sem ↓] Go.wp_at_zero Go.wp_at_succ
theorem gelem : Elem1 Try.prog 34 3 8 (.int .i64 0) := Elem1.mk' Try.underlying34 (by kernel_rfl) rfl
set_option maxHeartbeats 1000000 in
theorem kindF_bad (b t l i : Int) (w : World) (h : Gr.vld b t l = false) : Calls Try.prog 11 #[CV b t l, .int .i64 i] w fun e w' => e = .returned (.tuple #[.int .i64 0, .int .i64 2]) ∧ Below w.heap.size w w' := by
  have HC := hid (check_any b t l)
  rw [h, if_neg (by simp)] at HC
  go_enter Try.func11, Try.ntmps11
  go_wp2_with fail
  refine (HC.out _).mono ?_
  rintro r w1 ⟨rfl, B1⟩
  go_wp2
  go_ret2
  exact ⟨rfl, up_alloc (up_alloc B1)⟩
set_option maxHeartbeats 2000000 in
theorem kindF_out (b t l i : Int) (w : World) (h : Gr.vld b t l = true) (hi : ¬ (0 ≤ i ∧ i < 168 * b)) : Calls Try.prog 11 #[CV b t l, .int .i64 i] w fun e w' => e = .returned (.tuple #[.int .i64 0, .int .i64 6]) ∧ Below w.heap.size w w' := by
  have hc := Gr.vld_iff.1 h
  have HC := hid (check_any b t l)
  rw [h, if_pos rfl] at HC
  have b0 := hc.b0
  have b1 := hc.b1
  have HS := hid (size_any b t l (by omega) (by omega))
  have HT := hid (between_any i 0 (168 * b - 1))
  rw [show (decide (0 ≤ i) && decide (i ≤ 168 * b - 1)) = false by simp; omega] at HT
  clear h hc hi
  go_enter Try.func11, Try.ntmps11
  go_wp2_with fail
  refine (HC.out _).mono ?_
  rintro r w1 ⟨rfl, B1⟩
  have HP1 := hid (show Blk w1 (w.heap.size + 1) 73 #[.int .i64 b, .int .i64 t, .int .i64 l] from Blk.below (by have := Blk.new (w.alloc (.cells #[.int .i64 b, .int .i64 t, .int .i64 l] 23)) 73 #[.int .i64 b, .int .i64 t, .int .i64 l]; rw [World.size_alloc] at this; exact this) B1 (by simp))
  have c0 : w1.cell? ⟨w.heap.size + 1, 0, none⟩ = some (.int .i64 b) := HP1.out.cell 0
  have c1 : w1.cell? ⟨w.heap.size + 1, 1, none⟩ = some (.int .i64 t) := HP1.out.cell 1
  have c2 : w1.cell? ⟨w.heap.size + 1, 2, none⟩ = some (.int .i64 l) := HP1.out.cell 2
  go_wp2_with fail
  refine (HS.out _).mono ?_
  rintro r w2 ⟨rfl, B2⟩
  go_wp2_with fail
  refine (HT.out _).mono ?_
  rintro r w3 ⟨rfl, rfl⟩
  go_wp2
  go_ret2
  exact ⟨rfl, below_then (up_alloc (up_alloc B1)) B2⟩
set_option maxHeartbeats 2000000 in
theorem kindF_ok (b t l : Int) (i : Nat) (w : World) (h : Gr.vld b t l = true) (hi : (i : Int) < 168 * b) : Calls Try.prog 11 #[CV b t l, .int .i64 i] w fun e w' => e = .returned (.tuple #[.int .i64 (Gr.kd b t l i), .int .i64 0]) ∧ Below w.heap.size w w' := by
  have hc := Gr.vld_iff.1 h
  have HC := hid (check_any b t l)
  rw [h, if_pos rfl] at HC
  have b0 := hc.b0
  have b1 := hc.b1
  have HS := hid (size_any b t l (by omega) (by omega))
  have HT := hid (between_any i 0 (168 * b - 1))
  rw [show (decide ((0 : Int) ≤ i) && decide ((i : Int) ≤ 168 * b - 1)) = true by simp; omega] at HT
  have HK := hid (kind_any b t l hc i hi)
  clear h hc hi
  go_enter Try.func11, Try.ntmps11
  go_wp2_with fail
  refine (HC.out _).mono ?_
  rintro r w1 ⟨rfl, B1⟩
  have HP1 := hid (show Blk w1 (w.heap.size + 1) 73 #[.int .i64 b, .int .i64 t, .int .i64 l] from Blk.below (by have := Blk.new (w.alloc (.cells #[.int .i64 b, .int .i64 t, .int .i64 l] 23)) 73 #[.int .i64 b, .int .i64 t, .int .i64 l]; rw [World.size_alloc] at this; exact this) B1 (by simp))
  have c0 : w1.cell? ⟨w.heap.size + 1, 0, none⟩ = some (.int .i64 b) := HP1.out.cell 0
  have c1 : w1.cell? ⟨w.heap.size + 1, 1, none⟩ = some (.int .i64 t) := HP1.out.cell 1
  have c2 : w1.cell? ⟨w.heap.size + 1, 2, none⟩ = some (.int .i64 l) := HP1.out.cell 2
  go_wp2_with fail
  refine (HS.out _).mono ?_
  rintro r w2 ⟨rfl, B2⟩
  have HP2 := hid (HP1.out.below B2 HP1.out.lt)
  go_wp2_with fail
  refine (HT.out _).mono ?_
  rintro r w3 ⟨rfl, rfl⟩
  clear c0 c1 c2
  have c0 : w2.cell? ⟨w.heap.size + 1, 0, none⟩ = some (.int .i64 b) := HP2.out.cell 0
  have c1 : w2.cell? ⟨w.heap.size + 1, 1, none⟩ = some (.int .i64 t) := HP2.out.cell 1
  have c2 : w2.cell? ⟨w.heap.size + 1, 2, none⟩ = some (.int .i64 l) := HP2.out.cell 2
  go_wp2_with fail
  refine (HK.out _).mono ?_
  rintro r w4 ⟨rfl, B4⟩
  go_wp2
  go_ret2
  exact ⟨rfl, below_then (below_then (up_alloc (up_alloc B1)) B2) B4⟩
set_option maxHeartbeats 2000000 in
theorem selected_any (w : World) (b t l : Int) (h0 : 0 ≤ b) (h1 : b ≤ 100000) (n : Nat) (hn : (n : Int) = 168 * b) (F : FuncId) (caps : Array Value) (p : Nat → Bool) (hef : ∀ args w, (callFunc F args).run Try.prog w = .ok (.enter F args) w)
    (hp : ∀ k, k < n → ∀ W, Below w.heap.size w W → Calls Try.prog F (#[.int .i64 k] ++ caps) W fun e w' => e = .returned (.tuple #[.int .i64 k, .bool (p k)]) ∧ Below W.heap.size W w') :
    Calls Try.prog 38 #[CV b t l, .func (.func F) #[] caps] w fun e w' => (∃ v', e = .returned v' ∧ OwnL w' w.heap.size 3 v' ((Gr.sel p n).map (Value.int .i64))) ∧ Below w.heap.size w w' := by
  have HS := hid (size_any b t l h0 h1)
  rw [← hn] at HS
  have HP := hid hp
  have hnb : n ≤ 100000000 := by omega
  clear hp hn h0 h1
  go_enter Try.func38, Try.ntmps38
  go_wp2_with fail
  refine (HS.out _).mono ?_
  rintro r w1 ⟨rfl, B1⟩
  have HB1 := hid (up_alloc B1)
  clear B1
  go_wp2
  go_loopw [4, 10] (fun o i wr => ∃ k : Nat, k ≤ n ∧ i = .int .i64 k ∧ OwnL wr w.heap.size 3 o ((Gr.sel p k).map (Value.int .i64)) ∧ Below w.heap.size w wr) (fun _ i _ => n - (intOf i).toNat)
  case atStart => exact ⟨0, Nat.zero_le _, rfl, OwnL.nil _ _ _, HB1.out⟩
  case round =>
    obtain ⟨k, hk, rfl, hown, hB⟩ := hrel
    by_cases hlt : k < n
    · have hcall := hid (HP.out k hlt wr hB)
      have HY := hid (@Gr.sel_yes p k)
      have HNo := hid (@Gr.sel_no p k)
      have HL := hid (Gr.sel_len p k)
      have HN := hid (show ((Gr.sel p k).map (Value.int .i64)).length = (Gr.sel p k).length by simp)
      have HO := hid hown
      have HB := hid hB
      clear hown hB
      cases hpk : p k with
      | true =>
        rw [hpk] at hcall
        have HPK := hid hpk
        clear hpk
        go_wp2_with fail
        refine hcall.out.mono ?_
        rintro r w2 ⟨rfl, B2⟩
        have hown2 := HO.out.fr (Fr.of_below B2) (fun g' e => by have := (HO.out.block e).2; omega)
        have HB2 := hid (below_then HB.out B2)
        have hsz := HB2.out.size
        have hlen := HL.out
        clear B2
        go_wp2_with (at_builtin; refine wpList_append_one rfl gelem (.tmp 20) (.tmp 22) rfl w.heap.size _ _ _ HN.out rfl hown2 _ rfl rfl (by omega) (by omega) hsz ?_; intro g1 cap1 w3 hown3 hf)
        have HB4 := hid (HB2.out.trans (hf.below hsz (fun i hi e => by have := (hown2.block e).1; omega)))
        have HO3 := hid hown3
        clear hown2 hf hown3
        go_wp2
        go_roundw
        case rel => exact ⟨k + 1, by omega, by go_num, by rw [HY.out HPK.out, List.map_append]; exact HO3.out, HB4.out⟩
        case measure => simp [intOf]; omega
      | false =>
        rw [hpk] at hcall
        have HPK := hid hpk
        clear hpk
        go_wp2_with fail
        refine hcall.out.mono ?_
        rintro r w2 ⟨rfl, B2⟩
        have HO2 := hid (HO.out.fr (Fr.of_below B2) (fun g' e => by have := (HO.out.block e).2; omega))
        have HB2 := hid (below_then HB.out B2)
        clear B2
        go_wp2
        go_roundw
        case rel => exact ⟨k + 1, by omega, by go_num, by rw [HNo.out HPK.out]; exact HO2.out, HB2.out⟩
        case measure => simp [intOf]; omega
    · obtain rfl : k = n := by omega
      have HO := hid hown
      have HB := hid hB
      clear hown hB
      go_wp2
      go_ret
      exact ⟨⟨_, rfl, HO.out⟩, HB.out⟩
end Go.Proofs.Ytighnjbcnfnpmaa
