/- userplane/gold.Bits: the iterator over a scrambling sequence. -/
import Derived.Test.YtmiaddcjedjjdaaNext
import Derived.Test.YtmiaddcjedjjdaaIter
namespace Go.Proofs.Ytmiaddcjedjjdaa
open Go.RowKit
set_option linter.unusedVariables false

theorem OwnL.keep {w w' : World} {base g n cap : Nat} {e : TypeId} {xs : List Value} (h : OwnL w base e (.slice (some ⟨g, 0, none⟩) n cap) xs) (hk : w'.heap[g]? = w.heap[g]?) : OwnL w' base e (.slice (some ⟨g, 0, none⟩) n cap) xs := by
  refine ⟨h.1, ?_⟩
  rcases h.2 with ⟨hn, _⟩ | ⟨g', cap', cur, he, hb, hg, r⟩
  · cases hn
  · cases he
    exact .inr ⟨g, cap, cur, rfl, hb, hk.trans hg, r⟩

theorem bits_any (i : Int) (w : World) :
    Calls Try.prog 18 #[.int .u32 i] w fun e w' => e = .returned (.func (.func 25) #[] #[.pointer (some ⟨w.heap.size, 0, none⟩)]) ∧ w' = w.alloc (.cells #[.int .u32 i] 22) := by
  go_enter Try.func18, Try.ntmps18
  go_wp2
  go_ret
  exact ⟨rfl, rfl⟩

set_option maxHeartbeats 2000000 in
theorem bits1_iter (i B : Nat) (hi : i < 2147483648) (T : Nat → Prop) (hTB : T B) (w : World) (hc0 : w.cell? ⟨B, 0, none⟩ = some (.int .u32 i)) (hT : ∀ b, T b → b < w.heap.size) :
    IterC Try.prog 25 #[.pointer (some ⟨B, 0, none⟩)] (fun k => #[.int .u8 ((Reg.c i k).toNat : Nat)]) none 1 T w := by
  intro l J Jx W hW hJ hJx hY h0 hN
  obtain ⟨N, hNb, hN'⟩ := hN rfl
  clear hN
  have hWs := hW.size
  have hc0' := (hW.cell (p := ⟨B, 0, none⟩) (hT B hTB)).trans hc0
  have HY := hid hY
  have HJ := hid hJ
  have HJx := hid hJx
  have HN := hid hN'
  clear hY hJ hc0 hJx hN'
  refine calls_of_wp Try.func25 rfl ?_
  simp only [Try.ntmps25, List.size_toArray, List.length_cons, List.length_nil, Nat.reduceAdd, Nat.reduceSub, Array.replicate_succ, Array.replicate_zero, List.push_toArray, List.append_toArray, List.nil_append, List.cons_append]
  go_step3
  go_wp2
  go_step3
  go_wp2
  obtain ⟨W2, hW2⟩ : ∃ W2 : World, W2 = W.alloc (.cells #[.int .u32 1, .int .u32 i] 59) := ⟨_, rfl⟩
  rw [← hW2]
  have hs2 : W2.heap.size = W.heap.size + 1 := by rw [hW2]; simp
  have hB2 : Below W.heap.size W W2 := by rw [hW2]; exact (Below.refl _ _).alloc (Nat.le_refl _) _
  have hown : OwnL W2 W.heap.size 59 (.slice (some ⟨W.heap.size, 0, none⟩) 2 2) [.int .u32 (Reg.b1 0), .int .u32 (Reg.b2 i 0)] := by
    rw [hW2]; exact OwnL.made W W.heap.size _ [.int .u32 1, .int .u32 i] (Nat.le_refl _) (by simp)
  have hJ2 : J 0 W2 := HJ.out _ _ _ h0 ((Fr.of_below hB2).mono (fun k hk h => by omega))
  have hcB2 : W2.cell? ⟨B, 0, none⟩ = some (.int .u32 i) := (hB2.cell (p := ⟨B, 0, none⟩) (Nat.lt_of_lt_of_le (hT B hTB) hWs)).trans hc0'
  have HW2 := hid hs2
  have hBW : B < W.heap.size := Nat.lt_of_lt_of_le (hT B hTB) hWs
  clear hc0' hW2 h0 hs2 hB2
  refine (wpIn_wide (n := 1)).1 ?_
  gi_loopw [4] (fun v wr => ∃ n : Nat, n ≤ 1600 + N ∧ v = .int .i64 n ∧ J (n - 1600) wr ∧ W2.heap.size ≤ wr.heap.size ∧ wr.cell? ⟨B, 0, none⟩ = some (.int .u32 i) ∧ OwnL wr W.heap.size 59 (.slice (some ⟨W.heap.size, 0, none⟩) 2 2) [.int .u32 (Reg.b1 n), .int .u32 (Reg.b2 i n)]) (fun v _ => 1601 + N - (intOf v).toNat)
  case atStart => exact ⟨0, Nat.zero_le _, rfl, hJ2, Nat.le_refl _, hcB2, hown⟩
  case round =>
    clear hJ2 hcB2 hown
    obtain ⟨n, hn, rfl, hJn, hsz, hcB, hown⟩ := hrel
    have hdiv : (i : Int) / 2147483648 = 0 := by omega
    have HO := hid hown
    clear hown
    gi_wp2
    refine ⟨trivial, callsIn_wide.2 ((next_any _ _ (Reg.b1_lt n) (Reg.b2_lt hi n) _ _ _ HO.out).mono ?_)⟩
    rintro e w1 ⟨rfl, hown1, hf1⟩
    rw [Reg.out_eq, ← Reg.b1_succ, ← Reg.b2_succ] at *
    have HO1 := hid hown1
    have hcB1 := (hf1.cell (p := ⟨B, 0, none⟩) (World.block_lt_of_cell? wr _ hcB) (by dsimp only; omega)).trans hcB
    have hJ1 := HJ.out _ _ _ hJn (hf1.mono (fun k _ h => by omega))
    have hsz1 : W2.heap.size ≤ w1.heap.size := Nat.le_trans hsz hf1.size
    clear hown1 hf1 hcB hJn hsz
    by_cases hlt : n < 1600
    · have hd : decide ((n : Int) < 1600) = true := by simp; omega
      have HLT := hid hlt
      have HNb := hid hn
      have hb : n ≤ 9223372036854775000 := by omega
      clear hlt hn
      gi_wp2
      go_roundw
      case rel => have hlt := HLT.out; exact ⟨n + 1, by have := HNb.out; omega, by go_num, by rw [show n + 1 - 1600 = n - 1600 by omega]; exact hJ1, hsz1, hcB1, HO1.out⟩
      case measure => have := HNb.out; simp [intOf]; omega
    · have hnN : n ≠ 1600 + N := fun e => HN.out w1 (by rw [e, show 1600 + N - 1600 = N by omega] at hJ1; exact hJ1)
      have hY := HY.out (n - 1600) w1 (fun n hn => by cases hn) hJ1
      have hgt : 1600 ≤ n := by omega
      rw [Reg.c, show 1600 + (n - 1600) = n by omega] at hY
      have hd : decide ((n : Int) < 1600) = false := by simp; omega
      have HLT := hid hgt
      have HNb := hid hn
      have hb : n ≤ 9223372036854775000 := by omega
      have HNe := hid hnN
      clear hJ1 hlt hn hgt hnN
      obtain ⟨fn, tmps, assign, body, hy, hR⟩ := hY
      gi_wp2
      refine hR.mono ?_
      rintro e W3 (⟨rfl, hJ3, hk3⟩ | ⟨rfl, hJx3⟩)
      · have hcB3 := hk3.cell hcB1 (.inl hTB)
        have HO3 := hid (HO1.out.keep (hk3.2 W.heap.size (by have := HW2.out; omega) (.inr (by omega))))
        have hsz3 : W2.heap.size ≤ W3.heap.size := Nat.le_trans hsz1 hk3.1
        clear hcB1 hk3 hsz1
        gi_wp2
        go_roundw
        case rel => have hgt := HLT.out; exact ⟨n + 1, by have := HNb.out; have := HNe.out; omega, by go_num, by rw [show n + 1 - 1600 = n - 1600 + 1 by omega]; exact hJ3, hsz3, hcB3, HO3.out⟩
        case measure => have := HNb.out; simp [intOf]; omega
      · gi_wp2
        rw [Exit.noGoto_normal]
        go_end0
        exact ⟨⟨_, rfl⟩, .inr ⟨_, hJx3⟩⟩
end Go.Proofs.Ytmiaddcjedjjdaa
