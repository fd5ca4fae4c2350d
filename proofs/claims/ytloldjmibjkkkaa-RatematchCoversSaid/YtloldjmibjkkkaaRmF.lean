/- userplane/ratematch: around, its iterator. -/
import Derived.Test.YtloldjmibjkkkaaRmE
import Derived.Sort.LoopGhostIn
namespace Go.Proofs.Ytloldjmibjkkkaa
open Go.RowKit Go.Shelf
set_option linter.unusedVariables false
attribute [local go_sem] Oper.semAt_some
theorem around_any (a : Option Addr) (n c : Nat) (i : Int) (w : World) :
    Calls Try.prog 32 #[.slice a n c, .int .i64 i] w fun e w' => e = .returned (.func (.func 37) #[] #[.pointer (some ⟨w.heap.size + 1, 0, none⟩), .pointer (some ⟨w.heap.size, 0, none⟩)]) ∧ w' = (w.alloc (.cells #[.slice a n c] 22)).alloc (.cells #[.int .i64 i] 3) := by
  go_enter Try.func32, Try.ntmps32
  go_wp2
  go_ret
  exact ⟨rfl, rfl⟩
namespace Rm
/-- The element that round n comes to. -/
def at_ (L : List Int) (i n : Nat) : Int := L.getD ((i + n) % L.length) 0
end Rm
set_option maxHeartbeats 2000000 in
theorem around1_iter (L : List Int) (i0 bf bb gb off cap : Nat) (hL0 : 0 < L.length) (hL : L.length ≤ 100000) (hi : i0 < L.length) (T : Nat → Prop) (hTf : T bf) (hTb : T bb) (hTg : T gb) (w : World)
    (hcf : w.cell? ⟨bf, 0, none⟩ = some (.int .i64 i0)) (hcb : w.cell? ⟨bb, 0, none⟩ = some (.slice (some ⟨gb, off, none⟩) L.length cap)) (hcell : ∀ j, j < L.length → w.cell? ⟨gb, off + j, none⟩ = some (.int .i64 (L.getD j 0))) (hT : ∀ b, T b → b < w.heap.size) :
    IterC Try.prog 37 #[.pointer (some ⟨bf, 0, none⟩), .pointer (some ⟨bb, 0, none⟩)] (fun k => #[.int .i64 (Rm.at_ L i0 k)]) none 0 T w := by
  intro l J Jx W hW hJ hJx hY h0 hN
  obtain ⟨N, hNb, hN'⟩ := hN rfl
  clear hN
  have hWs := hW.size
  have hcf' := (hW.cell (p := ⟨bf, 0, none⟩) (hT bf hTf)).trans hcf
  have hcb' := (hW.cell (p := ⟨bb, 0, none⟩) (hT bb hTb)).trans hcb
  have hcell' : ∀ j, j < L.length → W.cell? ⟨gb, off + j, none⟩ = some (.int .i64 (L.getD j 0)) := fun j hj => (hW.cell (p := ⟨gb, off + j, none⟩) (hT gb hTg)).trans (hcell j hj)
  have HCell := hid hcell'
  have HY := hid hY
  have HJ := hid hJ
  have HJx := hid hJx
  have HN := hid hN'
  have Hi := hid hi
  clear hY hJ hcf hcb hcell hcell' hJx hN' hi
  refine calls_of_wp Try.func37 rfl ?_
  simp only [Try.ntmps37, List.size_toArray, List.length_cons, List.length_nil, Nat.reduceAdd, Nat.reduceSub, Array.replicate_succ, Array.replicate_zero, List.push_toArray, List.append_toArray, List.nil_append, List.cons_append]
  go_wp2
  refine (wpIn_wide (n := 1)).1 ?_
  gi_loopg [4] N (fun g v wr => ∃ n p : Nat, n + g = N ∧ p < L.length ∧ v = .int .i64 p ∧ Hid (p = (i0 + n) % L.length) ∧ J n wr ∧ KeepT T W wr)
  case atStart => exact ⟨0, i0, by omega, Hi.out, rfl, by rw [Hid, Nat.add_zero, Nat.mod_eq_of_lt Hi.out], h0, KeepT.refl _ _⟩
  case round =>
    clear h0
    obtain ⟨n, p, hng, hp, rfl, hpe, hJn, hK⟩ := hrel
    have hf := hK.cell hcf' hTf
    have hb := hK.cell hcb' hTb
    have hc := hK.cell (HCell.out p hp) hTg
    have hgk : 0 < gk := by
      rcases Nat.eq_zero_or_pos gk with h | h
      · subst h
        exact absurd (by rw [Nat.add_zero] at hng; rw [← hng]; exact hJn : J N wr) (HN.out wr)
      · exact h
    have hY := HY.out n wr (fun n hn => by cases hn) hJn
    have hxs : Rm.at_ L i0 n = L.getD p 0 := by rw [Rm.at_, hpe.out]
    rw [hxs] at hY
    obtain ⟨x, hx⟩ : ∃ x, x = L.getD p 0 := ⟨_, rfl⟩
    rw [← hx] at hc hY
    have HNG := hid hng
    clear hxs hx hJn hng
    obtain ⟨fn, tmps, assign, body, hy, hR⟩ := hY
    have hpb : p ≤ 100000 := by omega
    have hlb : (L.length : Int) ≤ 100000 := by omega
    have hln : ¬ (L.length : Int) = 0 := by omega
    have hln2 : ¬ L.length = 0 := by omega
    gi_wp2
    refine hR.mono ?_
    rintro e W3 (⟨rfl, hJ3, hk3⟩ | ⟨rfl, hJx3⟩)
    · have hK3 := hK.trans (hk3.mono (fun b hb => .inl hb))
      have hf3 := hK3.cell hcf' hTf
      have hb3 := hK3.cell hcb' hTb
      clear hf hb hc hk3 hK
      gi_wp2
      gi_roundg (gk - 1)
      case measure => omega
      case rel =>
        refine ⟨n + 1, (p + 1) % L.length, by have := HNG.out; omega, Nat.mod_lt _ hL0, ?_, ?_, hJ3, hK3⟩
        · push_cast; rfl
        · rw [Hid, hpe.out, ← Nat.add_assoc, Nat.mod_add_mod]
    · gi_wp2
      go_end0
      exact ⟨⟨_, rfl⟩, .inr ⟨_, hJx3⟩⟩
end Go.Proofs.Ytloldjmibjkkkaa
