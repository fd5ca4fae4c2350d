/- gold.Bits for an invalid initial value; an append of one element inside a round; a function with two ranges over functions. -/
import Derived.Test.YtmiaddcjedjjdaaBits
import Derived.Test.YtmiaddcjedjjdaaRoom
namespace Go.Proofs.Ytmiaddcjedjjdaa
open Go.RowKit
set_option linter.unusedVariables false
attribute [local go_sem] Oper.semAt_some
theorem bits1_none (i B : Nat) (hi : 2147483648 ≤ i) (hi2 : i < 4294967296) (T : Nat → Prop) (hTB : T B) (w : World) (hc0 : w.cell? ⟨B, 0, none⟩ = some (.int .u32 i)) (hT : ∀ b, T b → b < w.heap.size) (xs : Nat → Array Value) :
    IterC Try.prog 25 #[.pointer (some ⟨B, 0, none⟩)] xs (some 0) 1 T w := by
  intro l J Jx W hW hJ hJx hY h0 hN
  clear hN hY
  have hWs := hW.size
  have hc0' := (hW.cell (p := ⟨B, 0, none⟩) (hT B hTB)).trans hc0
  have HJ := hid hJ
  have hd : ((i : Int) / 2147483648 == 0) = false := by rw [beq_eq_false_iff_ne]; omega
  have hi3 := hid hi
  have hi4 : (i : Int) < 4294967296 := by omega
  clear hJ hc0 hJx hi hi2
  refine calls_of_wp Try.func25 rfl ?_
  simp only [Try.ntmps25, List.size_toArray, List.length_cons, List.length_nil, Nat.reduceAdd, Nat.reduceSub, Array.replicate_succ, Array.replicate_zero, List.push_toArray, List.append_toArray, List.nil_append, List.cons_append]
  go_step3
  go_wp2
  go_step3
  go_wp2
  generalize hW2 : World.alloc _ _ = W2
  have hB2 : Below W.heap.size W W2 := by rw [← hW2]; exact (Below.refl _ _).alloc (Nat.le_refl _) _
  have hcc2 := (hB2.cell (p := ⟨B, 0, none⟩) (Nat.lt_of_lt_of_le (hT B hTB) hWs)).trans hc0'
  have hJ2 : J 0 W2 := HJ.out _ _ _ h0 ((Fr.of_below hB2).mono (fun k hk h => by omega))
  clear hW2 hB2 hc0' h0
  refine wp_loop_rounds 1 ?_
  rw [rounds_succ]
  go_wp2
  rw [Exit.noGoto_normal]
  go_end0
  exact ⟨⟨_, rfl⟩, .inl ⟨_, rfl, hJ2⟩⟩
section app
variable {P : Program}
theorem wpListIn_append_one {F : Fence} {m : Nat} {ops : Array Oper} {rest : List Oper} {o : Oper} {a : Act} {w : World} {Q : Exit → Act → World → Prop} (hgd : o.guard = none) (hab : ∀ w', o.about P w' a.eval = none) {t e : TypeId} {bytes : Nat} {z : Value} (E : Elem1 P t e bytes z) (s x : Operand)
    (ho : o.op = .call { callee := .builtin .append, args := #[s, x], argTypes := #[t, t] })
    (base : Nat) (v : Value) (n : Nat) (xs : List Value) (hn : xs.length = n) (hs : a.eval s = v) (hown : OwnL w base e v xs) (u : Value) (hu : u.oneCell' = true)
    (hx : a.eval x = .slice (some ⟨w.heap.size, 0, none⟩) 1 1) (hlen : (n + 1) * bytes ≤ 140737488355328) (hmax : n + 1 ≤ 9223372036854775807) (hbase : base ≤ w.heap.size)
    (h : ∀ g cap w', OwnL w' base e (.slice (some ⟨g, 0, none⟩) (n + 1) cap) (xs ++ [u]) → Fr (fun k => v.ownBlock = some k) w w' → wpListIn F m P ops Q rest (a.put o.dst (.slice (some ⟨g, 0, none⟩) (n + 1) cap)) w') :
    wpListIn F m P ops Q (o :: rest) a (w.alloc (.cells #[u] e)) := by
  subst hn
  obtain ⟨g, cap, w', hr, h1, h2⟩ := exec_append_one E s x ho base v xs hs hown u hu hx hlen hmax hbase
  exact wpListIn_run_value hgd (hab _) (fun c h => by rw [ho] at h; cases h) hr (h g cap w' h1 h2)
end app
theorem bodyPostM_ret2 {F : Fence} {n : Nat} {P : Program} {fn : Func} {R : Ending → World → Prop} {a : Act} {w : World} {D1 D2 : Nat} {v : Value} (hK1 : w.heap[D1]? = some (.deferred (some []))) (hK2 : w.heap[D2]? = some (.deferred (some []))) (hne : D2 ≠ D1)
    (hd : a.defers = [{ target := .collected D1, args := #[] }, { target := .collected D2, args := #[] }])
    (hr : (results fn a.tmps).run P ((w.putObj D1 (.deferred none)).putObj D2 (.deferred none)) = .ok v ((w.putObj D1 (.deferred none)).putObj D2 (.deferred none))) (hR : R (.returned v) ((w.putObj D1 (.deferred none)).putObj D2 (.deferred none))) : bodyPostM F n P fn R .ret a w := by
  show LeavesInM F n P fn a.tmps R a.defers .returning w
  rw [hd]
  exact ⟨by simp, .inl ⟨D1, _, rfl, run_takeDeferred hK1, ⟨by simp, .inl ⟨D2, _, rfl, run_takeDeferred ((World.putObj_heap_other hne).trans hK2), ⟨v, hr, hR⟩⟩⟩⟩⟩
end Go.Proofs.Ytmiaddcjedjjdaa
