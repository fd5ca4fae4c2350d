/- append([]T{}, xs...): a copy of a slice. -/
import Derived.Test.YtngggknejkcepaaApp
namespace Go.Proofs.Ytngggknejkcepaa
open Go.RowKit
section app
variable {P : Program}
theorem exec_copy_list {o : Oper} {a : Act} {w : World} {t e : TypeId} {bytes : Nat} {z : Value} (E : Elem1 P t e bytes z) (s x : Operand)
    (ho : o.op = .call { callee := .builtin .append, args := #[s, x], argTypes := #[t, t] })
    (hs : a.eval s = .slice (some ⟨w.heap.size, 0, none⟩) 0 0) (vx : Value) (ys : List Value) (hx : a.eval x = vx) (hy : Vw w vx ys) (h1 : ∀ u ∈ ys, u.oneCell' = true)
    (hlen : ys.length * bytes ≤ 140737488355328) (hmax : ys.length ≤ 9223372036854775807) :
    ∃ v' w', (execOp a.eval o).run P (w.alloc (.cells #[] e)) = .ok (.value v') w' ∧ OwnL w' w.heap.size e v' ys ∧ Below w.heap.size w w' := by
  have hown : OwnL (w.alloc (.cells #[] e)) w.heap.size e (.slice (some ⟨w.heap.size, 0, none⟩) 0 0) [] := OwnL.made w w.heap.size e [] (Nat.le_refl _) (by simp)
  obtain ⟨v', w', hr, h2, h3⟩ := exec_append_list E s x ho w.heap.size _ [] hs hown vx ys hx (hy.below (below_alloc w _) (Nat.le_refl _)) h1 (by simpa using hlen) (by simpa using hmax) (by simp)
  refine ⟨v', w', hr, by simpa using h2, (below_alloc w _).trans (h3.below (by simp) (fun k hk e => ?_))⟩
  simp [Value.ownBlock] at e
  omega
theorem wpList_copy_list {ops : Array Oper} {rest : List Oper} {o : Oper} {a : Act} {w : World} {Q : Exit → Act → World → Prop} (hgd : o.guard = none) {t e : TypeId} {bytes : Nat} {z : Value} (E : Elem1 P t e bytes z) (s x : Operand)
    (ho : o.op = .call { callee := .builtin .append, args := #[s, x], argTypes := #[t, t] })
    (hs : a.eval s = .slice (some ⟨w.heap.size, 0, none⟩) 0 0) (vx : Value) (ys : List Value) (hx : a.eval x = vx) (hy : Vw w vx ys) (h1 : ∀ u ∈ ys, u.oneCell' = true)
    (hlen : ys.length * bytes ≤ 140737488355328) (hmax : ys.length ≤ 9223372036854775807)
    (h : ∀ v' w', OwnL w' w.heap.size e v' ys → Below w.heap.size w w' → wpList P ops Q rest (a.put o.dst v') w') :
    wpList P ops Q (o :: rest) a (w.alloc (.cells #[] e)) := by
  obtain ⟨v', w', hr, h2, h3⟩ := exec_copy_list E s x ho hs vx ys hx hy h1 hlen hmax
  exact wpList_run_value hgd hr (h v' w' h2 h3)
end app
end Go.Proofs.Ytngggknejkcepaa
