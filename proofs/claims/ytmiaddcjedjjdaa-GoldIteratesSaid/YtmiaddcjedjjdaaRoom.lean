/- append of one element where there is room. -/
import Derived.Test.YtmiaddcjedjjdaaApp
import Derived.OwnWalkIn
namespace Go.Proofs.Ytmiaddcjedjjdaa
open Go.RowKit
section app
variable {P : Program}
theorem exec_append_room1 {o : Oper} {a : Act} {w : World} {t e : TypeId} {bytes : Nat} {z : Value} (E : Elem1 P t e bytes z) (s x : Operand)
    (ho : o.op = .call { callee := .builtin .append, args := #[s, x], argTypes := #[t, t] })
    (base g n cap : Nat) (xs : List Value) (hs : a.eval s = .slice (some ⟨g, 0, none⟩) n cap) (hown : OwnL w base e (.slice (some ⟨g, 0, none⟩) n cap) xs) (u : Value) (hu : u.oneCell' = true)
    (hx : a.eval x = .slice (some ⟨w.heap.size, 0, none⟩) 1 1) (hroom : n + 1 ≤ cap) :
    ∃ w', (execOp a.eval o).run P (w.alloc (.cells #[u] e)) = .ok (.value (.slice (some ⟨g, 0, none⟩) (n + 1) cap)) w' ∧
      OwnL w' base e (.slice (some ⟨g, 0, none⟩) (n + 1) cap) (xs ++ [u]) ∧ Fr (fun k => k = g) w w' := by
  obtain ⟨i, hi, hz, hsz, hby⟩ := E.info
  have hown' := World.ownsRow.alloc hown (.cells #[u] e)
  have hgl : g < w.heap.size := (hown.block (g := g) rfl).2
  rcases hown'.2 with ⟨h1, _⟩ | ⟨g', cap', cur, he, hbg, hg, hnc, hcm, hcs, htake⟩
  · cases h1
  · cases he
    have hl := hown.1
    have hfit : xs.length * i.size + [u].length ≤ cur.size := by rw [hcs, hsz]; simp; omega
    have hr := run_append_room (P := P) (w.alloc (.cells #[u] e)) t o.type e i E.slice hi g xs.length cap cur hg ⟨w.heap.size, 0, none⟩ 1 1 [u] (by rw [hsz]; rfl) (cell_one_new w u e) (by intro y hy; simp at hy; subst hy; exact hu) hroom hfit
    have hrun : (execOp a.eval o).run P (w.alloc (.cells #[u] e)) = .ok (.value (.slice (some ⟨g, 0, none⟩) (xs.length + 1) cap)) ((w.alloc (.cells #[u] e)).setRow g (cur.toList.take (xs.length * i.size) ++ [u] ++ cur.toList.drop (xs.length * i.size + [u].length)).toArray) := by
      unfold execOp
      simp only [ho, resolve, invoke, builtin, Sem.run_bind, Sem.run_pure, Result.andThen_ok, List.map_toArray, List.map_cons, List.map_nil, hs, hx, hr]
    refine ⟨_, hrun, ⟨by simp, .inr ⟨g, cap, _, by rw [List.length_append]; rfl, hbg, setRow_heap _ g cur _ e _ hg, by simpa using hroom, hcm, ?_, ?_⟩⟩, (Fr.alloc _ w _).trans (Fr.setRow _ g _ rfl)⟩
    · simp only [List.size_toArray, List.length_append, List.length_take, List.length_drop, Array.length_toList, List.length_singleton]
      rw [hsz] at hfit ⊢
      simp at hfit
      omega
    · rw [hsz, htake, Nat.mul_one]
      exact List.take_left
theorem wpListIn_append_room1 {F : Fence} {m : Nat} {ops : Array Oper} {rest : List Oper} {o : Oper} {a : Act} {w : World} {Q : Exit → Act → World → Prop} (hgd : o.guard = none) (hab : ∀ w', o.about P w' a.eval = none) {t e : TypeId} {bytes : Nat} {z : Value} (E : Elem1 P t e bytes z) (s x : Operand)
    (ho : o.op = .call { callee := .builtin .append, args := #[s, x], argTypes := #[t, t] })
    (base g n cap : Nat) (xs : List Value) (hs : a.eval s = .slice (some ⟨g, 0, none⟩) n cap) (hown : OwnL w base e (.slice (some ⟨g, 0, none⟩) n cap) xs) (u : Value) (hu : u.oneCell' = true)
    (hx : a.eval x = .slice (some ⟨w.heap.size, 0, none⟩) 1 1) (hroom : n + 1 ≤ cap)
    (h : ∀ w', OwnL w' base e (.slice (some ⟨g, 0, none⟩) (n + 1) cap) (xs ++ [u]) → Fr (fun k => k = g) w w' → wpListIn F m P ops Q rest (a.put o.dst (.slice (some ⟨g, 0, none⟩) (n + 1) cap)) w') :
    wpListIn F m P ops Q (o :: rest) a (w.alloc (.cells #[u] e)) := by
  obtain ⟨w', hr, h1, h2⟩ := exec_append_room1 E s x ho base g n cap xs hs hown u hu hx hroom
  exact wpListIn_run_value hgd (hab _) (fun c h => by rw [ho] at h; cases h) hr (h w' h1 h2)
theorem OwnL.empty (w : World) (base : Nat) (e : TypeId) (m : Nat) (z : Value) (hb : base ≤ w.heap.size) (hm : m ≤ 9223372036854775807) :
    OwnL (w.alloc (.cells (Array.replicate m z) e)) base e (.slice (some ⟨w.heap.size, 0, none⟩) 0 m) [] := by
  refine ⟨rfl, .inr ⟨w.heap.size, m, _, rfl, hb, heap_alloc_new w _, Nat.zero_le _, by unfold maxLen; omega, by simp, by simp⟩⟩
end app
end Go.Proofs.Ytmiaddcjedjjdaa
