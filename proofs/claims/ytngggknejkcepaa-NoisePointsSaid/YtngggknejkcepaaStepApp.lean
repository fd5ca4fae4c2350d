/- append of one element to a slice of one's own, as a step of a region that draws its order. -/
import Derived.Test.YtngggknejkcepaaApp
import Derived.Deep.RegionLaw
namespace Go.Proofs.Ytngggknejkcepaa
open Go.RowKit
section app
variable {P : Program}
theorem step_append_one {ops : Array Oper} {o : Oper} {a : Act} {w : World} {K : Act → World → Prop} {Q : Exit → Act → World → Prop} {E' : Prop} (hg : o.guard = none) {t e : TypeId} {bytes : Nat} {z : Value} (E : Elem1 P t e bytes z) (s x : Operand)
    (ho : o.op = .call { callee := .builtin .append, args := #[s, x], argTypes := #[t, t] })
    (base : Nat) (v : Value) (n : Nat) (xs : List Value) (hn : xs.length = n) (hs : a.eval s = v) (hown : OwnL w base e v xs) (u : Value) (hu : u.oneCell' = true)
    (hx : a.eval x = .slice (some ⟨w.heap.size, 0, none⟩) 1 1) (hlen : (n + 1) * bytes ≤ 140737488355328) (hmax : n + 1 ≤ 9223372036854775807) (hbase : base ≤ w.heap.size)
    (hK : ∀ g cap w', OwnL w' base e (.slice (some ⟨g, 0, none⟩) (n + 1) cap) (xs ++ [u]) → Fr (fun k => v.ownBlock = some k) w w' → K (a.put o.dst (.slice (some ⟨g, 0, none⟩) (n + 1) cap)) w') :
    if Region.wanted o (yielded ops a.tmps) = true then Oper.wp P o a (w.alloc (.cells #[u] e)) K Q else E' := by
  have hw : Region.wanted o (yielded ops a.tmps) = true := by simp [Region.wanted, hg]
  rw [if_pos hw]
  subst hn
  obtain ⟨g, cap, w', hr, h1, h2⟩ := exec_append_one E s x ho base v xs hs hown u hu hx hlen hmax hbase
  unfold Oper.wp
  rw [hr]
  exact hK g cap w' h1 h2
end app
end Go.Proofs.Ytngggknejkcepaa
