/- append of a whole slice to a slice of one's own. -/
import Derived.Test.YtighnjbcnfnpmaaLib
import Derived.Laws.OwnMore
namespace Go.Proofs.Ytighnjbcnfnpmaa
open Go.RowKit
section app
variable {P : Program}
theorem run_append_none0 {w : World} (base : Nat) (t ty e : TypeId) (i : TypeInfo) (size : Nat) (c : Nat) (ht : P.underlying t = some (.slice e)) (hi : P.info? e = some i)
    (v : Value) (n : Nat) (xs : List Value) (hown : w.ownsRow base e size v n xs) :
    (Builtin.append_ #[t, t] ty #[v, .slice none 0 c]).run P w = .ok v w := by
  rcases hown.2 with ⟨rfl, rfl⟩ | ⟨g, cap, cur, rfl, _, _, hnc, _⟩
  · simp [Builtin.append_, run_underlying ht, sizeOf, typeInfo, hi, Builtin.lenOf, Builtin.firstCells]
  · simp [Builtin.append_, run_underlying ht, sizeOf, typeInfo, hi, Builtin.lenOf, Builtin.firstCells, hnc, storeCells]
theorem exec_append_list {o : Oper} {a : Act} {w : World} {t e : TypeId} {bytes : Nat} {z : Value} (E : Elem1 P t e bytes z) (s x : Operand)
    (ho : o.op = .call { callee := .builtin .append, args := #[s, x], argTypes := #[t, t] })
    (base : Nat) (v : Value) (xs : List Value) (hs : a.eval s = v) (hown : OwnL w base e v xs) (vx : Value) (ys : List Value) (hx : a.eval x = vx) (hy : Vw w vx ys) (h1 : ∀ u ∈ ys, u.oneCell' = true)
    (hlen : (xs.length + ys.length) * bytes ≤ 140737488355328) (hmax : xs.length + ys.length ≤ 9223372036854775807) (hbase : base ≤ w.heap.size) :
    ∃ v' w', (execOp a.eval o).run P w = .ok (.value v') w' ∧ OwnL w' base e v' (xs ++ ys) ∧ Fr (fun k => v.ownBlock = some k) w w' := by
  obtain ⟨i, hi, hz, hsz, hby⟩ := E.info
  have hzs : z.cells.size = 1 := by rw [E.one]; rfl
  obtain ⟨ad, c, rfl, hcell⟩ := hy
  cases ad with
  | none =>
    have hy0 : ys = [] := by
      cases ys with
      | nil => rfl
      | cons u l => obtain ⟨b, off, h, _⟩ := hcell 0 (by simp); cases h
    subst hy0
    have hr := run_append_none0 (P := P) base t o.type e i 1 c E.slice hi v xs.length xs hown
    refine ⟨v, w, ?_, by simpa using hown, Fr.refl _ _⟩
    unfold execOp
    simp only [ho, resolve, invoke, builtin, Sem.run_bind, Sem.run_pure, Result.andThen_ok, List.map_toArray, List.map_cons, List.map_nil, hs, hx, List.length_nil, hr]
  | some ad =>
    obtain ⟨v', w', hr, h2, h3, h4⟩ := run_append_own (P := P) w base t o.type e i z 1 bytes E.slice hi hz hsz hby hzs (by decide) v xs.length xs hown
      ad ys.length c ys (by simp) (by
        intro j u hj
        obtain ⟨hj1, rfl⟩ := List.getElem?_eq_some_iff.1 hj
        obtain ⟨b, off, h, hc⟩ := hcell j hj1
        cases h
        have e : (⟨b, off, none⟩ : Addr).add j = ⟨b, off + j, none⟩ := by
          unfold Addr.add
          by_cases hj0 : j = 0
          · subst hj0; simp
          · simp [hj0]
        rw [e]; exact hc) h1 (by unfold maxLen; omega) hlen hbase
    refine ⟨v', w', ?_, ?_, Fr.of_grownBy h3⟩
    · unfold execOp
      simp only [ho, resolve, invoke, builtin, Sem.run_bind, Sem.run_pure, Result.andThen_ok, List.map_toArray, List.map_cons, List.map_nil, hs, hx, hr]
    · unfold OwnL
      simpa using h2
theorem wpList_append_list {ops : Array Oper} {rest : List Oper} {o : Oper} {a : Act} {w : World} {Q : Exit → Act → World → Prop} (hgd : o.guard = none) {t e : TypeId} {bytes : Nat} {z : Value} (E : Elem1 P t e bytes z) (s x : Operand)
    (ho : o.op = .call { callee := .builtin .append, args := #[s, x], argTypes := #[t, t] })
    (base : Nat) (v : Value) (xs : List Value) (hs : a.eval s = v) (hown : OwnL w base e v xs) (vx : Value) (ys : List Value) (hx : a.eval x = vx) (hy : Vw w vx ys) (h1 : ∀ u ∈ ys, u.oneCell' = true)
    (hlen : (xs.length + ys.length) * bytes ≤ 140737488355328) (hmax : xs.length + ys.length ≤ 9223372036854775807) (hbase : base ≤ w.heap.size)
    (h : ∀ v' w', OwnL w' base e v' (xs ++ ys) → Fr (fun k => v.ownBlock = some k) w w' → wpList P ops Q rest (a.put o.dst v') w') :
    wpList P ops Q (o :: rest) a w := by
  obtain ⟨v', w', hr, h1, h2⟩ := exec_append_list E s x ho base v xs hs hown vx ys hx hy h1 hlen hmax hbase
  exact wpList_run_value hgd hr (h v' w' h1 h2)
end app
theorem OwnL.nil' {w : World} {base : Nat} {e : TypeId} {k : IntKind} {L : List Int} (h : L = []) : OwnL w base e (.slice none 0 0) (L.map (Value.int k)) := by
  subst h; exact OwnL.nil _ _ _
theorem OwnL.is_slice {w : World} {base : Nat} {e : TypeId} {v : Value} {xs : List Value} (h : OwnL w base e v xs) : ∃ a c, v = .slice a xs.length c := by
  obtain ⟨a, c, rfl, _⟩ := h.vw
  exact ⟨a, c, rfl⟩
theorem OwnL.shape' {w : World} {base : Nat} {e : TypeId} {a : Option Addr} {n c : Nat} {xs : List Value} (h : OwnL w base e (.slice a n c) xs) (h0 : xs.length ≠ 0) : ∃ g, a = some ⟨g, 0, none⟩ := by
  obtain ⟨g, cap, e⟩ := h.shape xs.length rfl h0
  cases e
  exact ⟨g, rfl⟩
theorem one_ints (k : IntKind) (B : List Int) : ∀ u ∈ B.map (Value.int k), u.oneCell' = true := by
  intro u hu
  obtain ⟨n, _, rfl⟩ := List.mem_map.1 hu
  rfl
end Go.Proofs.Ytighnjbcnfnpmaa
