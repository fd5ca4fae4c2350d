/- Ranges over functions: an iterator's contract by the number of rounds, and the law for the statement. -/
import Derived.Test.YtngggknejkcepaaLib
import Derived.StillTailTactics
import Derived.OrdersIn
import Derived.Shelf.Abstract
import Derived.RangeFuncKeeps
import Derived.RangeFuncBound
import Derived.RangeFuncCalls
import Derived.RangeFuncLeaves
import Derived.OwnWalkIn
import Derived.TacticsInMore
import Derived.LoopNIn
import Derived.LoopIn
namespace Go.Proofs.Ytngggknejkcepaa
open Go.RowKit

/-- The blocks of T lie as they lay. -/
def KeepT (T : Nat → Prop) (W W' : World) : Prop := W.heap.size ≤ W'.heap.size ∧ ∀ k, k < W.heap.size → T k → W'.heap[k]? = W.heap[k]?
theorem KeepT.refl (T : Nat → Prop) (W : World) : KeepT T W W := ⟨Nat.le_refl _, fun _ _ _ => rfl⟩
theorem KeepT.trans {T : Nat → Prop} {a b c : World} (h : KeepT T a b) (k : KeepT T b c) : KeepT T a c :=
  ⟨Nat.le_trans h.1 k.1, fun i hi ht => (k.2 i (Nat.lt_of_lt_of_le hi h.1) ht).trans (h.2 i hi ht)⟩
theorem KeepT.of_fr {S T : Nat → Prop} {a b : World} (h : Fr S a b) (hs : ∀ k, T k → ¬ S k) : KeepT T a b := ⟨h.size, fun k hk ht => h.block k hk (hs k ht)⟩
theorem KeepT.mono {S T : Nat → Prop} {a b : World} (h : KeepT T a b) (hs : ∀ k, S k → T k) : KeepT S a b := ⟨h.1, fun k hk ht => h.2 k hk (hs k ht)⟩
theorem KeepT.cell {T : Nat → Prop} {W W' : World} (h : KeepT T W W') {p : Addr} {v : Value} (hc : W.cell? p = some v) (hT : T p.block) : W'.cell? p = some v :=
  (World.cell?_of_block (w := W) (h.2 p.block (World.block_lt_of_cell? W p hc) hT)).trans hc
theorem Fr.putObj {S : Nat → Prop} (W : World) (l : Nat) (o : Obj) (h : S l) : Fr S W (W.putObj l o) :=
  ⟨rfl, rfl, rfl, by simp, fun k _ hn => World.putObj_heap_other (fun e => hn (by rw [e]; exact h))⟩

/-- THE ITERATOR's CONTRACT: round k is handed 'xs k'; it ends behind 'fin' rounds, or never. It lays m blocks of its own at its start, and turns no other that lay before; the rounds keep these and R. -/
def IterC (P : Program) (gf : Nat) (lb : Array Value) (xs : Nat → Array Value) (fin : Option Nat) (m : Nat) (R : Nat → Prop) (w : World) : Prop :=
  ∀ (l : Nat) (J Jx : Nat → World → Prop) (W : World), Below w.heap.size w W →
    (∀ k A B, J k A → Fr (fun b => W.heap.size ≤ b ∧ b < W.heap.size + m) A B → J k B) →
    (∀ k A B, Jx k A → Fr (fun b => W.heap.size ≤ b ∧ b < W.heap.size + m) A B → Jx k B) →
    (∀ k W1, (∀ n, fin = some n → k < n) → J k W1 → YieldAt Fence.wide 0 P l (xs k) W1 fun e W' =>
      (e = .returned (.bool true) ∧ J (k + 1) W' ∧ KeepT (fun b => R b ∨ (W.heap.size ≤ b ∧ b < W.heap.size + m)) W1 W') ∨ (e = .returned (.bool false) ∧ Jx (k + 1) W')) →
    J 0 W → (fin = none → ∃ N, N ≤ 4611686018427387904 ∧ ∀ W', ¬ J N W') →
    Calls P gf (#[.func (.yield l) #[] #[]] ++ lb) W fun e W' => (∃ v, e = .returned v) ∧ ((∃ n, fin = some n ∧ J n W') ∨ (∃ k, Jx k W'))

/-- How the body of a round may be left. -/
def roundPostB (T : Nat → Prop) (I : Nat → World → Prop) (Ix : Nat → Code → World → Prop) (k : Nat) (W : World) : Exit → Act → World → Prop
  | .normal, _, W' => KeepT T W W' ∧ I k W'
  | .ret, _, W' => KeepT T W W' ∧ Ix k .ret W'
  | .exit id, _, W' => KeepT T W W' ∧ Ix k (.exit id) W'
  | .goto t, _, W' => KeepT T W W' ∧ Ix k (.goto t) W'
  | .panic _, _, _ => False
  | .outgrown, _, _ => False

theorem wpIn_range {P : Program} {g : Operand} {ps : Array Tmp} {assign body : Code} {Q : Exit → Act → World → Prop} {a : Act} {w : World}
    {gf : Nat} {lb : Array Value} (hg : a.eval g = .func (.func gf) #[] lb) (eg : ∀ args w, (callFunc gf args).run P w = .ok (.enter gf args) w)
    {xs : Nat → Array Value} {fin : Option Nat} {m : Nat} {R : Nat → Prop} {w0 : World} (hseq : IterC P gf lb xs fin m R w0) (hb0 : Below w0.heap.size w0 w) (hps : ∀ k, (xs k).size = ps.size)
    (I : Nat → World → Prop) (Ix : Nat → Code → World → Prop)
    (hI : ∀ k A B, I k A → Fr (fun b => w.heap.size ≤ b ∧ b < w.heap.size + 2 + m) A B → I k B)
    (hIx : ∀ k c A B, Ix k c A → Fr (fun b => w.heap.size ≤ b ∧ b < w.heap.size + 2 + m) A B → Ix k c B)
    (h0 : I 0 w) (hN : fin = none → ∃ N, N ≤ 4611686018427387904 ∧ ∀ W', ¬ I N W') (a₁ : Nat → Act)
    (hassign : ∀ (l : Nat) (k : Nat) (W : World) (K : Act → World → Prop), K (a₁ k) W →
      assign.wpIn (Fence.wide.inRound l) 0 P (Exit.then K (fun _ _ _ => False)) { tmps := (ps.zip (xs k)).foldl (fun t (p, v) => t.setIfInBounds p v) a.tmps, defers := [] } W)
    (hbody : ∀ (l : Nat) (k : Nat) (W : World), (∀ n, fin = some n → k < n) → I k W → w.heap.size + 2 ≤ W.heap.size →
      body.wpIn (Fence.wide.inRound l) 0 P (roundPostB (fun b => R b ∨ (w.heap.size ≤ b ∧ b < w.heap.size + 2 + m)) I Ix (k + 1) W) (a₁ k) W)
    (hdone : ∀ (D n : Nat) (W : World), fin = some n → I n W → W.heap[D]? = some (.deferred (some [])) → w.heap.size ≤ D → Q .normal { a with defers := { target := .collected D, args := #[] } :: a.defers } W)
    (hstop : ∀ (D : Nat) (c : Code) (k : Nat) (W : World), Ix k c W → W.heap[D]? = some (.deferred (some [])) → w.heap.size ≤ D → c.wpIn Fence.wide 1 P Q { a with defers := { target := .collected D, args := #[] } :: a.defers } W) :
    (Code.rangeFunc g ps assign body).wpIn Fence.wide 1 P Q a w := by
  refine wpIn_rangeFunc ?_
  intro fn hfn
  have hro : Fence.wide.round = none := rfl
  rw [hro]
  obtain ⟨rec, hrec⟩ : ∃ rec : LoopState → Option Code → Loop, rec = fun st pe => { state := st, pending := pe, fn, tmps := a.tmps, params := ps, assign, body, defers := w.heap.size } := ⟨_, rfl⟩
  obtain ⟨W1, hW1⟩ : ∃ W1, (w.alloc (.deferred (some []))).alloc (.loop (rec .ready none)) = W1 := ⟨_, rfl⟩
  have hs1 : W1.heap.size = w.heap.size + 2 := by rw [← hW1]; simp
  have hL1 : W1.heap[w.heap.size + 1]? = some (.loop (rec .ready none)) := by
    rw [← hW1]; have := World.alloc_heap_new (w.alloc (.deferred (some []))) (.loop (rec .ready none)); rwa [World.size_alloc] at this
  have hK1 : W1.heap[w.heap.size]? = some (.deferred (some [])) := by
    rw [← hW1]; exact (Below.heap_alloc _ _ _ (by simp)).trans (World.alloc_heap_new w _)
  have hf1 : Fr (fun b => w.heap.size ≤ b ∧ b < w.heap.size + 2 + m) w W1 := by rw [← hW1]; exact (Fr.alloc _ _ _).trans (Fr.alloc _ _ _)
  have hI1 : I 0 W1 := hI _ _ _ h0 hf1
  have hb1 : Below w0.heap.size w0 W1 := by
    rw [← hW1]; exact hb0.trans ((((Below.refl _ w).alloc (Nat.le_refl _) _).alloc (by simp) _).mono hb0.size)
  refine ⟨w.heap.size + 1, [{ target := .collected w.heap.size, args := #[] }], W1, { target := .fn (.func gf) lb, args := #[.func (.yield (w.heap.size + 1)) #[] #[]] }, W1, gf,
    #[.func (.yield (w.heap.size + 1)) #[] #[]] ++ lb, W1, ?_, ?_, ?_, ?_, fun _ => Nat.le_refl _, ?_⟩
  · rw [← hW1, hrec]; exact run_enterLoop_outer _ _ _ _ _
  · simp only [resolve, hg]
    simp [go_sem]
  · intro f' _; exact trivial
  · simp [invoke, go_sem, eg]
  · have hin : ∀ {A B : World}, Fr (fun b => W1.heap.size ≤ b ∧ b < W1.heap.size + m) A B → Fr (fun b => w.heap.size ≤ b ∧ b < w.heap.size + 2 + m) A B := fun h => h.mono (fun k _ hk => by simp only [hs1] at hk; omega)
    refine callsIn_wide.2 ((hseq (w.heap.size + 1)
      (fun k W => I k W ∧ W.heap[w.heap.size + 1]? = some (.loop (rec .ready none)) ∧ W.heap[w.heap.size]? = some (.deferred (some [])))
      (fun k W => ∃ c, Ix k c W ∧ W.heap[w.heap.size + 1]? = some (.loop (rec .done (some c))) ∧ W.heap[w.heap.size]? = some (.deferred (some [])))
      W1 hb1
      (fun k A B hs hfr => ⟨hI _ _ _ hs.1 (hin hfr), (hfr.block _ (Array.getElem?_eq_some_iff.1 hs.2.1).1 (by omega)).trans hs.2.1, (hfr.block _ (Array.getElem?_eq_some_iff.1 hs.2.2).1 (by omega)).trans hs.2.2⟩)
      (fun k A B hs hfr => by
        obtain ⟨c, hc, hl, hk⟩ := hs
        exact ⟨c, hIx _ _ _ _ hc (hin hfr), (hfr.block _ (Array.getElem?_eq_some_iff.1 hl).1 (by omega)).trans hl, (hfr.block _ (Array.getElem?_eq_some_iff.1 hk).1 (by omega)).trans hk⟩)
      ?_ ⟨hI1, hL1, hK1⟩ (fun hf => by obtain ⟨N, h0, h⟩ := hN hf; exact ⟨N, h0, fun W' h' => h W' h'.1⟩)).mono ?_)
    · -- ONE ROUND
      rintro k W hkn ⟨hi, hl, hk⟩
      have hlt : w.heap.size + 1 < W.heap.size := (Array.getElem?_eq_some_iff.1 hl).1
      have hy := run_yield (P := P) (args := xs k) hl (by rw [hrec]; exact hps k)
      rw [hrec] at hy
      refine ⟨fn, _, assign, body, hy, roundIn_of_wpIn hfn (hassign _ k W _ ⟨_, run_beginRound hl (by rw [hrec]), ?_⟩)⟩
      have hl2 : (W.putObj (w.heap.size + 1) (.loop { rec .ready none with state := .busy })).heap[w.heap.size + 1]? = some (.loop { rec .ready none with state := .busy }) := World.putObj_heap_same hlt
      have hk2 : (W.putObj (w.heap.size + 1) (.loop { rec .ready none with state := .busy })).heap[w.heap.size]? = some (.deferred (some [])) := (World.putObj_heap_other (by omega)).trans hk
      have hfp : ∀ (V : World) (o : Obj), Fr (fun b => w.heap.size ≤ b ∧ b < w.heap.size + 2 + m) V (V.putObj (w.heap.size + 1) o) := fun V o => Fr.putObj V _ o (by omega)
      refine wpIn_mono (hbody _ k _ hkn (hI _ _ _ hi (hfp _ _)) (by simp; omega)) ?_
      have fin' : ∀ (jump : Option Code) (W3 : World), KeepT (fun b => R b ∨ (w.heap.size ≤ b ∧ b < w.heap.size + 2 + m)) (W.putObj (w.heap.size + 1) (.loop { rec .ready none with state := .busy })) W3 →
          (Instr.endRound (w.heap.size + 1) jump).run P W3 = .ok (.bool jump.isNone) (W3.putObj (w.heap.size + 1) (.loop (rec (if jump.isNone then .ready else .done) jump))) ∧
          (W3.putObj (w.heap.size + 1) (.loop (rec (if jump.isNone then .ready else .done) jump))).heap[w.heap.size + 1]? = some (.loop (rec (if jump.isNone then .ready else .done) jump)) ∧
          (W3.putObj (w.heap.size + 1) (.loop (rec (if jump.isNone then .ready else .done) jump))).heap[w.heap.size]? = some (.deferred (some [])) := fun jump W3 hk3 => by
        have hl3 := (hk3.2 (w.heap.size + 1) (by simp; omega) (.inr (by omega))).trans hl2
        have hk3' := (hk3.2 (w.heap.size) (by simp; omega) (.inr (by omega))).trans hk2
        have := run_endRound (P := P) jump hl3
        rw [hrec] at this ⊢
        exact ⟨this, World.putObj_heap_same (Array.getElem?_eq_some_iff.1 hl3).1, (World.putObj_heap_other (by omega)).trans hk3'⟩
      rintro e a3 W3 hp
      cases e with
      | normal =>
        obtain ⟨hk3, hi3⟩ := hp
        obtain ⟨hr, hl4, hk4⟩ := fin' none W3 hk3
        refine ⟨_, _, hr, .inl ⟨rfl, ⟨hI _ _ _ hi3 (hfp _ _), hl4, hk4⟩, ?_⟩⟩
        have hT : ∀ b, (R b ∨ (W1.heap.size ≤ b ∧ b < W1.heap.size + m)) → b ≠ w.heap.size + 1 → (R b ∨ (w.heap.size ≤ b ∧ b < w.heap.size + 2 + m)) := fun b h _ => h.imp id (fun h => by omega)
        refine ⟨by have := hk3.1; simp at this ⊢; omega, fun b hb ht => ?_⟩
        by_cases hbe : b = w.heap.size + 1
        · subst hbe
          rw [hl4, hl, hrec]; rfl
        · rw [World.putObj_heap_other hbe, hk3.2 b (by simpa using hb) (hT b ht hbe), World.putObj_heap_other hbe]
      | ret =>
        obtain ⟨hk3, hi3⟩ := hp
        obtain ⟨hr, hl4, hk4⟩ := fin' (some .ret) W3 hk3
        exact ⟨_, _, hr, .inr ⟨rfl, .ret, hIx _ _ _ _ hi3 (hfp _ _), hl4, hk4⟩⟩
      | exit id =>
        obtain ⟨hk3, hi3⟩ := hp
        obtain ⟨hr, hl4, hk4⟩ := fin' (some (.exit id)) W3 hk3
        exact ⟨_, _, hr, .inr ⟨rfl, .exit id, hIx _ _ _ _ hi3 (hfp _ _), hl4, hk4⟩⟩
      | goto t =>
        obtain ⟨hk3, hi3⟩ := hp
        obtain ⟨hr, hl4, hk4⟩ := fin' (some (.goto t)) W3 hk3
        exact ⟨_, _, hr, .inr ⟨rfl, .goto t, hIx _ _ _ _ hi3 (hfp _ _), hl4, hk4⟩⟩
      | panic ch => exact hp.elim
      | outgrown => exact hp.elim
    · -- BEHIND THE ITERATOR
      have hfp : ∀ (V : World) (o : Obj), Fr (fun b => w.heap.size ≤ b ∧ b < w.heap.size + 2 + m) V (V.putObj (w.heap.size + 1) o) := fun V o => Fr.putObj V _ o (by omega)
      rintro e W2 ⟨⟨v, rfl⟩, (⟨n, hS, hi, hl, hk⟩ | ⟨k, c, hi, hl, hk⟩)⟩
      · exact ⟨none, _, by have := run_endLoop (P := P) hl (by rw [hrec]; simp); rw [hrec] at this; exact this, hdone _ n _ hS (hI _ _ _ hi (hfp _ _)) ((World.putObj_heap_other (by omega)).trans hk) (Nat.le_refl _)⟩
      · exact ⟨some c, _, by have := run_endLoop (P := P) hl (by rw [hrec]; simp); rw [hrec] at this; exact this, hstop _ c k _ (hIx _ _ _ _ hi (hfp _ _)) ((World.putObj_heap_other (by omega)).trans hk) (Nat.le_refl _)⟩

/-! A region that draws its order: reads and quiet calls, then a tail in one order; at the wide fence (the tail may call yield). -/
section tail
variable {P : Program} {ops : Array Oper} {md : Region.Mode} {w : World}
theorem Oper.wpIn_of_still {F : Fence} {n : Nat} (hfn : ∀ f, F.fn f) (hd : F.depth = none) (hcalls : ∀ f args w (R : Ending → World → Prop), Calls P f args w R → CallsIn F (n - 1) P f args w R)
    {o : Oper} {a : Act} {K : Act → Prop} {K' : Act → World → Prop} {Q' : Exit → Act → World → Prop} (hdf : ∀ c, o.op ≠ .defer c) (h : ∀ a, K a → K' a w) (hh : o.still P a w K) : o.wpIn F n P a w K' Q' := by
  unfold Oper.still at hh
  unfold Oper.wpIn
  refine ⟨fun f _ => hfn f, ?_⟩
  rw [Oper.semAt_eq _ _ _ hdf]
  generalize (execOp a.eval o).run P w = r at *
  cases r with
  | ok x w' =>
    cases x <;> simp only [Oper.stillUpon] at hh <;> simp only [Oper.uponIn]
    case enter f args =>
      obtain ⟨rfl, v, hc, hn⟩ := hh
      exact ⟨fun h' => (by rw [hd] at h'; cases h'), hcalls _ _ _ _ (hc.mono fun e w'' ⟨he, hw⟩ => by subst he; subst hw; exact h _ hn)⟩
    all_goals (obtain ⟨rfl, h2⟩ := hh; exact h _ h2)
  | halt x w' => simp only [Oper.stillUpon] at hh
theorem wpOpIn_of_stOp {F : Fence} {n : Nat} (hfn : ∀ f, F.fn f) (hd : F.depth = none) (hcalls : ∀ f args w (R : Ending → World → Prop), Calls P f args w R → CallsIn F (n - 1) P f args w R)
    (hndf : ∀ (i : Nat) (o : Oper) (c : Call), ops[i]? = some o → o.op ≠ .defer c) {i : Nat} {a : Act} {K : Act → Prop} {K' : Act → World → Prop} {Q' : Exit → Act → World → Prop} (h : ∀ a, K a → K' a w) (hh : stOp P ops w i K a) : wpOpIn F n P ops Q' i K' a w := by
  unfold stOp at hh
  unfold wpOpIn
  split
  · rename_i ho; simp only [ho] at hh; exact h _ hh
  · rename_i o ho
    simp only [ho] at hh
    split
    · rename_i hw; simp only [hw, if_true] at hh; exact Oper.wpIn_of_still hfn hd hcalls (fun c => hndf i o c ho) h hh
    · rename_i hw; simp only [hw] at hh; exact ⟨fun f _ => hfn f, h _ hh⟩
theorem wpAnyIn_of_head {F : Fence} {m : Nat} (hfn : ∀ f, F.fn f) (hd : F.depth = none) (hcalls : ∀ f args w (R : Ending → World → Prop), Calls P f args w R → CallsIn F (m - 1) P f args w R)
    (hndf : ∀ (i : Nat) (o : Oper) (c : Call), ops[i]? = some o → o.op ≠ .defer c) {n g : Nat} {L : Array Bool → Act → Prop} {Q' : Exit → Act → World → Prop} (hL : ∀ listed a, L listed a → wpAnyIn F m P md ops Q' g listed a w) :
    ∀ (f : Nat) (listed : Array Bool) (a : Act), wpAnyL P md ops w n L f listed a → wpAnyIn F m P md ops Q' (f + g) listed a w
  | 0, listed, a, h => by rw [Nat.zero_add]; exact hL _ _ h
  | f + 1, listed, a, h => by
    rw [show f + 1 + g = (f + g) + 1 by omega]
    exact ⟨fun h0 => absurd h0 h.1, fun i hi => wpOpIn_of_stOp hfn hd hcalls hndf (fun a' h' => wpAnyIn_of_head hfn hd hcalls hndf hL f _ a' h') (h.2 i hi).2⟩
theorem wpAnyIn_of_seq {F : Fence} {m : Nat} {Q' : Exit → Act → World → Prop} : ∀ (l : List Oper) (k : Nat) (listed : Array Bool) (a : Act) (w : World), (∀ j, l[j]? = ops[k + j]?) →
    Region.seqB md ops l.length k listed = true → wpListIn F m P ops Q' l a w → wpAnyIn F m P md ops Q' l.length listed a w
  | [], _, _, _, _, _, hB, h => ⟨by simpa [Region.seqB] using hB, h⟩
  | o :: l, k, listed, a, w, hl, hB, h => by
    have h0 : ops[k]? = some o := by simpa using (hl 0).symm
    simp only [List.length_cons, Region.seqB, Bool.and_eq_true, decide_eq_true_eq] at hB
    refine ⟨fun h1 => (by rw [hB.1] at h1; cases h1), fun i hi => ?_⟩
    rw [hB.1] at hi
    have hik : i = k := by simpa using hi
    subst hik
    have hw : wpOpIn F m P ops Q' i (wpListIn F m P ops Q' l) a w := by unfold wpOpIn; simp only [h0]; exact h
    exact wpOpIn_mono (fun a' w' h' => wpAnyIn_of_seq l (i + 1) _ a' w' (fun j => by have := hl (j + 1); simpa [Nat.add_assoc, Nat.add_comm 1 j] using this) hB.2 h') hw
theorem wpIn_region_still_tail {F : Fence} {m : Nat} (hfn : ∀ f, F.fn f) (hd : F.depth = none) (hcalls : ∀ f args w (R : Ending → World → Prop), Calls P f args w R → CallsIn F (m - 1) P f args w R)
    {id : Nat} {Q : Exit → Act → World → Prop} {a : Act} {l : List Oper} (n : Nat) (hm : P.follows .mixedOrders = true) (hB : Region.lexTailB .any l.toArray n = true) (hndf : (l.all fun o => match o.op with | .defer _ => false | _ => true) = true)
    (h : wpStill P l.toArray w.drew (fun a' => wpListIn F m P l.toArray Q (l.drop n) a' w.drew) (l.take n) a) : (Code.region id l.toArray true).wpIn F m P Q a w := by
  simp only [Region.lexTailB, Bool.and_eq_true, decide_eq_true_eq] at hB
  obtain ⟨⟨⟨⟨hsel, hn⟩, hs⟩, hc⟩, hlex⟩ := hB
  have hn' : n < l.length := by simpa using hn
  have htl : (l.take n).length = n := by simp; omega
  have hdl : (l.drop n).length = l.toArray.size - n := by simp
  have hnd : ∀ (i : Nat) (o : Oper) (c : Call), l.toArray[i]? = some o → o.op ≠ .defer c := fun i o c ho e => by
    have := List.all_eq_true.1 hndf o (List.mem_of_getElem? (by simpa using ho))
    rw [e] at this; cases this
  have inv0 : HeadInv .any l.toArray n (Array.replicate l.toArray.size false) :=
    ⟨by simp, fun j oj _ hl => (by rw [getD_replicate_false] at hl; cases hl), fun t _ ht => getD_in (by simpa using ht) (getD_replicate_false _ _)⟩
  have H := wpAnyL_lex (md := .any) (g := l.toArray.size - n) hsel hs hc hn (l.take n) 0 _ a (fun j hj => by
    have hj' : j < n := by rw [htl] at hj; exact hj
    simp [hj']) (by simpa using htl) inv0 (by rw [htl]; exact hlex) h
  refine wpIn_region_any hm ?_
  have := wpAnyIn_of_head (m := m) (Q' := Q) hfn hd hcalls hnd (g := l.toArray.size - n) (fun listed a' hL => by
    have := wpAnyIn_of_seq (md := .any) (F := F) (m := m) (Q' := Q) (l.drop n) n listed a' w.drew (fun j => by simp [List.getElem?_drop]) (by rw [hdl]; exact hL.1) hL.2
    rwa [hdl] at this) _ _ _ H
  rw [htl, show n + (l.toArray.size - n) = l.toArray.size by omega] at this
  exact this
theorem wpIn_tail_wide {m id : Nat} {Q : Exit → Act → World → Prop} {a : Act} {l : List Oper} (n : Nat) (hm : P.follows .mixedOrders = true) (hB : Region.lexTailB .any l.toArray n = true) (hndf : (l.all fun o => match o.op with | .defer _ => false | _ => true) = true)
    (h : wpStill P l.toArray w.drew (fun a' => wpListIn Fence.wide m P l.toArray Q (l.drop n) a' w.drew) (l.take n) a) : (Code.region id l.toArray true).wpIn Fence.wide m P Q a w :=
  wpIn_region_still_tail (fun _ => trivial) rfl (fun _ _ _ _ h => callsIn_wide.2 h) n hm hB hndf h
theorem wpIn_tail_round {m id r : Nat} {Q : Exit → Act → World → Prop} {a : Act} {l : List Oper} (n : Nat) (hm : P.follows .mixedOrders = true) (hB : Region.lexTailB .any l.toArray n = true) (hndf : (l.all fun o => match o.op with | .defer _ => false | _ => true) = true)
    (h : wpStill P l.toArray w.drew (fun a' => wpListIn (Fence.wide.inRound r) m P l.toArray Q (l.drop n) a' w.drew) (l.take n) a) : (Code.region id l.toArray true).wpIn (Fence.wide.inRound r) m P Q a w :=
  wpIn_region_still_tail (fun _ => trivial) rfl (fun _ _ _ _ h => CallsIn.inRound r (callsIn_wide.2 h)) n hm hB hndf h
end tail

/-- A function with one range over a function returns. -/
theorem bodyPostM_ret1 {F : Fence} {n : Nat} {P : Program} {fn : Func} {R : Ending → World → Prop} {a : Act} {w : World} {D : Nat} {v : Value} (hK : w.heap[D]? = some (.deferred (some []))) (hd : a.defers = [{ target := .collected D, args := #[] }])
    (hr : (results fn a.tmps).run P (w.putObj D (.deferred none)) = .ok v (w.putObj D (.deferred none))) (hR : R (.returned v) (w.putObj D (.deferred none))) : bodyPostM F n P fn R .ret a w := by
  show LeavesInM F n P fn a.tmps R a.defers .returning w
  rw [hd]
  exact ⟨by simp, .inl ⟨D, _, rfl, run_takeDeferred hK, ⟨v, hr, hR⟩⟩⟩
theorem bodyPostM_ret0 {F : Fence} {n : Nat} {P : Program} {fn : Func} {R : Ending → World → Prop} {a : Act} {w : World} {v : Value} (hd : a.defers = [])
    (hr : (results fn a.tmps).run P w = .ok v w) (hR : R (.returned v) w) : bodyPostM F n P fn R .ret a w := by
  show LeavesInM F n P fn a.tmps R a.defers .returning w
  rw [hd]
  exact ⟨v, hr, hR⟩
theorem calls_of_wp_marks {P : Program} {f : FuncId} {fn : Func} {c : Code} {args : Array Value} {w : World} {R : Ending → World → Prop}
    (hf : P.funcs[f]? = some fn) (hb : fn.body = some c)
    (h : c.wp P (bodyPostM Fence.wide 1 P fn R) { tmps := args ++ Array.replicate (fn.ntmps - args.size) undef, defers := [] } w) : Calls P f args w R :=
  callsIn_wide.1 (callsIn_of_wp_marks (F := Fence.wide) (n := 1) hf hb trivial (wpIn_wide.2 h) rfl)
end Go.Proofs.Ytngggknejkcepaa
