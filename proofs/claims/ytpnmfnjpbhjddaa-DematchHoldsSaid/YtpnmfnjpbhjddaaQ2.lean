/- Texts of the proof, one after another: Iter Copy VwB IterM Cols Small9 Ord9 Rm9 Sub9 Ind9 RefOrd Order Once9 ContI Room. -/
import Derived.Test.YtpnmfnjpbhjddaaQ1
import Derived.StillTailTactics
import Derived.OrdersIn
import Derived.Shelf.Abstract
import Derived.RangeFuncKeeps
import Derived.RangeFuncBound
import Derived.RangeFuncCalls
import Derived.RangeFuncLeaves
import Derived.OwnWalkIn
import Derived.TacticsInMore
import Derived.LoopNIn
import Derived.LoopIn
import Derived.Below
import Derived.Test.YtpnmfnjpbhjddaaProg
/- Ranges over functions: an iterator's contract by the number of rounds, and the law for the statement. -/
namespace Go.Proofs.Ytpnmfnjpbhjddaa
open Go.RowKit

/-- The blocks of T lie as they lay. -/
def KeepT (T : Nat → Prop) (W W' : World) : Prop := W.heap.size ≤ W'.heap.size ∧ ∀ k, k < W.heap.size → T k → W'.heap[k]? = W.heap[k]?
theorem KeepT.refl (T : Nat → Prop) (W : World) : KeepT T W W := ⟨Nat.le_refl _, fun _ _ _ => rfl⟩
theorem KeepT.trans {T : Nat → Prop} {a b c : World} (h : KeepT T a b) (k : KeepT T b c) : KeepT T a c :=
  ⟨Nat.le_trans h.1 k.1, fun i hi ht => (k.2 i (Nat.lt_of_lt_of_le hi h.1) ht).trans (h.2 i hi ht)⟩
theorem KeepT.of_fr {S T : Nat → Prop} {a b : World} (h : Fr S a b) (hs : ∀ k, T k → ¬ S k) : KeepT T a b := ⟨h.size, fun k hk ht => h.block k hk (hs k ht)⟩
theorem KeepT.mono {S T : Nat → Prop} {a b : World} (h : KeepT T a b) (hs : ∀ k, S k → T k) : KeepT S a b := ⟨h.1, fun k hk ht => h.2 k hk (hs k ht)⟩
theorem KeepT.cell {T : Nat → Prop} {W W' : World} (h : KeepT T W W') {p : Addr} {v : Value} (hc : W.cell? p = some v) (hT : T p.block) : W'.cell? p = some v :=
  (World.cell?_of_block (w := W) (h.2 p.block (World.block_lt_of_cell? W p hc) hT)).trans hc
theorem Fr.putObj {S : Nat → Prop} (W : World) (l : Nat) (o : Obj) (h : S l) : Fr S W (W.putObj l o) :=
  ⟨rfl, rfl, rfl, by simp, fun k _ hn => World.putObj_heap_other (fun e => hn (by rw [e]; exact h))⟩

/-- THE ITERATOR's CONTRACT: round k is handed 'xs k'; it ends behind 'fin' rounds, or never. It lays m blocks of its own at its start, and turns no other that lay before; the rounds keep these and R. -/
def IterC (P : Program) (gf : Nat) (lb : Array Value) (xs : Nat → Array Value) (fin : Option Nat) (m : Nat) (R : Nat → Prop) (w : World) : Prop :=
  ∀ (l : Nat) (J Jx : Nat → World → Prop) (W : World), Below w.heap.size w W →
    (∀ k A B, J k A → Fr (fun b => W.heap.size ≤ b ∧ b < W.heap.size + m) A B → J k B) →
    (∀ k A B, Jx k A → Fr (fun b => W.heap.size ≤ b ∧ b < W.heap.size + m) A B → Jx k B) →
    (∀ k W1, (∀ n, fin = some n → k < n) → J k W1 → YieldAt Fence.wide 0 P l (xs k) W1 fun e W' =>
      (e = .returned (.bool true) ∧ J (k + 1) W' ∧ KeepT (fun b => R b ∨ (W.heap.size ≤ b ∧ b < W.heap.size + m)) W1 W') ∨ (e = .returned (.bool false) ∧ Jx (k + 1) W')) →
    J 0 W → (fin = none → ∃ N, N ≤ 4611686018427387904 ∧ ∀ W', ¬ J N W') →
    Calls P gf (#[.func (.yield l) #[] #[]] ++ lb) W fun e W' => (∃ v, e = .returned v) ∧ ((∃ n, fin = some n ∧ J n W') ∨ (∃ k, Jx k W'))

/-- How the body of a round may be left. -/
def roundPostB (T : Nat → Prop) (I : Nat → World → Prop) (Ix : Nat → Code → World → Prop) (k : Nat) (W : World) : Exit → Act → World → Prop
  | .normal, _, W' => KeepT T W W' ∧ I k W'
  | .ret, _, W' => KeepT T W W' ∧ Ix k .ret W'
  | .exit id, _, W' => KeepT T W W' ∧ Ix k (.exit id) W'
  | .goto t, _, W' => KeepT T W W' ∧ Ix k (.goto t) W'
  | .panic _, _, _ => False
  | .outgrown, _, _ => False

theorem wpIn_range {P : Program} {g : Operand} {ps : Array Tmp} {assign body : Code} {Q : Exit → Act → World → Prop} {a : Act} {w : World}
    {gf : Nat} {lb : Array Value} (hg : a.eval g = .func (.func gf) #[] lb) (eg : ∀ args w, (callFunc gf args).run P w = .ok (.enter gf args) w)
    {xs : Nat → Array Value} {fin : Option Nat} {m : Nat} {R : Nat → Prop} {w0 : World} (hseq : IterC P gf lb xs fin m R w0) (hb0 : Below w0.heap.size w0 w) (hps : ∀ k, (xs k).size = ps.size)
    (I : Nat → World → Prop) (Ix : Nat → Code → World → Prop)
    (hI : ∀ k A B, I k A → Fr (fun b => w.heap.size ≤ b ∧ b < w.heap.size + 2 + m) A B → I k B)
    (hIx : ∀ k c A B, Ix k c A → Fr (fun b => w.heap.size ≤ b ∧ b < w.heap.size + 2 + m) A B → Ix k c B)
    (h0 : I 0 w) (hN : fin = none → ∃ N, N ≤ 4611686018427387904 ∧ ∀ W', ¬ I N W') (a₁ : Nat → Act)
    (hassign : ∀ (l : Nat) (k : Nat) (W : World) (K : Act → World → Prop), K (a₁ k) W →
      assign.wpIn (Fence.wide.inRound l) 0 P (Exit.then K (fun _ _ _ => False)) { tmps := (ps.zip (xs k)).foldl (fun t (p, v) => t.setIfInBounds p v) a.tmps, defers := [] } W)
    (hbody : ∀ (l : Nat) (k : Nat) (W : World), (∀ n, fin = some n → k < n) → I k W → w.heap.size + 2 ≤ W.heap.size →
      body.wpIn (Fence.wide.inRound l) 0 P (roundPostB (fun b => R b ∨ (w.heap.size ≤ b ∧ b < w.heap.size + 2 + m)) I Ix (k + 1) W) (a₁ k) W)
    (hdone : ∀ (D n : Nat) (W : World), fin = some n → I n W → W.heap[D]? = some (.deferred (some [])) → w.heap.size ≤ D → Q .normal { a with defers := { target := .collected D, args := #[] } :: a.defers } W)
    (hstop : ∀ (D : Nat) (c : Code) (k : Nat) (W : World), Ix k c W → W.heap[D]? = some (.deferred (some [])) → w.heap.size ≤ D → c.wpIn Fence.wide 1 P Q { a with defers := { target := .collected D, args := #[] } :: a.defers } W) :
    (Code.rangeFunc g ps assign body).wpIn Fence.wide 1 P Q a w := by
  refine wpIn_rangeFunc ?_
  intro fn hfn
  have hro : Fence.wide.round = none := rfl
  rw [hro]
  obtain ⟨rec, hrec⟩ : ∃ rec : LoopState → Option Code → Loop, rec = fun st pe => { state := st, pending := pe, fn, tmps := a.tmps, params := ps, assign, body, defers := w.heap.size } := ⟨_, rfl⟩
  obtain ⟨W1, hW1⟩ : ∃ W1, (w.alloc (.deferred (some []))).alloc (.loop (rec .ready none)) = W1 := ⟨_, rfl⟩
  have hs1 : W1.heap.size = w.heap.size + 2 := by rw [← hW1]; simp
  have hL1 : W1.heap[w.heap.size + 1]? = some (.loop (rec .ready none)) := by
    rw [← hW1]; have := World.alloc_heap_new (w.alloc (.deferred (some []))) (.loop (rec .ready none)); rwa [World.size_alloc] at this
  have hK1 : W1.heap[w.heap.size]? = some (.deferred (some [])) := by
    rw [← hW1]; exact (Below.heap_alloc _ _ _ (by simp)).trans (World.alloc_heap_new w _)
  have hf1 : Fr (fun b => w.heap.size ≤ b ∧ b < w.heap.size + 2 + m) w W1 := by rw [← hW1]; exact (Fr.alloc _ _ _).trans (Fr.alloc _ _ _)
  have hI1 : I 0 W1 := hI _ _ _ h0 hf1
  have hb1 : Below w0.heap.size w0 W1 := by
    rw [← hW1]; exact hb0.trans ((((Below.refl _ w).alloc (Nat.le_refl _) _).alloc (by simp) _).mono hb0.size)
  refine ⟨w.heap.size + 1, [{ target := .collected w.heap.size, args := #[] }], W1, { target := .fn (.func gf) lb, args := #[.func (.yield (w.heap.size + 1)) #[] #[]] }, W1, gf,
    #[.func (.yield (w.heap.size + 1)) #[] #[]] ++ lb, W1, ?_, ?_, ?_, ?_, fun _ => Nat.le_refl _, ?_⟩
  · rw [← hW1, hrec]; exact run_enterLoop_outer _ _ _ _ _
  · simp only [resolve, hg]
    simp [go_sem]
  · intro f' _; exact trivial
  · simp [invoke, go_sem, eg]
  · have hin : ∀ {A B : World}, Fr (fun b => W1.heap.size ≤ b ∧ b < W1.heap.size + m) A B → Fr (fun b => w.heap.size ≤ b ∧ b < w.heap.size + 2 + m) A B := fun h => h.mono (fun k _ hk => by simp only [hs1] at hk; omega)
    refine callsIn_wide.2 ((hseq (w.heap.size + 1)
      (fun k W => I k W ∧ W.heap[w.heap.size + 1]? = some (.loop (rec .ready none)) ∧ W.heap[w.heap.size]? = some (.deferred (some [])))
      (fun k W => ∃ c, Ix k c W ∧ W.heap[w.heap.size + 1]? = some (.loop (rec .done (some c))) ∧ W.heap[w.heap.size]? = some (.deferred (some [])))
      W1 hb1
      (fun k A B hs hfr => ⟨hI _ _ _ hs.1 (hin hfr), (hfr.block _ (Array.getElem?_eq_some_iff.1 hs.2.1).1 (by omega)).trans hs.2.1, (hfr.block _ (Array.getElem?_eq_some_iff.1 hs.2.2).1 (by omega)).trans hs.2.2⟩)
      (fun k A B hs hfr => by
        obtain ⟨c, hc, hl, hk⟩ := hs
        exact ⟨c, hIx _ _ _ _ hc (hin hfr), (hfr.block _ (Array.getElem?_eq_some_iff.1 hl).1 (by omega)).trans hl, (hfr.block _ (Array.getElem?_eq_some_iff.1 hk).1 (by omega)).trans hk⟩)
      ?_ ⟨hI1, hL1, hK1⟩ (fun hf => by obtain ⟨N, h0, h⟩ := hN hf; exact ⟨N, h0, fun W' h' => h W' h'.1⟩)).mono ?_)
    · -- ONE ROUND
      rintro k W hkn ⟨hi, hl, hk⟩
      have hlt : w.heap.size + 1 < W.heap.size := (Array.getElem?_eq_some_iff.1 hl).1
      have hy := run_yield (P := P) (args := xs k) hl (by rw [hrec]; exact hps k)
      rw [hrec] at hy
      refine ⟨fn, _, assign, body, hy, roundIn_of_wpIn hfn (hassign _ k W _ ⟨_, run_beginRound hl (by rw [hrec]), ?_⟩)⟩
      have hl2 : (W.putObj (w.heap.size + 1) (.loop { rec .ready none with state := .busy })).heap[w.heap.size + 1]? = some (.loop { rec .ready none with state := .busy }) := World.putObj_heap_same hlt
      have hk2 : (W.putObj (w.heap.size + 1) (.loop { rec .ready none with state := .busy })).heap[w.heap.size]? = some (.deferred (some [])) := (World.putObj_heap_other (by omega)).trans hk
      have hfp : ∀ (V : World) (o : Obj), Fr (fun b => w.heap.size ≤ b ∧ b < w.heap.size + 2 + m) V (V.putObj (w.heap.size + 1) o) := fun V o => Fr.putObj V _ o (by omega)
      refine wpIn_mono (hbody _ k _ hkn (hI _ _ _ hi (hfp _ _)) (by simp; omega)) ?_
      have fin' : ∀ (jump : Option Code) (W3 : World), KeepT (fun b => R b ∨ (w.heap.size ≤ b ∧ b < w.heap.size + 2 + m)) (W.putObj (w.heap.size + 1) (.loop { rec .ready none with state := .busy })) W3 →
          (Instr.endRound (w.heap.size + 1) jump).run P W3 = .ok (.bool jump.isNone) (W3.putObj (w.heap.size + 1) (.loop (rec (if jump.isNone then .ready else .done) jump))) ∧
          (W3.putObj (w.heap.size + 1) (.loop (rec (if jump.isNone then .ready else .done) jump))).heap[w.heap.size + 1]? = some (.loop (rec (if jump.isNone then .ready else .done) jump)) ∧
          (W3.putObj (w.heap.size + 1) (.loop (rec (if jump.isNone then .ready else .done) jump))).heap[w.heap.size]? = some (.deferred (some [])) := fun jump W3 hk3 => by
        have hl3 := (hk3.2 (w.heap.size + 1) (by simp; omega) (.inr (by omega))).trans hl2
        have hk3' := (hk3.2 (w.heap.size) (by simp; omega) (.inr (by omega))).trans hk2
        have := run_endRound (P := P) jump hl3
        rw [hrec] at this ⊢
        exact ⟨this, World.putObj_heap_same (Array.getElem?_eq_some_iff.1 hl3).1, (World.putObj_heap_other (by omega)).trans hk3'⟩
      rintro e a3 W3 hp
      cases e with
      | normal =>
        obtain ⟨hk3, hi3⟩ := hp
        obtain ⟨hr, hl4, hk4⟩ := fin' none W3 hk3
        refine ⟨_, _, hr, .inl ⟨rfl, ⟨hI _ _ _ hi3 (hfp _ _), hl4, hk4⟩, ?_⟩⟩
        have hT : ∀ b, (R b ∨ (W1.heap.size ≤ b ∧ b < W1.heap.size + m)) → b ≠ w.heap.size + 1 → (R b ∨ (w.heap.size ≤ b ∧ b < w.heap.size + 2 + m)) := fun b h _ => h.imp id (fun h => by omega)
        refine ⟨by have := hk3.1; simp at this ⊢; omega, fun b hb ht => ?_⟩
        by_cases hbe : b = w.heap.size + 1
        · subst hbe
          rw [hl4, hl, hrec]; rfl
        · rw [World.putObj_heap_other hbe, hk3.2 b (by simpa using hb) (hT b ht hbe), World.putObj_heap_other hbe]
      | ret =>
        obtain ⟨hk3, hi3⟩ := hp
        obtain ⟨hr, hl4, hk4⟩ := fin' (some .ret) W3 hk3
        exact ⟨_, _, hr, .inr ⟨rfl, .ret, hIx _ _ _ _ hi3 (hfp _ _), hl4, hk4⟩⟩
      | exit id =>
        obtain ⟨hk3, hi3⟩ := hp
        obtain ⟨hr, hl4, hk4⟩ := fin' (some (.exit id)) W3 hk3
        exact ⟨_, _, hr, .inr ⟨rfl, .exit id, hIx _ _ _ _ hi3 (hfp _ _), hl4, hk4⟩⟩
      | goto t =>
        obtain ⟨hk3, hi3⟩ := hp
        obtain ⟨hr, hl4, hk4⟩ := fin' (some (.goto t)) W3 hk3
        exact ⟨_, _, hr, .inr ⟨rfl, .goto t, hIx _ _ _ _ hi3 (hfp _ _), hl4, hk4⟩⟩
      | panic ch => exact hp.elim
      | outgrown => exact hp.elim
    · -- BEHIND THE ITERATOR
      have hfp : ∀ (V : World) (o : Obj), Fr (fun b => w.heap.size ≤ b ∧ b < w.heap.size + 2 + m) V (V.putObj (w.heap.size + 1) o) := fun V o => Fr.putObj V _ o (by omega)
      rintro e W2 ⟨⟨v, rfl⟩, (⟨n, hS, hi, hl, hk⟩ | ⟨k, c, hi, hl, hk⟩)⟩
      · exact ⟨none, _, by have := run_endLoop (P := P) hl (by rw [hrec]; simp); rw [hrec] at this; exact this, hdone _ n _ hS (hI _ _ _ hi (hfp _ _)) ((World.putObj_heap_other (by omega)).trans hk) (Nat.le_refl _)⟩
      · exact ⟨some c, _, by have := run_endLoop (P := P) hl (by rw [hrec]; simp); rw [hrec] at this; exact this, hstop _ c k _ (hIx _ _ _ _ hi (hfp _ _)) ((World.putObj_heap_other (by omega)).trans hk) (Nat.le_refl _)⟩

/-! A region that draws its order: reads and quiet calls, then a tail in one order; at the wide fence (the tail may call yield). -/
section tail
variable {P : Program} {ops : Array Oper} {md : Region.Mode} {w : World}
theorem Oper.wpIn_of_still {F : Fence} {n : Nat} (hfn : ∀ f, F.fn f) (hd : F.depth = none) (hcalls : ∀ f args w (R : Ending → World → Prop), Calls P f args w R → CallsIn F (n - 1) P f args w R)
    {o : Oper} {a : Act} {K : Act → Prop} {K' : Act → World → Prop} {Q' : Exit → Act → World → Prop} (hdf : ∀ c, o.op ≠ .defer c) (h : ∀ a, K a → K' a w) (hh : o.still P a w K) : o.wpIn F n P a w K' Q' := by
  unfold Oper.still at hh
  unfold Oper.wpIn
  refine ⟨fun f _ => hfn f, ?_⟩
  rw [Oper.semAt_eq _ _ _ hdf]
  generalize (execOp a.eval o).run P w = r at *
  cases r with
  | ok x w' =>
    cases x <;> simp only [Oper.stillUpon] at hh <;> simp only [Oper.uponIn]
    case enter f args =>
      obtain ⟨rfl, v, hc, hn⟩ := hh
      exact ⟨fun h' => (by rw [hd] at h'; cases h'), hcalls _ _ _ _ (hc.mono fun e w'' ⟨he, hw⟩ => by subst he; subst hw; exact h _ hn)⟩
    all_goals (obtain ⟨rfl, h2⟩ := hh; exact h _ h2)
  | halt x w' => simp only [Oper.stillUpon] at hh
theorem wpOpIn_of_stOp {F : Fence} {n : Nat} (hfn : ∀ f, F.fn f) (hd : F.depth = none) (hcalls : ∀ f args w (R : Ending → World → Prop), Calls P f args w R → CallsIn F (n - 1) P f args w R)
    (hndf : ∀ (i : Nat) (o : Oper) (c : Call), ops[i]? = some o → o.op ≠ .defer c) {i : Nat} {a : Act} {K : Act → Prop} {K' : Act → World → Prop} {Q' : Exit → Act → World → Prop} (h : ∀ a, K a → K' a w) (hh : stOp P ops w i K a) : wpOpIn F n P ops Q' i K' a w := by
  unfold stOp at hh
  unfold wpOpIn
  split
  · rename_i ho; simp only [ho] at hh; exact h _ hh
  · rename_i o ho
    simp only [ho] at hh
    split
    · rename_i hw; simp only [hw, if_true] at hh; exact Oper.wpIn_of_still hfn hd hcalls (fun c => hndf i o c ho) h hh
    · rename_i hw; simp only [hw] at hh; exact ⟨fun f _ => hfn f, h _ hh⟩
theorem wpAnyIn_of_head {F : Fence} {m : Nat} (hfn : ∀ f, F.fn f) (hd : F.depth = none) (hcalls : ∀ f args w (R : Ending → World → Prop), Calls P f args w R → CallsIn F (m - 1) P f args w R)
    (hndf : ∀ (i : Nat) (o : Oper) (c : Call), ops[i]? = some o → o.op ≠ .defer c) {n g : Nat} {L : Array Bool → Act → Prop} {Q' : Exit → Act → World → Prop} (hL : ∀ listed a, L listed a → wpAnyIn F m P md ops Q' g listed a w) :
    ∀ (f : Nat) (listed : Array Bool) (a : Act), wpAnyL P md ops w n L f listed a → wpAnyIn F m P md ops Q' (f + g) listed a w
  | 0, listed, a, h => by rw [Nat.zero_add]; exact hL _ _ h
  | f + 1, listed, a, h => by
    rw [show f + 1 + g = (f + g) + 1 by omega]
    exact ⟨fun h0 => absurd h0 h.1, fun i hi => wpOpIn_of_stOp hfn hd hcalls hndf (fun a' h' => wpAnyIn_of_head hfn hd hcalls hndf hL f _ a' h') (h.2 i hi).2⟩
theorem wpAnyIn_of_seq {F : Fence} {m : Nat} {Q' : Exit → Act → World → Prop} : ∀ (l : List Oper) (k : Nat) (listed : Array Bool) (a : Act) (w : World), (∀ j, l[j]? = ops[k + j]?) →
    Region.seqB md ops l.length k listed = true → wpListIn F m P ops Q' l a w → wpAnyIn F m P md ops Q' l.length listed a w
  | [], _, _, _, _, _, hB, h => ⟨by simpa [Region.seqB] using hB, h⟩
  | o :: l, k, listed, a, w, hl, hB, h => by
    have h0 : ops[k]? = some o := by simpa using (hl 0).symm
    simp only [List.length_cons, Region.seqB, Bool.and_eq_true, decide_eq_true_eq] at hB
    refine ⟨fun h1 => (by rw [hB.1] at h1; cases h1), fun i hi => ?_⟩
    rw [hB.1] at hi
    have hik : i = k := by simpa using hi
    subst hik
    have hw : wpOpIn F m P ops Q' i (wpListIn F m P ops Q' l) a w := by unfold wpOpIn; simp only [h0]; exact h
    exact wpOpIn_mono (fun a' w' h' => wpAnyIn_of_seq l (i + 1) _ a' w' (fun j => by have := hl (j + 1); simpa [Nat.add_assoc, Nat.add_comm 1 j] using this) hB.2 h') hw
theorem wpIn_region_still_tail {F : Fence} {m : Nat} (hfn : ∀ f, F.fn f) (hd : F.depth = none) (hcalls : ∀ f args w (R : Ending → World → Prop), Calls P f args w R → CallsIn F (m - 1) P f args w R)
    {id : Nat} {Q : Exit → Act → World → Prop} {a : Act} {l : List Oper} (n : Nat) (hm : P.follows .mixedOrders = true) (hB : Region.lexTailB .any l.toArray n = true) (hndf : (l.all fun o => match o.op with | .defer _ => false | _ => true) = true)
    (h : wpStill P l.toArray w.drew (fun a' => wpListIn F m P l.toArray Q (l.drop n) a' w.drew) (l.take n) a) : (Code.region id l.toArray true).wpIn F m P Q a w := by
  simp only [Region.lexTailB, Bool.and_eq_true, decide_eq_true_eq] at hB
  obtain ⟨⟨⟨⟨hsel, hn⟩, hs⟩, hc⟩, hlex⟩ := hB
  have hn' : n < l.length := by simpa using hn
  have htl : (l.take n).length = n := by simp; omega
  have hdl : (l.drop n).length = l.toArray.size - n := by simp
  have hnd : ∀ (i : Nat) (o : Oper) (c : Call), l.toArray[i]? = some o → o.op ≠ .defer c := fun i o c ho e => by
    have := List.all_eq_true.1 hndf o (List.mem_of_getElem? (by simpa using ho))
    rw [e] at this; cases this
  have inv0 : HeadInv .any l.toArray n (Array.replicate l.toArray.size false) :=
    ⟨by simp, fun j oj _ hl => (by rw [getD_replicate_false] at hl; cases hl), fun t _ ht => getD_in (by simpa using ht) (getD_replicate_false _ _)⟩
  have H := wpAnyL_lex (md := .any) (g := l.toArray.size - n) hsel hs hc hn (l.take n) 0 _ a (fun j hj => by
    have hj' : j < n := by rw [htl] at hj; exact hj
    simp [hj']) (by simpa using htl) inv0 (by rw [htl]; exact hlex) h
  refine wpIn_region_any hm ?_
  have := wpAnyIn_of_head (m := m) (Q' := Q) hfn hd hcalls hnd (g := l.toArray.size - n) (fun listed a' hL => by
    have := wpAnyIn_of_seq (md := .any) (F := F) (m := m) (Q' := Q) (l.drop n) n listed a' w.drew (fun j => by simp [List.getElem?_drop]) (by rw [hdl]; exact hL.1) hL.2
    rwa [hdl] at this) _ _ _ H
  rw [htl, show n + (l.toArray.size - n) = l.toArray.size by omega] at this
  exact this
theorem wpIn_tail_wide {m id : Nat} {Q : Exit → Act → World → Prop} {a : Act} {l : List Oper} (n : Nat) (hm : P.follows .mixedOrders = true) (hB : Region.lexTailB .any l.toArray n = true) (hndf : (l.all fun o => match o.op with | .defer _ => false | _ => true) = true)
    (h : wpStill P l.toArray w.drew (fun a' => wpListIn Fence.wide m P l.toArray Q (l.drop n) a' w.drew) (l.take n) a) : (Code.region id l.toArray true).wpIn Fence.wide m P Q a w :=
  wpIn_region_still_tail (fun _ => trivial) rfl (fun _ _ _ _ h => callsIn_wide.2 h) n hm hB hndf h
theorem wpIn_tail_round {m id r : Nat} {Q : Exit → Act → World → Prop} {a : Act} {l : List Oper} (n : Nat) (hm : P.follows .mixedOrders = true) (hB : Region.lexTailB .any l.toArray n = true) (hndf : (l.all fun o => match o.op with | .defer _ => false | _ => true) = true)
    (h : wpStill P l.toArray w.drew (fun a' => wpListIn (Fence.wide.inRound r) m P l.toArray Q (l.drop n) a' w.drew) (l.take n) a) : (Code.region id l.toArray true).wpIn (Fence.wide.inRound r) m P Q a w :=
  wpIn_region_still_tail (fun _ => trivial) rfl (fun _ _ _ _ h => CallsIn.inRound r (callsIn_wide.2 h)) n hm hB hndf h
end tail

/-- A function with one range over a function returns. -/
theorem bodyPostM_ret1 {F : Fence} {n : Nat} {P : Program} {fn : Func} {R : Ending → World → Prop} {a : Act} {w : World} {D : Nat} {v : Value} (hK : w.heap[D]? = some (.deferred (some []))) (hd : a.defers = [{ target := .collected D, args := #[] }])
    (hr : (results fn a.tmps).run P (w.putObj D (.deferred none)) = .ok v (w.putObj D (.deferred none))) (hR : R (.returned v) (w.putObj D (.deferred none))) : bodyPostM F n P fn R .ret a w := by
  show LeavesInM F n P fn a.tmps R a.defers .returning w
  rw [hd]
  exact ⟨by simp, .inl ⟨D, _, rfl, run_takeDeferred hK, ⟨v, hr, hR⟩⟩⟩
theorem bodyPostM_ret0 {F : Fence} {n : Nat} {P : Program} {fn : Func} {R : Ending → World → Prop} {a : Act} {w : World} {v : Value} (hd : a.defers = [])
    (hr : (results fn a.tmps).run P w = .ok v w) (hR : R (.returned v) w) : bodyPostM F n P fn R .ret a w := by
  show LeavesInM F n P fn a.tmps R a.defers .returning w
  rw [hd]
  exact ⟨v, hr, hR⟩
theorem calls_of_wp_marks {P : Program} {f : FuncId} {fn : Func} {c : Code} {args : Array Value} {w : World} {R : Ending → World → Prop}
    (hf : P.funcs[f]? = some fn) (hb : fn.body = some c)
    (h : c.wp P (bodyPostM Fence.wide 1 P fn R) { tmps := args ++ Array.replicate (fn.ntmps - args.size) undef, defers := [] } w) : Calls P f args w R :=
  callsIn_wide.1 (callsIn_of_wp_marks (F := Fence.wide) (n := 1) hf hb trivial (wpIn_wide.2 h) rfl)
end Go.Proofs.Ytpnmfnjpbhjddaa
/- append([]T{}, xs...): a copy of a slice. -/
namespace Go.Proofs.Ytpnmfnjpbhjddaa
open Go.RowKit
section app
variable {P : Program}
theorem exec_copy_list {o : Oper} {a : Act} {w : World} {t e : TypeId} {bytes : Nat} {z : Value} (E : Elem1 P t e bytes z) (s x : Operand)
    (ho : o.op = .call { callee := .builtin .append, args := #[s, x], argTypes := #[t, t] })
    (hs : a.eval s = .slice (some ⟨w.heap.size, 0, none⟩) 0 0) (vx : Value) (ys : List Value) (hx : a.eval x = vx) (hy : Vw w vx ys) (h1 : ∀ u ∈ ys, u.oneCell' = true)
    (hlen : ys.length * bytes ≤ 140737488355328) (hmax : ys.length ≤ 9223372036854775807) :
    ∃ v' w', (execOp a.eval o).run P (w.alloc (.cells #[] e)) = .ok (.value v') w' ∧ OwnL w' w.heap.size e v' ys ∧ Below w.heap.size w w' := by
  have hown : OwnL (w.alloc (.cells #[] e)) w.heap.size e (.slice (some ⟨w.heap.size, 0, none⟩) 0 0) [] := OwnL.made w w.heap.size e [] (Nat.le_refl _) (by simp)
  obtain ⟨v', w', hr, h2, h3⟩ := exec_append_list E s x ho w.heap.size _ [] hs hown vx ys hx (hy.below (below_alloc w _) (Nat.le_refl _)) h1 (by simpa using hlen) (by simpa using hmax) (by simp)
  refine ⟨v', w', hr, by simpa using h2, (below_alloc w _).trans (h3.below (by simp) (fun k hk e => ?_))⟩
  simp [Value.ownBlock] at e
  omega
theorem wpList_copy_list {ops : Array Oper} {rest : List Oper} {o : Oper} {a : Act} {w : World} {Q : Exit → Act → World → Prop} (hgd : o.guard = none) {t e : TypeId} {bytes : Nat} {z : Value} (E : Elem1 P t e bytes z) (s x : Operand)
    (ho : o.op = .call { callee := .builtin .append, args := #[s, x], argTypes := #[t, t] })
    (hs : a.eval s = .slice (some ⟨w.heap.size, 0, none⟩) 0 0) (vx : Value) (ys : List Value) (hx : a.eval x = vx) (hy : Vw w vx ys) (h1 : ∀ u ∈ ys, u.oneCell' = true)
    (hlen : ys.length * bytes ≤ 140737488355328) (hmax : ys.length ≤ 9223372036854775807)
    (h : ∀ v' w', OwnL w' w.heap.size e v' ys → Below w.heap.size w w' → wpList P ops Q rest (a.put o.dst v') w') :
    wpList P ops Q (o :: rest) a (w.alloc (.cells #[] e)) := by
  obtain ⟨v', w', hr, h2, h3⟩ := exec_copy_list E s x ho hs vx ys hx hy h1 hlen hmax
  exact wpList_run_value hgd hr (h v' w' h2 h3)
end app
end Go.Proofs.Ytpnmfnjpbhjddaa
/- A slice of the call's own, read only from now on. -/
namespace Go.Proofs.Ytpnmfnjpbhjddaa
open Go.RowKit
set_option linter.unusedVariables false
/-- The slice reads as vs, and lies in a block from base on. -/
structure VwA (w : World) (base : Nat) (v : Value) (vs : List Value) : Prop where
  vw : Vw w v vs
  hi : ∀ b off n c, v = .slice (some ⟨b, off, none⟩) n c → base ≤ b
theorem VwA.fr {S : Nat → Prop} {w w' : World} {base : Nat} {v : Value} {vs : List Value} (h : VwA w base v vs) (hf : Fr S w w') (hs : ∀ b, base ≤ b → ¬ S b) : VwA w' base v vs :=
  ⟨h.vw.fr hf (fun b off n c e => hs b (h.hi b off n c e)), h.hi⟩
theorem VwA.below {B base : Nat} {w w' : World} {v : Value} {vs : List Value} (h : VwA w base v vs) (hf : Below B w w') (hB : w.heap.size ≤ B) : VwA w' base v vs := ⟨h.vw.below hf hB, h.hi⟩
theorem VwA.nil (w : World) (base c : Nat) : VwA w base (.slice none 0 c) [] := ⟨Vw.nil _ _ _, fun _ _ _ _ h => by cases h⟩
theorem VwA.mono {base base' : Nat} {w : World} {v : Value} {vs : List Value} (h : VwA w base v vs) (hb : base' ≤ base) : VwA w base' v vs := ⟨h.vw, fun b off n c e => Nat.le_trans hb (h.hi b off n c e)⟩
theorem OwnL.vwA {w : World} {base : Nat} {e : TypeId} {v : Value} {xs : List Value} (h : OwnL w base e v xs) : VwA w base v xs :=
  ⟨h.vw, fun b off n c he => (h.block (g := b) (by subst he; rfl)).1⟩
/-- out[:len(out):len(out)] of a slice of one's own. -/
theorem OwnL.cut {w : World} {base : Nat} {e : TypeId} {v : Value} {xs : List Value} (h : OwnL w base e v xs) : ∃ a c, v = .slice a xs.length c ∧ xs.length ≤ c ∧ VwA w base (.slice a xs.length xs.length) xs := by
  obtain ⟨a, c, rfl, hc⟩ := h.vw
  have hi := h.vwA.hi
  refine ⟨a, c, rfl, ?_, ⟨a, xs.length, rfl, hc⟩, fun b off n c' he => ?_⟩
  · rcases h.2 with ⟨h1, h2⟩ | ⟨g', cap', cur, h1, _, _, h2, _⟩
    · simp only [Value.slice.injEq] at h1; omega
    · simp only [Value.slice.injEq] at h1; omega
  · simp only [Value.slice.injEq] at he
    exact hi b off xs.length c (by rw [he.1])
end Go.Proofs.Ytpnmfnjpbhjddaa
/- Ranges over bound methods: the twin of XIter's law. -/
namespace Go.Proofs.Ytpnmfnjpbhjddaa
open Go.RowKit
/-- The contract of an iterator that is a bound method: round k is handed 'xs k'; it ends behind 'fin' rounds, or never. It lays m blocks of its own at its start, and turns no other that lay before; the rounds keep these and R. -/
def IterM (P : Program) (gf : Nat) (lb : Array Value) (xs : Nat → Array Value) (fin : Option Nat) (m : Nat) (R : Nat → Prop) (w : World) : Prop :=
  ∀ (l : Nat) (J Jx : Nat → World → Prop) (W : World), Below w.heap.size w W →
    (∀ k A B, J k A → Fr (fun b => W.heap.size ≤ b ∧ b < W.heap.size + m) A B → J k B) →
    (∀ k A B, Jx k A → Fr (fun b => W.heap.size ≤ b ∧ b < W.heap.size + m) A B → Jx k B) →
    (∀ k W1, (∀ n, fin = some n → k < n) → J k W1 → YieldAt Fence.wide 0 P l (xs k) W1 fun e W' =>
      (e = .returned (.bool true) ∧ J (k + 1) W' ∧ KeepT (fun b => R b ∨ (W.heap.size ≤ b ∧ b < W.heap.size + m)) W1 W') ∨ (e = .returned (.bool false) ∧ Jx (k + 1) W')) →
    J 0 W → (fin = none → ∃ N, N ≤ 4611686018427387904 ∧ ∀ W', ¬ J N W') →
    Calls P gf (lb ++ #[.func (.yield l) #[] #[]]) W fun e W' => (∃ v, e = .returned v) ∧ ((∃ n, fin = some n ∧ J n W') ∨ (∃ k, Jx k W'))

theorem wpIn_rangeM {P : Program} {g : Operand} {ps : Array Tmp} {assign body : Code} {Q : Exit → Act → World → Prop} {a : Act} {w : World}
    {gf : Nat} {lb : Array Value} (hg : a.eval g = .func (.func gf) lb #[]) (eg : ∀ args w, (callFunc gf args).run P w = .ok (.enter gf args) w)
    {xs : Nat → Array Value} {fin : Option Nat} {m : Nat} {R : Nat → Prop} {w0 : World} (hseq : IterM P gf lb xs fin m R w0) (hb0 : Below w0.heap.size w0 w) (hps : ∀ k, (xs k).size = ps.size)
    (I : Nat → World → Prop) (Ix : Nat → Code → World → Prop)
    (hI : ∀ k A B, I k A → Fr (fun b => w.heap.size ≤ b ∧ b < w.heap.size + 2 + m) A B → I k B)
    (hIx : ∀ k c A B, Ix k c A → Fr (fun b => w.heap.size ≤ b ∧ b < w.heap.size + 2 + m) A B → Ix k c B)
    (h0 : I 0 w) (hN : fin = none → ∃ N, N ≤ 4611686018427387904 ∧ ∀ W', ¬ I N W') (a₁ : Nat → Act)
    (hassign : ∀ (l : Nat) (k : Nat) (W : World) (K : Act → World → Prop), K (a₁ k) W →
      assign.wpIn (Fence.wide.inRound l) 0 P (Exit.then K (fun _ _ _ => False)) { tmps := (ps.zip (xs k)).foldl (fun t (p, v) => t.setIfInBounds p v) a.tmps, defers := [] } W)
    (hbody : ∀ (l : Nat) (k : Nat) (W : World), (∀ n, fin = some n → k < n) → I k W → w.heap.size + 2 ≤ W.heap.size →
      body.wpIn (Fence.wide.inRound l) 0 P (roundPostB (fun b => R b ∨ (w.heap.size ≤ b ∧ b < w.heap.size + 2 + m)) I Ix (k + 1) W) (a₁ k) W)
    (hdone : ∀ (D n : Nat) (W : World), fin = some n → I n W → W.heap[D]? = some (.deferred (some [])) → w.heap.size ≤ D → Q .normal { a with defers := { target := .collected D, args := #[] } :: a.defers } W)
    (hstop : ∀ (D : Nat) (c : Code) (k : Nat) (W : World), Ix k c W → W.heap[D]? = some (.deferred (some [])) → w.heap.size ≤ D → c.wpIn Fence.wide 1 P Q { a with defers := { target := .collected D, args := #[] } :: a.defers } W) :
    (Code.rangeFunc g ps assign body).wpIn Fence.wide 1 P Q a w := by
  refine wpIn_rangeFunc ?_
  intro fn hfn
  have hro : Fence.wide.round = none := rfl
  rw [hro]
  obtain ⟨rec, hrec⟩ : ∃ rec : LoopState → Option Code → Loop, rec = fun st pe => { state := st, pending := pe, fn, tmps := a.tmps, params := ps, assign, body, defers := w.heap.size } := ⟨_, rfl⟩
  obtain ⟨W1, hW1⟩ : ∃ W1, (w.alloc (.deferred (some []))).alloc (.loop (rec .ready none)) = W1 := ⟨_, rfl⟩
  have hs1 : W1.heap.size = w.heap.size + 2 := by rw [← hW1]; simp
  have hL1 : W1.heap[w.heap.size + 1]? = some (.loop (rec .ready none)) := by
    rw [← hW1]; have := World.alloc_heap_new (w.alloc (.deferred (some []))) (.loop (rec .ready none)); rwa [World.size_alloc] at this
  have hK1 : W1.heap[w.heap.size]? = some (.deferred (some [])) := by
    rw [← hW1]; exact (Below.heap_alloc _ _ _ (by simp)).trans (World.alloc_heap_new w _)
  have hf1 : Fr (fun b => w.heap.size ≤ b ∧ b < w.heap.size + 2 + m) w W1 := by rw [← hW1]; exact (Fr.alloc _ _ _).trans (Fr.alloc _ _ _)
  have hI1 : I 0 W1 := hI _ _ _ h0 hf1
  have hb1 : Below w0.heap.size w0 W1 := by
    rw [← hW1]; exact hb0.trans ((((Below.refl _ w).alloc (Nat.le_refl _) _).alloc (by simp) _).mono hb0.size)
  refine ⟨w.heap.size + 1, [{ target := .collected w.heap.size, args := #[] }], W1, { target := .fn (.func gf) #[], args := lb ++ #[.func (.yield (w.heap.size + 1)) #[] #[]] }, W1, gf,
    lb ++ #[.func (.yield (w.heap.size + 1)) #[] #[]], W1, ?_, ?_, ?_, ?_, fun _ => Nat.le_refl _, ?_⟩
  · rw [← hW1, hrec]; exact run_enterLoop_outer _ _ _ _ _
  · simp only [resolve, hg]
    simp [go_sem]
  · intro f' _; exact trivial
  · simp [invoke, go_sem, eg]
  · have hin : ∀ {A B : World}, Fr (fun b => W1.heap.size ≤ b ∧ b < W1.heap.size + m) A B → Fr (fun b => w.heap.size ≤ b ∧ b < w.heap.size + 2 + m) A B := fun h => h.mono (fun k _ hk => by simp only [hs1] at hk; omega)
    refine callsIn_wide.2 ((hseq (w.heap.size + 1)
      (fun k W => I k W ∧ W.heap[w.heap.size + 1]? = some (.loop (rec .ready none)) ∧ W.heap[w.heap.size]? = some (.deferred (some [])))
      (fun k W => ∃ c, Ix k c W ∧ W.heap[w.heap.size + 1]? = some (.loop (rec .done (some c))) ∧ W.heap[w.heap.size]? = some (.deferred (some [])))
      W1 hb1
      (fun k A B hs hfr => ⟨hI _ _ _ hs.1 (hin hfr), (hfr.block _ (Array.getElem?_eq_some_iff.1 hs.2.1).1 (by omega)).trans hs.2.1, (hfr.block _ (Array.getElem?_eq_some_iff.1 hs.2.2).1 (by omega)).trans hs.2.2⟩)
      (fun k A B hs hfr => by
        obtain ⟨c, hc, hl, hk⟩ := hs
        exact ⟨c, hIx _ _ _ _ hc (hin hfr), (hfr.block _ (Array.getElem?_eq_some_iff.1 hl).1 (by omega)).trans hl, (hfr.block _ (Array.getElem?_eq_some_iff.1 hk).1 (by omega)).trans hk⟩)
      ?_ ⟨hI1, hL1, hK1⟩ (fun hf => by obtain ⟨N, h0, h⟩ := hN hf; exact ⟨N, h0, fun W' h' => h W' h'.1⟩)).mono ?_)
    · -- ONE ROUND
      rintro k W hkn ⟨hi, hl, hk⟩
      have hlt : w.heap.size + 1 < W.heap.size := (Array.getElem?_eq_some_iff.1 hl).1
      have hy := run_yield (P := P) (args := xs k) hl (by rw [hrec]; exact hps k)
      rw [hrec] at hy
      refine ⟨fn, _, assign, body, hy, roundIn_of_wpIn hfn (hassign _ k W _ ⟨_, run_beginRound hl (by rw [hrec]), ?_⟩)⟩
      have hl2 : (W.putObj (w.heap.size + 1) (.loop { rec .ready none with state := .busy })).heap[w.heap.size + 1]? = some (.loop { rec .ready none with state := .busy }) := World.putObj_heap_same hlt
      have hk2 : (W.putObj (w.heap.size + 1) (.loop { rec .ready none with state := .busy })).heap[w.heap.size]? = some (.deferred (some [])) := (World.putObj_heap_other (by omega)).trans hk
      have hfp : ∀ (V : World) (o : Obj), Fr (fun b => w.heap.size ≤ b ∧ b < w.heap.size + 2 + m) V (V.putObj (w.heap.size + 1) o) := fun V o => Fr.putObj V _ o (by omega)
      refine wpIn_mono (hbody _ k _ hkn (hI _ _ _ hi (hfp _ _)) (by simp; omega)) ?_
      have fin' : ∀ (jump : Option Code) (W3 : World), KeepT (fun b => R b ∨ (w.heap.size ≤ b ∧ b < w.heap.size + 2 + m)) (W.putObj (w.heap.size + 1) (.loop { rec .ready none with state := .busy })) W3 →
          (Instr.endRound (w.heap.size + 1) jump).run P W3 = .ok (.bool jump.isNone) (W3.putObj (w.heap.size + 1) (.loop (rec (if jump.isNone then .ready else .done) jump))) ∧
          (W3.putObj (w.heap.size + 1) (.loop (rec (if jump.isNone then .ready else .done) jump))).heap[w.heap.size + 1]? = some (.loop (rec (if jump.isNone then .ready else .done) jump)) ∧
          (W3.putObj (w.heap.size + 1) (.loop (rec (if jump.isNone then .ready else .done) jump))).heap[w.heap.size]? = some (.deferred (some [])) := fun jump W3 hk3 => by
        have hl3 := (hk3.2 (w.heap.size + 1) (by simp; omega) (.inr (by omega))).trans hl2
        have hk3' := (hk3.2 (w.heap.size) (by simp; omega) (.inr (by omega))).trans hk2
        have := run_endRound (P := P) jump hl3
        rw [hrec] at this ⊢
        exact ⟨this, World.putObj_heap_same (Array.getElem?_eq_some_iff.1 hl3).1, (World.putObj_heap_other (by omega)).trans hk3'⟩
      rintro e a3 W3 hp
      cases e with
      | normal =>
        obtain ⟨hk3, hi3⟩ := hp
        obtain ⟨hr, hl4, hk4⟩ := fin' none W3 hk3
        refine ⟨_, _, hr, .inl ⟨rfl, ⟨hI _ _ _ hi3 (hfp _ _), hl4, hk4⟩, ?_⟩⟩
        have hT : ∀ b, (R b ∨ (W1.heap.size ≤ b ∧ b < W1.heap.size + m)) → b ≠ w.heap.size + 1 → (R b ∨ (w.heap.size ≤ b ∧ b < w.heap.size + 2 + m)) := fun b h _ => h.imp id (fun h => by omega)
        refine ⟨by have := hk3.1; simp at this ⊢; omega, fun b hb ht => ?_⟩
        by_cases hbe : b = w.heap.size + 1
        · subst hbe
          rw [hl4, hl, hrec]; rfl
        · rw [World.putObj_heap_other hbe, hk3.2 b (by simpa using hb) (hT b ht hbe), World.putObj_heap_other hbe]
      | ret =>
        obtain ⟨hk3, hi3⟩ := hp
        obtain ⟨hr, hl4, hk4⟩ := fin' (some .ret) W3 hk3
        exact ⟨_, _, hr, .inr ⟨rfl, .ret, hIx _ _ _ _ hi3 (hfp _ _), hl4, hk4⟩⟩
      | exit id =>
        obtain ⟨hk3, hi3⟩ := hp
        obtain ⟨hr, hl4, hk4⟩ := fin' (some (.exit id)) W3 hk3
        exact ⟨_, _, hr, .inr ⟨rfl, .exit id, hIx _ _ _ _ hi3 (hfp _ _), hl4, hk4⟩⟩
      | goto t =>
        obtain ⟨hk3, hi3⟩ := hp
        obtain ⟨hr, hl4, hk4⟩ := fin' (some (.goto t)) W3 hk3
        exact ⟨_, _, hr, .inr ⟨rfl, .goto t, hIx _ _ _ _ hi3 (hfp _ _), hl4, hk4⟩⟩
      | panic ch => exact hp.elim
      | outgrown => exact hp.elim
    · -- BEHIND THE ITERATOR
      have hfp : ∀ (V : World) (o : Obj), Fr (fun b => w.heap.size ≤ b ∧ b < w.heap.size + 2 + m) V (V.putObj (w.heap.size + 1) o) := fun V o => Fr.putObj V _ o (by omega)
      rintro e W2 ⟨⟨v, rfl⟩, (⟨n, hS, hi, hl, hk⟩ | ⟨k, c, hi, hl, hk⟩)⟩
      · exact ⟨none, _, by have := run_endLoop (P := P) hl (by rw [hrec]; simp); rw [hrec] at this; exact this, hdone _ n _ hS (hI _ _ _ hi (hfp _ _)) ((World.putObj_heap_other (by omega)).trans hk) (Nat.le_refl _)⟩
      · exact ⟨some c, _, by have := run_endLoop (P := P) hl (by rw [hrec]; simp); rw [hrec] at this; exact this, hstop _ c k _ (hIx _ _ _ _ hi (hfp _ _)) ((World.putObj_heap_other (by omega)).trans hk) (Nat.le_refl _)⟩

end Go.Proofs.Ytpnmfnjpbhjddaa
/- userplane/subblock: the column permutation, and the number of rows. -/
namespace Go.Proofs.Ytpnmfnjpbhjddaa
open Go.RowKit

namespace Cols
/-- The sum of the parts of column i that the bits below j give. -/
def part (i j : Nat) : Int := ((List.range j).map fun t => if i.testBit t then ((16 / 2 ^ t : Nat) : Int) else 0).sum
/-- The array when the columns below k are done, and column k as far as bit j. -/
def L (k j : Nat) : List Int := (List.range 32).map fun i => if i < k then part i 5 else if i = k then part i j else 0
def cells (k j : Nat) : Array Value := ((L k j).map (Value.int .i64)).toArray
theorem L_set : ∀ k, k < 32 → ∀ j, j < 5 → k.testBit j = true → (L k j).set k ((L k j).getD k 0 + ((16 / 2 ^ j : Nat) : Int)) = L k (j + 1) := by decide +kernel
theorem L_skip : ∀ k, k < 32 → ∀ j, j < 5 → k.testBit j = false → L k (j + 1) = L k j := by decide +kernel
theorem L_next : ∀ k, k < 32 → L k 5 = L (k + 1) 0 := by decide +kernel
theorem and_test : ∀ k : Nat, k < 32 → ∀ j : Nat, j < 5 → (bits BinOp.and IntKind.i64 (k : Int) ((2 ^ j : Nat) : Int) != 0) = k.testBit j := by decide +kernel
theorem L_bd : ∀ k, k < 32 → ∀ j, j < 6 → 0 ≤ (L k j).getD k 0 ∧ (L k j).getD k 0 ≤ 31 := by decide +kernel
theorem L_len (k j : Nat) : (L k j).length = 32 := by simp [L]
theorem cells_size (k j : Nat) : (cells k j).size = 32 := by simp [cells, L]
theorem cells_at (k j i : Nat) (h : i < 32) : (cells k j)[i]? = some (.int .i64 ((L k j).getD i 0)) := by
  simp [cells, L_len, h]
theorem cells_set (k j i : Nat) (x : Int) : (cells k j).setIfInBounds i (.int .i64 x) = (((L k j).set i x).map (Value.int .i64)).toArray := by
  simp [cells, List.map_set]
def perm : List Int := [0, 16, 8, 24, 4, 20, 12, 28, 2, 18, 10, 26, 6, 22, 14, 30, 1, 17, 9, 25, 5, 21, 13, 29, 3, 19, 11, 27, 7, 23, 15, 31]
theorem L_end : L 32 0 = perm := by decide +kernel
def permA : Array Value := (perm.map (Value.int .i64)).toArray
theorem permA_size : permA.size = 32 := by decide
theorem permA_at (i : Nat) (h : i < 32) : permA[i]? = some (.int .i64 (perm.getD i 0)) := by
  have hl : perm.length = 32 := by decide
  simp [permA, hl, h]
theorem permA_one : ∀ u ∈ permA.toList, u.oneCell' = true := by simp [permA, Value.oneCell']
theorem cells_end : cells 32 0 = permA := by rw [cells, L_end, permA]
theorem pow_lt {j : Nat} (h : 2 ^ j < 32) : j < 5 := by
  rcases Nat.lt_or_ge j 5 with h' | h'
  · exact h'
  · have := Nat.pow_le_pow_right (n := 2) (by omega) h'; omega
end Cols

set_option maxHeartbeats 1000000 in
theorem columns_any (w : World) : Calls Try.prog 66 #[] w fun e w' => e = .returned (.agg Cols.permA) ∧ Below w.heap.size w w' ∧ w'.heap.size = w.heap.size + 1 := by
  go_enter Try.func66, Try.ntmps66
  go_wp2
  go_loopw [3] (fun k wr => ∃ n : Nat, n ≤ 32 ∧ k = .int .i64 n ∧ wr.heap[w.heap.size]? = some (.cells (Cols.cells n 0) 95 (0, 0)) ∧ Below w.heap.size w wr ∧ Hid (wr.heap.size = w.heap.size + 1)) (fun k _ => 32 - (intOf k).toNat)
  case atStart => exact ⟨0, by omega, rfl, heap_alloc_new w _, (Below.refl _ _).alloc (Nat.le_refl _) _, by simp [Hid]⟩
  case round =>
    obtain ⟨k, hk, rfl, hrow, hB, hsz⟩ := hrel
    by_cases hlt : k < 32
    · obtain ⟨wo, rfl⟩ : ∃ wo : World, wo = wr := ⟨_, rfl⟩
      have HR := hid hrow
      clear hrow
      go_wp2
      go_loopw [2] (fun b wr => ∃ j c : Nat, j ≤ 5 ∧ Hid (c = 2 ^ j) ∧ 1 ≤ c ∧ c ≤ 32 ∧ b = .int .i64 c ∧ Hid (wr.heap[w.heap.size]? = some (.cells (Cols.cells k j) 95 (0, 0))) ∧ Below w.heap.size w wr ∧ Hid (wr.heap.size = w.heap.size + 1)) (fun b _ => 64 - (intOf b).toNat)
      case atStart => exact ⟨0, 1, by omega, rfl, by omega, by omega, rfl, HR.out, hB, hsz⟩
      case round =>
        obtain ⟨j, c, hj, hc, hc1, hc2, rfl, hrow, hB2, hsz2⟩ := hrel
        by_cases hcl : c < 32
        · have hj5 : j < 5 := Cols.pow_lt (by rw [← hc.out]; exact hcl)
          have hcell : wr.cell? ⟨w.heap.size, k, none⟩ = some (.int .i64 ((Cols.L k j).getD k 0)) := by
            rw [cell_of_row _ _ _ _ _ _ hrow.out]; exact Cols.cells_at k j k hlt
          have hfr : wr.frozen? ⟨w.heap.size, k, none⟩ = false := frozen_of_row _ _ _ _ _ hrow.out
          have hbd := Cols.L_bd k hlt j (by omega)
          have htest := Cols.and_test k hlt j hj5
          rw [← hc.out] at htest
          have hc16 : c ≤ 16 := by rw [hc.out]; exact Nat.pow_le_pow_right (by omega) (show j ≤ 4 by omega)
          have hq : 0 ≤ (16 : Int) / c ∧ (16 : Int) / c ≤ 16 := ⟨Int.ediv_nonneg (by omega) (by omega), Int.ediv_le_self _ (by omega)⟩
          have hset := Cols.L_set k hlt j hj5
          rw [← hc.out] at hset
          have HS := hid hset
          have HSk := hid (Cols.L_skip k hlt j hj5)
          clear hset
          obtain ⟨x, hx⟩ : ∃ x, x = (Cols.L k j).getD k 0 := ⟨_, rfl⟩
          rw [← hx] at hcell hbd
          have HX := hid hx
          clear hx
          cases ht : k.testBit j with
          | true =>
            rw [ht] at htest
            have HT := hid ht
            clear ht
            go_wp2
            go_region
            all_goals go_wp2
            all_goals go_roundw
            case rel =>
              refine ⟨j + 1, c * 2, by omega, by rw [Hid, hc.out, Nat.pow_succ], by omega, by omega, by go_num, ?_, ?_, by rw [Hid]; simpa using hsz2.out⟩
              · rw [Hid]
                have h1 := HS.out HT.out
                rw [← HX.out] at h1
                have h2 := heap_setCell_same wr w.heap.size k _ _ (.int .i64 (x + ((16 / c : Nat) : Int))) hrow.out
                rw [Cols.cells_set, h1] at h2
                exact h2
              · exact hB2.drew.setCell (p := ⟨w.heap.size, k, none⟩) (Nat.le_refl _) _
            case measure => simp [intOf]; omega
          | false =>
            rw [ht] at htest
            have HT := hid ht
            clear ht
            go_wp2
            go_roundw
            case rel =>
              refine ⟨j + 1, c * 2, by omega, by rw [Hid, hc.out, Nat.pow_succ], by omega, by omega, by go_num, ?_, hB2, hsz2⟩
              rw [Hid, Cols.cells, HSk.out HT.out]; exact hrow.out
            case measure => simp [intOf]; omega
        · have hj5 : j = 5 := by
            rcases Nat.lt_or_ge j 5 with h | h
            · have := Nat.pow_lt_pow_right (a := 2) (by omega) h
              rw [← hc.out] at this; omega
            · omega
          have HJ := hid hj5
          clear hj5
          go_wp2
          go_roundw
          case rel =>
            refine ⟨k + 1, by omega, by go_num, ?_, hB2, hsz2⟩
            have := hrow.out
            rw [HJ.out] at this
            rw [Cols.cells, ← Cols.L_next k hlt]; exact this
          case measure => simp [intOf]; omega
    · obtain rfl : k = 32 := by omega
      rw [Cols.cells_end] at hrow
      have hu : Try.prog.underlying 95 = some (.array 32 3) := Try.underlying95
      have hi : (Try.prog.info? 95).map (·.size) = some Cols.permA.size := by kernel_rfl
      have HR := hid hrow
      have HI := hid hi
      have HU := hid hu
      clear hrow hi hu
      go_wp2_with (first
        | (refine wpList_run_value rfl (exec_load_row 95 (.tmp 0) rfl w.heap.size rfl _ _ _ _ HR.out HU.out rfl HI.out) ?_)
        | (refine wpList_run_skip rfl (exec_store_row 95 (.tmp 0) (.tmp 22) rfl w.heap.size 0 rfl _ _ (.agg Cols.permA) rfl HR.out HI.out (by simp [Value.cells]) Cols.permA_one) ?_))
      have hself : wr.setRow w.heap.size ((Cols.permA.toList.take 0 ++ (Value.agg Cols.permA).cells.toList ++ Cols.permA.toList.drop (0 + (Value.agg Cols.permA).cells.size)).toArray) = wr := by
        rw [splice_all Cols.permA (.agg Cols.permA) rfl]
        exact setRow_self wr w.heap.size _ _ _ HR.out
      rw [hself]
      exact bodyPost_ret (results_cell_row rfl _ _ w.heap.size _ _ _ _ rfl HR.out HU.out rfl HI.out) rfl ⟨rfl, hB, hsz.out⟩
end Go.Proofs.Ytpnmfnjpbhjddaa
/- userplane/subblock and its reference: the small functions. -/
namespace Go.Proofs.Ytpnmfnjpbhjddaa
open Go.RowKit

namespace Cols
def rowsZ (d : Int) : Int := if d < 1 ∨ 6148 < d then 0 else (d + 31) / 32
def colZ (k : Int) : Int := if k < 0 ∨ 31 < k then -1 else perm.getD k.toNat 0
theorem colZ_in {k : Int} (h0 : 0 ≤ k) (h1 : k < 32) : colZ k = perm.getD k.toNat 0 := by unfold colZ; rw [if_neg (by omega)]
theorem colZ_out {k : Int} (h : k < 0 ∨ 31 < k) : colZ k = -1 := by unfold colZ; rw [if_pos h]
theorem rowsZ_out {k : Int} (h : k < 1 ∨ 6148 < k) : rowsZ k = 0 := by unfold rowsZ; rw [if_pos h]
theorem rowsZ_in {k : Int} (h0 : 1 ≤ k) (h1 : k ≤ 6148) : rowsZ k = (k + 31) / 32 := by unfold rowsZ; rw [if_neg (by omega)]
theorem perm_bd : ∀ k, k < 32 → 0 ≤ perm.getD k 0 ∧ perm.getD k 0 < 32 := by decide +kernel
theorem colZ_bd {k : Int} (h0 : 0 ≤ k) (h1 : k < 32) : 0 ≤ colZ k ∧ colZ k < 32 := by
  rw [colZ_in h0 h1]; exact perm_bd _ (by omega)
end Cols

theorem rows_any (d : Int) (w : World) :
    Calls Try.prog 51 #[.int .i64 d] w fun e w' => e = .returned (.int .i64 (Cols.rowsZ d)) ∧ w = w' := by
  by_cases h1 : d < 1
  · go_enter Try.func51, Try.ntmps51
    go_wp2
    go_ret
    exact ⟨ret_int (Cols.rowsZ_out (.inl h1)).symm, rfl⟩
  · by_cases h2 : 6148 < d
    · go_enter Try.func51, Try.ntmps51
      go_wp2
      go_ret
      exact ⟨ret_int (Cols.rowsZ_out (.inr h2)).symm, rfl⟩
    · go_enter Try.func51, Try.ntmps51
      go_wp2
      go_ret
      exact ⟨ret_int (by rw [Cols.rowsZ_in (by omega) (by omega)]; omega), rfl⟩

theorem permA_two (v : Value) (h : v = .agg Cols.permA) : v.cells.size = 32 := by subst h; exact Cols.permA_size

end Go.Proofs.Ytpnmfnjpbhjddaa
/- The order of an interleaved stream, as lists; no program. -/
namespace Go.Proofs.Ytpnmfnjpbhjddaa
open Go.RowKit
namespace Ord
/-- The element at a matrix index. -/
def matF (N j : Nat) : Int := if j < N then -1 else ((j - N : Nat) : Int)
def matL (N i : Nat) : List Int := (List.range i).map (matF N)
theorem matL_succ (N i : Nat) : matL N (i + 1) = matL N i ++ [matF N i] := by simp [matL, List.range_succ]
theorem matL_len (N i : Nat) : (matL N i).length = i := by simp [matL]
theorem matL_get (N i j : Nat) (h : j < (matL N i).length) : (matL N i)[j] = matF N j := by simp [matL]
/-- The matrix index of element k. -/
def idx (R k : Nat) : Nat := (Cols.perm.getD (k / R) 0).toNat + 32 * (k % R)
def idx2 (R : Nat) (s : Int) (k : Nat) : Nat := if s = 2 then (idx R k + 1) % (32 * R) else idx R k
def ordF (d R : Nat) (s : Int) (k : Nat) : Int := matF (32 * R - d) (idx2 R s k)
def outL (d R : Nat) (s : Int) (n : Nat) : List Int := (List.range n).map (ordF d R s)
theorem outL_succ (d R : Nat) (s : Int) (n : Nat) : outL d R s (n + 1) = outL d R s n ++ [ordF d R s n] := by simp [outL, List.range_succ]
theorem outL_len (d R : Nat) (s : Int) (n : Nat) : (outL d R s n).length = n := by simp [outL]
theorem idx_at {R c r : Nat} (hr : r < R) : idx R (c * R + r) = (Cols.perm.getD c 0).toNat + 32 * r := by
  unfold idx
  rw [show (c * R + r) / R = c by rw [Nat.add_comm, Nat.add_mul_div_right _ _ (by omega), Nat.div_eq_of_lt hr, Nat.zero_add], show (c * R + r) % R = r by rw [Nat.add_comm, Nat.add_mul_mod_self_right, Nat.mod_eq_of_lt hr]]
theorem lt_of_both {R c r : Nat} (hc : c < 32) (hr : r < R) : c * R + r < 32 * R := by
  have := Nat.mul_le_mul_right R (show c + 1 ≤ 32 by omega)
  rw [Nat.add_mul] at this; omega
theorem max_mat (N m : Nat) : max ((m : Int) - N) (-1) = matF N m := by
  unfold matF; split <;> omega
theorem idx_lt {R k : Nat} (h : k < 32 * R) : idx R k < 32 * R := by
  have hR : 0 < R := by omega
  have h1 := Cols.perm_bd (k / R) (Nat.div_lt_of_lt_mul (by rw [Nat.mul_comm]; exact h))
  have h2 := Nat.mod_lt k hR
  unfold idx; omega
theorem idx2_lt {R k : Nat} {s : Int} (h : k < 32 * R) : idx2 R s k < 32 * R := by
  unfold idx2; split
  · exact Nat.mod_lt _ (by omega)
  · exact idx_lt h
/-- The result when the elements below k are filled in. -/
def partL (d R : Nat) (s : Int) (k : Nat) : List Int := (List.range (32 * R)).map fun j => if j < k then ordF d R s j else 0
theorem partL_len (d R : Nat) (s : Int) (k : Nat) : (partL d R s k).length = 32 * R := by simp [partL]
theorem partL_zero (d R : Nat) (s : Int) : partL d R s 0 = List.replicate (32 * R) 0 := by
  apply List.ext_getElem
  · simp [partL]
  · intro i h1 h2; simp [partL]
theorem partL_full (d R : Nat) (s : Int) : partL d R s (32 * R) = outL d R s (32 * R) := by
  apply List.ext_getElem
  · simp [partL, outL]
  · intro i h1 h2
    have : i < 32 * R := by simpa [outL] using h2
    simp [partL, outL, this]
theorem partL_set (d R : Nat) (s : Int) (k : Nat) : (partL d R s k).set k (ordF d R s k) = partL d R s (k + 1) := by
  apply List.ext_getElem
  · simp [partL]
  · intro i h1 h2
    rw [List.getElem_set]
    by_cases hik : k = i
    · subst hik; simp [partL]
    · have : i < k ↔ i < k + 1 := by omega
      simp [partL, hik, this]
end Ord
end Go.Proofs.Ytpnmfnjpbhjddaa
/- Rate matching: the circular buffer, as lists; no program. -/
namespace Go.Proofs.Ytpnmfnjpbhjddaa
open Go.RowKit
namespace Rm
/-- The position of element i of stream s, or -1. -/
def el (k f s : Nat) (i : Int) : Int := if i < 0 ∨ (s < 2 ∧ i < f) then -1 else ((s * (k + 4) : Nat) : Int) + i
theorem el_neg {k f s : Nat} {i : Int} (h : i < 0) : el k f s i = -1 := if_pos (.inl h)
theorem el_fill {k f s : Nat} {i : Int} (h : s < 2) (h2 : i < f) : el k f s i = -1 := if_pos (.inr ⟨h, h2⟩)
theorem el_pos {k f s : Nat} {i : Int} (h : 0 ≤ i) (h2 : s < 2 → (f : Int) ≤ i) : el k f s i = ((s * (k + 4) : Nat) : Int) + i := by
  unfold el; rw [if_neg]; rintro (h' | ⟨h1, h3⟩)
  · omega
  · have := h2 h1; omega
/-- Element j of the full buffer. -/
def fullF (k f R j : Nat) : Int := if j < 32 * R then el k f 0 (Ord.ordF (k + 4) R 0 j) else el k f (1 + (j - 32 * R) % 2) (Ord.ordF (k + 4) R ((1 + (j - 32 * R) % 2 : Nat) : Int) ((j - 32 * R) / 2))
def fullL (k f R : Nat) : List Int := (List.range (96 * R)).map (fullF k f R)
theorem fullL_len (k f R : Nat) : (fullL k f R).length = 96 * R := by simp [fullL]
/-- Whether element j is filled in when stream s has come to element n. -/
def filled (R s n j : Nat) : Bool := if j < 32 * R then (decide (0 < s) || decide (j < n)) else (decide (1 + (j - 32 * R) % 2 < s) || (decide (1 + (j - 32 * R) % 2 = s) && decide ((j - 32 * R) / 2 < n)))
def partL (k f R s n : Nat) : List Int := (List.range (96 * R)).map fun j => if filled R s n j then fullF k f R j else 0
theorem partL_len (k f R s n : Nat) : (partL k f R s n).length = 96 * R := by simp [partL]
theorem partL_zero (k f R : Nat) : partL k f R 0 0 = List.replicate (96 * R) 0 := by
  apply List.ext_getElem
  · simp [partL]
  · intro i h1 h2
    simp [partL, filled]
theorem partL_full (k f R : Nat) : partL k f R 2 (32 * R) = fullL k f R := by
  apply List.ext_getElem
  · simp [partL, fullL]
  · intro i h1 h2
    have hi : i < 96 * R := by simpa [fullL] using h2
    have hf : filled R 2 (32 * R) i = true := by
      unfold filled
      by_cases h : i < 32 * R
      · rw [if_pos h]; simp
      · rw [if_neg h]
        simp only [Bool.or_eq_true, Bool.and_eq_true, decide_eq_true_eq]
        omega
    simp [partL, fullL, hf]
theorem partL_next {k f R s : Nat} (hs : s < 2) : partL k f R s (32 * R) = partL k f R (s + 1) 0 := by
  apply List.ext_getElem
  · simp [partL]
  · intro i h1 h2
    have hi : i < 96 * R := by simpa [partL] using h2
    have hf : filled R s (32 * R) i = filled R (s + 1) 0 i := by
      unfold filled
      by_cases h : i < 32 * R
      · rw [if_pos h, if_pos h]; simp [h]
      · rw [if_neg h, if_neg h, Bool.eq_iff_iff]
        simp only [Bool.or_eq_true, Bool.and_eq_true, decide_eq_true_eq]
        omega
    simp [partL, hf]
theorem partL_set0 (k f R n : Nat) (h : n < 32 * R) : (partL k f R 0 n).set n (el k f 0 (Ord.ordF (k + 4) R 0 n)) = partL k f R 0 (n + 1) := by
  apply List.ext_getElem
  · simp [partL]
  · intro i h1 h2
    rw [List.getElem_set]
    by_cases hin : n = i
    · subst hin
      simp [partL, filled, h, fullF]
    · have hf : filled R 0 n i = filled R 0 (n + 1) i := by
        unfold filled
        by_cases h : i < 32 * R
        · rw [if_pos h, if_pos h, Bool.eq_iff_iff]; simp; omega
        · rw [if_neg h, if_neg h]; simp
      rw [if_neg hin]; simp [partL, hf]
theorem partL_set (k f R s n : Nat) (hs1 : 1 ≤ s) (hs2 : s ≤ 2) (h : n < 32 * R) : (partL k f R s n).set (32 * R + 2 * n + s - 1) (el k f s (Ord.ordF (k + 4) R s n)) = partL k f R s (n + 1) := by
  have e1 : (32 * R + 2 * n + s - 1 - 32 * R) % 2 = s - 1 := by omega
  have e2 : (32 * R + 2 * n + s - 1 - 32 * R) / 2 = n := by omega
  apply List.ext_getElem
  · simp [partL]
  · intro i h1 h2
    have hi : i < 96 * R := by simpa [partL] using h2
    rw [List.getElem_set]
    by_cases hin : 32 * R + 2 * n + s - 1 = i
    · subst hin
      have hf : filled R s (n + 1) (32 * R + 2 * n + s - 1) = true := by
        unfold filled
        rw [if_neg (by omega), e1, e2]
        simp; omega
      rw [if_pos rfl]
      simp only [partL, List.getElem_map, List.getElem_range, hf, if_true, fullF]
      rw [if_neg (by omega), e1, e2, show 1 + (s - 1) = s by omega]
    · have hf : filled R s n i = filled R s (n + 1) i := by
        unfold filled
        by_cases h : i < 32 * R
        · rw [if_pos h, if_pos h, Bool.eq_iff_iff]; simp; omega
        · rw [if_neg h, if_neg h, Bool.eq_iff_iff]
          simp only [Bool.or_eq_true, Bool.and_eq_true, decide_eq_true_eq]
          omega
      rw [if_neg hin]; simp [partL, hf]
/-- The circular buffer. -/
def buf (k f R n : Nat) : List Int := (fullL k f R).take n
theorem buf_len {k f R n : Nat} (h : n ≤ 96 * R) : (buf k f R n).length = n := by simp [buf, fullL_len]; omega
/-- The rows of a block size. -/
def rows (k : Nat) : Nat := (k + 35) / 32
def size (k : Nat) (limit : Int) : Nat := min limit.toNat (96 * rows k)
def valid (k f limit : Int) : Bool := decide (40 ≤ k) && decide (k ≤ 6144) && decide (0 ≤ f) && decide (f < k) && decide (1 ≤ limit)
theorem valid_of {k f limit : Int} (h : valid k f limit = true) : 40 ≤ k ∧ k ≤ 6144 ∧ 0 ≤ f ∧ f < k ∧ 1 ≤ limit := by
  simp [valid] at h; omega
theorem valid_no {k f limit : Int} (h : valid k f limit = false) : k < 40 ∨ 6144 < k ∨ f < 0 ∨ k ≤ f ∨ limit < 1 := by
  simp [valid] at h; omega
end Rm
end Go.Proofs.Ytpnmfnjpbhjddaa
/- userplane/subblock: the interleaver of a stream and its closures. -/
namespace Go.Proofs.Ytpnmfnjpbhjddaa
open Go.RowKit

theorem shift1_any (m : Int) (w : World) :
    Calls Try.prog 63 #[.int .i64 m] w fun e w' => e = .returned (.int .i64 m) ∧ w' = w := by
  go_enter Try.func63, Try.ntmps63
  go_wp2
  go_ret
  exact ⟨rfl, rfl⟩

set_option maxHeartbeats 400000 in
theorem shift2_any (m b R : Nat) (w : World) (hm : m ≤ 100000) (hR : 1 ≤ R) (hR2 : R ≤ 1000) (hc : w.cell? ⟨b, 0, none⟩ = some (.int .i64 R)) :
    Calls Try.prog 64 #[.int .i64 m, .pointer (some ⟨b, 0, none⟩)] w fun e w' => e = .returned (.int .i64 ((m + 1) % (32 * R) : Nat)) ∧ w' = w := by
  have h0 : ¬ (32 * (R : Int) = 0) := by omega
  go_enter Try.func64, Try.ntmps64
  go_wp2
  go_ret
  exact ⟨ret_int (by push_cast; rfl), rfl⟩

/-- What is known of the shift of a stream: what it captures lies in a block of T. -/
def ShiftOk (W : World) (T : Nat → Prop) (sh : Value) (R : Nat) (s : Int) : Prop :=
  (s ≠ 2 ∧ sh = .func (.func 63) #[] #[]) ∨
  (s = 2 ∧ ∃ b, sh = .func (.func 64) #[] #[.pointer (some ⟨b, 0, none⟩)] ∧ T b ∧ W.cell? ⟨b, 0, none⟩ = some (.int .i64 R))
theorem ShiftOk.keep {W W' : World} {T : Nat → Prop} {sh : Value} {R : Nat} {s : Int} (h : ShiftOk W T sh R s) (hk : ∀ b, b < W.heap.size → T b → W'.heap[b]? = W.heap[b]?) : ShiftOk W' T sh R s := by
  rcases h with h | ⟨h, b, h1, h2, h3⟩
  · exact .inl h
  · exact .inr ⟨h, b, h1, h2, (World.cell?_of_block (w := W) (hk b (World.block_lt_of_cell? W _ h3) h2)).trans h3⟩
theorem ShiftOk.mono {W : World} {T T' : Nat → Prop} {sh : Value} {R : Nat} {s : Int} (h : ShiftOk W T sh R s) (hB : ∀ b, T b → T' b) : ShiftOk W T' sh R s := by
  rcases h with h | ⟨h, b, h1, h2, h3⟩
  · exact .inl h
  · exact .inr ⟨h, b, h1, hB b h2, h3⟩

set_option maxHeartbeats 1000000 in
theorem of_ok (d R : Nat) (s : Int) (hd1 : 1 ≤ d) (hd2 : d ≤ 6148) (hR1 : d ≤ 32 * R) (hR2 : 32 * R < d + 32) (hs0 : 0 ≤ s) (hs2 : s ≤ 2) (w : World) :
    Calls Try.prog 61 #[.int .i64 d, .int .i64 s] w fun e w' => ∃ sh, e = .returned (.tuple #[.agg #[.int .i64 R, sh], .int .i64 0]) ∧ ShiftOk w' (fun b => w.heap.size ≤ b ∧ b < w'.heap.size) sh R s ∧ Below w.heap.size w w' := by
  have hrz : Cols.rowsZ d = (R : Int) := by rw [Cols.rowsZ_in (by omega) (by omega)]; omega
  have HC := hid (show ∀ w, Calls Try.prog 51 #[.int .i64 d] w fun e w' => e = .returned (.int .i64 R) ∧ w = w' from fun w => by rw [← hrz]; exact rows_any d w)
  clear hrz
  have hr0 : ((R : Int) == 0) = false := by simp; omega
  by_cases h2 : s = 2
  · subst h2
    go_enter Try.func61, Try.ntmps61
    go_wp2_with (go_at_call 51; refine (HC.out _).mono ?_; rintro e w' ⟨rfl, rfl⟩)
    refine bodyPost_ret (v := .tuple #[.agg #[.int .i64 R, .func (.func 64) #[] #[.pointer (some ⟨w.heap.size + 1, 0, none⟩)]], .int .i64 0]) (by simp [results, Try.results61, go_sem]) rfl ⟨_, rfl, .inr ⟨rfl, w.heap.size + 1, rfl, ⟨by omega, by simp⟩, ?_⟩, ?_⟩
    · go_simp
    · exact ((Below.refl _ _).alloc (Nat.le_refl _) _).alloc (by simp) _
  · have hs' : (s == 2) = false := by simp [h2]
    have H2 := hid h2
    clear h2
    go_enter Try.func61, Try.ntmps61
    go_wp2_with (go_at_call 51; refine (HC.out _).mono ?_; rintro e w' ⟨rfl, rfl⟩)
    refine bodyPost_ret (v := .tuple #[.agg #[.int .i64 R, .func (.func 63) #[] #[]], .int .i64 0]) (by simp [results, Try.results61, go_sem]) rfl ⟨_, rfl, .inl ⟨H2.out, rfl⟩, ?_⟩
    exact ((Below.refl _ _).alloc (Nat.le_refl _) _).alloc (by simp) _

set_option maxHeartbeats 1000000 in
theorem of_err (d s : Int) (h : d < 1 ∨ 6148 < d ∨ s < 0 ∨ 2 < s) (w : World) :
    Calls Try.prog 61 #[.int .i64 d, .int .i64 s] w fun e w' => e = .returned (.tuple #[.agg #[.int .i64 0, .nilFunc], .int .i64 2]) ∧ Below w.heap.size w w' := by
  by_cases h1 : d < 1 ∨ 6148 < d
  · have HC := hid (show ∀ w, Calls Try.prog 51 #[.int .i64 d] w fun e w' => e = .returned (.int .i64 0) ∧ w = w' from fun w => by rw [← Cols.rowsZ_out h1]; exact rows_any d w)
    clear h1 h
    go_enter Try.func61, Try.ntmps61
    go_wp2_with (go_at_call 51; refine (HC.out _).mono ?_; rintro e w' ⟨rfl, rfl⟩)
    refine bodyPost_ret (v := .tuple #[.agg #[.int .i64 0, .nilFunc], .int .i64 2]) (by simp [results, Try.results61, go_sem]) rfl ⟨rfl, ?_⟩
    exact ((Below.refl _ _).alloc (Nat.le_refl _) _).alloc (by simp) _
  · obtain ⟨R, hR⟩ : ∃ R : Nat, Cols.rowsZ d = (R : Int) := ⟨((d + 31) / 32).toNat, by rw [Cols.rowsZ_in (by omega) (by omega)]; omega⟩
    have hR0 : 0 < R := by rw [Cols.rowsZ_in (by omega) (by omega)] at hR; omega
    have HC := hid (show ∀ w, Calls Try.prog 51 #[.int .i64 d] w fun e w' => e = .returned (.int .i64 R) ∧ w = w' from fun w => by rw [← hR]; exact rows_any d w)
    clear hR
    have hr0 : ((R : Int) == 0) = false := by simp; omega
    by_cases h2 : s < 0
    · go_enter Try.func61, Try.ntmps61
      go_wp2_with (go_at_call 51; refine (HC.out _).mono ?_; rintro e w' ⟨rfl, rfl⟩)
      refine bodyPost_ret (v := .tuple #[.agg #[.int .i64 0, .nilFunc], .int .i64 2]) (by simp [results, Try.results61, go_sem]) rfl ⟨rfl, ?_⟩
      exact ((Below.refl _ _).alloc (Nat.le_refl _) _).alloc (by simp) _
    · have h3 : 2 < s := by omega
      have h4 : ¬ s < 0 := by omega
      go_enter Try.func61, Try.ntmps61
      go_wp2_with (go_at_call 51; refine (HC.out _).mono ?_; rintro e w' ⟨rfl, rfl⟩)
      refine bodyPost_ret (v := .tuple #[.agg #[.int .i64 0, .nilFunc], .int .i64 2]) (by simp [results, Try.results61, go_sem]) rfl ⟨rfl, ?_⟩
      exact ((Below.refl _ _).alloc (Nat.le_refl _) _).alloc (by simp) _

theorem indices_any (u0 u1 : Value) (w : World) :
    Calls Try.prog 62 #[.agg #[u0, u1]] w fun e w' => e = .returned (.func (.func 65) #[] #[.pointer (some ⟨w.heap.size, 0, none⟩)]) ∧ w' = w.alloc (.cells #[u0, u1] 89) := by
  go_enter Try.func62, Try.ntmps62
  go_wp2
  go_ret
  exact ⟨rfl, rfl⟩
end Go.Proofs.Ytpnmfnjpbhjddaa
/- userplane/subblock: the iterator over the matrix indices. -/
namespace Go.Proofs.Ytpnmfnjpbhjddaa
open Go.RowKit Go.Shelf

theorem shift_call {W : World} {T : Nat → Prop} {sh : Value} {R : Nat} {s : Int} (h : ShiftOk W T sh R s) (hR : 1 ≤ R) (hR2 : R ≤ 1000) :
    ∃ f lb, sh = .func (.func f) #[] lb ∧ (∀ args w, (callFunc f args).run Try.prog w = .ok (.enter f args) w) ∧
      ∀ W', (∀ b, b < W.heap.size → T b → W'.heap[b]? = W.heap[b]?) → ∀ m : Nat, m ≤ 100000 → Calls Try.prog f (#[.int .i64 m] ++ lb) W' fun e w' => e = .returned (.int .i64 (if s = 2 then (m + 1) % (32 * R) else m : Nat)) ∧ w' = W' := by
  have h' := h
  rcases h with ⟨h, rfl⟩ | ⟨h, b, rfl, _, hc⟩
  · exact ⟨_, _, rfl, enters_of Try.func63 (by kernel_rfl) rfl, fun W' _ m _ => by rw [if_neg h]; exact shift1_any _ _⟩
  · refine ⟨_, _, rfl, enters_of Try.func64 (by kernel_rfl) rfl, fun W' hk m hm => ?_⟩
    rw [if_pos h]
    rcases h'.keep hk with ⟨h2, _⟩ | ⟨_, b', e, _, hc'⟩
    · exact absurd h h2
    · simp at e; subst e
      exact shift2_any m _ R W' hm hR hR2 hc'

set_option maxRecDepth 100000 in
set_option maxHeartbeats 2000000 in
theorem indices1_iter (R B : Nat) (s : Int) (hR1 : 1 ≤ R) (hR2 : R ≤ 1000) (T : Nat → Prop) (hTB : T B) (sh : Value) (w : World) (hc0 : w.cell? ⟨B, 0, none⟩ = some (.int .i64 R)) (hc1 : w.cell? ⟨B, 1, none⟩ = some sh) (hsh : ShiftOk w T sh R s) (hT : ∀ b, T b → b < w.heap.size) :
    IterC Try.prog 65 #[.pointer (some ⟨B, 0, none⟩)] (fun k => #[.int .i64 k, .int .i64 (Ord.idx2 R s k)]) (some (32 * R)) 2 T w := by
  intro l J Jx W hW hJ hJx hY h0 _
  have hWs := hW.size
  have HI := hid (show (Try.prog.info? 95).map (·.size) = some Cols.permA.size by kernel_rfl)
  have hc0' := (hW.cell (p := ⟨B, 0, none⟩) (hT B hTB)).trans hc0
  have hc1' := (hW.cell (p := ⟨B, 1, none⟩) (hT B hTB)).trans hc1
  have hsh' : ShiftOk W T sh R s := hsh.keep (fun b hb _ => hW.block b hb)
  have HY := hid hY
  have HJ := hid hJ
  have HJx := hid hJx
  clear hY hJ hc0 hc1 hsh hJx
  refine calls_of_wp Try.func65 rfl ?_
  simp only [Try.ntmps65, List.size_toArray, List.length_cons, List.length_nil, Nat.reduceAdd, Nat.reduceSub, Array.replicate_succ, Array.replicate_zero, List.push_toArray, List.append_toArray, List.nil_append, List.cons_append]
  go_wp2_with (first
    | (go_at_call 66; refine (columns_any _).mono ?_; rintro e w' ⟨rfl, hBc, hszc⟩; have HSZ := hid hszc; clear hszc; have hcB := (hBc.cell (p := ⟨B, 0, none⟩) (Nat.lt_of_lt_of_le (hT B hTB) hWs)).trans hc0'; have hBl : B < w'.heap.size := Nat.lt_of_lt_of_le (hT B hTB) (Nat.le_trans hWs hBc.size))
    | (refine wpList_run_skip rfl (exec_store_new 95 (.tmp 3) (.tmp 5) rfl rfl _ _ (.agg Cols.permA) rfl HI.out Cols.permA_size Cols.permA_one) ?_))
  obtain ⟨W2, hW2⟩ : ∃ W2 : World, W2 = w'.alloc (.cells (Value.agg Cols.permA).cells 95) := ⟨_, rfl⟩
  have hB2 : Below W.heap.size W W2 := by rw [hW2]; exact hBc.alloc hBc.size _
  have hs2 : W2.heap.size = W.heap.size + 2 := by rw [hW2]; simp [HSZ.out]
  have hrow : W2.heap[W.heap.size + 1]? = some (.cells Cols.permA 95 (0, 0)) := by rw [hW2, ← HSZ.out]; exact heap_alloc_new w' _
  have hJ2 : J 0 W2 := HJ.out _ _ _ h0 ((Fr.of_below hB2).mono (fun k hk h => by omega))
  rw [← show W2 = w'.alloc (.cells Cols.permA 95) from hW2]
  rw [HSZ.out]
  have hcB2 : W2.cell? ⟨B, 0, none⟩ = some (.int .i64 R) := (hB2.cell (p := ⟨B, 0, none⟩) (Nat.lt_of_lt_of_le (hT B hTB) hWs)).trans hc0'
  have hcS2 : W2.cell? ⟨B, 1, none⟩ = some sh := (hB2.cell (p := ⟨B, 1, none⟩) (Nat.lt_of_lt_of_le (hT B hTB) hWs)).trans hc1'
  have hsh2 : ShiftOk W2 T sh R s := hsh'.keep (fun b hb _ => hB2.block b hb)
  obtain ⟨f, lb, rfl, hef, hsc⟩ := shift_call hsh2 hR1 hR2
  have HSC := hid hsc
  have HR := hid hrow
  have HW2 := hid hs2
  clear hsc hrow hs2 hsh2 hsh' hc0' hc1' hcB hBc hBl hW2 h0 HI HSZ
  refine (wpIn_wide (n := 1)).1 ?_
  gi_loopw [9] (fun i wr => ∃ k : Nat, k ≤ 32 * R ∧ i = .int .i64 k ∧ J k wr ∧ KeepT (fun b => T b ∨ (W.heap.size ≤ b ∧ b < W.heap.size + 2)) W2 wr) (fun i _ => 32 * R - (intOf i).toNat)
  case atStart => exact ⟨0, Nat.zero_le _, rfl, hJ2, KeepT.refl _ _⟩
  case round =>
    clear hJ2
    obtain ⟨k, hk, rfl, hJk, hKT⟩ := hrel
    have hT2 : ∀ b, T b → b < W2.heap.size := fun b hb => by have := hT b hb; have := HW2.out; omega
    by_cases hlt : k < 32 * R
    · have hcB := hKT.cell hcB2 (.inl hTB)
      have hcS := hKT.cell hcS2 (.inl hTB)
      have hrow : wr.heap[W.heap.size + 1]? = some (.cells Cols.permA 95 (0, 0)) := (hKT.2 _ (by rw [HW2.out]; omega) (.inr (by omega))).trans HR.out
      have hq32 : k / R < 32 := Nat.div_lt_of_lt_mul (by rw [Nat.mul_comm]; exact hlt)
      have hpc : wr.cell? ⟨W.heap.size + 1, k / R, none⟩ = some (.int .i64 (Cols.perm.getD (k / R) 0)) := by
        rw [cell_of_row _ _ _ _ _ _ hrow]; exact Cols.permA_at _ hq32
      have hbd := Cols.perm_bd (k / R) hq32
      have hkr : k % R < R := Nat.mod_lt _ (by omega)
      obtain ⟨q, hq⟩ : ∃ q : Nat, q = (Cols.perm.getD (k / R) 0).toNat := ⟨_, rfl⟩
      have hqz : Cols.perm.getD (k / R) 0 = (q : Int) := by rw [hq]; omega
      rw [hqz] at hpc
      have hq31 : q < 32 := by omega
      have hid' : Ord.idx2 R s k = (if s = 2 then (q + 32 * (k % R) + 1) % (32 * R) else q + 32 * (k % R)) := by
        unfold Ord.idx2 Ord.idx; rw [← hq]
      have hY := HY.out k wr.drew (fun n hn => by cases hn; exact hlt) (HJ.out _ _ _ hJk (Fr.drew _ _))
      rw [hid'] at hY
      have hcall := HSC.out wr.drew (fun b hb hTb => hKT.2 b hb (.inl hTb)) (q + 32 * (k % R)) (by omega)
      clear hcB2 hcS2 hJk hid' hq hqz hbd hrow
      gi_wp2
      have hR0 : ¬ R = 0 := by omega
      obtain ⟨c, hc⟩ : ∃ c : Nat, c = k / R := ⟨_, rfl⟩
      obtain ⟨r, hr⟩ : ∃ r : Nat, r = k % R := ⟨_, rfl⟩
      rw [← hc] at hq32 hpc
      rw [← hr] at hkr hY hcall
      rw [show ((q + 32 * r : Nat) : Int) = (q : Int) + 32 * (r : Int) by push_cast; rfl] at hcall
      generalize (if s = 2 then (q + 32 * r + 1) % (32 * R) else q + 32 * r) = v at hcall hY
      have hw1 : (k : Int) / (R : Int) = (c : Int) := by rw [hc]; rfl
      have hw2 : (k : Int).tmod (R : Int) = (r : Int) := by rw [hr]; rfl
      clear hc hr
      have hcz : (c : Int) < 32 := by omega
      have hw3 : IntKind.i64.wrap (c : Int) = c := IntWalk.i64_in _ (by omega)
      have hw4 : IntKind.i64.wrap (r : Int) = r := IntWalk.i64_in _ (by omega)
      have hw5 : IntKind.i64.wrap (32 * (r : Int)) = 32 * r := IntWalk.i64_in _ (by omega)
      have hw6 : IntKind.i64.wrap ((q : Int) + 32 * (r : Int)) = q + 32 * r := IntWalk.i64_in _ (by omega)
      have hkt : Try.prog.follows .mixedOrders = true := by kernel_rfl
      have HK := hid hkt
      clear hkt
      refine wpIn_tail_wide 17 HK.out (by kernel_rfl) (by kernel_rfl) ?_
      simp only [List.take_succ_cons, List.take_zero, List.drop_succ_cons, List.drop_zero]
      iterate 16 still_step
      still_call hcall
      refine wpStill_nil ?_
      clear hw1 hw2 hw3 hw4 hw5 hw6 hcall hcz hef
      obtain ⟨fn, tmps, assign, body, hy, hR⟩ := hY
      gi_wp2
      refine hR.mono ?_
      rintro e W3 (⟨rfl, hJ3, hk3⟩ | ⟨rfl, hJx3⟩)
      · gi_wp2
        go_roundw
        case rel => exact ⟨k + 1, by omega, by go_num, hJ3, hKT.trans hk3⟩
        case measure => simp [intOf]; omega
      · gi_wp2
        refine bodyPost_ret (results_none rfl _ _ _) rfl ?_
        exact ⟨⟨_, rfl⟩, .inr ⟨_, hJx3⟩⟩
    · obtain rfl : k = 32 * R := by omega
      gi_wp2
      go_end0
      exact ⟨⟨_, rfl⟩, .inl ⟨_, rfl, hJk⟩⟩
end Go.Proofs.Ytpnmfnjpbhjddaa
/- userplaneref09.Order: its contract. -/
namespace Go.Proofs.Ytpnmfnjpbhjddaa
open Go.RowKit
theorem elem_int : Elem1 Try.prog 22 3 8 (.int .i64 0) := Elem1.mk' Try.underlying22 (by kernel_rfl) rfl

end Go.Proofs.Ytpnmfnjpbhjddaa
/- userplane/subblock.Order: its contract. -/
namespace Go.Proofs.Ytpnmfnjpbhjddaa
open Go.RowKit Go.Shelf
attribute [local go_sem] Oper.semAt_some

theorem ShiftOk.func {W : World} {T : Nat → Prop} {sh : Value} {R : Nat} {s : Int} (h : ShiftOk W T sh R s) : ∃ f lb, sh = .func (.func f) #[] lb := by
  rcases h with ⟨_, rfl⟩ | ⟨_, b, rfl, _⟩
  · exact ⟨_, _, rfl⟩
  · exact ⟨_, _, rfl⟩

set_option maxHeartbeats 2000000 in
theorem order_ok (d R : Nat) (s : Int) (hd1 : 1 ≤ d) (hd2 : d ≤ 6148) (hR1 : d ≤ 32 * R) (hR2 : 32 * R < d + 32) (hs0 : 0 ≤ s) (hs2 : s ≤ 2) (w : World) :
    Calls Try.prog 59 #[.int .i64 d, .int .i64 s] w fun e w' => ∃ v, e = .returned (.tuple #[v, .int .i64 0]) ∧
      OwnL w' w.heap.size 3 v ((Ord.outL d R s (32 * R)).map (Value.int .i64)) ∧ Below w.heap.size w w' := by
  have HOf := hid (fun w => of_ok d R s hd1 hd2 hR1 hR2 hs0 hs2 w)
  refine calls_of_wp_marks Try.func59 rfl ?_
  simp only [Try.ntmps59, List.size_toArray, List.length_cons, List.length_nil, Nat.reduceAdd, Nat.reduceSub, Array.replicate_succ, Array.replicate_zero, List.push_toArray, List.append_toArray, List.nil_append, List.cons_append]
  go_wp2_with (first
    | (go_at_call 61; refine (HOf.out _).mono ?_; rintro e w1 ⟨sh, rfl, hsh, hB1⟩; obtain ⟨f, lb, rfl⟩ := hsh.func)
    | (at_make; refine wpList_run_value rfl (exec_make_one elem_int (.tmp 22) (.tmp 22) rfl .i64 .i64 _ _ (32 * R) (32 * R) rfl rfl (by omega) (by omega) (Nat.le_refl _) (by omega) (by omega)) ?_)
    | (go_at_call 62; refine (indices_any _ _ _).mono ?_; rintro e w2 ⟨rfl, rfl⟩))
  obtain ⟨n1, hn1⟩ : ∃ n1, n1 = w1.heap.size := ⟨_, rfl⟩
  have hsz1 := hB1.size
  simp only [World.size_alloc] at hsz1 hB1 hsh
  obtain ⟨W, hW⟩ : ∃ W : World, W = (((w1.alloc (.cells #[.int .i64 R, .func (.func f) #[] lb] 89)).alloc (.cells (Array.replicate (32 * R) (Value.int .i64 0)) 3)).alloc (.cells #[.slice (some ⟨w1.heap.size + 1, 0, none⟩) (32 * R) (32 * R)] 22)).alloc (.cells #[.int .i64 R, .func (.func f) #[] lb] 89) := ⟨_, rfl⟩
  rw [← hW, ← hn1]
  rw [← hn1] at hW hsz1
  have hWs : W.heap.size = n1 + 4 := by rw [hW]; simp [hn1]
  have hBW : Below n1 w1 W := by rw [hW]; exact ((((Below.refl _ _).alloc (by omega) _).alloc (by simp; omega) _).alloc (by simp; omega) _).alloc (by simp; omega) _
  have hwW : Below w.heap.size w W := (((Below.refl _ _).alloc (Nat.le_refl _) _).trans (hB1.mono (by omega))).trans (hBW.mono (by omega))
  have hcd : W.cell? ⟨w.heap.size, 0, none⟩ = some (.int .i64 d) := by
    rw [hBW.cell (p := ⟨w.heap.size, 0, none⟩) (by simp; omega), hB1.cell (p := ⟨w.heap.size, 0, none⟩) (by simp)]; go_simp
  have hco : W.cell? ⟨n1 + 1 + 1, 0, none⟩ = some (.slice (some ⟨n1 + 1, 0, none⟩) (32 * R) (32 * R)) := by rw [hW]; go_simp
  have hown : OwnL W w.heap.size 3 (.slice (some ⟨n1 + 1, 0, none⟩) (32 * R) (32 * R)) ((Ord.partL d R s 0).map (Value.int .i64)) := by
    rw [Ord.partL_zero, List.map_replicate, hW]
    have h1 := OwnL.zeros (w1.alloc (.cells #[.int .i64 R, .func (.func f) #[] lb] 89)) w.heap.size 3 (32 * R) (.int .i64 0) (by simp; omega) (by omega)
    rw [World.size_alloc, ← hn1] at h1
    exact (h1.alloc _).alloc _
  have hit := indices1_iter R (n1 + 1 + 1 + 1) s (by omega) (by omega) (fun b => b = n1 + 1 + 1 + 1 ∨ (w.heap.size + 1 ≤ b ∧ b < n1)) (.inl rfl) (.func (.func f) #[] lb) W (by rw [hW]; go_simp) (by rw [hW]; go_simp)
    ((hsh.mono (fun b hb => .inr (by rw [← hn1] at hb; exact hb))).keep (fun b hb _ => hBW.block b (by omega))) (by intro b hb; omega)
  have HIT := hid hit
  have HW := hid hWs
  clear hit hW hBW hsh HOf hB1 hn1 hWs
  refine (wpIn_wide (n := 1)).1 ?_
  refine wpIn_range (gf := 65) (lb := #[.pointer (some ⟨n1 + 1 + 1 + 1, 0, none⟩)]) rfl (enters_of Try.func65 (by kernel_rfl) rfl) HIT.out (Below.refl _ _) (fun _ => rfl)
    (fun k V => OwnL V w.heap.size 3 (.slice (some ⟨n1 + 1, 0, none⟩) (32 * R) (32 * R)) ((Ord.partL d R s k).map (Value.int .i64)) ∧ V.cell? ⟨w.heap.size, 0, none⟩ = some (.int .i64 d) ∧ V.cell? ⟨n1 + 1 + 1, 0, none⟩ = some (.slice (some ⟨n1 + 1, 0, none⟩) (32 * R) (32 * R)) ∧ Below w.heap.size w V)
    (fun _ _ _ => False)
    (fun k A B h hf => ⟨h.1.fr hf (fun g e => by rw [HW.out]; simp [Value.ownBlock] at e; omega), (hf.cell (World.block_lt_of_cell? A _ h.2.1) (by rw [HW.out]; dsimp only; omega)).trans h.2.1, (hf.cell (World.block_lt_of_cell? A _ h.2.2.1) (by rw [HW.out]; dsimp only; omega)).trans h.2.2.1,
      h.2.2.2.trans (hf.below h.2.2.2.size (fun k hk h' => by rw [HW.out] at h'; omega))⟩)
    (fun _ _ _ _ h _ => h) ⟨hown, hcd, hco, hwW⟩ (fun h => by cases h) ?a1 ?assign ?body ?done (fun _ _ _ _ h => h.elim)
  case assign =>
    intro l k V K hK
    gi_wp2
    exact hK
  case body =>
    rintro l k V hk ⟨hownV, hcdV, hcoV, hBV⟩ hVs
    have hlt := hk _ rfl
    obtain ⟨m, hm⟩ : ∃ m : Nat, m = Ord.idx2 R s k := ⟨_, rfl⟩
    have hmR : m < 32 * R := by rw [hm]; exact Ord.idx2_lt hlt
    have hval := Ord.max_mat (32 * R - d) m
    have hfr := hownV.free k
    have hck := hownV.at k (by simp [Ord.partL_len]; exact hlt)
    obtain ⟨u, hu⟩ : ∃ u : Value, V.cell? ⟨n1 + 1, k, none⟩ = some u := ⟨_, hck⟩
    have HM := hid hm
    have HV := hid hval
    have HO := hid hownV
    rw [← hm]
    clear hm hval hck hownV hk hown hcd hco hwW HIT
    have fin : ∀ y : Int, y = Ord.matF (32 * R - d) m → KeepT (fun b => (b = n1 + 1 + 1 + 1 ∨ (w.heap.size + 1 ≤ b ∧ b < n1)) ∨ (W.heap.size ≤ b ∧ b < W.heap.size + 2 + 2)) V (V.setCell ⟨n1 + 1, k, none⟩ (.int .i64 y)) ∧
        OwnL (V.setCell ⟨n1 + 1, k, none⟩ (.int .i64 y)) w.heap.size 3 (.slice (some ⟨n1 + 1, 0, none⟩) (32 * R) (32 * R)) ((Ord.partL d R s (k + 1)).map (Value.int .i64)) ∧ (V.setCell ⟨n1 + 1, k, none⟩ (.int .i64 y)).cell? ⟨w.heap.size, 0, none⟩ = some (.int .i64 d) ∧
        (V.setCell ⟨n1 + 1, k, none⟩ (.int .i64 y)).cell? ⟨n1 + 1 + 1, 0, none⟩ = some (.slice (some ⟨n1 + 1, 0, none⟩) (32 * R) (32 * R)) ∧ Below w.heap.size w (V.setCell ⟨n1 + 1, k, none⟩ (.int .i64 y)) := by
      intro y hy
      have hf : Fr (fun b => b = n1 + 1) V (V.setCell ⟨n1 + 1, k, none⟩ (.int .i64 y)) := Fr.setCell V _ _ rfl
      refine ⟨KeepT.of_fr hf (by intro b hb; rw [HW.out] at hb; omega), ?_, ?_, ?_, hBV.setCell (p := ⟨n1 + 1, k, none⟩) (by dsimp only; omega) _⟩
      · have h1 := HO.out.stored k (.int .i64 y)
        rw [hy, HM.out, ← Ord.ordF, ← List.map_set, Ord.partL_set] at h1
        rw [hy, HM.out, ← Ord.ordF]; exact h1
      · exact (hf.cell (World.block_lt_of_cell? V _ hcdV) (by dsimp only; omega)).trans hcdV
      · exact (hf.cell (World.block_lt_of_cell? V _ hcoV) (by dsimp only; omega)).trans hcoV
    have HF := hid fin
    clear fin
    gi_wp2
    · exact HF.out _ (by rw [← HV.out]; omega)
    · exact HF.out _ (by rw [← HV.out]; omega)
  case done =>
    rintro D n V hn ⟨hownV, _, hcoV, hBV⟩ hD hDl
    cases hn
    rw [Ord.partL_full] at hownV
    clear hown hcd hco hwW HIT
    go_wp2
    have hf : Fr (fun b => b = D) V (V.putObj D (.deferred none)) := Fr.putObj V D _ rfl
    refine bodyPostM_ret1 hD rfl (results_tmp2 rfl _ _ _) ⟨_, rfl, hownV.fr hf (fun g e => by have := HW.out; simp [Value.ownBlock] at e; omega), hBV.trans (hf.below hBV.size (fun i hi e => by have := HW.out; omega))⟩

set_option maxHeartbeats 400000 in
theorem order_err (d s : Int) (h : d < 1 ∨ 6148 < d ∨ s < 0 ∨ 2 < s) (w : World) :
    Calls Try.prog 59 #[.int .i64 d, .int .i64 s] w fun e w' => e = .returned (.tuple #[.slice none 0 0, .int .i64 2]) ∧ Below w.heap.size w w' := by
  have HOf := hid (fun w => of_err d s h w)
  refine calls_of_wp_marks Try.func59 rfl ?_
  simp only [Try.ntmps59, List.size_toArray, List.length_cons, List.length_nil, Nat.reduceAdd, Nat.reduceSub, Array.replicate_succ, Array.replicate_zero, List.push_toArray, List.append_toArray, List.nil_append, List.cons_append]
  go_wp2_with (go_at_call 61; refine (HOf.out _).mono ?_; rintro e w1 ⟨rfl, hB1⟩)
  exact bodyPostM_ret0 rfl (results_tmp2 rfl _ _ _) ⟨rfl, ((Below.refl _ _).alloc (Nat.le_refl _) _).trans (hB1.mono (by simp)) |>.trans (((Below.refl _ _).alloc (by have := hB1.size; simp at this; omega) _))⟩
end Go.Proofs.Ytpnmfnjpbhjddaa
/- The order of an interleaved stream: every index occurs once (plain lists; no program). -/
namespace Go.Proofs.Ytpnmfnjpbhjddaa
open Go.RowKit
namespace Ord

/-- How many of the numbers below n satisfy p. -/
def cnt (p : Nat → Bool) : Nat → Nat
  | 0 => 0
  | n + 1 => cnt p n + (if p n then 1 else 0)
theorem cnt_none {p : Nat → Bool} : ∀ n, (∀ k, k < n → p k = false) → cnt p n = 0
  | 0, _ => rfl
  | n + 1, h => by rw [cnt, cnt_none n (fun k hk => h k (by omega)), h n (by omega)]; rfl
theorem cnt_one {p : Nat → Bool} {k0 : Nat} (hp : p k0 = true) : ∀ n, k0 < n → (∀ k, k < n → p k = true → k = k0) → cnt p n = 1
  | 0, h, _ => by omega
  | n + 1, h, hu => by
    rw [cnt]
    by_cases e : k0 = n
    · subst e
      rw [cnt_none _ (fun k hk => by
        cases hpk : p k with
        | false => rfl
        | true => have := hu k (by omega) hpk; omega), hp]; rfl
    · have hn : p n = false := by
        cases hpn : p n with
        | false => rfl
        | true => exact absurd (hu n (by omega) hpn).symm e
      rw [cnt_one hp n (by omega) (fun k hk => hu k (by omega)), hn]; rfl
theorem cnt_or {p q r : Nat → Bool} : ∀ n, (∀ k, k < n → (p k = (q k || r k)) ∧ ¬ (q k = true ∧ r k = true)) → cnt p n = cnt q n + cnt r n
  | 0, _ => rfl
  | n + 1, h => by
    rw [cnt, cnt, cnt, cnt_or n (fun k hk => h k (by omega))]
    have h1 := h n (by omega)
    rw [h1.1]
    cases hq : q n <;> cases hr : r n <;> simp [hq, hr] at h1 ⊢ <;> omega
theorem cnt_le (p : Nat → Bool) : ∀ n, cnt p n ≤ n
  | 0 => Nat.le_refl _
  | n + 1 => by rw [cnt]; have := cnt_le p n; split <;> omega

theorem perm_inv : ∀ k, k < 32 → (Cols.perm.getD (Cols.perm.getD k 0).toNat 0).toNat = k := by decide +kernel
/-- The element at which a matrix index is met. -/
def inv (R m : Nat) : Nat := (Cols.perm.getD (m % 32) 0).toNat * R + m / 32
theorem perm_lt {k : Nat} (h : k < 32) : (Cols.perm.getD k 0).toNat < 32 := by have := Cols.perm_bd k h; omega
theorem inv_lt {R m : Nat} (h : m < 32 * R) : inv R m < 32 * R := lt_of_both (perm_lt (Nat.mod_lt _ (by omega))) (by omega)
theorem idx_inv {R m : Nat} (h : m < 32 * R) : idx R (inv R m) = m := by
  unfold inv
  rw [idx_at (by omega), perm_inv _ (Nat.mod_lt _ (by omega))]
  omega
theorem inv_idx {R k : Nat} (h : k < 32 * R) : inv R (idx R k) = k := by
  have hR : 0 < R := by omega
  have hq : k / R < 32 := Nat.div_lt_of_lt_mul (by rw [Nat.mul_comm]; exact h)
  have h1 := perm_lt hq
  unfold inv idx
  rw [show ((Cols.perm.getD (k / R) 0).toNat + 32 * (k % R)) % 32 = (Cols.perm.getD (k / R) 0).toNat by omega, show ((Cols.perm.getD (k / R) 0).toNat + 32 * (k % R)) / 32 = k % R by omega, perm_inv _ hq]
  have := Nat.div_add_mod k R
  rw [Nat.mul_comm]; exact this
/-- .. for each of the three streams. -/
def inv2 (R : Nat) (s : Int) (m : Nat) : Nat := if s = 2 then inv R ((m + (32 * R - 1)) % (32 * R)) else inv R m
theorem mod_back {M m : Nat} (h : m < M) : ((m + (M - 1)) % M + 1) % M = m := by
  by_cases h0 : m = 0
  · subst h0
    rw [Nat.zero_add, Nat.mod_eq_of_lt (show M - 1 < M by omega), show M - 1 + 1 = M by omega, Nat.mod_self]
  · rw [show m + (M - 1) = (m - 1) + M by omega, Nat.add_mod_right, Nat.mod_eq_of_lt (show m - 1 < M by omega), show m - 1 + 1 = m by omega, Nat.mod_eq_of_lt h]
theorem mod_fore {M m : Nat} (h : m < M) : ((m + 1) % M + (M - 1)) % M = m := by
  by_cases h0 : m + 1 = M
  · rw [h0, Nat.mod_self, Nat.zero_add, Nat.mod_eq_of_lt (by omega)]; omega
  · rw [Nat.mod_eq_of_lt (show m + 1 < M by omega), show m + 1 + (M - 1) = m + M by omega, Nat.add_mod_right, Nat.mod_eq_of_lt h]
theorem inv2_lt {R m : Nat} {s : Int} (h : m < 32 * R) : inv2 R s m < 32 * R := by
  unfold inv2; split
  · exact inv_lt (Nat.mod_lt _ (by omega))
  · exact inv_lt h
theorem idx2_inv {R m : Nat} {s : Int} (h : m < 32 * R) : idx2 R s (inv2 R s m) = m := by
  unfold idx2 inv2
  by_cases hs : s = 2
  · rw [if_pos hs, if_pos hs, idx_inv (Nat.mod_lt _ (by omega)), mod_back h]
  · rw [if_neg hs, if_neg hs, idx_inv h]
theorem inv2_idx {R k : Nat} {s : Int} (h : k < 32 * R) : inv2 R s (idx2 R s k) = k := by
  unfold idx2 inv2
  by_cases hs : s = 2
  · rw [if_pos hs, if_pos hs, mod_fore (idx_lt h), inv_idx h]
  · rw [if_neg hs, if_neg hs, inv_idx h]
theorem cnt_idx {R m : Nat} {s : Int} (h : m < 32 * R) : cnt (fun k => idx2 R s k == m) (32 * R) = 1 :=
  cnt_one (k0 := inv2 R s m) (by simp [idx2_inv h]) _ (inv2_lt h) (fun k hk e => by
    have e' : idx2 R s k = m := by simpa using e
    rw [← e', inv2_idx hk])
theorem cnt_below {R : Nat} {s : Int} : ∀ N, N ≤ 32 * R → cnt (fun k => decide (idx2 R s k < N)) (32 * R) = N
  | 0, _ => cnt_none _ (fun k _ => by simp)
  | N + 1, h => by
    rw [cnt_or (q := fun k => decide (idx2 R s k < N)) (r := fun k => idx2 R s k == N), cnt_below N (by omega), cnt_idx (by omega)]
    intro k _
    constructor
    · rw [Bool.eq_iff_iff]; simp; omega
    · simp; omega

/-- How often i occurs among the first n elements. -/
def often (d R : Nat) (s : Int) (n : Nat) (i : Int) : Nat := cnt (fun k => ordF d R s k == i) n
theorem often_one {d R : Nat} {s : Int} (hR : d ≤ 32 * R) {i : Nat} (hi : i < d) : often d R s (32 * R) i = 1 := by
  unfold often
  have hm : 32 * R - d + i < 32 * R := by omega
  refine cnt_one (k0 := inv2 R s (32 * R - d + i)) ?_ _ (inv2_lt hm) ?_
  · rw [ordF, idx2_inv hm, matF, if_neg (by omega)]; simp
  · intro k hk e
    have e' : ordF d R s k = i := by simpa using e
    rw [ordF, matF] at e'
    split at e'
    · omega
    · rw [← inv2_idx (s := s) hk]; congr 1; omega
theorem often_dummy {d R : Nat} {s : Int} (hR : d ≤ 32 * R) : often d R s (32 * R) (-1) = 32 * R - d := by
  unfold often
  rw [show (fun k => ordF d R s k == -1) = (fun k => decide (idx2 R s k < 32 * R - d)) from ?_]
  · exact cnt_below _ (by omega)
  · funext k
    rw [Bool.eq_iff_iff]
    simp only [ordF, matF, beq_iff_eq, decide_eq_true_eq]
    split <;> omega
theorem often_le (d R : Nat) (s : Int) (n : Nat) (i : Int) : often d R s n i ≤ n := cnt_le _ _
theorem often_succ (d R : Nat) (s : Int) (n : Nat) (i : Int) : often d R s (n + 1) i = often d R s n i + (if ordF d R s n = i then 1 else 0) := by
  unfold often; rw [cnt]; simp
theorem ordF_bd {d R : Nat} {s : Int} {k : Nat} (hR : d ≤ 32 * R) (h : k < 32 * R) : -1 ≤ ordF d R s k ∧ ordF d R s k < d := by
  have := idx2_lt (s := s) h
  unfold ordF matF; split <;> omega
/-- The counters when n elements have been seen. -/
def seenL (d R : Nat) (s : Int) (n : Nat) : List Int := (List.range d).map fun (i : Nat) => ((often d R s n (i : Int) : Nat) : Int)
theorem seenL_len (d R : Nat) (s : Int) (n : Nat) : (seenL d R s n).length = d := by simp [seenL]
theorem seenL_zero (d R : Nat) (s : Int) : seenL d R s 0 = List.replicate d 0 := by
  apply List.ext_getElem
  · simp [seenL]
  · intro i h1 h2; simp [seenL, often, cnt]
theorem seenL_get {d R : Nat} {s : Int} {n i : Nat} (h : i < d) : (seenL d R s n).getD i 0 = (often d R s n (i : Int) : Int) := by simp [seenL, h]
theorem seenL_hit {d R : Nat} {s : Int} {n i : Nat} (h : ordF d R s n = (i : Int)) (hi : i < d) : (seenL d R s n).set i ((often d R s n (i : Int) : Int) + 1) = seenL d R s (n + 1) := by
  apply List.ext_getElem
  · simp [seenL]
  · intro j h1 h2
    rw [List.getElem_set]
    have hj : j < d := by simpa [seenL] using h2
    by_cases hij : i = j
    · subst hij; simp [seenL, often_succ, h]
    · have : ¬ ((i : Int) = (j : Int)) := by omega
      simp only [seenL, List.getElem_map, List.getElem_range, often_succ, h, if_neg hij, if_neg this, Nat.add_zero]
theorem seenL_miss {d R : Nat} {s : Int} {n : Nat} (h : ordF d R s n = -1) : seenL d R s (n + 1) = seenL d R s n := by
  unfold seenL
  apply List.map_congr_left
  intro i _
  have : ¬ ((-1 : Int) = (i : Int)) := by omega
  rw [often_succ, h, if_neg this]; rfl
theorem outL_01 (d R : Nat) : outL d R 0 (32 * R) = outL d R 1 (32 * R) := by
  unfold outL
  apply List.map_congr_left
  intro k _
  unfold ordF idx2; simp
theorem ord_shift {d R k : Nat} (hR : d ≤ 32 * R) (hk : k < 32 * R) (h0 : 0 ≤ ordF d R 0 k) (h1 : ordF d R 0 k < (d : Int) - 1) : ordF d R 2 k = ordF d R 0 k + 1 := by
  have h2 := idx_lt hk
  have e0 : ordF d R 0 k = matF (32 * R - d) (idx R k) := by unfold ordF idx2; rw [if_neg (by decide)]
  have e2 : ordF d R 2 k = matF (32 * R - d) ((idx R k + 1) % (32 * R)) := by unfold ordF idx2; rw [if_pos rfl]
  rw [e0] at h0 h1 ⊢
  rw [e2]
  unfold matF at *
  split at h0
  · omega
  · rename_i hm
    rw [if_neg hm] at h1
    rw [Nat.mod_eq_of_lt (by omega), if_neg (by omega), if_neg hm]
    omega
end Ord
end Go.Proofs.Ytpnmfnjpbhjddaa
/- slices.ContainsFunc and slices.IndexFunc at []int,int: their contracts for a predicate that only computes. -/
namespace Go.Proofs.Ytpnmfnjpbhjddaa
open Go.RowKit Go.Shelf
set_option linter.unusedVariables false

set_option maxHeartbeats 1000000 in
theorem iindex_any (w : World) (v : Value) (vs : List Value) (hv : Vw w v vs) (hl : vs.length ≤ 9223372036854775807) (F : FuncId) (caps : Array Value) (hef : ∀ args w, (callFunc F args).run Try.prog w = .ok (.enter F args) w) (p : Nat → Bool)
    (hp : ∀ i (h : i < vs.length), Calls Try.prog F (#[vs[i]] ++ caps) w fun e w' => e = .returned (.bool (p i)) ∧ w' = w) :
    Calls Try.prog 43 #[v, .func (.func F) #[] caps] w fun e w' => (∃ n : Int, e = .returned (.int .i64 n) ∧ Hid (decide (0 ≤ n) = (List.range vs.length).any p)) ∧ w' = w := by
  have HP := hid hp
  clear hp
  rcases hv.split with ⟨a, c, rfl, rfl⟩ | ⟨b, off, c, rfl, hp0, hc⟩
  · go_enter Try.func43, Try.ntmps43
    go_wp2
    refine wp_loop_rounds 1 ?_
    rw [rounds_succ]
    go_wp2
    go_ret
    exact ⟨⟨-1, rfl, by simp [Hid]⟩, rfl⟩
  · have HC := hid hc
    clear hc hv
    go_enter Try.func43, Try.ntmps43
    go_wp2
    go_loop [8] (fun i => ∃ k : Nat, k ≤ vs.length ∧ i = .int .i64 k ∧ Hid ((List.range k).any p = false)) (fun i => vs.length - (intOf i).toNat)
    case atStart => exact ⟨0, Nat.zero_le _, rfl, by simp [Hid]⟩
    case round =>
      obtain ⟨k, hk, rfl, hno⟩ := hrel
      by_cases hlt : k < vs.length
      · have hck := HC.out k hlt
        have hcall := HP.out k hlt
        obtain ⟨x, hx⟩ : ∃ x, x = vs[k] := ⟨_, rfl⟩
        rw [← hx] at hck hcall
        clear hx
        cases hpk : p k with
        | true =>
          rw [hpk] at hcall
          have HK := hid hpk
          clear hpk
          go_wp2_with (refine hcall.mono ?_; rintro e w' ⟨rfl, rfl⟩)
          go_ret
          refine ⟨⟨k, rfl, ?_⟩, rfl⟩
          rw [Hid, List.any_eq_true.2 ⟨k, by simpa using hlt, HK.out⟩]; simp
        | false =>
          rw [hpk] at hcall
          have HK := hid hpk
          clear hpk
          go_wp2_with (refine hcall.mono ?_; rintro e w' ⟨rfl, rfl⟩)
          go_round
          case rel => exact ⟨k + 1, by omega, by go_num, by rw [Hid, List.range_succ, List.any_append, hno.out]; simp [HK.out]⟩
          case measure => simp [intOf]; omega
      · obtain rfl : k = vs.length := by omega
        go_wp2
        go_ret
        exact ⟨⟨-1, rfl, by rw [Hid, hno.out]; simp⟩, rfl⟩

theorem icontains_any (w : World) (v : Value) (vs : List Value) (hv : Vw w v vs) (hl : vs.length ≤ 9223372036854775807) (F : FuncId) (caps : Array Value) (hef : ∀ args w, (callFunc F args).run Try.prog w = .ok (.enter F args) w) (p : Nat → Bool)
    (hp : ∀ i (h : i < vs.length), Calls Try.prog F (#[vs[i]] ++ caps) w fun e w' => e = .returned (.bool (p i)) ∧ w' = w) :
    Calls Try.prog 44 #[v, .func (.func F) #[] caps] w fun e w' => e = .returned (.bool ((List.range vs.length).any p)) ∧ w' = w := by
  have HI := hid (iindex_any w v vs hv hl F caps hef p hp)
  have HV := hid hv
  clear hp hv hef
  go_enter Try.func44, Try.ntmps44
  go_wp2_with (go_at_call 43; refine HI.out.mono ?_; rintro e w' ⟨⟨n, rfl, hn⟩, rfl⟩)
  go_ret
  exact ⟨ret_bool hn.out, rfl⟩
end Go.Proofs.Ytpnmfnjpbhjddaa
/- append of one element where there is room. -/
namespace Go.Proofs.Ytpnmfnjpbhjddaa
open Go.RowKit
section app
variable {P : Program}
theorem exec_append_room1 {o : Oper} {a : Act} {w : World} {t e : TypeId} {bytes : Nat} {z : Value} (E : Elem1 P t e bytes z) (s x : Operand)
    (ho : o.op = .call { callee := .builtin .append, args := #[s, x], argTypes := #[t, t] })
    (base g n cap : Nat) (xs : List Value) (hs : a.eval s = .slice (some ⟨g, 0, none⟩) n cap) (hown : OwnL w base e (.slice (some ⟨g, 0, none⟩) n cap) xs) (u : Value) (hu : u.oneCell' = true)
    (hx : a.eval x = .slice (some ⟨w.heap.size, 0, none⟩) 1 1) (hroom : n + 1 ≤ cap) :
    ∃ w', (execOp a.eval o).run P (w.alloc (.cells #[u] e)) = .ok (.value (.slice (some ⟨g, 0, none⟩) (n + 1) cap)) w' ∧
      OwnL w' base e (.slice (some ⟨g, 0, none⟩) (n + 1) cap) (xs ++ [u]) ∧ Fr (fun k => k = g) w w' := by
  obtain ⟨i, hi, hz, hsz, hby⟩ := E.info
  have hown' := World.ownsRow.alloc hown (.cells #[u] e)
  have hgl : g < w.heap.size := (hown.block (g := g) rfl).2
  rcases hown'.2 with ⟨h1, _⟩ | ⟨g', cap', cur, he, hbg, hg, hnc, hcm, hcs, htake⟩
  · cases h1
  · cases he
    have hl := hown.1
    have hfit : xs.length * i.size + [u].length ≤ cur.size := by rw [hcs, hsz]; simp; omega
    have hr := run_append_room (P := P) (w.alloc (.cells #[u] e)) t o.type e i E.slice hi g xs.length cap cur hg ⟨w.heap.size, 0, none⟩ 1 1 [u] (by rw [hsz]; rfl) (cell_one_new w u e) (by intro y hy; simp at hy; subst hy; exact hu) hroom hfit
    have hrun : (execOp a.eval o).run P (w.alloc (.cells #[u] e)) = .ok (.value (.slice (some ⟨g, 0, none⟩) (xs.length + 1) cap)) ((w.alloc (.cells #[u] e)).setRow g (cur.toList.take (xs.length * i.size) ++ [u] ++ cur.toList.drop (xs.length * i.size + [u].length)).toArray) := by
      unfold execOp
      simp only [ho, resolve, invoke, builtin, Sem.run_bind, Sem.run_pure, Result.andThen_ok, List.map_toArray, List.map_cons, List.map_nil, hs, hx, hr]
    refine ⟨_, hrun, ⟨by simp, .inr ⟨g, cap, _, by rw [List.length_append]; rfl, hbg, setRow_heap _ g cur _ e _ hg, by simpa using hroom, hcm, ?_, ?_⟩⟩, (Fr.alloc _ w _).trans (Fr.setRow _ g _ rfl)⟩
    · simp only [List.size_toArray, List.length_append, List.length_take, List.length_drop, Array.length_toList, List.length_singleton]
      rw [hsz] at hfit ⊢
      simp at hfit
      omega
    · rw [hsz, htake, Nat.mul_one]
      exact List.take_left
theorem wpListIn_append_room1 {F : Fence} {m : Nat} {ops : Array Oper} {rest : List Oper} {o : Oper} {a : Act} {w : World} {Q : Exit → Act → World → Prop} (hgd : o.guard = none) (hab : ∀ w', o.about P w' a.eval = none) {t e : TypeId} {bytes : Nat} {z : Value} (E : Elem1 P t e bytes z) (s x : Operand)
    (ho : o.op = .call { callee := .builtin .append, args := #[s, x], argTypes := #[t, t] })
    (base g n cap : Nat) (xs : List Value) (hs : a.eval s = .slice (some ⟨g, 0, none⟩) n cap) (hown : OwnL w base e (.slice (some ⟨g, 0, none⟩) n cap) xs) (u : Value) (hu : u.oneCell' = true)
    (hx : a.eval x = .slice (some ⟨w.heap.size, 0, none⟩) 1 1) (hroom : n + 1 ≤ cap)
    (h : ∀ w', OwnL w' base e (.slice (some ⟨g, 0, none⟩) (n + 1) cap) (xs ++ [u]) → Fr (fun k => k = g) w w' → wpListIn F m P ops Q rest (a.put o.dst (.slice (some ⟨g, 0, none⟩) (n + 1) cap)) w') :
    wpListIn F m P ops Q (o :: rest) a (w.alloc (.cells #[u] e)) := by
  obtain ⟨w', hr, h1, h2⟩ := exec_append_room1 E s x ho base g n cap xs hs hown u hu hx hroom
  exact wpListIn_run_value hgd (hab _) (fun c h => by rw [ho] at h; cases h) hr (h w' h1 h2)
theorem OwnL.empty (w : World) (base : Nat) (e : TypeId) (m : Nat) (z : Value) (hb : base ≤ w.heap.size) (hm : m ≤ 9223372036854775807) :
    OwnL (w.alloc (.cells (Array.replicate m z) e)) base e (.slice (some ⟨w.heap.size, 0, none⟩) 0 m) [] := by
  refine ⟨rfl, .inr ⟨w.heap.size, m, _, rfl, hb, heap_alloc_new w _, Nat.zero_le _, by unfold maxLen; omega, by simp, by simp⟩⟩
end app
end Go.Proofs.Ytpnmfnjpbhjddaa
