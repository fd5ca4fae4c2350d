/- Ranges over functions where a round may lay blocks of its own: the iterator's blocks lie already when it yields. -/
import Derived.Test.YtmiaddcjedjjdaaGoldI
namespace Go.Proofs.Ytmiaddcjedjjdaa
open Go.RowKit
set_option linter.unusedVariables false
attribute [local go_sem] Oper.semAt_some
/-- As IterC; a yield comes when the iterator's own blocks lie. -/
def IterD (P : Program) (gf : Nat) (lb : Array Value) (xs : Nat → Array Value) (fin : Option Nat) (m : Nat) (R : Nat → Prop) (w : World) : Prop :=
  ∀ (l : Nat) (J Jx : Nat → World → Prop) (W : World), Below w.heap.size w W →
    (∀ k A B, J k A → Fr (fun b => W.heap.size ≤ b ∧ b < W.heap.size + m) A B → J k B) →
    (∀ k A B, Jx k A → Fr (fun b => W.heap.size ≤ b ∧ b < W.heap.size + m) A B → Jx k B) →
    (∀ k W1, (∀ n, fin = some n → k < n) → W.heap.size + m ≤ W1.heap.size → J k W1 → YieldAt Fence.wide 0 P l (xs k) W1 fun e W' =>
      (e = .returned (.bool true) ∧ J (k + 1) W' ∧ KeepT (fun b => R b ∨ (W.heap.size ≤ b ∧ b < W.heap.size + m)) W1 W') ∨ (e = .returned (.bool false) ∧ Jx (k + 1) W')) →
    J 0 W → (fin = none → ∃ N, N ≤ 4611686018427387904 ∧ ∀ W', ¬ J N W') →
    Calls P gf (#[.func (.yield l) #[] #[]] ++ lb) W fun e W' => (∃ v, e = .returned v) ∧ ((∃ n, fin = some n ∧ J n W') ∨ (∃ k, Jx k W'))

theorem wpIn_rangeD {P : Program} {g : Operand} {ps : Array Tmp} {assign body : Code} {Q : Exit → Act → World → Prop} {a : Act} {w : World}
    {gf : Nat} {lb : Array Value} (hg : a.eval g = .func (.func gf) #[] lb) (eg : ∀ args w, (callFunc gf args).run P w = .ok (.enter gf args) w)
    {xs : Nat → Array Value} {fin : Option Nat} {m : Nat} {R : Nat → Prop} {w0 : World} (hseq : IterD P gf lb xs fin m R w0) (hb0 : Below w0.heap.size w0 w) (hps : ∀ k, (xs k).size = ps.size)
    (I : Nat → World → Prop) (Ix : Nat → Code → World → Prop)
    (hI : ∀ k A B, I k A → Fr (fun b => w.heap.size ≤ b ∧ b < w.heap.size + 2 + m) A B → I k B)
    (hIx : ∀ k c A B, Ix k c A → Fr (fun b => w.heap.size ≤ b ∧ b < w.heap.size + 2 + m) A B → Ix k c B)
    (h0 : I 0 w) (hN : fin = none → ∃ N, N ≤ 4611686018427387904 ∧ ∀ W', ¬ I N W') (a₁ : Nat → Act)
    (hassign : ∀ (l : Nat) (k : Nat) (W : World) (K : Act → World → Prop), K (a₁ k) W →
      assign.wpIn (Fence.wide.inRound l) 0 P (Exit.then K (fun _ _ _ => False)) { tmps := (ps.zip (xs k)).foldl (fun t (p, v) => t.setIfInBounds p v) a.tmps, defers := [] } W)
    (hbody : ∀ (l : Nat) (k : Nat) (W : World), (∀ n, fin = some n → k < n) → I k W → w.heap.size + 2 + m ≤ W.heap.size →
      body.wpIn (Fence.wide.inRound l) 0 P (roundPostB (fun b => R b ∨ (w.heap.size ≤ b ∧ b < w.heap.size + 2 + m)) I Ix (k + 1) W) (a₁ k) W)
    (hdone : ∀ (D n : Nat) (W : World), fin = some n → I n W → W.heap[D]? = some (.deferred (some [])) → w.heap.size ≤ D → Q .normal { a with defers := { target := .collected D, args := #[] } :: a.defers } W)
    (hstop : ∀ (D : Nat) (c : Code) (k : Nat) (W : World), Ix k c W → W.heap[D]? = some (.deferred (some [])) → w.heap.size ≤ D → c.wpIn Fence.wide 1 P Q { a with defers := { target := .collected D, args := #[] } :: a.defers } W) :
    (Code.rangeFunc g ps assign body).wpIn Fence.wide 1 P Q a w := by
  refine wpIn_rangeFunc ?_
  intro fn hfn
  have hro : Fence.wide.round = none := rfl
  rw [hro]
  obtain ⟨rec, hrec⟩ : ∃ rec : LoopState → Option Code → Loop, rec = fun st pe => { state := st, pending := pe, fn, tmps := a.tmps, params := ps, assign, body, defers := w.heap.size } := ⟨_, rfl⟩
  obtain ⟨W1, hW1⟩ : ∃ W1, (w.alloc (.deferred (some []))).alloc (.loop (rec .ready none)) = W1 := ⟨_, rfl⟩
  have hs1 : W1.heap.size = w.heap.size + 2 := by rw [← hW1]; simp
  have hL1 : W1.heap[w.heap.size + 1]? = some (.loop (rec .ready none)) := by
    rw [← hW1]; have := World.alloc_heap_new (w.alloc (.deferred (some []))) (.loop (rec .ready none)); rwa [World.size_alloc] at this
  have hK1 : W1.heap[w.heap.size]? = some (.deferred (some [])) := by
    rw [← hW1]; exact (Below.heap_alloc _ _ _ (by simp)).trans (World.alloc_heap_new w _)
  have hf1 : Fr (fun b => w.heap.size ≤ b ∧ b < w.heap.size + 2 + m) w W1 := by rw [← hW1]; exact (Fr.alloc _ _ _).trans (Fr.alloc _ _ _)
  have hI1 : I 0 W1 := hI _ _ _ h0 hf1
  have hb1 : Below w0.heap.size w0 W1 := by
    rw [← hW1]; exact hb0.trans ((((Below.refl _ w).alloc (Nat.le_refl _) _).alloc (by simp) _).mono hb0.size)
  refine ⟨w.heap.size + 1, [{ target := .collected w.heap.size, args := #[] }], W1, { target := .fn (.func gf) lb, args := #[.func (.yield (w.heap.size + 1)) #[] #[]] }, W1, gf,
    #[.func (.yield (w.heap.size + 1)) #[] #[]] ++ lb, W1, ?_, ?_, ?_, ?_, fun _ => Nat.le_refl _, ?_⟩
  · rw [← hW1, hrec]; exact run_enterLoop_outer _ _ _ _ _
  · simp only [resolve, hg]
    simp [go_sem]
  · intro f' _; exact trivial
  · simp [invoke, go_sem, eg]
  · have hin : ∀ {A B : World}, Fr (fun b => W1.heap.size ≤ b ∧ b < W1.heap.size + m) A B → Fr (fun b => w.heap.size ≤ b ∧ b < w.heap.size + 2 + m) A B := fun h => h.mono (fun k _ hk => by simp only [hs1] at hk; omega)
    refine callsIn_wide.2 ((hseq (w.heap.size + 1)
      (fun k W => I k W ∧ W.heap[w.heap.size + 1]? = some (.loop (rec .ready none)) ∧ W.heap[w.heap.size]? = some (.deferred (some [])))
      (fun k W => ∃ c, Ix k c W ∧ W.heap[w.heap.size + 1]? = some (.loop (rec .done (some c))) ∧ W.heap[w.heap.size]? = some (.deferred (some [])))
      W1 hb1
      (fun k A B hs hfr => ⟨hI _ _ _ hs.1 (hin hfr), (hfr.block _ (Array.getElem?_eq_some_iff.1 hs.2.1).1 (by omega)).trans hs.2.1, (hfr.block _ (Array.getElem?_eq_some_iff.1 hs.2.2).1 (by omega)).trans hs.2.2⟩)
      (fun k A B hs hfr => by
        obtain ⟨c, hc, hl, hk⟩ := hs
        exact ⟨c, hIx _ _ _ _ hc (hin hfr), (hfr.block _ (Array.getElem?_eq_some_iff.1 hl).1 (by omega)).trans hl, (hfr.block _ (Array.getElem?_eq_some_iff.1 hk).1 (by omega)).trans hk⟩)
      ?_ ⟨hI1, hL1, hK1⟩ (fun hf => by obtain ⟨N, h0, h⟩ := hN hf; exact ⟨N, h0, fun W' h' => h W' h'.1⟩)).mono ?_)
    · -- ONE ROUND
      rintro k W hkn hsm ⟨hi, hl, hk⟩
      have hlt : w.heap.size + 1 < W.heap.size := (Array.getElem?_eq_some_iff.1 hl).1
      have hy := run_yield (P := P) (args := xs k) hl (by rw [hrec]; exact hps k)
      rw [hrec] at hy
      refine ⟨fn, _, assign, body, hy, roundIn_of_wpIn hfn (hassign _ k W _ ⟨_, run_beginRound hl (by rw [hrec]), ?_⟩)⟩
      have hl2 : (W.putObj (w.heap.size + 1) (.loop { rec .ready none with state := .busy })).heap[w.heap.size + 1]? = some (.loop { rec .ready none with state := .busy }) := World.putObj_heap_same hlt
      have hk2 : (W.putObj (w.heap.size + 1) (.loop { rec .ready none with state := .busy })).heap[w.heap.size]? = some (.deferred (some [])) := (World.putObj_heap_other (by omega)).trans hk
      have hfp : ∀ (V : World) (o : Obj), Fr (fun b => w.heap.size ≤ b ∧ b < w.heap.size + 2 + m) V (V.putObj (w.heap.size + 1) o) := fun V o => Fr.putObj V _ o (by omega)
      refine wpIn_mono (hbody _ k _ hkn (hI _ _ _ hi (hfp _ _)) (by simp; omega)) ?_
      have fin' : ∀ (jump : Option Code) (W3 : World), KeepT (fun b => R b ∨ (w.heap.size ≤ b ∧ b < w.heap.size + 2 + m)) (W.putObj (w.heap.size + 1) (.loop { rec .ready none with state := .busy })) W3 →
          (Instr.endRound (w.heap.size + 1) jump).run P W3 = .ok (.bool jump.isNone) (W3.putObj (w.heap.size + 1) (.loop (rec (if jump.isNone then .ready else .done) jump))) ∧
          (W3.putObj (w.heap.size + 1) (.loop (rec (if jump.isNone then .ready else .done) jump))).heap[w.heap.size + 1]? = some (.loop (rec (if jump.isNone then .ready else .done) jump)) ∧
          (W3.putObj (w.heap.size + 1) (.loop (rec (if jump.isNone then .ready else .done) jump))).heap[w.heap.size]? = some (.deferred (some [])) := fun jump W3 hk3 => by
        have hl3 := (hk3.2 (w.heap.size + 1) (by simp; omega) (.inr (by omega))).trans hl2
        have hk3' := (hk3.2 (w.heap.size) (by simp; omega) (.inr (by omega))).trans hk2
        have := run_endRound (P := P) jump hl3
        rw [hrec] at this ⊢
        exact ⟨this, World.putObj_heap_same (Array.getElem?_eq_some_iff.1 hl3).1, (World.putObj_heap_other (by omega)).trans hk3'⟩
      rintro e a3 W3 hp
      cases e with
      | normal =>
        obtain ⟨hk3, hi3⟩ := hp
        obtain ⟨hr, hl4, hk4⟩ := fin' none W3 hk3
        refine ⟨_, _, hr, .inl ⟨rfl, ⟨hI _ _ _ hi3 (hfp _ _), hl4, hk4⟩, ?_⟩⟩
        have hT : ∀ b, (R b ∨ (W1.heap.size ≤ b ∧ b < W1.heap.size + m)) → b ≠ w.heap.size + 1 → (R b ∨ (w.heap.size ≤ b ∧ b < w.heap.size + 2 + m)) := fun b h _ => h.imp id (fun h => by omega)
        refine ⟨by have := hk3.1; simp at this ⊢; omega, fun b hb ht => ?_⟩
        by_cases hbe : b = w.heap.size + 1
        · subst hbe
          rw [hl4, hl, hrec]; rfl
        · rw [World.putObj_heap_other hbe, hk3.2 b (by simpa using hb) (hT b ht hbe), World.putObj_heap_other hbe]
      | ret =>
        obtain ⟨hk3, hi3⟩ := hp
        obtain ⟨hr, hl4, hk4⟩ := fin' (some .ret) W3 hk3
        exact ⟨_, _, hr, .inr ⟨rfl, .ret, hIx _ _ _ _ hi3 (hfp _ _), hl4, hk4⟩⟩
      | exit id =>
        obtain ⟨hk3, hi3⟩ := hp
        obtain ⟨hr, hl4, hk4⟩ := fin' (some (.exit id)) W3 hk3
        exact ⟨_, _, hr, .inr ⟨rfl, .exit id, hIx _ _ _ _ hi3 (hfp _ _), hl4, hk4⟩⟩
      | goto t =>
        obtain ⟨hk3, hi3⟩ := hp
        obtain ⟨hr, hl4, hk4⟩ := fin' (some (.goto t)) W3 hk3
        exact ⟨_, _, hr, .inr ⟨rfl, .goto t, hIx _ _ _ _ hi3 (hfp _ _), hl4, hk4⟩⟩
      | panic ch => exact hp.elim
      | outgrown => exact hp.elim
    · -- BEHIND THE ITERATOR
      have hfp : ∀ (V : World) (o : Obj), Fr (fun b => w.heap.size ≤ b ∧ b < w.heap.size + 2 + m) V (V.putObj (w.heap.size + 1) o) := fun V o => Fr.putObj V _ o (by omega)
      rintro e W2 ⟨⟨v, rfl⟩, (⟨n, hS, hi, hl, hk⟩ | ⟨k, c, hi, hl, hk⟩)⟩
      · exact ⟨none, _, by have := run_endLoop (P := P) hl (by rw [hrec]; simp); rw [hrec] at this; exact this, hdone _ n _ hS (hI _ _ _ hi (hfp _ _)) ((World.putObj_heap_other (by omega)).trans hk) (Nat.le_refl _)⟩
      · exact ⟨some c, _, by have := run_endLoop (P := P) hl (by rw [hrec]; simp); rw [hrec] at this; exact this, hstop _ c k _ (hIx _ _ _ _ hi (hfp _ _)) ((World.putObj_heap_other (by omega)).trans hk) (Nat.le_refl _)⟩

set_option maxHeartbeats 2000000 in
theorem bits1_iterD (i B : Nat) (hi : i < 2147483648) (T : Nat → Prop) (hTB : T B) (w : World) (hc0 : w.cell? ⟨B, 0, none⟩ = some (.int .u32 i)) (hT : ∀ b, T b → b < w.heap.size) :
    IterD Try.prog 25 #[.pointer (some ⟨B, 0, none⟩)] (fun k => #[.int .u8 ((Reg.c i k).toNat : Nat)]) none 1 T w := by
  intro l J Jx W hW hJ hJx hY h0 hN
  obtain ⟨N, hNb, hN'⟩ := hN rfl
  clear hN
  have hWs := hW.size
  have hc0' := (hW.cell (p := ⟨B, 0, none⟩) (hT B hTB)).trans hc0
  have HY := hid hY
  have HJ := hid hJ
  have HJx := hid hJx
  have HN := hid hN'
  clear hY hJ hc0 hJx hN'
  refine calls_of_wp Try.func25 rfl ?_
  simp only [Try.ntmps25, List.size_toArray, List.length_cons, List.length_nil, Nat.reduceAdd, Nat.reduceSub, Array.replicate_succ, Array.replicate_zero, List.push_toArray, List.append_toArray, List.nil_append, List.cons_append]
  go_step3
  go_wp2
  go_step3
  go_wp2
  obtain ⟨W2, hW2⟩ : ∃ W2 : World, W2 = W.alloc (.cells #[.int .u32 1, .int .u32 i] 59) := ⟨_, rfl⟩
  rw [← hW2]
  have hs2 : W2.heap.size = W.heap.size + 1 := by rw [hW2]; simp
  have hB2 : Below W.heap.size W W2 := by rw [hW2]; exact (Below.refl _ _).alloc (Nat.le_refl _) _
  have hown : OwnL W2 W.heap.size 59 (.slice (some ⟨W.heap.size, 0, none⟩) 2 2) [.int .u32 (Reg.b1 0), .int .u32 (Reg.b2 i 0)] := by
    rw [hW2]; exact OwnL.made W W.heap.size _ [.int .u32 1, .int .u32 i] (Nat.le_refl _) (by simp)
  have hJ2 : J 0 W2 := HJ.out _ _ _ h0 ((Fr.of_below hB2).mono (fun k hk h => by omega))
  have hcB2 : W2.cell? ⟨B, 0, none⟩ = some (.int .u32 i) := (hB2.cell (p := ⟨B, 0, none⟩) (Nat.lt_of_lt_of_le (hT B hTB) hWs)).trans hc0'
  have HW2 := hid hs2
  have hBW : B < W.heap.size := Nat.lt_of_lt_of_le (hT B hTB) hWs
  clear hc0' hW2 h0 hs2 hB2
  refine (wpIn_wide (n := 1)).1 ?_
  gi_loopw [4] (fun v wr => ∃ n : Nat, n ≤ 1600 + N ∧ v = .int .i64 n ∧ J (n - 1600) wr ∧ W2.heap.size ≤ wr.heap.size ∧ wr.cell? ⟨B, 0, none⟩ = some (.int .u32 i) ∧ OwnL wr W.heap.size 59 (.slice (some ⟨W.heap.size, 0, none⟩) 2 2) [.int .u32 (Reg.b1 n), .int .u32 (Reg.b2 i n)]) (fun v _ => 1601 + N - (intOf v).toNat)
  case atStart => exact ⟨0, Nat.zero_le _, rfl, hJ2, Nat.le_refl _, hcB2, hown⟩
  case round =>
    clear hJ2 hcB2 hown
    obtain ⟨n, hn, rfl, hJn, hsz, hcB, hown⟩ := hrel
    have hdiv : (i : Int) / 2147483648 = 0 := by omega
    have HO := hid hown
    clear hown
    gi_wp2
    refine ⟨trivial, callsIn_wide.2 ((next_any _ _ (Reg.b1_lt n) (Reg.b2_lt hi n) _ _ _ HO.out).mono ?_)⟩
    rintro e w1 ⟨rfl, hown1, hf1⟩
    rw [Reg.out_eq, ← Reg.b1_succ, ← Reg.b2_succ] at *
    have HO1 := hid hown1
    have hcB1 := (hf1.cell (p := ⟨B, 0, none⟩) (World.block_lt_of_cell? wr _ hcB) (by dsimp only; omega)).trans hcB
    have hJ1 := HJ.out _ _ _ hJn (hf1.mono (fun k _ h => by omega))
    have hsz1 : W2.heap.size ≤ w1.heap.size := Nat.le_trans hsz hf1.size
    clear hown1 hf1 hcB hJn hsz
    by_cases hlt : n < 1600
    · have hd : decide ((n : Int) < 1600) = true := by simp; omega
      have HLT := hid hlt
      have HNb := hid hn
      have hb : n ≤ 9223372036854775000 := by omega
      clear hlt hn
      gi_wp2
      go_roundw
      case rel => have hlt := HLT.out; exact ⟨n + 1, by have := HNb.out; omega, by go_num, by rw [show n + 1 - 1600 = n - 1600 by omega]; exact hJ1, hsz1, hcB1, HO1.out⟩
      case measure => have := HNb.out; simp [intOf]; omega
    · have hnN : n ≠ 1600 + N := fun e => HN.out w1 (by rw [e, show 1600 + N - 1600 = N by omega] at hJ1; exact hJ1)
      have hY := HY.out (n - 1600) w1 (fun n hn => by cases hn) (by have := HW2.out; omega) hJ1
      have hgt : 1600 ≤ n := by omega
      rw [Reg.c, show 1600 + (n - 1600) = n by omega] at hY
      have hd : decide ((n : Int) < 1600) = false := by simp; omega
      have HLT := hid hgt
      have HNb := hid hn
      have hb : n ≤ 9223372036854775000 := by omega
      have HNe := hid hnN
      clear hJ1 hlt hn hgt hnN
      obtain ⟨fn, tmps, assign, body, hy, hR⟩ := hY
      gi_wp2
      refine hR.mono ?_
      rintro e W3 (⟨rfl, hJ3, hk3⟩ | ⟨rfl, hJx3⟩)
      · have hcB3 := hk3.cell hcB1 (.inl hTB)
        have HO3 := hid (HO1.out.keep (hk3.2 W.heap.size (by have := HW2.out; omega) (.inr (by omega))))
        have hsz3 : W2.heap.size ≤ W3.heap.size := Nat.le_trans hsz1 hk3.1
        clear hcB1 hk3 hsz1
        gi_wp2
        go_roundw
        case rel => have hgt := HLT.out; exact ⟨n + 1, by have := HNb.out; have := HNe.out; omega, by go_num, by rw [show n + 1 - 1600 = n - 1600 + 1 by omega]; exact hJ3, hsz3, hcB3, HO3.out⟩
        case measure => have := HNb.out; simp [intOf]; omega
      · gi_wp2
        rw [Exit.noGoto_normal]
        go_end0
        exact ⟨⟨_, rfl⟩, .inr ⟨_, hJx3⟩⟩
theorem bits1_noneD (i B : Nat) (hi : 2147483648 ≤ i) (hi2 : i < 4294967296) (T : Nat → Prop) (hTB : T B) (w : World) (hc0 : w.cell? ⟨B, 0, none⟩ = some (.int .u32 i)) (hT : ∀ b, T b → b < w.heap.size) (xs : Nat → Array Value) :
    IterD Try.prog 25 #[.pointer (some ⟨B, 0, none⟩)] xs (some 0) 1 T w := by
  intro l J Jx W hW hJ hJx hY h0 hN
  clear hN hY
  have hWs := hW.size
  have hc0' := (hW.cell (p := ⟨B, 0, none⟩) (hT B hTB)).trans hc0
  have HJ := hid hJ
  have hd : ((i : Int) / 2147483648 == 0) = false := by rw [beq_eq_false_iff_ne]; omega
  have hi3 := hid hi
  have hi4 : (i : Int) < 4294967296 := by omega
  clear hJ hc0 hJx hi hi2
  refine calls_of_wp Try.func25 rfl ?_
  simp only [Try.ntmps25, List.size_toArray, List.length_cons, List.length_nil, Nat.reduceAdd, Nat.reduceSub, Array.replicate_succ, Array.replicate_zero, List.push_toArray, List.append_toArray, List.nil_append, List.cons_append]
  go_step3
  go_wp2
  go_step3
  go_wp2
  generalize hW2 : World.alloc _ _ = W2
  have hB2 : Below W.heap.size W W2 := by rw [← hW2]; exact (Below.refl _ _).alloc (Nat.le_refl _) _
  have hcc2 := (hB2.cell (p := ⟨B, 0, none⟩) (Nat.lt_of_lt_of_le (hT B hTB) hWs)).trans hc0'
  have hJ2 : J 0 W2 := HJ.out _ _ _ h0 ((Fr.of_below hB2).mono (fun k hk h => by omega))
  clear hW2 hB2 hc0' h0
  refine wp_loop_rounds 1 ?_
  rw [rounds_succ]
  go_wp2
  rw [Exit.noGoto_normal]
  go_end0
  exact ⟨⟨_, rfl⟩, .inl ⟨_, rfl, hJ2⟩⟩
end Go.Proofs.Ytmiaddcjedjjdaa
