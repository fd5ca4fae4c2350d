/- userplane/gold: Scramble, ScrambleSoft, Sequence. -/
import Derived.Test.YtmiaddcjedjjdaaScrB
import Derived.Test.YtmiaddcjedjjdaaScrI
namespace Go.Proofs.Ytmiaddcjedjjdaa
open Go.RowKit Go.Shelf
set_option linter.unusedVariables false
namespace Scr
/-- What Scramble returns: a list and an error's number. -/
def bR (i : Nat) (B : List Int) : List Int × Int := if 2147483648 ≤ i then ([], 2) else if 131072 < B.length then ([], 4) else if bbad B = true then ([], 3) else (bscr i B B.length, 0)
def iR (i : Nat) (B : List Int) : List Int × Int := if 2147483648 ≤ i then ([], 2) else if 131072 < B.length then ([], 4) else if ibad B = true then ([], 6) else (iscr i B B.length, 0)
/-- The first n elements of a scrambling sequence. -/
def seqL (i n : Nat) : List Int := (List.range n).map fun k => ((Reg.c i k).toNat : Int)
theorem seqL_len (i n : Nat) : (seqL i n).length = n := by simp [seqL]
theorem bscr_zeros (i n : Nat) : bscr i (List.replicate n 0) n = seqL i n := by
  unfold bscr seqL
  apply List.map_congr_left
  intro k hk
  have hk' := List.mem_range.1 hk
  unfold bel
  have : (List.replicate n (0 : Int)).getD k 0 = 0 := by simp [List.getD, List.getElem?_replicate, hk']
  rw [this]
  cases Reg.c i k <;> rfl
theorem zeros_bad (n : Nat) : bbad (List.replicate n 0) = false := by
  rw [bbad, List.any_eq_false]
  intro x hx
  rw [(List.mem_replicate.1 hx).2]
  simp [binv]
/-- What Sequence returns. -/
def seqR (i : Nat) (n : Int) : List Int × Int := if n < 0 ∨ 131072 < n ∨ 2147483648 ≤ i then ([], 2) else (seqL i n.toNat, 0)
end Scr

theorem scramble_any (w : World) (v : Value) (i : Nat) (hi : i < 4294967296) (B : List Int) (hv : Vw w v (B.map (Value.int .u8))) (hl : B.length ≤ 9223372036854775807) (hwf : ∀ n ∈ B, (Lit.int .u8 n).wf = true) :
    Calls Try.prog 19 #[.int .u32 i, v] w fun e w' => (∃ v', e = .returned (.tuple #[v', .int .i64 (Scr.bR i B).2]) ∧ OwnL w' w.heap.size 5 v' ((Scr.bR i B).1.map (Value.int .u8))) ∧ Below w.heap.size w w' := by
  have H : Calls Try.prog 27 #[.int .u32 i, v, .func (.func 28) #[] #[], .int .i64 3, .func (.func 29) #[] #[]] w fun e w' => (∃ v', e = .returned (.tuple #[v', .int .i64 (Scr.bR i B).2]) ∧ OwnL w' w.heap.size 5 v' ((Scr.bR i B).1.map (Value.int .u8))) ∧ Below w.heap.size w w' := by
    unfold Scr.bR
    by_cases h : 2147483648 ≤ i ∨ 131072 < B.length ∨ Scr.bbad B = true
    · refine (bscr_err w v i hi B 3 hv hl h).mono fun e w' ⟨h1, h2⟩ => ⟨⟨_, ?_, OwnL.nil' ?_⟩, h2⟩
      · rw [h1]
        split
        · rfl
        · split
          · rfl
          · rw [if_pos ((h.resolve_left (by assumption)).resolve_left (by assumption))]
      · split
        · rfl
        · split
          · rfl
          · rw [if_pos ((h.resolve_left (by assumption)).resolve_left (by assumption))]
    · have h1 : ¬ 2147483648 ≤ i := fun h' => h (.inl h')
      have h2 : ¬ 131072 < B.length := fun h' => h (.inr (.inl h'))
      have h3 : ¬ Scr.bbad B = true := fun h' => h (.inr (.inr h'))
      rw [if_neg h1, if_neg h2, if_neg h3]
      exact bscr_ok w v i (by omega) B 3 hv (by omega) (by simpa using h3) hwf
  have HH := hid H
  clear H hv hwf
  generalize Scr.bR i B = R at HH ⊢
  go_enter Try.func19, Try.ntmps19
  go_wp2_with (go_at_call 27; refine HH.out.mono ?_; rintro e w1 ⟨⟨v', rfl, hown⟩, hB1⟩)
  go_ret2
  exact ⟨⟨_, rfl, hown⟩, hB1⟩

theorem scrambleSoft_any (w : World) (v : Value) (i : Nat) (hi : i < 4294967296) (B : List Int) (hv : Vw w v (B.map (Value.int .i64))) (hl : B.length ≤ 9223372036854775807) (hwf : ∀ n ∈ B, (Lit.int .i64 n).wf = true) :
    Calls Try.prog 22 #[.int .u32 i, v] w fun e w' => (∃ v', e = .returned (.tuple #[v', .int .i64 (Scr.iR i B).2]) ∧ OwnL w' w.heap.size 3 v' ((Scr.iR i B).1.map (Value.int .i64))) ∧ Below w.heap.size w w' := by
  have H : Calls Try.prog 30 #[.int .u32 i, v, .func (.func 31) #[] #[], .int .i64 6, .func (.func 32) #[] #[]] w fun e w' => (∃ v', e = .returned (.tuple #[v', .int .i64 (Scr.iR i B).2]) ∧ OwnL w' w.heap.size 3 v' ((Scr.iR i B).1.map (Value.int .i64))) ∧ Below w.heap.size w w' := by
    unfold Scr.iR
    by_cases h : 2147483648 ≤ i ∨ 131072 < B.length ∨ Scr.ibad B = true
    · refine (iscr_err w v i hi B 6 hv hl h).mono fun e w' ⟨h1, h2⟩ => ⟨⟨_, ?_, OwnL.nil' ?_⟩, h2⟩
      · rw [h1]
        split
        · rfl
        · split
          · rfl
          · rw [if_pos ((h.resolve_left (by assumption)).resolve_left (by assumption))]
      · split
        · rfl
        · split
          · rfl
          · rw [if_pos ((h.resolve_left (by assumption)).resolve_left (by assumption))]
    · have h1 : ¬ 2147483648 ≤ i := fun h' => h (.inl h')
      have h2 : ¬ 131072 < B.length := fun h' => h (.inr (.inl h'))
      have h3 : ¬ Scr.ibad B = true := fun h' => h (.inr (.inr h'))
      rw [if_neg h1, if_neg h2, if_neg h3]
      exact iscr_ok w v i (by omega) B 6 hv (by omega) (by simpa using h3) hwf
  have HH := hid H
  clear H hv hwf
  generalize Scr.iR i B = R at HH ⊢
  go_enter Try.func22, Try.ntmps22
  go_wp2_with (go_at_call 30; refine HH.out.mono ?_; rintro e w1 ⟨⟨v', rfl, hown⟩, hB1⟩)
  go_ret2
  exact ⟨⟨_, rfl, hown⟩, hB1⟩

theorem sequence_any (w : World) (i : Nat) (hi : i < 4294967296) (n : Int) :
    Calls Try.prog 15 #[.int .u32 i, .int .i64 n] w fun e w' => (∃ v', e = .returned (.tuple #[v', .int .i64 (Scr.seqR i n).2]) ∧ OwnL w' w.heap.size 5 v' ((Scr.seqR i n).1.map (Value.int .u8))) ∧ Below w.heap.size w w' := by
  unfold Scr.seqR
  by_cases h : n < 0 ∨ 131072 < n
  · rw [if_pos (by omega)]
    rcases h with h | h
    · go_enter Try.func15, Try.ntmps15
      go_wp2
      go_ret2
      exact ⟨⟨_, rfl, OwnL.nil _ _ _⟩, Below.refl _ _⟩
    · have h0 : ¬ n < 0 := by omega
      go_enter Try.func15, Try.ntmps15
      go_wp2
      go_ret2
      exact ⟨⟨_, rfl, OwnL.nil _ _ _⟩, Below.refl _ _⟩
  · obtain ⟨m, rfl⟩ := Int.eq_ofNat_of_zero_le (show 0 ≤ n by omega)
    have hm : m ≤ 131072 := by omega
    have HS := hid (fun w v h => scramble_any w v i hi (List.replicate m 0) h (by simp; omega) (by intro x hx; rw [(List.mem_replicate.1 hx).2]; rfl))
    have HR := hid (show (if (m : Int) < 0 ∨ 131072 < (m : Int) ∨ 2147483648 ≤ i then (([], 2) : List Int × Int) else (Scr.seqL i (m : Int).toNat, 0)) = Scr.bR i (List.replicate m 0) by
      unfold Scr.bR
      rw [Scr.zeros_bad, List.length_replicate, Scr.bscr_zeros, Int.toNat_natCast]
      by_cases h1 : 2147483648 ≤ i
      · rw [if_pos (.inr (.inr h1)), if_pos h1]
      · rw [if_neg (by omega), if_neg h1, if_neg (by omega), if_neg (by simp)])
    rw [HR.out]
    clear h HR
    generalize Scr.bR i (List.replicate m 0) = R at HS ⊢
    have h1 : ¬ (m : Int) < 0 := by omega
    have h2 : ¬ 131072 < (m : Int) := by omega
    go_enter Try.func15, Try.ntmps15
    go_wp2_with (first
      | (at_make; refine wpList_run_value rfl (exec_make_one elem_b (.tmp 13) (.tmp 13) rfl .i64 .i64 _ _ m m rfl rfl rfl rfl (Nat.le_refl _) (by omega) (by omega)) ?_)
      | (go_at_call 19; refine (HS.out _ _ (by rw [List.map_replicate]; exact (OwnL.zeros w w.heap.size 5 m (.int .u8 0) (Nat.le_refl _) (by omega)).vw)).mono ?_; rintro e w1 ⟨⟨v', rfl, hown⟩, hB1⟩))
    go_ret2
    exact ⟨⟨_, rfl, hown.base_mono (by simp)⟩, below_then (below_alloc _ _) hB1⟩
end Go.Proofs.Ytmiaddcjedjjdaa
