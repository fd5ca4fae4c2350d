/- Facts about scrambling sequences; no program. -/
import Derived.Test.YtmiaddcjedjjdaaScram
namespace Go.Proofs.Ytmiaddcjedjjdaa
namespace Reg
theorem bits_eq {x y : Nat} (hx : x < 2147483648) (hy : y < 2147483648) (h : ∀ j, j ≤ 30 → x.testBit j = y.testBit j) : x = y := by
  apply Nat.eq_of_testBit_eq
  intro j
  by_cases hj : j ≤ 30
  · exact h j hj
  · have h31 : (2147483648 : Nat) ≤ 2 ^ j := by
      have : (2147483648 : Nat) = 2 ^ 31 := rfl
      rw [this]; exact Nat.pow_le_pow_right (by omega) (by omega)
    rw [Nat.testBit_lt_two_pow (Nat.lt_of_lt_of_le hx h31), Nat.testBit_lt_two_pow (Nat.lt_of_lt_of_le hy h31)]
theorem n2_inj {x y : Nat} (hx : x < 2147483648) (hy : y < 2147483648) (h : n2 x = n2 y) : x = y := by
  have hs : ∀ j, j < 30 → x.testBit (j + 1) = y.testBit (j + 1) := fun j hj => by rw [← bit_n2 hx j hj, ← bit_n2 hy j hj, h]
  have h30 := bit_n2_30 hx
  rw [h, bit_n2_30 hy, hs 0 (by omega), hs 1 (by omega), hs 2 (by omega)] at h30
  apply bits_eq hx hy
  intro j hj
  cases j with
  | zero =>
    revert h30
    cases x.testBit 0 <;> cases y.testBit 0 <;> cases y.testBit (0 + 1) <;> cases y.testBit (1 + 1) <;> cases y.testBit (2 + 1) <;> simp
  | succ j => exact hs j (by omega)
theorem b2_inj {a b : Nat} (ha : a < 2147483648) (hb : b < 2147483648) : ∀ n, b2 a n = b2 b n → a = b
  | 0, h => h
  | n + 1, h => b2_inj ha hb n (n2_inj (b2_lt ha n) (b2_lt hb n) h)
/-- Already 31 bits tell two sequences apart. -/
theorem c_inj {a b : Nat} (ha : a < 2147483648) (hb : b < 2147483648) (h : ∀ k, k < 31 → c a k = c b k) : a = b := by
  refine b2_inj ha hb 1600 (bits_eq (b2_lt ha _) (b2_lt hb _) fun j hj => ?_)
  rw [b2_bit ha j 1600 hj, b2_bit hb j 1600 hj]
  have := h j (by omega)
  unfold c at this
  revert this
  cases s1 (1600 + j) <;> simp
theorem s2_xor {a b : Nat} (ha : a < 2147483648) (hb : b < 2147483648) : ∀ n, s2 (a ^^^ b) n = (s2 a n ^^ s2 b n) := by
  have hab : a ^^^ b < 2147483648 := Nat.xor_lt_two_pow (n := 31) ha hb
  intro n
  induction n using Nat.strongRecOn with
  | _ n ih =>
    by_cases hn : n ≤ 30
    · rw [s2_start hab n hn, s2_start ha n hn, s2_start hb n hn, Nat.testBit_xor]
    · obtain ⟨m, rfl⟩ : ∃ m, n = m + 31 := ⟨n - 31, by omega⟩
      rw [s2_rec hab, s2_rec ha, s2_rec hb, ih (m + 3) (by omega), ih (m + 2) (by omega), ih (m + 1) (by omega), ih m (by omega)]
      cases s2 a (m + 3) <;> cases s2 a (m + 2) <;> cases s2 a (m + 1) <;> cases s2 a m <;> cases s2 b (m + 3) <;> cases s2 b (m + 2) <;> cases s2 b (m + 1) <;> cases s2 b m <;> rfl
theorem s2_zero (n : Nat) : s2 0 n = false := by
  have := s2_xor (a := 0) (b := 0) (by omega) (by omega) n
  rw [Nat.xor_self] at this
  revert this
  cases s2 0 n <;> simp
theorem c_linear {a b : Nat} (ha : a < 2147483648) (hb : b < 2147483648) (k : Nat) : (c a k ^^ c b k) = (c (a ^^^ b) k ^^ c 0 k) := by
  unfold c
  rw [s2_xor ha hb, s2_zero]
  cases s1 (1600 + k) <;> cases s2 a (1600 + k) <;> cases s2 b (1600 + k) <;> rfl
end Reg
namespace Scr
theorem seqL_inj {a b : Nat} (ha : a < 2147483648) (hb : b < 2147483648) : decide (seqL a 31 = seqL b 31) = ((a : Int) == (b : Int)) := by
  by_cases h : a = b
  · subst h; simp
  · have h1 : ((a : Int) == (b : Int)) = false := by rw [beq_eq_false_iff_ne]; omega
    rw [h1, decide_eq_false_iff_not]
    intro he
    apply h
    refine Reg.c_inj ha hb fun k hk => ?_
    have hg : (seqL a 31)[k]? = (seqL b 31)[k]? := by rw [he]
    simp [seqL, hk] at hg
    revert hg
    cases Reg.c a k <;> cases Reg.c b k <;> simp
theorem seq_known : decide (seqL 1 31 = seqL 0 31) = false := by rw [seqL_inj (by omega) (by omega)]; rfl
theorem seqR_ok {i : Nat} (hi : i < 2147483648) {n : Nat} (hn : n ≤ 131072) : seqR i n = (seqL i n, 0) := by
  unfold seqR; rw [if_neg (by omega), Int.toNat_natCast]
theorem seqR_err {i : Nat} {n : Int} (h : n < 0 ∨ 131072 < n ∨ 2147483648 ≤ i) : seqR i n = ([], 2) := by unfold seqR; rw [if_pos h]
theorem bel_ok {B : List Int} (hb : bbad B = false) (hw : ∀ n ∈ B, (Lit.int .u8 n).wf = true) {i k : Nat} (hk : k < B.length) : bok (B.getD k 0) :=
  bok_of (bbad_at hb hk) (hw _ (by simp [List.getD, hk]))
theorem iel_ok {B : List Int} (hb : ibad B = false) (hw : ∀ n ∈ B, (Lit.int .i64 n).wf = true) {i k : Nat} (hk : k < B.length) : iok (B.getD k 0) :=
  iok_of (ibad_at hb hk) (hw _ (by simp [List.getD, hk]))
theorem bscr_ok' {B : List Int} (hb : bbad B = false) (hw : ∀ n ∈ B, (Lit.int .u8 n).wf = true) (i : Nat) : ∀ x ∈ bscr i B B.length, bok x := by
  intro x hx
  obtain ⟨k, hk, rfl⟩ := List.mem_map.1 hx
  have hk' := List.mem_range.1 hk
  have h := bel_ok (i := i) hb hw hk'
  unfold bel bflip
  unfold bok at h ⊢
  split <;> omega
theorem iscr_ok' {B : List Int} (hb : ibad B = false) (hw : ∀ n ∈ B, (Lit.int .i64 n).wf = true) (i : Nat) : ∀ x ∈ iscr i B B.length, iok x := by
  intro x hx
  obtain ⟨k, hk, rfl⟩ := List.mem_map.1 hx
  have hk' := List.mem_range.1 hk
  have h := iel_ok (i := i) hb hw hk'
  unfold iel iflip
  unfold iok at h ⊢
  split <;> omega
theorem bok_wf {x : Int} (h : bok x) : (Lit.int .u8 x).wf = true ∧ binv x = false := by
  unfold bok at h
  constructor
  · simp [Lit.wf, IntKind.min, IntKind.max, IntKind.signed, IntKind.bits]; omega
  · simp [binv]; omega
theorem iok_wf {x : Int} (h : iok x) : (Lit.int .i64 x).wf = true ∧ iinv x = false := by
  unfold iok at h
  constructor
  · simp [Lit.wf, IntKind.min, IntKind.max, IntKind.signed, IntKind.bits]; omega
  · simp [iinv]; omega
theorem bscr_twice {B : List Int} (i : Nat) : bscr i (bscr i B B.length) B.length = B := by
  apply List.ext_getElem
  · simp [bscr]
  · intro k h1 h2
    simp only [bscr, List.getElem_map, List.getElem_range, bel, List.getD, List.getElem?_map, List.getElem?_range h2, Option.map_some, Option.getD_some]
    cases Reg.c i k <;> simp [h2, bflip]
    omega
theorem iscr_twice {B : List Int} (i : Nat) : iscr i (iscr i B B.length) B.length = B := by
  apply List.ext_getElem
  · simp [iscr]
  · intro k h1 h2
    simp only [iscr, List.getElem_map, List.getElem_range, iel, List.getD, List.getElem?_map, List.getElem?_range h2, Option.map_some, Option.getD_some]
    cases Reg.c i k <;> simp [h2, iflip]
theorem bR_wf {B : List Int} (i : Nat) (hw : ∀ n ∈ B, (Lit.int .u8 n).wf = true) : ∀ x ∈ (bR i B).1, (Lit.int .u8 x).wf = true := by
  unfold bR
  split
  · simp
  · split
    · simp
    · split
      · simp
      · intro x hx; exact (bok_wf (bscr_ok' (by rename_i hq; simpa using hq) hw i x hx)).1
theorem iR_wf {B : List Int} (i : Nat) (hw : ∀ n ∈ B, (Lit.int .i64 n).wf = true) : ∀ x ∈ (iR i B).1, (Lit.int .i64 x).wf = true := by
  unfold iR
  split
  · simp
  · split
    · simp
    · split
      · simp
      · intro x hx; exact (iok_wf (iscr_ok' (by rename_i hq; simpa using hq) hw i x hx)).1
theorem bR_len (i : Nat) (B : List Int) : (bR i B).1.length ≤ 131072 := by
  unfold bR
  split
  · simp
  · split
    · simp
    · split
      · simp
      · rw [bscr_len]; omega
theorem iR_len (i : Nat) (B : List Int) : (iR i B).1.length ≤ 131072 := by
  unfold iR
  split
  · simp
  · split
    · simp
    · split
      · simp
      · rw [iscr_len]; omega
theorem bR_twice {i : Nat} {B : List Int} (hw : ∀ n ∈ B, (Lit.int .u8 n).wf = true) (h : (bR i B).2 = 0) : bR i (bR i B).1 = (B, 0) := by
  have e : ¬ 2147483648 ≤ i ∧ ¬ 131072 < B.length ∧ ¬ bbad B = true := by
    unfold bR at h
    refine ⟨fun h1 => ?_, fun h2 => ?_, fun h3 => ?_⟩
    · simp [h1] at h
    · split at h <;> simp [h2] at h
    · split at h
      · simp at h
      · split at h <;> simp [h3] at h
  have e1 : bR i B = (bscr i B B.length, 0) := by unfold bR; rw [if_neg e.1, if_neg e.2.1, if_neg e.2.2]
  rw [e1]
  have hb : bbad (bscr i B B.length) = false := by
    rw [bbad, List.any_eq_false]
    intro x hx
    rw [(bok_wf (bscr_ok' (by simpa using e.2.2) hw i x hx)).2]; simp
  unfold bR
  rw [if_neg e.1, bscr_len, if_neg e.2.1, hb, if_neg (by simp), bscr_twice]
theorem iR_twice {i : Nat} {B : List Int} (hw : ∀ n ∈ B, (Lit.int .i64 n).wf = true) (h : (iR i B).2 = 0) : iR i (iR i B).1 = (B, 0) := by
  have e : ¬ 2147483648 ≤ i ∧ ¬ 131072 < B.length ∧ ¬ ibad B = true := by
    unfold iR at h
    refine ⟨fun h1 => ?_, fun h2 => ?_, fun h3 => ?_⟩
    · simp [h1] at h
    · split at h <;> simp [h2] at h
    · split at h
      · simp at h
      · split at h <;> simp [h3] at h
  have e1 : iR i B = (iscr i B B.length, 0) := by unfold iR; rw [if_neg e.1, if_neg e.2.1, if_neg e.2.2]
  rw [e1]
  have hb : ibad (iscr i B B.length) = false := by
    rw [ibad, List.any_eq_false]
    intro x hx
    rw [(iok_wf (iscr_ok' (by simpa using e.2.2) hw i x hx)).2]; simp
  unfold iR
  rw [if_neg e.1, iscr_len, if_neg e.2.1, hb, if_neg (by simp), iscr_twice]
end Scr
end Go.Proofs.Ytmiaddcjedjjdaa
