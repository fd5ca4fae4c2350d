/- The order of an interleaved stream: every index occurs once (plain lists; no program). -/
import Derived.Test.YtloldjmibjkkkaaOrd9
namespace Go.Proofs.Ytloldjmibjkkkaa
open Go.RowKit
namespace Ord

/-- How many of the numbers below n satisfy p. -/
def cnt (p : Nat → Bool) : Nat → Nat
  | 0 => 0
  | n + 1 => cnt p n + (if p n then 1 else 0)
theorem cnt_none {p : Nat → Bool} : ∀ n, (∀ k, k < n → p k = false) → cnt p n = 0
  | 0, _ => rfl
  | n + 1, h => by rw [cnt, cnt_none n (fun k hk => h k (by omega)), h n (by omega)]; rfl
theorem cnt_one {p : Nat → Bool} {k0 : Nat} (hp : p k0 = true) : ∀ n, k0 < n → (∀ k, k < n → p k = true → k = k0) → cnt p n = 1
  | 0, h, _ => by omega
  | n + 1, h, hu => by
    rw [cnt]
    by_cases e : k0 = n
    · subst e
      rw [cnt_none _ (fun k hk => by
        cases hpk : p k with
        | false => rfl
        | true => have := hu k (by omega) hpk; omega), hp]; rfl
    · have hn : p n = false := by
        cases hpn : p n with
        | false => rfl
        | true => exact absurd (hu n (by omega) hpn).symm e
      rw [cnt_one hp n (by omega) (fun k hk => hu k (by omega)), hn]; rfl
theorem cnt_or {p q r : Nat → Bool} : ∀ n, (∀ k, k < n → (p k = (q k || r k)) ∧ ¬ (q k = true ∧ r k = true)) → cnt p n = cnt q n + cnt r n
  | 0, _ => rfl
  | n + 1, h => by
    rw [cnt, cnt, cnt, cnt_or n (fun k hk => h k (by omega))]
    have h1 := h n (by omega)
    rw [h1.1]
    cases hq : q n <;> cases hr : r n <;> simp [hq, hr] at h1 ⊢ <;> omega
theorem cnt_le (p : Nat → Bool) : ∀ n, cnt p n ≤ n
  | 0 => Nat.le_refl _
  | n + 1 => by rw [cnt]; have := cnt_le p n; split <;> omega

theorem perm_inv : ∀ k, k < 32 → (Cols.perm.getD (Cols.perm.getD k 0).toNat 0).toNat = k := by decide +kernel
/-- The element at which a matrix index is met. -/
def inv (R m : Nat) : Nat := (Cols.perm.getD (m % 32) 0).toNat * R + m / 32
theorem perm_lt {k : Nat} (h : k < 32) : (Cols.perm.getD k 0).toNat < 32 := by have := Cols.perm_bd k h; omega
theorem inv_lt {R m : Nat} (h : m < 32 * R) : inv R m < 32 * R := lt_of_both (perm_lt (Nat.mod_lt _ (by omega))) (by omega)
theorem idx_inv {R m : Nat} (h : m < 32 * R) : idx R (inv R m) = m := by
  unfold inv
  rw [idx_at (by omega), perm_inv _ (Nat.mod_lt _ (by omega))]
  omega
theorem inv_idx {R k : Nat} (h : k < 32 * R) : inv R (idx R k) = k := by
  have hR : 0 < R := by omega
  have hq : k / R < 32 := Nat.div_lt_of_lt_mul (by rw [Nat.mul_comm]; exact h)
  have h1 := perm_lt hq
  unfold inv idx
  rw [show ((Cols.perm.getD (k / R) 0).toNat + 32 * (k % R)) % 32 = (Cols.perm.getD (k / R) 0).toNat by omega, show ((Cols.perm.getD (k / R) 0).toNat + 32 * (k % R)) / 32 = k % R by omega, perm_inv _ hq]
  have := Nat.div_add_mod k R
  rw [Nat.mul_comm]; exact this
/-- .. for each of the three streams. -/
def inv2 (R : Nat) (s : Int) (m : Nat) : Nat := if s = 2 then inv R ((m + (32 * R - 1)) % (32 * R)) else inv R m
theorem mod_back {M m : Nat} (h : m < M) : ((m + (M - 1)) % M + 1) % M = m := by
  by_cases h0 : m = 0
  · subst h0
    rw [Nat.zero_add, Nat.mod_eq_of_lt (show M - 1 < M by omega), show M - 1 + 1 = M by omega, Nat.mod_self]
  · rw [show m + (M - 1) = (m - 1) + M by omega, Nat.add_mod_right, Nat.mod_eq_of_lt (show m - 1 < M by omega), show m - 1 + 1 = m by omega, Nat.mod_eq_of_lt h]
theorem mod_fore {M m : Nat} (h : m < M) : ((m + 1) % M + (M - 1)) % M = m := by
  by_cases h0 : m + 1 = M
  · rw [h0, Nat.mod_self, Nat.zero_add, Nat.mod_eq_of_lt (by omega)]; omega
  · rw [Nat.mod_eq_of_lt (show m + 1 < M by omega), show m + 1 + (M - 1) = m + M by omega, Nat.add_mod_right, Nat.mod_eq_of_lt h]
theorem inv2_lt {R m : Nat} {s : Int} (h : m < 32 * R) : inv2 R s m < 32 * R := by
  unfold inv2; split
  · exact inv_lt (Nat.mod_lt _ (by omega))
  · exact inv_lt h
theorem idx2_inv {R m : Nat} {s : Int} (h : m < 32 * R) : idx2 R s (inv2 R s m) = m := by
  unfold idx2 inv2
  by_cases hs : s = 2
  · rw [if_pos hs, if_pos hs, idx_inv (Nat.mod_lt _ (by omega)), mod_back h]
  · rw [if_neg hs, if_neg hs, idx_inv h]
theorem inv2_idx {R k : Nat} {s : Int} (h : k < 32 * R) : inv2 R s (idx2 R s k) = k := by
  unfold idx2 inv2
  by_cases hs : s = 2
  · rw [if_pos hs, if_pos hs, mod_fore (idx_lt h), inv_idx h]
  · rw [if_neg hs, if_neg hs, inv_idx h]
theorem cnt_idx {R m : Nat} {s : Int} (h : m < 32 * R) : cnt (fun k => idx2 R s k == m) (32 * R) = 1 :=
  cnt_one (k0 := inv2 R s m) (by simp [idx2_inv h]) _ (inv2_lt h) (fun k hk e => by
    have e' : idx2 R s k = m := by simpa using e
    rw [← e', inv2_idx hk])
theorem cnt_below {R : Nat} {s : Int} : ∀ N, N ≤ 32 * R → cnt (fun k => decide (idx2 R s k < N)) (32 * R) = N
  | 0, _ => cnt_none _ (fun k _ => by simp)
  | N + 1, h => by
    rw [cnt_or (q := fun k => decide (idx2 R s k < N)) (r := fun k => idx2 R s k == N), cnt_below N (by omega), cnt_idx (by omega)]
    intro k _
    constructor
    · rw [Bool.eq_iff_iff]; simp; omega
    · simp; omega

/-- How often i occurs among the first n elements. -/
def often (d R : Nat) (s : Int) (n : Nat) (i : Int) : Nat := cnt (fun k => ordF d R s k == i) n
theorem often_one {d R : Nat} {s : Int} (hR : d ≤ 32 * R) {i : Nat} (hi : i < d) : often d R s (32 * R) i = 1 := by
  unfold often
  have hm : 32 * R - d + i < 32 * R := by omega
  refine cnt_one (k0 := inv2 R s (32 * R - d + i)) ?_ _ (inv2_lt hm) ?_
  · rw [ordF, idx2_inv hm, matF, if_neg (by omega)]; simp
  · intro k hk e
    have e' : ordF d R s k = i := by simpa using e
    rw [ordF, matF] at e'
    split at e'
    · omega
    · rw [← inv2_idx (s := s) hk]; congr 1; omega
theorem often_dummy {d R : Nat} {s : Int} (hR : d ≤ 32 * R) : often d R s (32 * R) (-1) = 32 * R - d := by
  unfold often
  rw [show (fun k => ordF d R s k == -1) = (fun k => decide (idx2 R s k < 32 * R - d)) from ?_]
  · exact cnt_below _ (by omega)
  · funext k
    rw [Bool.eq_iff_iff]
    simp only [ordF, matF, beq_iff_eq, decide_eq_true_eq]
    split <;> omega
theorem often_le (d R : Nat) (s : Int) (n : Nat) (i : Int) : often d R s n i ≤ n := cnt_le _ _
theorem often_succ (d R : Nat) (s : Int) (n : Nat) (i : Int) : often d R s (n + 1) i = often d R s n i + (if ordF d R s n = i then 1 else 0) := by
  unfold often; rw [cnt]; simp
theorem ordF_bd {d R : Nat} {s : Int} {k : Nat} (hR : d ≤ 32 * R) (h : k < 32 * R) : -1 ≤ ordF d R s k ∧ ordF d R s k < d := by
  have := idx2_lt (s := s) h
  unfold ordF matF; split <;> omega
/-- The counters when n elements have been seen. -/
def seenL (d R : Nat) (s : Int) (n : Nat) : List Int := (List.range d).map fun (i : Nat) => ((often d R s n (i : Int) : Nat) : Int)
theorem seenL_len (d R : Nat) (s : Int) (n : Nat) : (seenL d R s n).length = d := by simp [seenL]
theorem seenL_zero (d R : Nat) (s : Int) : seenL d R s 0 = List.replicate d 0 := by
  apply List.ext_getElem
  · simp [seenL]
  · intro i h1 h2; simp [seenL, often, cnt]
theorem seenL_get {d R : Nat} {s : Int} {n i : Nat} (h : i < d) : (seenL d R s n).getD i 0 = (often d R s n (i : Int) : Int) := by simp [seenL, h]
theorem seenL_hit {d R : Nat} {s : Int} {n i : Nat} (h : ordF d R s n = (i : Int)) (hi : i < d) : (seenL d R s n).set i ((often d R s n (i : Int) : Int) + 1) = seenL d R s (n + 1) := by
  apply List.ext_getElem
  · simp [seenL]
  · intro j h1 h2
    rw [List.getElem_set]
    have hj : j < d := by simpa [seenL] using h2
    by_cases hij : i = j
    · subst hij; simp [seenL, often_succ, h]
    · have : ¬ ((i : Int) = (j : Int)) := by omega
      simp only [seenL, List.getElem_map, List.getElem_range, often_succ, h, if_neg hij, if_neg this, Nat.add_zero]
theorem seenL_miss {d R : Nat} {s : Int} {n : Nat} (h : ordF d R s n = -1) : seenL d R s (n + 1) = seenL d R s n := by
  unfold seenL
  apply List.map_congr_left
  intro i _
  have : ¬ ((-1 : Int) = (i : Int)) := by omega
  rw [often_succ, h, if_neg this]; rfl
theorem outL_01 (d R : Nat) : outL d R 0 (32 * R) = outL d R 1 (32 * R) := by
  unfold outL
  apply List.map_congr_left
  intro k _
  unfold ordF idx2; simp
theorem ord_shift {d R k : Nat} (hR : d ≤ 32 * R) (hk : k < 32 * R) (h0 : 0 ≤ ordF d R 0 k) (h1 : ordF d R 0 k < (d : Int) - 1) : ordF d R 2 k = ordF d R 0 k + 1 := by
  have h2 := idx_lt hk
  have e0 : ordF d R 0 k = matF (32 * R - d) (idx R k) := by unfold ordF idx2; rw [if_neg (by decide)]
  have e2 : ordF d R 2 k = matF (32 * R - d) ((idx R k + 1) % (32 * R)) := by unfold ordF idx2; rw [if_pos rfl]
  rw [e0] at h0 h1 ⊢
  rw [e2]
  unfold matF at *
  split at h0
  · omega
  · rename_i hm
    rw [if_neg hm] at h1
    rw [Nat.mod_eq_of_lt (by omega), if_neg (by omega), if_neg hm]
    omega
end Ord
end Go.Proofs.Ytloldjmibjkkkaa
