/- Interleaving and back, as lists; no program. -/
import Derived.Test.YtpdoeibgnbdgfaaOnce9
namespace Go.Proofs.Ytpdoeibgnbdgfaa
open Go.RowKit
namespace Ord
def okBits (B : List Int) : Bool := B.all fun b => decide (b ≤ 1)
theorem any_bad (B : List Int) : ((List.range B.length).any fun i => decide (1 < B.getD i 0)) = !okBits B := by
  rw [Bool.eq_iff_iff]
  simp only [okBits, List.any_eq_true, List.mem_range, decide_eq_true_eq, Bool.not_eq_true', List.all_eq_false]
  constructor
  · rintro ⟨i, hi, h⟩
    exact ⟨B[i], List.getElem_mem hi, by simp [List.getD, hi] at h; omega⟩
  · rintro ⟨b, hb, h⟩
    obtain ⟨i, hi, rfl⟩ := List.getElem_of_mem hb
    exact ⟨i, hi, by simp [List.getD, hi]; omega⟩
theorem okBits_at {B : List Int} (h : okBits B = true) (i : Nat) (hi : i < B.length) : B.getD i 0 ≤ 1 := by
  have := List.all_eq_true.1 h B[i] (List.getElem_mem hi)
  simpa [List.getD, hi] using this
/-- Element k of the interleaved stream. -/
def interF (B : List Int) (R : Nat) (s : Int) (k : Nat) : Int := if ordF B.length R s k < 0 then 2 else B.getD (ordF B.length R s k).toNat 0
def interL (B : List Int) (R : Nat) (s : Int) : List Int := (List.range (32 * R)).map (interF B R s)
theorem interL_len (B : List Int) (R : Nat) (s : Int) : (interL B R s).length = 32 * R := by simp [interL]
theorem interL_get {B : List Int} {R : Nat} {s : Int} {k : Nat} (h : k < 32 * R) : (interL B R s).getD k 0 = interF B R s k := by simp [interL, h]
def interP (B : List Int) (R : Nat) (s : Int) (n : Nat) : List Int := (List.range (32 * R)).map fun k => if k < n then interF B R s k else 0
theorem interP_len (B : List Int) (R : Nat) (s : Int) (n : Nat) : (interP B R s n).length = 32 * R := by simp [interP]
theorem interP_zero (B : List Int) (R : Nat) (s : Int) : interP B R s 0 = List.replicate (32 * R) 0 := by
  apply List.ext_getElem
  · simp [interP]
  · intro i h1 h2; simp [interP]
theorem interP_full (B : List Int) (R : Nat) (s : Int) : interP B R s (32 * R) = interL B R s := by
  apply List.ext_getElem
  · simp [interP, interL]
  · intro i h1 h2
    have : i < 32 * R := by simpa [interL] using h2
    simp [interP, interL, this]
theorem interP_set (B : List Int) (R : Nat) (s : Int) (k : Nat) (x : Int) (h : x = interF B R s k) : (interP B R s k).set k x = interP B R s (k + 1) := by
  subst h
  apply List.ext_getElem
  · simp [interP]
  · intro i h1 h2
    rw [List.getElem_set]
    by_cases hik : k = i
    · subst hik; simp [interP]
    · have : i < k ↔ i < k + 1 := by omega
      simp [interP, hik, this]

/-- Element k can not be that of an interleaved stream. -/
def badF (L : List Int) (d R : Nat) (s : Int) (k : Nat) : Bool := ((L.getD k 0 == 2) != decide (ordF d R s k < 0)) || decide (2 < L.getD k 0)
def noBad (L : List Int) (d R : Nat) (s : Int) : Bool := (List.range (32 * R)).all fun k => !badF L d R s k
theorem noBad_at {L : List Int} {d R : Nat} {s : Int} (h : noBad L d R s = true) {k : Nat} (hk : k < 32 * R) : badF L d R s k = false := by
  have := List.all_eq_true.1 h k (by simpa using hk)
  simpa using this
theorem noBad_iff {L : List Int} {d R : Nat} {s : Int} : noBad L d R s = true ↔ ∀ k, k < 32 * R → badF L d R s k = false := by
  constructor
  · intro h k hk; exact noBad_at h hk
  · intro h
    rw [noBad, List.all_eq_true]
    intro k hk
    rw [h k (by simpa using hk)]; rfl
theorem noBad_no {L : List Int} {d R : Nat} {s : Int} {k : Nat} (hk : k < 32 * R) (h : badF L d R s k = true) : noBad L d R s = false := by
  cases hn : noBad L d R s with
  | false => rfl
  | true => rw [noBad_at hn hk] at h; cases h
def deintF (L : List Int) (d R : Nat) (s : Int) (i : Nat) : Int := L.getD (inv2 R s (32 * R - d + i)) 0
def deintL (L : List Int) (d R : Nat) (s : Int) : List Int := (List.range d).map (deintF L d R s)
theorem deintL_len (L : List Int) (d R : Nat) (s : Int) : (deintL L d R s).length = d := by simp [deintL]
def deintP (L : List Int) (d R : Nat) (s : Int) (n : Nat) : List Int := (List.range d).map fun i => if inv2 R s (32 * R - d + i) < n then deintF L d R s i else 0
theorem deintP_len (L : List Int) (d R : Nat) (s : Int) (n : Nat) : (deintP L d R s n).length = d := by simp [deintP]
theorem deintP_zero (L : List Int) (d R : Nat) (s : Int) : deintP L d R s 0 = List.replicate d 0 := by
  apply List.ext_getElem
  · simp [deintP]
  · intro i h1 h2; simp [deintP]
theorem deintP_full {L : List Int} {d R : Nat} {s : Int} (hR : d ≤ 32 * R) : deintP L d R s (32 * R) = deintL L d R s := by
  unfold deintP deintL
  apply List.map_congr_left
  intro i hi
  rw [if_pos (inv2_lt (by have := List.mem_range.1 hi; omega))]
theorem ord_nonneg {d R k : Nat} {s : Int} {i : Nat} (hR : d ≤ 32 * R) (h : ordF d R s k = (i : Int)) : idx2 R s k = 32 * R - d + i := by
  unfold ordF matF at h; split at h <;> omega
theorem deintP_miss {L : List Int} {d R : Nat} {s : Int} {k : Nat} (hR : d ≤ 32 * R) (hk : k < 32 * R) (h : ordF d R s k < 0) : deintP L d R s (k + 1) = deintP L d R s k := by
  unfold deintP
  apply List.map_congr_left
  intro i hi
  have hi' := List.mem_range.1 hi
  have hne : inv2 R s (32 * R - d + i) ≠ k := by
    intro e
    have h2 := idx2_inv (R := R) (s := s) (m := 32 * R - d + i) (by omega)
    rw [e] at h2
    unfold ordF matF at h; rw [h2] at h; split at h <;> omega
  have : inv2 R s (32 * R - d + i) < k + 1 ↔ inv2 R s (32 * R - d + i) < k := by omega
  simp only [this]
theorem deintP_hit {L : List Int} {d R : Nat} {s : Int} {k i : Nat} (hR : d ≤ 32 * R) (hk : k < 32 * R) (h : ordF d R s k = (i : Int)) (hi : i < d) : (deintP L d R s k).set i (L.getD k 0) = deintP L d R s (k + 1) := by
  have hik : inv2 R s (32 * R - d + i) = k := by rw [← ord_nonneg hR h, inv2_idx hk]
  apply List.ext_getElem
  · simp [deintP]
  · intro j h1 h2
    rw [List.getElem_set]
    have hj : j < d := by simpa [deintP] using h2
    by_cases hij : i = j
    · subst hij; simp [deintP, hik, deintF]
    · have hne : inv2 R s (32 * R - d + j) ≠ k := by
        intro e
        have h3 := idx2_inv (R := R) (s := s) (m := 32 * R - d + j) (by omega)
        rw [e, ord_nonneg hR h] at h3; omega
      have : inv2 R s (32 * R - d + j) < k + 1 ↔ inv2 R s (32 * R - d + j) < k := by omega
      simp only [deintP, List.getElem_map, List.getElem_range, if_neg hij, this]
theorem ord_inv {d R i : Nat} {s : Int} (hR : d ≤ 32 * R) (hi : i < d) : ordF d R s (inv2 R s (32 * R - d + i)) = (i : Int) := by
  rw [ordF, idx2_inv (by omega), matF, if_neg (by omega)]; omega
/-- Back is the bits. -/
theorem deint_inter {B : List Int} {R : Nat} {s : Int} (hR : B.length ≤ 32 * R) : deintL (interL B R s) B.length R s = B := by
  apply List.ext_getElem
  · simp [deintL]
  · intro i h1 h2
    have hlt := inv2_lt (R := R) (s := s) (m := 32 * R - B.length + i) (by omega)
    simp only [deintL, List.getElem_map, List.getElem_range, deintF]
    rw [interL_get hlt, interF, ord_inv hR h2, if_neg (by omega)]
    simp [List.getD, h2]
theorem inter_noBad {B : List Int} {R : Nat} {s : Int} (hR : B.length ≤ 32 * R) (hB : okBits B = true) : noBad (interL B R s) B.length R s = true := by
  rw [noBad_iff]
  intro k hk
  unfold badF
  rw [interL_get hk, interF]
  have hb := ordF_bd (s := s) hR hk
  by_cases h : ordF B.length R s k < 0
  · rw [if_pos h]; simp [h]
  · rw [if_neg h]
    have := okBits_at hB (ordF B.length R s k).toNat (by omega)
    generalize B.getD (ordF B.length R s k).toNat 0 = x at this ⊢
    have h2 : (x == 2) = false := by simp; omega
    have h3 : decide (2 < x) = false := by simp; omega
    rw [h2, h3, decide_eq_false h]; rfl
theorem deint_ok {L : List Int} {d R : Nat} {s : Int} (hR : d ≤ 32 * R) (h : noBad L d R s = true) : okBits (deintL L d R s) = true := by
  rw [okBits, List.all_eq_true]
  intro b hb
  obtain ⟨i, hi, rfl⟩ := List.mem_map.1 hb
  have hi' := List.mem_range.1 hi
  have hlt := inv2_lt (R := R) (s := s) (m := 32 * R - d + i) (by omega)
  have h1 := noBad_at h hlt
  unfold badF at h1
  rw [ord_inv hR hi'] at h1
  simp only [Bool.or_eq_false_iff] at h1
  rw [deintF, decide_eq_true_eq]
  generalize L.getD (inv2 R s (32 * R - d + i)) 0 = x at h1 ⊢
  have h2 := h1.1
  have h3 := h1.2
  rw [decide_eq_false (show ¬ ((i : Int) < 0) by omega)] at h2
  have h4 : ¬ x = 2 := by simpa using h2
  have h5 : x ≤ 2 := by simpa using h3
  omega
theorem inter_deint {L : List Int} {d R : Nat} {s : Int} (hR : d ≤ 32 * R) (hL : L.length = 32 * R) (h : noBad L d R s = true) : interL (deintL L d R s) R s = L := by
  apply List.ext_getElem
  · simp [interL, hL]
  · intro k h1 h2
    have hk : k < 32 * R := by omega
    have hb := ordF_bd (s := s) hR hk
    have h3 := noBad_at h hk
    unfold badF at h3
    simp only [interL, List.getElem_map, List.getElem_range, interF, deintL_len]
    have hg : L.getD k 0 = L[k] := by simp [List.getD, h2]
    rw [hg] at h3
    simp only [Bool.or_eq_false_iff] at h3
    by_cases ho : ordF d R s k < 0
    · rw [if_pos ho]
      have := h3.1
      simp [ho] at this
      exact this.symm
    · rw [if_neg ho]
      obtain ⟨i, hi⟩ := Int.eq_ofNat_of_zero_le (show 0 ≤ ordF d R s k by omega)
      rw [hi, Int.toNat_natCast]
      have hid : i < d := by omega
      simp only [deintL, List.getD, List.getElem?_map, List.getElem?_range hid, Option.map_some, Option.getD_some, deintF]
      rw [← ord_nonneg hR hi, inv2_idx hk]
      simp [h2]
end Ord
end Go.Proofs.Ytpdoeibgnbdgfaa
