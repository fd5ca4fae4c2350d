/- The resource grid, plain; no program. -/
import Derived.Test.YtighnjbcnfnpmaaSoft9
namespace Go.Proofs.Ytighnjbcnfnpmaa
namespace Gr
/-- A valid configuration: blocks, control, cell. -/
structure Cf (b t l : Int) : Prop where
  b0 : 6 ≤ b
  b1 : b ≤ 100
  t0 : 1 ≤ t
  t1 : t ≤ 3
  l0 : 0 ≤ l
  l1 : l ≤ 503
def vld (b t l : Int) : Bool := decide (6 ≤ b) && decide (b ≤ 100) && (decide (1 ≤ t) && decide (t ≤ 3)) && (decide (0 ≤ l) && decide (l ≤ 503))
theorem vld_iff {b t l : Int} : vld b t l = true ↔ Cf b t l := by
  simp only [vld, Bool.and_eq_true, decide_eq_true_eq]
  constructor
  · rintro ⟨⟨⟨a, b⟩, c, d⟩, e, f⟩; exact ⟨a, b, c, d, e, f⟩
  · rintro ⟨a, b, c, d, e, f⟩; exact ⟨⟨⟨a, b⟩, c, d⟩, e, f⟩
/-- Whether element (s, k) is a reference. -/
def isr (s k l : Int) : Bool := ((s == 0 || s == 7) && (k % 6 == l % 6)) || ((s == 4 || s == 11) && (k % 6 == (l + 3) % 6))
/-- The kind of an element. -/
def kd (b t l i : Int) : Int := if isr (i / (12 * b)) (i % (12 * b)) l = true then 1 else if i / (12 * b) < t then 2 else 3
theorem rem_iff (k l o : Int) : ((k - l - o).tmod 6 == 0) = (k % 6 == (l + o) % 6) := by
  rw [Bool.eq_iff_iff, beq_iff_eq, beq_iff_eq]
  constructor
  · intro h
    have := Int.dvd_of_tmod_eq_zero h
    omega
  · intro h
    exact Int.tmod_eq_zero_of_dvd (by omega)
theorem kd_cases (b t l i : Int) : kd b t l i = 1 ∨ kd b t l i = 2 ∨ kd b t l i = 3 := by unfold kd; split <;> (try split) <;> simp
/-- The indices below n that a predicate takes. -/
def sel (p : Nat → Bool) (n : Nat) : List Int := ((List.range n).filter p).map fun i : Nat => (i : Int)
theorem sel_zero (p : Nat → Bool) : sel p 0 = [] := rfl
theorem sel_yes {p : Nat → Bool} {n : Nat} (h : p n = true) : sel p (n + 1) = sel p n ++ [(n : Int)] := by simp [sel, List.range_succ, h]
theorem sel_no {p : Nat → Bool} {n : Nat} (h : p n = false) : sel p (n + 1) = sel p n := by simp [sel, List.range_succ, h]
theorem sel_len (p : Nat → Bool) (n : Nat) : (sel p n).length ≤ n := by
  have := List.length_filter_le p (List.range n)
  simpa [sel] using this
theorem sel_congr {p q : Nat → Bool} {n : Nat} (h : ∀ k, k < n → p k = q k) : sel p n = sel q n := by
  unfold sel
  rw [List.filter_congr (fun k hk => h k (List.mem_range.1 hk))]
theorem sel_mem {p : Nat → Bool} {n : Nat} {x : Int} (h : x ∈ sel p n) : ∃ k : Nat, x = k ∧ k < n ∧ p k = true := by
  simp only [sel, List.mem_map, List.mem_filter, List.mem_range] at h
  obtain ⟨k, ⟨h1, h2⟩, h3⟩ := h
  exact ⟨k, h3.symm, h1, h2⟩
/-- The reference elements. -/
def refL (b t l : Int) : List Int := sel (fun i => kd b t l i == 1) (168 * b).toNat
/-- The data elements of a range. -/
def inb (b first blocks i : Int) : Bool := decide (first ≤ i % (12 * b) / 12) && decide (i % (12 * b) / 12 < first + blocks)
def datP (b t l first blocks : Int) (i : Nat) : Bool := inb b first blocks i && (kd b t l i == 3)
def datOk (b t l first blocks : Int) : Bool := vld b t l && decide (0 ≤ first) && decide (1 ≤ blocks) && decide (first ≤ b) && decide (blocks ≤ b - first)
def datL (b t l first blocks : Int) : List Int := if datOk b t l first blocks = true then sel (datP b t l first blocks) (168 * b).toNat else []
def datE (b t l first blocks : Int) : Int := if datOk b t l first blocks = true then 0 else 2
end Gr
end Go.Proofs.Ytighnjbcnfnpmaa
