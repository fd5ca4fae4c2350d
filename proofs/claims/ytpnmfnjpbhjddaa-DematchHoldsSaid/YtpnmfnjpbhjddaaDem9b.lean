/- Rate dematching: what the selections and the examples give; no program. -/
import Derived.Test.YtpnmfnjpbhjddaaDem9
import Derived.Test.YtpnmfnjpbhjddaaQ3
import Derived.Test.YtpnmfnjpbhjddaaQ4
import Derived.Test.YtpnmfnjpbhjddaaQ1
namespace Go.Proofs.Ytpnmfnjpbhjddaa
namespace De
theorem posR_ok {k f n : Nat} {limit rv : Int} (hv : Rm.valid k f limit = true) (h : (Rm.posR k f limit rv n).2 = 0) :
    (Rm.posR k f limit rv n).1.length = n ∧ ∀ i, i < n → ∃ j : Nat, (Rm.posR k f limit rv n).1.getD i 0 = j ∧ j < 3 * (k + 4) ∧ f ≤ j ∧ ¬ (k + 4 ≤ j ∧ j < k + 4 + f) := by
  obtain ⟨h1, h2, h3, h4, h5⟩ := Rm.valid_of hv
  unfold Rm.posR at h ⊢
  simp only [Int.toNat_natCast] at h ⊢
  split at h
  · rename_i hc
    rw [if_pos hc]
    split at h
    · rename_i h0
      rw [if_pos h0]
      have : n = 0 := by omega
      subst this
      exact ⟨rfl, fun i hi => by omega⟩
    · rename_i h0
      rw [if_neg h0]
      split at h
      · simp at h
      · rename_i hcn
        rw [if_neg hcn]
        have hR := Rm.rows_bd (k := k) (by omega) (by omega)
        have hS := Rm.size_bd (k := k) h5 (by omega)
        have hlen : (Rm.buf k f (Rm.rows k) (Rm.size k limit)).length = Rm.size k limit := Rm.buf_len hS.2
        have hu := Rm.cnt_pos (L := Rm.buf k f (Rm.rows k) (Rm.size k limit)) (by rw [hlen]; exact hcn)
        have hst : Rm.start (Rm.rows k) (Rm.size k limit) rv.toNat < (Rm.buf k f (Rm.rows k) (Rm.size k limit)).length := by rw [hlen]; exact Rm.start_lt hS.1
        refine ⟨Rm.posL_len hu, fun i hi => ?_⟩
        have hpl : (Rm.posL (Rm.buf k f (Rm.rows k) (Rm.size k limit)) (Rm.start (Rm.rows k) (Rm.size k limit) rv.toNat) n).length = n := Rm.posL_len hu
        have hmem := Rm.posL_mem (e := n) hu hst (v := (Rm.posL (Rm.buf k f (Rm.rows k) (Rm.size k limit)) (Rm.start (Rm.rows k) (Rm.size k limit) rv.toNat) n).getD i 0) (by
          rw [List.getD_eq_getElem?_getD, List.getElem?_eq_getElem (by omega)]; simp)
        obtain ⟨hm1, hm2⟩ := List.mem_filter.1 hmem
        obtain ⟨t, ht, he⟩ := List.mem_iff_getElem.1 hm1
        rw [hlen] at ht
        have hb := Rm.buf_at (k := k) (f := f) hS.2 ht
        rw [List.getD_eq_getElem?_getD, List.getElem?_eq_getElem (by omega)] at hb
        simp only [Option.getD_some] at hb
        rw [hb] at he
        rw [← he] at hm2 ⊢
        have hbd := Rm.full_bd hR.2.2.1 (show f < k by omega) (show t < 96 * Rm.rows k by omega) hm2
        exact ⟨(Rm.fullF k f (Rm.rows k) t).toNat, by omega, by omega, by omega, by omega⟩
  · simp at h
/-- Zeros added to zeros. -/
theorem comb_zero (N : Nat) (a : List Int) (M : Nat) : ∀ n, comb (List.replicate N 0) a (List.replicate M 0) n = List.replicate N 0
  | 0 => rfl
  | n + 1 => by
    rw [comb, comb_zero N a M n]
    have e1 : (List.replicate M (0 : Int)).getD n 0 = 0 := by
      rw [List.getD_eq_getElem?_getD, List.getElem?_replicate]; split <;> rfl
    have e2 : (List.replicate N (0 : Int)).getD (a.getD n 0).toNat 0 = 0 := by
      rw [List.getD_eq_getElem?_getD, List.getElem?_replicate]; split <;> rfl
    rw [e1, e2, show Soft.add 0 0 = 0 from by decide]
    apply List.ext_getElem
    · simp
    · intro i h1 h2
      rw [List.getElem_set]; split <;> simp
theorem known_zero (N : Nat) : known (List.replicate N 0) = 0 := by
  have : ∀ n, Gr.sel (nz (List.replicate N 0)) n = [] := by
    intro n
    induction n with
    | zero => rfl
    | succ n ih =>
      have : nz (List.replicate N 0) n = false := by
        unfold nz
        rw [List.getD_eq_getElem?_getD, List.getElem?_replicate]; split <;> rfl
      rw [Gr.sel_no this, ih]
  rw [known, this]; rfl
/-- The greatest of the first n values, or 0. -/
def maxN (V : List Int) : Nat → Int
  | 0 => 0
  | n + 1 => if maxN V n < V.getD n 0 then V.getD n 0 else maxN V n
def W5 : List Int := List.replicate 5 100
def P5 : List Int := (Rm.posR ((40 : Nat) : Int) ((0 : Nat) : Int) 1000 0 ((5 : Nat) : Int)).1
def V1 : List Int := comb (freshN 40 0) P5 W5 5
def V2 : List Int := comb V1 P5 W5 5
theorem k_p2 : (Rm.posR ((40 : Nat) : Int) ((0 : Nat) : Int) 1000 0 ((5 : Nat) : Int)).2 = 0 := by decide +kernel
theorem k_p4 : (Rm.posR ((40 : Nat) : Int) ((0 : Nat) : Int) 1000 4 ((1 : Nat) : Int)).2 = 2 := by decide +kernel
theorem k_v1 : Rm.valid 39 0 1000 = false := by decide +kernel
theorem k_v2 : Rm.valid 40 40 1000 = false := by decide +kernel
theorem k_v3 : Rm.valid ((40 : Nat) : Int) ((0 : Nat) : Int) 1000 = true := by decide +kernel
theorem k_v4 : Rm.valid ((40 : Nat) : Int) ((4 : Nat) : Int) 1000 = true := by decide +kernel
theorem k_k0 : known (freshN 40 0) = 0 := by decide +kernel
theorem k_k4 : known (freshN 40 4) = 8 := by decide +kernel
theorem k_f3 : (freshN 40 4).getD 3 0 = 127 := by decide +kernel
theorem k_f4 : (freshN 40 4).getD 4 0 = 0 := by decide +kernel
theorem k_k1 : known V1 = 5 := by decide +kernel
theorem k_m2 : maxN V2 132 = 127 := by decide +kernel
theorem k_b5 : Soft.bad W5 = false := by decide +kernel
theorem W5_len : W5.length = 5 := by decide
theorem bad_one : Soft.bad [1] = false := by decide +kernel
theorem V1_len : V1.length = 132 := by unfold V1; rw [comb_len, freshN_len]
theorem V2_len : V2.length = 132 := by unfold V2; rw [comb_len, V1_len]
end De
end Go.Proofs.Ytpnmfnjpbhjddaa
