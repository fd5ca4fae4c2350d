/- The resource grid's theorem, plain; no program. -/
import Derived.Test.YtighnjbcnfnpmaaGri9b
namespace Go.Proofs.Ytighnjbcnfnpmaa
namespace Gr
theorem app_l {A : List Int} {x : Int} {i : Nat} (h : i < A.length) : (A ++ [x]).getD i 0 = A.getD i 0 := by simp [List.getD, List.getElem?_append, h]
theorem app_r {A : List Int} {x : Int} : (A ++ [x]).getD A.length 0 = x := by simp [List.getD]
theorem sel_lt {p : Nat → Bool} : ∀ n i j, i < j → j < (sel p n).length → (sel p n).getD i 0 < (sel p n).getD j 0
  | 0, i, j, _, h => by simp [sel] at h
  | n + 1, i, j, hij, hj => by
    cases hp : p n with
    | false => rw [sel_no hp] at hj ⊢; exact sel_lt n i j hij hj
    | true =>
      rw [sel_yes hp] at hj ⊢
      have hj' : j < (sel p n).length + 1 := by simpa using hj
      rw [app_l (show i < (sel p n).length by omega)]
      by_cases hj2 : j < (sel p n).length
      · rw [app_l hj2]; exact sel_lt n i j hij hj2
      · obtain rfl : j = (sel p n).length := by omega
        obtain ⟨v, hv, hvn, _⟩ := sel_get hij
        rw [app_r, hv]
        omega
theorem sel_inj {p : Nat → Bool} {n i j : Nat} (hi : i < (sel p n).length) (hj : j < (sel p n).length) (h : (sel p n).getD i 0 = (sel p n).getD j 0) : i = j := by
  rcases Nat.lt_trichotomy i j with h1 | h1 | h1
  · have := sel_lt n i j h1 hj; omega
  · exact h1
  · have := sel_lt n j i h1 hi; omega
theorem sel_find {p : Nat → Bool} : ∀ n x, x < n → p x = true → ∃ j, j < (sel p n).length ∧ (sel p n).getD j 0 = (x : Int)
  | 0, x, h, _ => by omega
  | n + 1, x, hx, hp => by
    by_cases h : x = n
    · subst h
      rw [sel_yes hp]
      exact ⟨(sel p x).length, by simp, app_r⟩
    · obtain ⟨j, h1, h2⟩ := sel_find n x (by omega) hp
      cases hq : p n with
      | false => rw [sel_no hq]; exact ⟨j, h1, h2⟩
      | true => rw [sel_yes hq]; exact ⟨j, by simp; omega, by rw [app_l h1]; exact h2⟩
theorem set_ne {P : List (Int × Int)} {i x : Nat} {v : Int × Int} (h : i ≠ x) : (P.set i v).getD x (0, 0) = P.getD x (0, 0) := by simp [List.getD, List.getElem?_set, h]
theorem set_eq {P : List (Int × Int)} {i : Nat} {v : Int × Int} (h : i < P.length) : (P.set i v).getD i (0, 0) = v := by simp [List.getD, List.getElem?_set, h]
theorem putN_miss (P : List (Int × Int)) (l : List Int) (q : Nat → Int × Int) : ∀ k x, (∀ j, j < k → (l.getD j 0).toNat ≠ x) → (putN P l q k).getD x (0, 0) = P.getD x (0, 0)
  | 0, x, _ => rfl
  | k + 1, x, h => by
    rw [putN, set_ne (h k (by omega))]
    exact putN_miss P l q k x (fun j hj => h j (by omega))
theorem putN_hit (P : List (Int × Int)) (l : List Int) (q : Nat → Int × Int) : ∀ k j, j < k → (∀ i, i < k → i ≠ j → (l.getD i 0).toNat ≠ (l.getD j 0).toNat) → (l.getD j 0).toNat < P.length → (putN P l q k).getD (l.getD j 0).toNat (0, 0) = q j
  | 0, j, h, _, _ => by omega
  | k + 1, j, hj, hd, hl => by
    rw [putN]
    by_cases h : k = j
    · subst h
      exact set_eq (by rw [putN_len]; exact hl)
    · rw [set_ne (hd k (by omega) h)]
      exact putN_hit P l q k j (by omega) (fun i hi => hd i (by omega)) hl
theorem sel_tn {p : Nat → Bool} {n i j : Nat} (hi : i < (sel p n).length) (hj : j < (sel p n).length) (h : i ≠ j) : ((sel p n).getD i 0).toNat ≠ ((sel p n).getD j 0).toNat := by
  obtain ⟨a, ha, _, _⟩ := sel_get hi
  obtain ⟨c, hc, _, _⟩ := sel_get hj
  intro e
  rw [ha, hc] at e
  exact h (sel_inj hi hj (by rw [ha, hc]; simp at e; omega))
theorem getP_take {S : List (Int × Int)} {L : List Int} {Q : List (Int × Int)} (hl : Q.length ≤ L.length) (h : ∀ i, i < Q.length → S.getD (L.getD i 0).toNat (0, 0) = Q.getD i (0, 0)) : (getP S L).take Q.length = Q := by
  apply List.ext_getElem
  · simp [getP]; omega
  · intro i h1 h2
    have h3 := h i h2
    have h4 : i < L.length := by omega
    have e1 : L.getD i 0 = L[i] := by simp [List.getD, h4]
    have e2 : Q.getD i (0, 0) = Q[i] := by simp [List.getD, h2]
    rw [e1, e2] at h3
    simp only [List.getElem_take, getP, List.getElem_map]
    exact h3
/-- Get returns what Put stored. -/
theorem put_get {b t l first blocks : Int} (hok : datOk b t l first blocks = true) {S P : List (Int × Int)} (hS : S.length = (168 * b).toNat) (hP : P.length ≤ (datL b t l first blocks).length) :
    (getP (putP b t l S first blocks P) (datL b t l first blocks)).take P.length = P := by
  refine getP_take hP fun i hi => ?_
  rw [show putP b t l S first blocks P = putN S (datL b t l first blocks) (fun i => P.getD i (0, 0)) P.length from if_neg (by omega)]
  have hd : datL b t l first blocks = sel (datP b t l first blocks) (168 * b).toNat := if_pos hok
  rw [hd] at hP ⊢
  refine putN_hit _ _ _ _ i hi (fun j hj hne => sel_tn (by omega) (by omega) hne) ?_
  obtain ⟨a, ha, hl, _⟩ := sel_get (show i < (sel (datP b t l first blocks) (168 * b).toNat).length by omega)
  rw [ha, hS]
  simpa using hl
theorem putP_miss {b t l first blocks : Int} {S Q : List (Int × Int)} {x : Nat} (h : datP b t l first blocks x = false) : (putP b t l S first blocks Q).getD x (0, 0) = S.getD x (0, 0) := by
  unfold putP
  split
  · rfl
  · rename_i hl
    refine putN_miss _ _ _ _ _ fun j hj e => ?_
    have hj2 : j < (datL b t l first blocks).length := by omega
    unfold datL at hj2 e
    split at hj2
    · rename_i hok
      rw [if_pos hok] at e
      obtain ⟨a, ha, _, hp⟩ := sel_get hj2
      rw [ha] at e
      simp at e
      subst e
      rw [h] at hp
      exact absurd hp (by simp)
    · simp at hj2
/-- Ranges that do not overlap do not affect each other. -/
theorem put_other {b t l first blocks : Int} {S Q : List (Int × Int)} (n2 : Int) : getP (putP b t l S (first + blocks) n2 Q) (datL b t l first blocks) = getP S (datL b t l first blocks) := by
  unfold getP
  refine List.map_congr_left fun x hx => ?_
  refine putP_miss ?_
  unfold datL at hx
  split at hx
  · obtain ⟨k, rfl, _, hp⟩ := sel_mem hx
    rw [Int.toNat_natCast]
    simp only [datP, inb, Bool.and_eq_true, decide_eq_true_eq] at hp
    simp only [datP, inb, Bool.and_eq_false_iff, decide_eq_false_iff_not]
    omega
  · simp at hx
theorem put_kind {b t l first blocks : Int} {S Q : List (Int × Int)} {x : Nat} (h : kd b t l x ≠ 3) : (putP b t l S first blocks Q).getD x (0, 0) = S.getD x (0, 0) := by
  refine putP_miss ?_
  simp [datP, h]
theorem new_ref {b t l : Int} {x : Nat} (hx : x < (168 * b).toNat) (h : kd b t l x = 1) : (newP b t l).getD x (0, 0) = (1, 1) := by
  obtain ⟨j, hj, hv⟩ := sel_find (p := fun i => kd b t l i == 1) (168 * b).toNat x hx (by simp [h])
  have := putN_hit (List.replicate (168 * b).toNat (0, 0)) (refL b t l) (fun _ => (1, 1)) (refL b t l).length j hj (fun i hi hne => sel_tn hi hj hne) (by rw [show (refL b t l).getD j 0 = (x : Int) from hv, List.length_replicate]; simpa using hx)
  rw [show (refL b t l).getD j 0 = (x : Int) from hv, Int.toNat_natCast] at this
  exact this
theorem new_zero {b t l : Int} {x : Nat} (h : kd b t l x ≠ 1) : (newP b t l).getD x (0, 0) = (0, 0) := by
  unfold newP
  rw [putN_miss]
  · simp [List.getD, List.getElem?_replicate]
    split <;> rfl
  · intro j hj e
    obtain ⟨a, ha, _, hp⟩ := sel_get (show j < (sel (fun i => kd b t l i == 1) (168 * b).toNat).length from hj)
    rw [show (refL b t l).getD j 0 = (a : Int) from ha, Int.toNat_natCast] at e
    subst e
    simp at hp
    exact h hp
/-! Every block has 8 reference elements. -/
def cnt (p : Nat → Bool) (n : Nat) : Nat := ((List.range n).filter p).length
theorem cnt_sel (p : Nat → Bool) (n : Nat) : (sel p n).length = cnt p n := by simp [sel, cnt]
theorem cnt_add (p : Nat → Bool) (n m : Nat) : cnt p (n + m) = cnt p n + cnt (fun i => p (n + i)) m := by
  unfold cnt
  rw [List.range_add, List.filter_append, List.length_append, List.filter_map, List.length_map]
  rfl
theorem cnt_congr {p q : Nat → Bool} {n : Nat} (h : ∀ k, k < n → p k = q k) : cnt p n = cnt q n := by
  unfold cnt
  rw [List.filter_congr (fun k hk => h k (List.mem_range.1 hk))]
theorem cnt_no (n : Nat) : cnt (fun _ => false) n = 0 := by simp [cnt]
theorem cnt_mod (r : Nat) (hr : r < 6) : ∀ b, cnt (fun k => k % 6 == r) (12 * b) = 2 * b
  | 0 => rfl
  | b + 1 => by
    rw [show 12 * (b + 1) = 12 * b + 12 by omega, cnt_add, cnt_mod r hr b]
    rw [cnt_congr (q := fun k => k % 6 == r) (fun k _ => by rw [show (12 * b + k) % 6 = k % 6 by omega])]
    have : ∀ r, r < 6 → cnt (fun k => k % 6 == r) 12 = 2 := by decide
    rw [this r hr]
    omega
theorem cnt_rows (p : Nat → Bool) (w : Nat) : ∀ m, cnt p (m * w) = ((List.range m).map fun s => cnt (fun k => p (s * w + k)) w).sum
  | 0 => by simp [cnt]
  | m + 1 => by
    rw [Nat.succ_mul, cnt_add, cnt_rows p w m, List.range_succ, List.map_append, List.sum_append]
    simp
theorem row_kd {b t l : Int} {B : Nat} (hb : b = B) (hB : 0 < B) (s k : Nat) (hk : k < 12 * B) : (kd b t l ((s * (12 * B) + k : Nat) : Int) == 1) = isr s k l := by
  have h1 : ((s * (12 * B) + k : Nat) : Int) / (12 * b) = s := by
    rw [hb]
    rw [show (12 * (B : Int)) = ((12 * B : Nat) : Int) by simp]
    rw [← Int.natCast_ediv, Nat.mul_comm s, Nat.mul_add_div (by omega), Nat.div_eq_of_lt hk, Nat.add_zero]
  have h2 : ((s * (12 * B) + k : Nat) : Int) % (12 * b) = k := by
    rw [hb]
    rw [show (12 * (B : Int)) = ((12 * B : Nat) : Int) by simp]
    rw [← Int.natCast_emod, Nat.mul_comm s, Nat.mul_add_mod, Nat.mod_eq_of_lt hk]
  unfold kd
  rw [h1, h2]
  cases isr s k l
  · simp
    split <;> simp
  · simp
theorem refs_len {b t l : Int} (b0 : 6 ≤ b) (l0 : 0 ≤ l) : (refL b t l).length = (8 * b).toNat := by
  obtain ⟨B, rfl⟩ := Int.eq_ofNat_of_zero_le (show 0 ≤ b by omega)
  obtain ⟨l, rfl⟩ := Int.eq_ofNat_of_zero_le l0
  unfold refL
  rw [cnt_sel, show (168 * (B : Int)).toNat = 14 * (12 * B) by omega, cnt_rows]
  have hrow : ∀ s : Nat, cnt (fun k => (kd (B : Int) t l ((s * (12 * B) + k : Nat) : Int) == 1)) (12 * B) = if s = 0 ∨ s = 7 ∨ s = 4 ∨ s = 11 then 2 * B else 0 := by
    intro s
    rw [cnt_congr (fun k hk => row_kd rfl (by omega) s k hk)]
    by_cases h1 : s = 0 ∨ s = 7
    · rw [if_pos (by omega), cnt_congr (q := fun k => k % 6 == l % 6), cnt_mod _ (Nat.mod_lt _ (by omega))]
      intro k _
      rw [Bool.eq_iff_iff]
      simp only [isr, Bool.or_eq_true, Bool.and_eq_true, beq_iff_eq]
      omega
    · by_cases h2 : s = 4 ∨ s = 11
      · rw [if_pos (by omega), cnt_congr (q := fun k => k % 6 == (l + 3) % 6), cnt_mod _ (Nat.mod_lt _ (by omega))]
        intro k _
        rw [Bool.eq_iff_iff]
        simp only [isr, Bool.or_eq_true, Bool.and_eq_true, beq_iff_eq]
        omega
      · rw [if_neg (by omega), cnt_congr (q := fun _ => false), cnt_no]
        intro k _
        simp only [isr, Bool.or_eq_false_iff, Bool.and_eq_false_iff, beq_eq_false_iff_ne]
        omega
  simp only [hrow]
  simp [List.range_succ]
  omega
end Gr
end Go.Proofs.Ytighnjbcnfnpmaa
