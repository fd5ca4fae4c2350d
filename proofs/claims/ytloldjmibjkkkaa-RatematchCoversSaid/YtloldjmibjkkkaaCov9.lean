/- Rate matching: how often a position is selected; no program. -/
import Derived.Test.YtloldjmibjkkkaaSel9
import Derived.Test.YtloldjmibjkkkaaOnce9
namespace Go.Proofs.Ytloldjmibjkkkaa
open Go.RowKit
namespace Rm
theorem selL_eq (L : List Int) (i : Nat) : ∀ n, selL L i n = ((List.range n).map (at_ L i)).filter us
  | 0 => rfl
  | n + 1 => by
    rw [selL, selL_eq L i n, List.range_succ, List.map_append, List.filter_append]
    congr 1
    by_cases h : us (at_ L i n) = true <;> simp [h]
theorem at_add (L : List Int) (i t : Nat) : at_ L i (L.length + t) = at_ L i t := by
  unfold at_
  rw [show i + (L.length + t) = (i + t) + L.length by omega, Nat.add_mod_right]
theorem selL_add (L : List Int) (i : Nat) : ∀ m, selL L i (L.length + m) = selL L i L.length ++ selL L i m
  | 0 => by simp [selL]
  | m + 1 => by rw [← Nat.add_assoc, selL, selL_add L i m, at_add, selL, List.append_assoc]
theorem turn (L : List Int) {i : Nat} (hi : i < L.length) : (List.range L.length).map (at_ L i) = L.drop i ++ L.take i := by
  apply List.ext_getElem
  · simp; omega
  · intro t h1 h2
    have ht : t < L.length := by simpa using h1
    rw [List.getElem_map, List.getElem_range]
    unfold at_
    rw [List.getElem_append]
    split
    · rename_i h
      rw [List.length_drop] at h
      rw [Nat.mod_eq_of_lt (by omega), List.getElem_drop]
      simp [List.getD, show i + t < L.length by omega]
    · rename_i h
      rw [List.length_drop] at h
      have e : (i + t) % L.length = t - (L.length - i) := by
        rw [show i + t = (t - (L.length - i)) + L.length by omega, Nat.add_mod_right, Nat.mod_eq_of_lt (by omega)]
      rw [List.getElem_take, e]
      simp [List.getD, show t - (L.length - i) < L.length by omega]
theorem turn_perm (L : List Int) {i : Nat} (hi : i < L.length) : (selL L i L.length).Perm (L.filter us) := by
  rw [selL_eq, turn L hi]
  exact (List.perm_append_comm.trans (List.Perm.of_eq (List.take_append_drop i L))).filter us
theorem cnt_eq (L : List Int) : ∀ n, n ≤ L.length → cnt L n = ((L.take n).filter us).length
  | 0, _ => by simp [cnt]
  | n + 1, h => by
    have hn : n < L.length := by omega
    rw [cnt, cnt_eq L n (by omega), List.take_add_one, List.filter_append, List.length_append, List.getElem?_eq_getElem hn]
    congr 1
    have : L.getD n 0 = L[n] := by simp [List.getD, hn]
    rw [this]
    by_cases hu : us L[n] = true <;> simp [hu]
theorem selL_cnt (L : List Int) {i : Nat} (hi : i < L.length) : (selL L i L.length).length = cnt L L.length := by
  rw [(turn_perm L hi).length_eq, cnt_eq L _ (Nat.le_refl _), List.take_length]
theorem selL_rep (L : List Int) (i : Nat) : ∀ q, selL L i (q * L.length) = (List.replicate q (selL L i L.length)).flatten
  | 0 => by simp [selL]
  | q + 1 => by rw [Nat.add_mul, Nat.one_mul, Nat.add_comm, selL_add, selL_rep L i q, List.replicate_succ, List.flatten_cons]
theorem posL_any {L : List Int} {i e M : Nat} (hu : ∃ j, j < L.length ∧ us (L.getD j 0) = true) (h : e ≤ (selL L i M).length) : posL L i e = (selL L i M).take e := by
  have hm := selL_many (i := i) hu e
  unfold posL
  rcases Nat.le_total M (e * L.length) with hle | hle
  · obtain ⟨r, hr⟩ := selL_pre L i M (e * L.length - M)
    rw [show M + (e * L.length - M) = e * L.length by omega] at hr
    rw [hr, List.take_append_of_le_length h]
  · obtain ⟨r, hr⟩ := selL_pre L i (e * L.length) (M - e * L.length)
    rw [show e * L.length + (M - e * L.length) = M by omega] at hr
    rw [hr, List.take_append_of_le_length hm]
/-- A shorter selection is a prefix. -/
theorem posL_take {L : List Int} {i e m : Nat} (hu : ∃ j, j < L.length ∧ us (L.getD j 0) = true) (h : m ≤ e) : posL L i m = (posL L i e).take m := by
  have hm := selL_many (i := i) hu e
  rw [posL_any (M := e * L.length) hu (by omega), posL, List.take_take, Nat.min_eq_left h]
/-- Behind the first round the selection goes on as from the start. -/
theorem posL_turn {L : List Int} {i e : Nat} (hu : ∃ j, j < L.length ∧ us (L.getD j 0) = true) (hi : i < L.length) (h : cnt L L.length ≤ e) : posL L i e = selL L i L.length ++ posL L i (e - cnt L L.length) := by
  have hm := selL_many (i := i) hu e
  have hc := selL_cnt L hi
  rw [posL_any (e := e) (M := L.length + e * L.length) hu (by rw [selL_add, List.length_append]; omega), selL_add, List.take_append, List.take_of_length_le (by omega), hc, posL_any (e := e - cnt L L.length) (M := e * L.length) hu (by omega)]
theorem posL_again {L : List Int} {i e j : Nat} (hu : ∃ j, j < L.length ∧ us (L.getD j 0) = true) (hi : i < L.length) (h : cnt L L.length ≤ j) (hj : j < e) : (posL L i e).getD j 0 = (posL L i e).getD (j - cnt L L.length) 0 := by
  have hc := selL_cnt L hi
  have e1 : (posL L i e).getD j 0 = (posL L i (e - cnt L L.length)).getD (j - cnt L L.length) 0 := by
    rw [posL_turn hu hi (by omega), List.getD, List.getElem?_append_right (by omega), hc, List.getD]
  rw [e1, posL_take (e := e) hu (Nat.sub_le _ _), List.getD, List.getD, List.getElem?_take_of_lt (by omega)]
theorem posL_form {L : List Int} {i e : Nat} (hu : ∃ j, j < L.length ∧ us (L.getD j 0) = true) (hi : i < L.length) : ∃ r, r < cnt L L.length ∧ e = (e / cnt L L.length) * cnt L L.length + r ∧ posL L i e = (List.replicate (e / cnt L L.length) (selL L i L.length)).flatten ++ (selL L i L.length).take r := by
  have hc := selL_cnt L hi
  have h1 := selL_many (i := i) hu 1
  rw [Nat.one_mul, hc] at h1
  refine ⟨e % cnt L L.length, Nat.mod_lt _ (by omega), by have := Nat.div_add_mod e (cnt L L.length); rw [Nat.mul_comm]; omega, ?_⟩
  have hd := Nat.div_add_mod e (cnt L L.length)
  have hlt := Nat.mod_lt e (show 0 < cnt L L.length by omega)
  generalize e / cnt L L.length = q at *
  generalize e % cnt L L.length = r at *
  have hlen : ((List.replicate q (selL L i L.length)).flatten).length = q * cnt L L.length := by
    rw [List.length_flatten, List.map_replicate, hc, List.sum_replicate_nat]
  have hq : selL L i ((q + 1) * L.length) = (List.replicate q (selL L i L.length)).flatten ++ selL L i L.length := by
    rw [selL_rep, List.replicate_succ', List.flatten_append, List.flatten_singleton]
  rw [Nat.mul_comm] at hd
  rw [posL_any (M := (q + 1) * L.length) hu (by rw [hq, List.length_append, hlen, hc]; omega), hq, List.take_append, hlen, List.take_of_length_le (by omega), show e - q * cnt L L.length = r by omega]
theorem count_rep (A : List Int) (v : Int) : ∀ q, (List.replicate q A).flatten.count v = q * A.count v
  | 0 => by simp
  | q + 1 => by rw [List.replicate_succ, List.flatten_cons, List.count_append, count_rep A v q, Nat.add_mul, Nat.one_mul, Nat.add_comm]
/-- Every usable position is selected floor(e / n) or ceil(e / n) times. -/
theorem posL_often {L : List Int} {i e : Nat} (hu : ∃ j, j < L.length ∧ us (L.getD j 0) = true) (hi : i < L.length) (hN : (L.filter us).Nodup) {v : Int} (hv : v ∈ L.filter us) :
    e / cnt L L.length ≤ (posL L i e).count v ∧ (posL L i e).count v ≤ (e + cnt L L.length - 1) / cnt L L.length := by
  obtain ⟨r, hr, he, hf⟩ := posL_form (e := e) hu hi
  have hp := turn_perm L hi
  have hA := (hp.nodup_iff).2 hN
  have hm := hp.mem_iff.2 hv
  have h1 : (selL L i L.length).count v = 1 := by rw [hA.count, if_pos hm]
  have h2 : ((selL L i L.length).take r).count v ≤ 1 := by
    have := (List.take_sublist r (selL L i L.length)).count_le v
    omega
  rw [hf, List.count_append, count_rep, h1, Nat.mul_one]
  generalize cnt L L.length = n at *
  generalize e / n = q at *
  refine ⟨by omega, ?_⟩
  rcases Nat.eq_zero_or_pos r with h0 | h0
  · subst h0
    rw [List.take_zero, List.count_nil, he]
    rw [Nat.le_div_iff_mul_le (by omega), Nat.add_zero]
    omega
  · rw [Nat.le_div_iff_mul_le (by omega)]
    refine Nat.le_trans (Nat.mul_le_mul_right n (show q + _ ≤ q + 1 by omega)) ?_
    rw [Nat.add_mul, Nat.one_mul]
    omega
theorem posL_mem {L : List Int} {i e : Nat} (hu : ∃ j, j < L.length ∧ us (L.getD j 0) = true) (hi : i < L.length) {v : Int} (hv : v ∈ posL L i e) : v ∈ L.filter us := by
  obtain ⟨r, hr, he, hf⟩ := posL_form (e := e) hu hi
  rw [hf, List.mem_append] at hv
  refine (turn_perm L hi).mem_iff.1 ?_
  rcases hv with h | h
  · obtain ⟨l, hl, hv⟩ := List.mem_flatten.1 h
    rw [List.eq_of_mem_replicate hl] at hv
    exact hv
  · exact List.mem_of_mem_take h
theorem sum_add (A : List Int) (f g : Int → Nat) : (A.map fun v => f v + g v).sum = (A.map f).sum + (A.map g).sum := by
  induction A with
  | nil => rfl
  | cons a A ih => simp only [List.map_cons, List.sum_cons, ih]; omega
theorem sum_one (A : List Int) (x : Int) : (A.map fun v => if x == v then 1 else 0).sum = A.count x := by
  induction A with
  | nil => rfl
  | cons a A ih =>
    rw [List.map_cons, List.sum_cons, ih, List.count_cons, Nat.add_comm]
    congr 1
    by_cases h : x = a
    · subst h; simp
    · have h' : ¬ a = x := fun e => h e.symm
      simp [h, h']
theorem sum_count (A : List Int) (hA : A.Nodup) : ∀ X : List Int, (∀ x ∈ X, x ∈ A) → (A.map fun v => X.count v).sum = X.length
  | [], _ => by
    have e : (fun v : Int => ([] : List Int).count v) = fun _ => 0 := by funext v; rfl
    rw [e]
    clear hA
    induction A with
    | nil => rfl
    | cons a A ih => rw [List.map_cons, List.sum_cons]; simpa using ih (fun _ h => by cases h)
  | x :: X, h => by
    have ih := sum_count A hA X fun y hy => h y (List.mem_cons_of_mem _ hy)
    have e : (fun v => (x :: X).count v) = fun v => X.count v + (if x == v then 1 else 0) := by funext v; rw [List.count_cons]
    rw [e, sum_add, ih, sum_one, hA.count, if_pos (h x List.mem_cons_self), List.length_cons]
/-- How often the usable ones among the first n elements are selected. -/
def thereF (L X : List Int) : Nat → Nat
  | 0 => 0
  | n + 1 => thereF L X n + (if us (L.getD n 0) = true then X.count (L.getD n 0) else 0)
theorem thereF_eq (L X : List Int) : ∀ n, n ≤ L.length → thereF L X n = (((L.take n).filter us).map fun v => X.count v).sum
  | 0, _ => by simp [thereF]
  | n + 1, h => by
    have hn : n < L.length := by omega
    rw [thereF, thereF_eq L X n (by omega), List.take_add_one, List.filter_append, List.map_append, List.sum_append, List.getElem?_eq_getElem hn]
    congr 1
    have : L.getD n 0 = L[n] := by simp [List.getD, hn]
    rw [this]
    by_cases hu : us L[n] = true <;> simp [hu]
theorem thereF_all {L : List Int} {i e : Nat} (hu : ∃ j, j < L.length ∧ us (L.getD j 0) = true) (hi : i < L.length) (hN : (L.filter us).Nodup) : thereF L (posL L i e) L.length = e := by
  rw [thereF_eq L _ _ (Nat.le_refl _), List.take_length, sum_count _ hN _ (fun x hx => posL_mem hu hi hx), posL_len hu]
theorem thereF_mono (L X : List Int) {n m : Nat} (h : n ≤ m) : thereF L X n ≤ thereF L X m := by
  induction m with
  | zero => obtain rfl : n = 0 := by omega
            exact Nat.le_refl _
  | succ m ih =>
    rcases Nat.lt_or_ge n (m + 1) with h1 | h1
    · have := ih (by omega)
      rw [thereF]; omega
    · obtain rfl : n = m + 1 := by omega
      exact Nat.le_refl _
/-! The full buffer. -/
def stm (R j : Nat) : Nat := if j < 32 * R then 0 else 1 + (j - 32 * R) % 2
def pos (R j : Nat) : Nat := if j < 32 * R then j else (j - 32 * R) / 2
theorem fullF_el (k f R j : Nat) : fullF k f R j = el k f (stm R j) (Ord.ordF (k + 4) R (stm R j : Int) (pos R j)) := by
  unfold fullF stm pos
  by_cases h : j < 32 * R
  · rw [if_pos h, if_pos h, if_pos h]; rfl
  · rw [if_neg h, if_neg h, if_neg h]
theorem stm_lt (R j : Nat) : stm R j < 3 := by unfold stm; split <;> omega
theorem pos_lt {R j : Nat} (h : j < 96 * R) : pos R j < 32 * R := by unfold pos; split <;> omega
theorem stm_pos {R i j : Nat} (h1 : stm R i = stm R j) (h2 : pos R i = pos R j) : i = j := by
  unfold stm pos at *
  split at h1 <;> split at h1 <;> (rename_i a b; simp only [a, b, if_true, if_false] at h2; omega)
theorem el_us {k f s : Nat} {i : Int} (h : us (el k f s i) = true) : 0 ≤ i ∧ (s < 2 → (f : Int) ≤ i) ∧ el k f s i = ((s * (k + 4) : Nat) : Int) + i := by
  unfold el us at *
  split at h
  · simp at h
  · rename_i hn
    rw [if_neg hn]
    exact ⟨by omega, fun hs => by omega, rfl⟩
theorem ordF_lt {d R : Nat} {s : Int} {k : Nat} (hR : d ≤ 32 * R) (h : k < 32 * R) : Ord.ordF d R s k < d := (Ord.ordF_bd hR h).2
theorem ordF_inj {d R : Nat} {s : Int} {a b : Nat} (ha : a < 32 * R) (hb : b < 32 * R) (h0 : 0 ≤ Ord.ordF d R s a) (h : Ord.ordF d R s a = Ord.ordF d R s b) : a = b := by
  have h2 : Ord.idx2 R s a = Ord.idx2 R s b := by
    unfold Ord.ordF Ord.matF at *
    split at h0
    · omega
    · rename_i h1
      rw [if_neg h1] at h
      split at h
      · omega
      · omega
  rw [← Ord.inv2_idx (s := s) ha, ← Ord.inv2_idx (s := s) hb, h2]
theorem full_inj {k f R i j : Nat} (hR : k + 4 ≤ 32 * R) (hi : i < 96 * R) (hj : j < 96 * R) (h0 : us (fullF k f R i) = true) (h : fullF k f R i = fullF k f R j) : i = j := by
  have h0' := h ▸ h0
  rw [fullF_el] at h0 h0'
  rw [fullF_el k f R i, fullF_el k f R j] at h
  obtain ⟨a1, a2, a3⟩ := el_us h0
  obtain ⟨b1, b2, b3⟩ := el_us h0'
  rw [a3, b3] at h
  have ha := ordF_lt (s := (stm R i : Int)) hR (pos_lt hi)
  have hb := ordF_lt (s := (stm R j : Int)) hR (pos_lt hj)
  have hs : stm R i = stm R j := by
    have s1 := stm_lt R i
    have s2 := stm_lt R j
    generalize stm R i = a at *
    generalize stm R j = b at *
    rcases (show a = 0 ∨ a = 1 ∨ a = 2 by omega) with rfl | rfl | rfl <;> rcases (show b = 0 ∨ b = 1 ∨ b = 2 by omega) with rfl | rfl | rfl <;> omega
  refine stm_pos hs (ordF_inj (pos_lt hi) (pos_lt hj) a1 ?_)
  rw [← hs] at h
  omega
theorem full_bd {k f R j : Nat} (hR : k + 4 ≤ 32 * R) (hf : f < k) (hj : j < 96 * R) (h : us (fullF k f R j) = true) : (f : Int) ≤ fullF k f R j ∧ fullF k f R j < 3 * ((k : Int) + 4) ∧ ¬ ((k : Int) + 4 ≤ fullF k f R j ∧ fullF k f R j < (k : Int) + 4 + f) := by
  rw [fullF_el] at h
  obtain ⟨a1, a2, a3⟩ := el_us h
  have ha := ordF_lt (s := (stm R j : Int)) hR (pos_lt hj)
  rw [fullF_el, a3]
  have s1 := stm_lt R j
  generalize stm R j = a at *
  rcases (show a = 0 ∨ a = 1 ∨ a = 2 by omega) with rfl | rfl | rfl <;> omega
theorem buf_eq {k f R n : Nat} (h : n ≤ 96 * R) : buf k f R n = (List.range n).map (fullF k f R) := by
  rw [buf, fullL, ← List.map_take, List.take_range, Nat.min_eq_left h]
theorem buf_at {k f R n j : Nat} (h : n ≤ 96 * R) (hj : j < n) : (buf k f R n).getD j 0 = fullF k f R j := by
  rw [buf_eq h]; simp [hj]
theorem buf_nodup {k f R n : Nat} (hR : k + 4 ≤ 32 * R) (h : n ≤ 96 * R) : ((buf k f R n).filter us).Nodup := by
  rw [buf_eq h, List.Nodup, List.pairwise_filter, List.pairwise_map]
  refine List.Pairwise.imp_of_mem (R := fun a b => a < b) ?_ List.pairwise_lt_range
  intro a b ha hb hab h1 h2 he
  have := full_inj hR (by have := List.mem_range.1 ha; omega) (by have := List.mem_range.1 hb; omega) h1 he
  omega
end Rm
end Go.Proofs.Ytloldjmibjkkkaa
