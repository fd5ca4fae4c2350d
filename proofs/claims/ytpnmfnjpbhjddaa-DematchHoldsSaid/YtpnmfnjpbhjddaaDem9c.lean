/- Rate dematching: ideal values of one code word never give a wrong sign; no program. -/
import Derived.Test.YtpnmfnjpbhjddaaDem9b
import GoSem.Claim
namespace Go.Proofs.Ytpnmfnjpbhjddaa
namespace De
/-- A value that does not say the wrong bit. -/
def fits (x b : Int) : Prop := -127 ≤ x ∧ x ≤ 127 ∧ (x = 0 ∨ (0 < x ∧ b = 0) ∨ (x < 0 ∧ b = 1))
theorem fits_add {x b l m : Int} (h : fits x b) (hb : b = 0 ∨ b = 1) (h1 : 1 ≤ m) (h2 : m ≤ 127) (hl : l = if b = 1 then -m else m) : fits (Soft.add x l) b ∧ Soft.add x l ≠ 0 := by
  obtain ⟨a1, a2, a3⟩ := h
  unfold Soft.add fits
  rcases hb with rfl | rfl
  · rw [if_neg (by decide)] at hl
    subst hl
    rw [Soft.clamp_id a1 a2, Soft.clamp_id (v := l) (by omega) (by omega)]
    by_cases hb : 127 < x + l
    · rw [Soft.clamp_big hb]; omega
    · rw [Soft.clamp_id (v := x + l) (by omega) (by omega)]; omega
  · rw [if_pos rfl] at hl
    subst hl
    rw [Soft.clamp_id a1 a2, Soft.clamp_id (v := -m) (by omega) (by omega)]
    by_cases hb : x + -m < -127
    · rw [Soft.clamp_small hb]; omega
    · rw [Soft.clamp_id (v := x + -m) (by omega) (by omega)]; omega
def Inv (V W : List Int) : Prop := V.length = W.length ∧ ∀ i, i < W.length → fits (V.getD i 0) (W.getD i 0)
theorem set_at (V : List Int) (j i : Nat) (x : Int) (hj : j < V.length) : (V.set j x).getD i 0 = if j = i then x else V.getD i 0 := by
  rw [List.getD_eq_getElem?_getD, List.getElem?_set]
  by_cases h : j = i
  · subst h; simp [hj]
  · rw [if_neg h, if_neg h, List.getD_eq_getElem?_getD]
theorem comb_inv {V W A L : List Int} {m : Int} {M : Nat} (hI : Inv V W) (hW : ∀ i, i < W.length → W.getD i 0 = 0 ∨ W.getD i 0 = 1) (h1 : 1 ≤ m) (h2 : m ≤ 127)
    (hA : ∀ i, i < M → ∃ j : Nat, A.getD i 0 = j ∧ j < W.length) (hL : ∀ i, i < M → L.getD i 0 = if W.getD (A.getD i 0).toNat 0 = 1 then -m else m) :
    ∀ n, n ≤ M → Inv (comb V A L n) W ∧ (∀ i, V.getD i 0 ≠ 0 → (comb V A L n).getD i 0 ≠ 0) ∧ (∀ t, t < n → (comb V A L n).getD (A.getD t 0).toNat 0 ≠ 0)
  | 0, _ => ⟨hI, fun _ h => h, fun t h => by omega⟩
  | n + 1, hn => by
    obtain ⟨⟨b1, b2⟩, b3, b4⟩ := comb_inv hI hW h1 h2 hA hL n (by omega)
    obtain ⟨j, hj, hjW⟩ := hA n (by omega)
    have hl := hL n (by omega)
    have e : (A.getD n 0).toNat = j := by rw [hj]; rfl
    rw [e] at hl
    obtain ⟨f1, f2⟩ := fits_add (b2 j hjW) (hW j hjW) h1 h2 hl
    have hjV : j < (comb V A L n).length := by rw [b1]; exact hjW
    have hat : ∀ i, (comb V A L (n + 1)).getD i 0 = if j = i then Soft.add ((comb V A L n).getD j 0) (L.getD n 0) else (comb V A L n).getD i 0 := fun i => by
      rw [comb, e, set_at _ _ _ _ hjV]
    refine ⟨⟨by rw [comb, List.length_set]; exact b1, fun i hi => ?_⟩, fun i hi => ?_, fun t ht => ?_⟩
    · rw [hat]
      by_cases h : j = i
      · subst h; rw [if_pos rfl]; exact f1
      · rw [if_neg h]; exact b2 i hi
    · rw [hat]
      by_cases h : j = i
      · rw [if_pos h]; exact f2
      · rw [if_neg h]; exact b3 i hi
    · rw [hat]
      by_cases h : j = (A.getD t 0).toNat
      · rw [if_pos h]; exact f2
      · rw [if_neg h]
        refine b4 t ?_
        rcases Nat.lt_or_ge t n with h' | h'
        · exact h'
        · obtain rfl : t = n := by omega
          exact absurd e.symm h
theorem fresh_at (k : Nat) : ∀ m, m ≤ k + 4 → ∀ i, i < 3 * (k + 4) → (freshN k m).getD i 0 = if i < m ∨ (k + 4 ≤ i ∧ i < k + 4 + m) then 127 else 0
  | 0, _, i, hi => by
    rw [if_neg (by omega), freshN, List.getD_eq_getElem?_getD, List.getElem?_replicate, if_pos hi]; rfl
  | m + 1, hm, i, hi => by
    rw [freshN, set_at _ _ _ _ (by rw [List.length_set, freshN_len]; omega), set_at _ _ _ _ (by rw [freshN_len]; omega), fresh_at k m (by omega) i hi]
    by_cases h1 : k + 4 + m = i
    · rw [if_pos h1, if_pos (by omega)]
    · rw [if_neg h1]
      by_cases h2 : m = i
      · rw [if_pos h2, if_pos (by omega)]
      · rw [if_neg h2]
        by_cases h3 : i < m ∨ (k + 4 ≤ i ∧ i < k + 4 + m)
        · rw [if_pos h3, if_pos (by omega)]
        · rw [if_neg h3, if_neg (by omega)]
theorem fresh_inv {k f : Nat} {W : List Int} (hf : f < k) (hW : W.length = 3 * (k + 4)) (h0 : ∀ i, (i < f ∨ (k + 4 ≤ i ∧ i < k + 4 + f)) → W.getD i 0 = 0) : Inv (freshN k f) W := by
  refine ⟨by rw [freshN_len, hW], fun i hi => ?_⟩
  rw [fresh_at k f (by omega) i (by omega)]
  by_cases h : i < f ∨ (k + 4 ≤ i ∧ i < k + 4 + f)
  · rw [if_pos h, h0 i h]; unfold fits; omega
  · rw [if_neg h]; unfold fits; omega
theorem inv_bad {V W : List Int} (h : Inv V W) : Soft.bad V = false :=
  Soft.bad_no fun i hi => by have := h.2 i (by rw [← h.1]; exact hi); exact Soft.inv_in this.1 this.2.1
theorem inv_wrong {V W : List Int} (h : Inv V W) : ∀ n, n ≤ W.length → Soft.wrongN V W n = 0
  | 0, _ => rfl
  | n + 1, hn => by
    have := h.2 n (by omega)
    rw [Soft.wrongN, inv_wrong h n (by omega)]
    by_cases h0 : V.getD n 0 = 0
    · rw [if_pos h0]
    · rw [if_neg h0, if_pos]
      unfold Soft.sgn
      rcases this.2.2 with h' | ⟨h', hb⟩ | ⟨h', hb⟩
      · exact absurd h' h0
      · rw [if_neg (by omega), hb]
      · rw [if_pos h', hb]
theorem sel_ge (p : Nat → Bool) : ∀ (n : Nat) (X : List Int), X.Nodup → (∀ x ∈ X, ∃ j : Nat, x = j ∧ j < n ∧ p j = true) → X.length ≤ (Gr.sel p n).length
  | 0, X, _, h => by
    cases X with
    | nil => exact Nat.le_refl _
    | cons x X => obtain ⟨j, _, hj, _⟩ := h x (by simp); omega
  | n + 1, X, hN, h => by
    have ih := sel_ge p n (X.erase (n : Int)) (hN.erase _) (fun x hx => by
      obtain ⟨hne, hm⟩ := (hN.mem_erase_iff).1 hx
      obtain ⟨j, rfl, hj, hp⟩ := h x hm
      exact ⟨j, rfl, by have : j ≠ n := fun e => hne (by rw [e]); omega, hp⟩)
    by_cases hm : (n : Int) ∈ X
    · obtain ⟨j, hj, _, hp⟩ := h _ hm
      have hjn : j = n := by omega
      subst hjn
      rw [List.length_erase_of_mem hm] at ih
      rw [Gr.sel_yes hp, List.length_append, List.length_singleton]; omega
    · rw [List.erase_of_not_mem hm] at ih
      cases hp : p n with
      | true => rw [Gr.sel_yes hp, List.length_append]; omega
      | false => rw [Gr.sel_no hp]; exact ih
theorem sel_mono (p q : Nat → Bool) : ∀ n, (∀ i, i < n → p i = true → q i = true) → (Gr.sel p n).length ≤ (Gr.sel q n).length
  | 0, _ => Nat.le_refl _
  | n + 1, h => by
    have ih := sel_mono p q n fun i hi => h i (by omega)
    cases hp : p n with
    | true => rw [Gr.sel_yes hp, Gr.sel_yes (h n (by omega) hp), List.length_append, List.length_append]; simp; omega
    | false =>
      rw [Gr.sel_no hp]
      cases hq : q n with
      | true => rw [Gr.sel_yes hq, List.length_append]; omega
      | false => rw [Gr.sel_no hq]; exact ih
theorem known_mono {V V' : List Int} (hl : V.length = V'.length) (h : ∀ i, V.getD i 0 ≠ 0 → V'.getD i 0 ≠ 0) : known V ≤ known V' := by
  unfold known
  rw [← hl]
  refine sel_mono _ _ _ fun i _ hp => ?_
  have h1 : V.getD i 0 ≠ 0 := by simpa [nz] using hp
  simpa [nz] using h i h1
/-- The filler positions. -/
def fill (k f : Nat) : List Int := (List.range f).map (fun i => ((i : Nat) : Int)) ++ (List.range f).map (fun i => ((k + 4 + i : Nat) : Int))
theorem fill_len (k f : Nat) : (fill k f).length = 2 * f := by simp [fill]; omega
theorem fill_mem {k f : Nat} {x : Int} (h : x ∈ fill k f) : ∃ j : Nat, x = j ∧ (j < f ∨ (k + 4 ≤ j ∧ j < k + 4 + f)) := by
  unfold fill at h
  rcases List.mem_append.1 h with h | h
  · obtain ⟨i, hi, rfl⟩ := List.mem_map.1 h
    exact ⟨i, rfl, .inl (List.mem_range.1 hi)⟩
  · obtain ⟨i, hi, rfl⟩ := List.mem_map.1 h
    exact ⟨k + 4 + i, rfl, .inr ⟨by omega, by have := List.mem_range.1 hi; omega⟩⟩
theorem fill_nodup {k f : Nat} (hf : f < k) : (fill k f).Nodup := by
  unfold fill
  rw [List.nodup_append]
  refine ⟨?_, ?_, ?_⟩
  · rw [List.Nodup, List.pairwise_map]
    exact List.nodup_range.imp fun h e => h (by omega)
  · rw [List.Nodup, List.pairwise_map]
    exact List.nodup_range.imp fun h e => h (by omega)
  · intro a ha b hb e
    obtain ⟨i, hi, rfl⟩ := List.mem_map.1 ha
    obtain ⟨j, hj, rfl⟩ := List.mem_map.1 hb
    have := List.mem_range.1 hi
    omega
def Fil (V : List Int) (k f : Nat) : Prop := ∀ i, (i < f ∨ (k + 4 ≤ i ∧ i < k + 4 + f)) → V.getD i 0 ≠ 0
theorem fresh_fil {k f : Nat} (hf : f < k) : Fil (freshN k f) k f := fun i hi => by
  rw [fresh_at k f (by omega) i (by omega), if_pos hi]; decide
theorem known_fill {V : List Int} {k f : Nat} (hf : f < k) (hV : V.length = 3 * (k + 4)) (h : Fil V k f) : 2 * f ≤ known V := by
  rw [← fill_len k f]
  refine sel_ge _ _ _ (fill_nodup hf) fun x hx => ?_
  obtain ⟨j, rfl, hj⟩ := fill_mem hx
  exact ⟨j, rfl, by omega, by simpa [nz] using h j hj⟩
/-- One transmission. -/
theorem round_ok {k f n : Nat} {limit rv m : Int} {V W : List Int} (hv : Rm.valid k f limit = true) (hE : (Rm.posR k f limit rv n).2 = 0) (hI : Inv V W) (hF : Fil V k f) (hWl : W.length = 3 * (k + 4)) (hW : ∀ i, i < W.length → W.getD i 0 = 0 ∨ W.getD i 0 = 1)
    (h1 : 1 ≤ m) (h2 : m ≤ 127) (A L : List Int) (hAe : A = (Rm.posR k f limit rv n).1) (hLe : ∀ i, i < n → L.getD i 0 = if W.getD (A.getD i 0).toNat 0 = 1 then -m else m) :
    Inv (comb V A L n) W ∧ Fil (comb V A L n) k f ∧ known V ≤ known (comb V A L n) ∧ ((Rm.usableR k f limit).1 ≤ n → 2 * f + (Rm.usableR k f limit).1 ≤ known (comb V A L n)) := by
  obtain ⟨p1, p2⟩ := posR_ok hv hE
  rw [← hAe] at p1 p2
  obtain ⟨c1, c2, c3⟩ := comb_inv (M := n) hI hW h1 h2 (fun i hi => by obtain ⟨j, q1, q2, _⟩ := p2 i hi; exact ⟨j, q1, by omega⟩) hLe n (Nat.le_refl _)
  have hFil : Fil (comb V A L n) k f := fun i hi => c2 i (hF i hi)
  refine ⟨c1, hFil, known_mono (by rw [c1.1, hI.1]) c2, fun hu => ?_⟩
  obtain ⟨v1, v2, v3, v4, v5⟩ := Rm.valid_of hv
  have hR := Rm.rows_bd (k := k) (by omega) (by omega)
  have hS := Rm.size_bd (k := k) v5 (by omega)
  have hlen : (Rm.buf k f (Rm.rows k) (Rm.size k limit)).length = Rm.size k limit := Rm.buf_len hS.2
  have hfk : f < k := by omega
  rw [Rm.usableR, if_pos hv] at hu ⊢
  simp only [Int.toNat_natCast] at hu ⊢
  have hU : ((Rm.buf k f (Rm.rows k) (Rm.size k limit)).filter Rm.us).length = Rm.cnt (Rm.buf k f (Rm.rows k) (Rm.size k limit)) (Rm.size k limit) := by
    have := Rm.cnt_eq (Rm.buf k f (Rm.rows k) (Rm.size k limit)) (Rm.size k limit) (by omega)
    rw [this, List.take_of_length_le (by omega)]
  rw [← hU] at hu ⊢
  -- every usable position is selected
  have hsel : ∀ v ∈ (Rm.buf k f (Rm.rows k) (Rm.size k limit)).filter Rm.us, v ∈ A := by
    intro v hvm
    have hc0 : ¬ Rm.cnt (Rm.buf k f (Rm.rows k) (Rm.size k limit)) (Rm.size k limit) = 0 := by
      rw [← hU]; intro h0
      rw [List.length_eq_zero_iff.1 h0] at hvm; cases hvm
    rw [hAe]
    unfold Rm.posR at hE ⊢
    simp only [Int.toNat_natCast] at hE ⊢
    split at hE
    · rename_i hcnd
      rw [if_pos hcnd, if_neg (by rw [hU] at hu; omega), if_neg hc0]
      have hus := Rm.cnt_pos (L := Rm.buf k f (Rm.rows k) (Rm.size k limit)) (by rw [hlen]; exact hc0)
      have hst : Rm.start (Rm.rows k) (Rm.size k limit) rv.toNat < (Rm.buf k f (Rm.rows k) (Rm.size k limit)).length := by rw [hlen]; exact Rm.start_lt hS.1
      rw [Rm.posL_turn hus hst (by rw [hlen, ← hU]; exact hu), List.mem_append]
      exact .inl ((Rm.turn_perm _ hst).mem_iff.2 hvm)
    · simp at hE
  rw [Nat.add_comm, ← fill_len k f, ← List.length_append]
  refine sel_ge _ _ _ ?_ fun x hx => ?_
  · rw [List.nodup_append]
    refine ⟨Rm.buf_nodup hR.2.2.1 hS.2, fill_nodup hfk, fun a ha b hb e => ?_⟩
    obtain ⟨t, ht, hte⟩ := List.mem_iff_getElem.1 (hsel a ha)
    obtain ⟨j, q1, q2, q3, q4⟩ := p2 t (by omega)
    rw [List.getD_eq_getElem?_getD, List.getElem?_eq_getElem ht, Option.getD_some, hte] at q1
    obtain ⟨j', r1, r2⟩ := fill_mem hb
    omega
  · rw [c1.1, hWl]
    rcases List.mem_append.1 hx with h | h
    · obtain ⟨t, ht, hte⟩ := List.mem_iff_getElem.1 (hsel x h)
      obtain ⟨j, q1, q2, q3, q4⟩ := p2 t (by omega)
      have h3 := c3 t (by omega)
      rw [q1, Int.toNat_natCast] at h3
      rw [List.getD_eq_getElem?_getD, List.getElem?_eq_getElem ht, Option.getD_some, hte] at q1
      exact ⟨j, q1, q2, by simpa [nz] using h3⟩
    · obtain ⟨j, rfl, hj⟩ := fill_mem h
      exact ⟨j, rfl, by omega, by simpa [nz] using hFil j hj⟩
theorem posR_none {k f n : Nat} {limit rv : Int} (hv : Rm.valid k f limit = true) (h0 : 0 ≤ rv) (h3 : rv ≤ 3) (hn : n ≤ 131072) (h : (Rm.posR k f limit rv n).2 ≠ 0) : (Rm.posR k f limit rv n).2 = 10 ∧ (Rm.usableR k f limit).1 = 0 ∧ 0 < n := by
  rw [Rm.usableR, if_pos hv]
  unfold Rm.posR at h ⊢
  simp only [Int.toNat_natCast] at h ⊢
  rw [if_pos ⟨hv, h0, h3, by omega, by omega⟩] at h ⊢
  by_cases hz : (n : Int) = 0
  · rw [if_pos hz] at h; exact absurd rfl h
  · rw [if_neg hz] at h ⊢
    by_cases hc : Rm.cnt (Rm.buf k f (Rm.rows k) (Rm.size k limit)) (Rm.size k limit) = 0
    · rw [if_pos hc]; exact ⟨rfl, hc, by omega⟩
    · rw [if_neg hc] at h; exact absurd rfl h
theorem usable_ok {k f : Nat} {limit : Int} (hv : Rm.valid k f limit = true) : (Rm.usableR k f limit).2 = 0 ∧ (Rm.usableR k f limit).1 ≤ 18528 := by
  obtain ⟨v1, v2, v3, v4, v5⟩ := Rm.valid_of hv
  have hR := Rm.rows_bd (k := k) (by omega) (by omega)
  have hS := Rm.size_bd (k := k) v5 (by omega)
  rw [Rm.usableR, if_pos hv]
  simp only [Int.toNat_natCast]
  have := Rm.cnt_le (Rm.buf k f (Rm.rows k) (Rm.size k limit)) (Rm.size k limit)
  exact ⟨trivial, by omega⟩
/-- What the ideal values are made of. -/
def sentG (W A : List Int) (i : Nat) : Int := W.getD (A.getD i 0).toNat 0
theorem sent_len (W A : List Int) (n : Nat) : (Soft.tab (sentG W A) n).length = n := Soft.tab_len _ _
theorem sent_bit {W : List Int} (hW : ∀ j, W.getD j 0 = 0 ∨ W.getD j 0 = 1) (A : List Int) (n : Nat) : Soft.bbad (Soft.tab (sentG W A) n) = false ∧ ∀ x ∈ Soft.tab (sentG W A) n, (Lit.int .u8 x).wf = true := by
  refine ⟨Soft.bbad_no fun i hi => ?_, fun x hx => ?_⟩
  · rw [Soft.tab_at _ (by rwa [Soft.tab_len] at hi), sentG]
    rcases hW (A.getD i 0).toNat with h | h <;> rw [h] <;> decide
  · obtain ⟨i, _, rfl⟩ := List.mem_map.1 hx
    rw [sentG]
    rcases hW (A.getD i 0).toNat with h | h <;> rw [h] <;> decide
/-- The ideal values. -/
def idl (W A : List Int) (m : Int) (n : Nat) : List Int := Soft.tab (Soft.idlG (Soft.tab (sentG W A) n) m) n
theorem idl_len (W A : List Int) (m : Int) (n : Nat) : (idl W A m n).length = n := Soft.tab_len _ _
theorem idl_at (W A : List Int) (m : Int) {n i : Nat} (hi : i < n) : (idl W A m n).getD i 0 = if W.getD (A.getD i 0).toNat 0 = 1 then -m else m := by
  rw [idl, Soft.tab_at _ hi, Soft.idlG, Soft.tab_at _ hi]; rfl
theorem idl_bad (W A : List Int) {m : Int} (h1 : 1 ≤ m) (h2 : m ≤ 127) (n : Nat) : Soft.bad (idl W A m n) = false :=
  Soft.tab_inv fun k _ => Soft.idl_inv _ (by omega) h2 k
end De
end Go.Proofs.Ytpnmfnjpbhjddaa
