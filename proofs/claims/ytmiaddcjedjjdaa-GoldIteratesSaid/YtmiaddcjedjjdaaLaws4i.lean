/- userplanelaw04.GoldIterates. -/
import Derived.Test.YtmiaddcjedjjdaaLaws4e
import Derived.Test.YtmiaddcjedjjdaaIterD
import Derived.Deep.RegionHeld3
import Derived.Deep.DrawnRows
import Derived.BigQuiet
namespace Go.Proofs.Ytmiaddcjedjjdaa
open Go.RowKit Go.Shelf
set_option linter.unusedVariables false
attribute [local go_sem] Oper.semAt_some
attribute [local go_sem ↓] Go.wp_at_zero Go.wp_at_succ
theorem up_alloc4 {w w' : World} {o : Obj} (h : Below (w.alloc o).heap.size (w.alloc o) w') : Below w.heap.size w w' := below_then (below_alloc w o) h
def Blk (w : World) (g : Nat) (t : TypeId) (cs : Array Value) : Prop := w.heap[g]? = some (.cells cs t (0, 0))
section
variable {w w' : World} {g : Nat} {t : TypeId} {cs : Array Value}
theorem Blk.lt (h : Blk w g t cs) : g < w.heap.size := (Array.getElem?_eq_some_iff.1 h).1
theorem Blk.cell (h : Blk w g t cs) (i : Nat) : w.cell? ⟨g, i, none⟩ = cs[i]? := cell_of_row w g i cs t (0, 0) h
theorem Blk.frozen (h : Blk w g t cs) (i : Nat) : w.frozen? ⟨g, i, none⟩ = false := by
  unfold Blk at h
  simp [World.frozen?, h]
theorem Blk.new (w : World) (t : TypeId) (cs : Array Value) : Blk (w.alloc (.cells cs t)) w.heap.size t cs := heap_alloc_new w _
theorem Blk.set_ (h : Blk w g t cs) (i : Nat) (u : Value) : Blk (w.setCell ⟨g, i, none⟩ u) g t (cs.setIfInBounds i u) := by
  unfold Blk at h ⊢
  simp [World.setCell, Array.getElem?_modify, h]
theorem Blk.fr {S : Nat → Prop} (h : Blk w g t cs) (hf : Fr S w w') (hs : ¬ S g) : Blk w' g t cs := (hf.block g h.lt hs).trans h
theorem Blk.below {B : Nat} (h : Blk w g t cs) (hb : Below B w w') (hg : g < B) : Blk w' g t cs := (hb.block g hg).trans h
end
/-- What has been collected: the slice in block gb reads as xs, its row lies from base on. -/
def Got (V : World) (base gb : Nat) (xs : List Int) : Prop := ∃ v, OwnL V base 5 v (xs.map (Value.int .u8)) ∧ Blk V gb 30 #[v]
theorem Got.fr {S : Nat → Prop} {V V' : World} {base gb : Nat} {xs : List Int} (h : Got V base gb xs) (hf : Fr S V V') (h1 : ¬ S gb) (h2 : ∀ g, base ≤ g → ¬ S g) : Got V' base gb xs := by
  obtain ⟨v, a, b⟩ := h
  exact ⟨v, a.fr hf (fun g e => h2 g (a.block e).1), b.fr hf h1⟩
set_option maxRecDepth 100000 in
set_option maxHeartbeats 8000000 in
theorem law_GoldIterates (i n m : Int) (wi : (Lit.int .u32 i).wf = true) (wn : (Lit.int .i64 n).wf = true) (wm : (Lit.int .i64 m).wf = true) (w : World) :
    Calls Try.prog 5 #[.int .u32 i, .int .i64 n, .int .i64 m] w fun e w' => e = .returned (.bool true) ∧ Below w.heap.size w w' := by
  obtain ⟨i, rfl, hi⟩ := wf_u32 wi
  clear wi wn wm
  have cs : decide (n < 1) = true ∨ (decide (n < 1) = false ∧ decide (500 < n) = true) ∨ (decide (n < 1) = false ∧ decide (500 < n) = false ∧ decide (m < 1) = true) ∨ (decide (n < 1) = false ∧ decide (500 < n) = false ∧ decide (m < 1) = false ∧ decide (500 < m) = true) ∨ (1 ≤ n ∧ n ≤ 500 ∧ 1 ≤ m ∧ m ≤ 500) := by
    by_cases h1 : n < 1
    · left; exact decide_eq_true h1
    by_cases h2 : 500 < n
    · right; left; exact ⟨decide_eq_false h1, decide_eq_true h2⟩
    by_cases h3 : m < 1
    · right; right; left; exact ⟨decide_eq_false h1, decide_eq_false h2, decide_eq_true h3⟩
    by_cases h4 : 500 < m
    · right; right; right; left; exact ⟨decide_eq_false h1, decide_eq_false h2, decide_eq_false h3, decide_eq_true h4⟩
    right; right; right; right; omega
  have early : decide (n < 1) = true ∨ (decide (n < 1) = false ∧ decide (500 < n) = true) ∨ (decide (n < 1) = false ∧ decide (500 < n) = false ∧ decide (m < 1) = true) ∨ (decide (n < 1) = false ∧ decide (500 < n) = false ∧ decide (m < 1) = false ∧ decide (500 < m) = true) →
      Calls Try.prog 5 #[.int .u32 i, .int .i64 n, .int .i64 m] w fun e w' => e = .returned (.bool true) ∧ Below w.heap.size w w' := by
    intro h
    clear cs hi
    rcases h with d1 | ⟨d1, d2⟩ | ⟨d1, d2, d3⟩ | ⟨d1, d2, d3, d4⟩
    all_goals
      refine calls_of_wp_marks Try.func5 rfl ?_
      simp only [Try.ntmps5, List.size_toArray, List.length_cons, List.length_nil, Nat.reduceAdd, Nat.reduceSub, Array.replicate_succ, Array.replicate_zero, List.push_toArray, List.append_toArray, List.nil_append, List.cons_append]
      go_wp2_with fail
      refine (known4 _).mono ?_
      rintro r w1 ⟨rfl, B1⟩
      go_wp2
      exact bodyPostM_ret0 rfl (results_tmp rfl _ _ _) ⟨rfl, B1⟩
  rcases cs with h | h | h | h | ⟨n1, n5, m1, m5⟩
  · exact early (.inl h)
  · exact early (.inr (.inl h))
  · exact early (.inr (.inr (.inl h)))
  · exact early (.inr (.inr (.inr h)))
  clear early
  obtain ⟨n, rfl⟩ := Int.eq_ofNat_of_zero_le (show 0 ≤ n by omega)
  obtain ⟨m, rfl⟩ := Int.eq_ofNat_of_zero_le (show 0 ≤ m by omega)
  have hn1 : 1 ≤ n := by omega
  have hn5 : n ≤ 500 := by omega
  have hm1 : 1 ≤ m := by omega
  have hm5 : m ≤ 500 := by omega
  have t1 : decide ((n : Int) < 1) = false := decide_eq_false (by omega)
  have t2 : decide (500 < (n : Int)) = false := decide_eq_false (by omega)
  have t3 : decide ((m : Int) < 1) = false := decide_eq_false (by omega)
  have t4 : decide (500 < (m : Int)) = false := decide_eq_false (by omega)
  clear n1 n5 m1 m5
  have hnil : ∀ w (p : Value), (binOp .eql 37 (.func (.func 25) #[] #[p]) .nilFunc).run Try.prog w = .ok (.bool false) w := fun _ _ => by kernel_rfl
  refine calls_of_wp_marks Try.func5 rfl ?_
  simp only [Try.ntmps5, List.size_toArray, List.length_cons, List.length_nil, Nat.reduceAdd, Nat.reduceSub, Array.replicate_succ, Array.replicate_zero, List.push_toArray, List.append_toArray, List.nil_append, List.cons_append]
  go_wp2_with fail
  refine (bits_any _ w).mono ?_
  rintro r w1 ⟨rfl, hw1⟩
  have HA1 := hid (show Blk w1 w.heap.size 22 #[.int .u32 i] by rw [hw1]; exact Blk.new w _ _)
  have HB1 := hid (show Below w.heap.size w w1 by rw [hw1]; exact below_alloc _ _)
  have hs1 : w.heap.size < w1.heap.size := by rw [hw1]; simp
  clear hw1
  go_wp2
  generalize hW : World.alloc _ _ = w0
  have HA := hid (show Blk w0 w.heap.size 22 #[.int .u32 i] by rw [← hW]; exact HA1.out.fr (Fr.alloc (fun _ => False) _ _) (fun h => h))
  have HBs := hid (show Blk w0 w1.heap.size 3 #[.int .i64 n, .int .i64 m] by rw [← hW]; exact Blk.new w1 _ _)
  have HB := hid (show Below w.heap.size w w0 by rw [← hW]; exact HB1.out.alloc (by omega) _)
  have hs0 : w1.heap.size < w0.heap.size := HBs.out.lt
  clear hW HA1 HB1 t1 t2 t3 t4
  have HC0 := hid (show ∀ W, Below w0.heap.size w0 W → W.cell? ⟨w1.heap.size, 0, none⟩ = some (.int .i64 n) ∧ W.cell? ⟨w1.heap.size, 1, none⟩ = some (.int .i64 m) from fun W hW => ⟨(HBs.out.below hW HBs.out.lt).cell 0, (HBs.out.below hW HBs.out.lt).cell 1⟩)
  have hsq : ∀ k, Scr.seqL i (k + 1) = Scr.seqL i k ++ [((Reg.c i k).toNat : Int)] := fun k => by simp [Scr.seqL, List.range_succ]
  have HSq := hid hsq
  clear hsq
  by_cases hv : i < 2147483648
  · have HIT := hid (bits1_iterD i w.heap.size hv (fun j => j = w.heap.size) rfl w0 (HA.out.cell 0) (fun j hj => by have := HA.out.lt; omega))
    have HB0 := hid (Below.refl w0.heap.size w0)
    have HVh := hid hv
    clear hv hi
    refine wp_loop_rounds 3 ?_
    rw [rounds_succ]
    have q0 := (HC0.out _ HB0.out).1
    go_wp2_with fail
    generalize hW : World.alloc _ _ = wR0
    have F : Fr (fun _ => False) w0 wR0 := by rw [← hW]; exact (Fr.alloc _ _ _).trans (Fr.alloc _ _ _)
    have HM0 := hid (show Blk wR0 w0.heap.size 3 #[.int .i64 n] by rw [← hW]; exact Blk.fr (Blk.new w0 _ _) (Fr.alloc (fun _ => False) _ _) (fun h => h))
    have HG0 := hid (show Blk wR0 (w0.heap.size + 1) 30 #[.slice none 0 0] by rw [← hW]; have := Blk.new (w0.alloc (.cells #[.int .i64 n] 3)) 30 #[.slice none 0 0]; rw [World.size_alloc] at this; exact this)
    have HBR0 := hid (HB0.out.trans (F.below HB0.out.size (fun _ _ h => h)))
    skip
    have hsS0 : w0.heap.size ≤ w0.heap.size := HB0.out.size
    have hsR0 : w0.heap.size + 1 < wR0.heap.size := HG0.out.lt
    clear hW F q0
    refine (wpIn_wide (n := 1)).1 ?_
    refine wpIn_rangeD (gf := 25) (lb := #[.pointer (some ⟨w.heap.size, 0, none⟩)]) rfl (enters_of Try.func25 (by kernel_rfl) rfl) HIT.out HBR0.out (fun _ => rfl)
      (fun k V => k < n ∧ Got V (wR0.heap.size + 3) (w0.heap.size + 1) (Scr.seqL i k) ∧ Blk V w0.heap.size 3 #[.int .i64 n] ∧ Below w0.heap.size w0 V ∧ True ∧ wR0.heap.size ≤ V.heap.size)
      (fun _ c V => c = .exit 2 ∧ Got V (wR0.heap.size + 3) (w0.heap.size + 1) (Scr.seqL i n) ∧ Blk V w0.heap.size 3 #[.int .i64 n] ∧ Below w0.heap.size w0 V ∧ True ∧ wR0.heap.size ≤ V.heap.size)
      (fun k A V h hf => ⟨h.1, h.2.1.fr hf (by omega) (fun g hg => by omega), h.2.2.1.fr hf (by omega), h.2.2.2.1.trans (hf.below h.2.2.2.1.size (fun j hj h2 => by omega)), trivial, Nat.le_trans h.2.2.2.2.2 hf.size⟩)
      (fun k c A V h hf => ⟨h.1, h.2.1.fr hf (by omega) (fun g hg => by omega), h.2.2.1.fr hf (by omega), h.2.2.2.1.trans (hf.below h.2.2.2.1.size (fun j hj h2 => by omega)), trivial, Nat.le_trans h.2.2.2.2.2 hf.size⟩)
      ⟨by omega, ⟨_, OwnL.nil _ _ _, HG0.out⟩, HM0.out, HBR0.out, trivial, Nat.le_refl _⟩ (fun _ => ⟨n, by omega, fun V h => Nat.lt_irrefl _ h.1⟩) ?avp ?assignvp ?bodyvp (fun _ _ _ h => by cases h) ?donevp
    case assignvp =>
      intro l k V K hK
      gi_wp2
      exact hK
    case bodyvp =>
      rintro l k V - ⟨hlt, hG, hM, hB, hX, hVs2⟩ hVs
      obtain ⟨v, hown, hgb⟩ := hG
      have HSk := hid (HSq.out k)
      generalize (Reg.c i k).toNat = bit at *
      have c0 : V.cell? ⟨w0.heap.size + 1, 0, none⟩ = some v := hgb.cell 0
      have HO := hid hown
      have HGb := hid hgb
      have HM := hid hM
      have HB := hid hB
      have HX := hid hX
      have HVs := hid hVs2
      have hklen : ((Scr.seqL i k).map (Value.int .u8)).length = k := by simp [Scr.seqL_len]
      have Hk := hid hklen
      have Hlt := hid hlt
      have hk5 : k ≤ 500 := by omega
      have hn1 : ¬ w0.heap.size + 1 = w0.heap.size := by omega
      have hn2 : ¬ w0.heap.size = w0.heap.size + 1 := by omega
      clear hown hgb hM hB hX hVs2 hklen HIT
      have fin : ∀ (g cap : Nat) (w2 : World), OwnL w2 (wR0.heap.size + 3) 5 (.slice (some ⟨g, 0, none⟩) (k + 1) cap) ((Scr.seqL i k).map (Value.int .u8) ++ [.int .u8 (bit : Nat)]) → Fr (fun j => v.ownBlock = some j) V w2 →
          w2.frozen? ⟨w0.heap.size + 1, 0, none⟩ = false ∧ w2.cell? ⟨w0.heap.size + 1, 0, none⟩ = some v ∧ w2.cell? ⟨w0.heap.size, 0, none⟩ = some (.int .i64 n) ∧
          (KeepT (fun b => b = w.heap.size ∨ (wR0.heap.size ≤ b ∧ b < wR0.heap.size + 2 + 1)) V (w2.setCell ⟨w0.heap.size + 1, 0, none⟩ (.slice (some ⟨g, 0, none⟩) (k + 1) cap)) ∧
            Got (w2.setCell ⟨w0.heap.size + 1, 0, none⟩ (.slice (some ⟨g, 0, none⟩) (k + 1) cap)) (wR0.heap.size + 3) (w0.heap.size + 1) (Scr.seqL i (k + 1)) ∧
            Blk (w2.setCell ⟨w0.heap.size + 1, 0, none⟩ (.slice (some ⟨g, 0, none⟩) (k + 1) cap)) w0.heap.size 3 #[.int .i64 n] ∧
            Below w0.heap.size w0 (w2.setCell ⟨w0.heap.size + 1, 0, none⟩ (.slice (some ⟨g, 0, none⟩) (k + 1) cap)) ∧
            True ∧
            wR0.heap.size ≤ (w2.setCell ⟨w0.heap.size + 1, 0, none⟩ (.slice (some ⟨g, 0, none⟩) (k + 1) cap)).heap.size) := by
        intro g cap w2 hown2 hf
        have hne : ∀ j, v.ownBlock = some j → wR0.heap.size + 3 ≤ j := fun j e => (HO.out.block e).1
        have hGb2 := HGb.out.fr hf (fun e => by have := hne _ e; omega)
        have F2 : Fr (fun j => j = w0.heap.size + 1) w2 (w2.setCell ⟨w0.heap.size + 1, 0, none⟩ (.slice (some ⟨g, 0, none⟩) (k + 1) cap)) := Fr.setCell (S := fun j => j = w0.heap.size + 1) _ ⟨w0.heap.size + 1, 0, none⟩ _ rfl
        have hM2 := HM.out.fr hf (fun e => by have := hne _ e; omega)
        have hg3 : wR0.heap.size + 3 ≤ g := (hown2.block (g := g) rfl).1
        have hvs := HVs.out
        refine ⟨hGb2.frozen 0, hGb2.cell 0, hM2.cell 0, ?_, ⟨_, ?_, hGb2.set_ 0 _⟩, hM2.fr F2 (by omega), ?_, ?_, Nat.le_trans (Nat.le_trans hvs hf.size) F2.size⟩
        · exact (KeepT.of_fr hf (fun j hj e => by have := hne _ e; omega)).trans (KeepT.of_fr F2 (fun j hj e => by omega))
        · rw [HSk.out, List.map_append, List.map_cons, List.map_nil]
          exact hown2.fr F2 (fun g' e => by simp [Value.ownBlock] at e; omega)
        · exact (HB.out.trans (hf.below HB.out.size (fun j hj e => by have := hne _ e; omega))).trans (F2.below (Nat.le_trans HB.out.size hf.size) (fun j hj e => by omega))
        · trivial
      have HFin := hid fin
      clear fin
      by_cases hlast : k + 1 = n
      · have hd1 : ((k : Int) + 1 == (n : Int)) = true := by rw [beq_iff_eq]; omega
        have HLast := hid hlast
        clear hlast hlt
        gi_wp2_with (gi_at_builtin; refine wpListIn_append_one rfl (fun _ => rfl) elem_b (.tmp 41) (.tmp 43) rfl (wR0.heap.size + 3) _ k _ Hk.out rfl HO.out _ rfl rfl (by omega) (by omega) (by omega) ?_; intro g cap w2 hown2 hf; obtain ⟨hfr1, hco1, hco2, hres⟩ := HFin.out g cap w2 hown2 hf; have HR := hid hres; clear hres hown2 hf)
        have hres := HR.out
        have hl := HLast.out
        obtain ⟨h1, h2, h3⟩ := hres
        rw [show Scr.seqL i (k + 1) = Scr.seqL i n by rw [hl]] at h2
        exact ⟨h1, rfl, h2, h3⟩
      · have hd1 : ((k : Int) + 1 == (n : Int)) = false := by rw [beq_eq_false_iff_ne]; omega
        have HLast := hid hlast
        clear hlast hlt
        gi_wp2_with (gi_at_builtin; refine wpListIn_append_one rfl (fun _ => rfl) elem_b (.tmp 41) (.tmp 43) rfl (wR0.heap.size + 3) _ k _ Hk.out rfl HO.out _ rfl rfl (by omega) (by omega) (by omega) ?_; intro g cap w2 hown2 hf; obtain ⟨hfr1, hco1, hco2, hres⟩ := HFin.out g cap w2 hown2 hf; have HR := hid hres; clear hres hown2 hf)
        have hres := HR.out
        exact ⟨hres.1, by have := HLast.out; have := Hlt.out; omega, hres.2⟩
    case donevp =>
      rintro D0 c k V0 ⟨rfl, hG, hM, hB, hX, hVs⟩ hD hDl
      obtain ⟨gv, hown, hgb⟩ := hG
      have HV0 := hid hown.vw
      have HBV0 := hid hB
      have HD0 := hid hD
      skip
      have HGV := hid hgb
      have HMV := hid hM
      have hsV0 : wR0.heap.size ≤ V0.heap.size := hVs
      obtain ⟨av, cv, rfl, hvv⟩ := hown.vw
      clear hM hB hX hVs hD hown hgb hvv
      rw [List.length_map, Scr.seqL_len] at *
      have HS := hid (show ∀ W, Below V0.heap.size V0 W → W.cell? ⟨w0.heap.size + 1, 0, none⟩ = some (.slice av n cv) ∧ W.cell? ⟨w0.heap.size, 0, none⟩ = some (.int .i64 n) from fun W hW => ⟨(HGV.out.below hW HGV.out.lt).cell 0, (HMV.out.below hW HMV.out.lt).cell 0⟩)
      have hv1 : decide (2147483648 ≤ (i : Int)) = false := decide_eq_false (by have := HVh.out; omega)
      have hv2 : decide ((i : Int) < 2147483648) = true := decide_eq_true (by have := HVh.out; omega)
      have B0 : Below V0.heap.size V0 V0.drew := below_drewN V0 1
      have KR := hid (fun W (h : Below V0.heap.size V0 W) => (refSeq_any W i HVh.out n (by omega)).mono fun r w' h' => (⟨h'.1, below_then h h'.2, h'.2⟩ : _ ∧ Below V0.heap.size V0 w' ∧ Below W.heap.size W w'))
      gi_wp2
      go_wp2
      refine wp_region_noPanic ?_
      refine wp_region_held_drew (S := (fun W => W.cell? ⟨w0.heap.size + 1, 0, none⟩ = some (.slice av n cv) ∧ W.cell? ⟨w0.heap.size, 0, none⟩ = some (.int .i64 n))) (by kernel_rfl) (HS.out _ B0) (fun hHeld => ?_)
      refine wpAnyH_take (i := 0) (v := (.int .u32 (i : Nat))) rfl (by kernel_rfl) (by kernel_rfl) (by kernel_rfl) (fun _ _ _ h => h) (Or.inl ⟨by kernel_rfl, (fun w hSw => by (try dsimp only at hSw); go_simp)⟩) hHeld ?_
      try simp only [Act.put, List.setIfInBounds_toArray, List.set_cons_zero, List.set_cons_succ]
      refine wpAnyH_take (i := 1) (v := (.bool false)) rfl (by kernel_rfl) (by kernel_rfl) (by kernel_rfl) (fun _ _ _ h => h) (Or.inl ⟨by kernel_rfl, (fun w hSw => by (try dsimp only at hSw); go_simp)⟩) hHeld ?_
      try simp only [Act.put, List.setIfInBounds_toArray, List.set_cons_zero, List.set_cons_succ]
      refine wpAnyH_take (i := 2) (v := (.bool false)) rfl (by kernel_rfl) (by kernel_rfl) (by kernel_rfl) (fun _ _ _ h => h) (Or.inl ⟨by kernel_rfl, (fun w hSw => by (try dsimp only at hSw); go_simp)⟩) hHeld ?_
      try simp only [Act.put, List.setIfInBounds_toArray, List.set_cons_zero, List.set_cons_succ]
      refine wpAnyH_take (i := 3) (v := undef) rfl (by kernel_rfl) (by kernel_rfl) (by kernel_rfl) (fun _ _ _ h => h) (Or.inr ⟨by kernel_rfl, rfl⟩) hHeld ?_
      try simp only [Act.put, List.setIfInBounds_toArray, List.set_cons_zero, List.set_cons_succ]
      refine wpAnyH_take (i := 4) (v := undef) rfl (by kernel_rfl) (by kernel_rfl) (by kernel_rfl) (fun _ _ _ h => h) (Or.inr ⟨by kernel_rfl, rfl⟩) hHeld ?_
      try simp only [Act.put, List.setIfInBounds_toArray, List.set_cons_zero, List.set_cons_succ]
      refine wpAnyH_take (i := 5) (v := undef) rfl (by kernel_rfl) (by kernel_rfl) (by kernel_rfl) (fun _ _ _ h => h) (Or.inr ⟨by kernel_rfl, rfl⟩) hHeld ?_
      try simp only [Act.put, List.setIfInBounds_toArray, List.set_cons_zero, List.set_cons_succ]
      refine wpAnyH_take (i := 6) (v := (.bool false)) rfl (by kernel_rfl) (by kernel_rfl) (by kernel_rfl) (fun _ _ _ h => h) (Or.inl ⟨by kernel_rfl, (fun w hSw => by (try dsimp only at hSw); go_simp)⟩) hHeld ?_
      try simp only [Act.put, List.setIfInBounds_toArray, List.set_cons_zero, List.set_cons_succ]
      refine wpAnyH_take (i := 7) (v := (.bool false)) rfl (by kernel_rfl) (by kernel_rfl) (by kernel_rfl) (fun _ _ _ h => h) (Or.inl ⟨by kernel_rfl, (fun w hSw => by (try dsimp only at hSw); go_simp)⟩) hHeld ?_
      try simp only [Act.put, List.setIfInBounds_toArray, List.set_cons_zero, List.set_cons_succ]
      refine wpAnyH_take (i := 8) (v := (.int .u32 (i : Nat))) rfl (by kernel_rfl) (by kernel_rfl) (by kernel_rfl) (fun _ _ _ h => h) (Or.inl ⟨by kernel_rfl, (fun w hSw => by (try dsimp only at hSw); go_simp)⟩) hHeld ?_
      try simp only [Act.put, List.setIfInBounds_toArray, List.set_cons_zero, List.set_cons_succ]
      refine wpAnyH_take (i := 9) (v := (.bool true)) rfl (by kernel_rfl) (by kernel_rfl) (by kernel_rfl) (fun _ _ _ h => h) (Or.inl ⟨by kernel_rfl, (fun w hSw => by (try dsimp only at hSw); go_simp)⟩) hHeld ?_
      try simp only [Act.put, List.setIfInBounds_toArray, List.set_cons_zero, List.set_cons_succ]
      refine wpAnyH_take (i := 10) (v := (.bool true)) rfl (by kernel_rfl) (by kernel_rfl) (by kernel_rfl) (fun _ _ _ h => h) (Or.inl ⟨by kernel_rfl, (fun w hSw => by (try dsimp only at hSw); go_simp)⟩) hHeld ?_
      try simp only [Act.put, List.setIfInBounds_toArray, List.set_cons_zero, List.set_cons_succ]
      refine wpAnyH_take (i := 11) (v := (.slice av n cv)) rfl (by kernel_rfl) (by kernel_rfl) (by kernel_rfl) (fun _ _ _ h => h) (Or.inl ⟨by kernel_rfl, (fun w hSw => by (try dsimp only at hSw); go_simp)⟩) hHeld ?_
      try simp only [Act.put, List.setIfInBounds_toArray, List.set_cons_zero, List.set_cons_succ]
      refine wpAnyH_take (i := 12) (v := (.int .u32 (i : Nat))) rfl (by kernel_rfl) (by kernel_rfl) (by kernel_rfl) (fun _ _ _ h => h) (Or.inl ⟨by kernel_rfl, (fun w hSw => by (try dsimp only at hSw); go_simp)⟩) hHeld ?_
      try simp only [Act.put, List.setIfInBounds_toArray, List.set_cons_zero, List.set_cons_succ]
      refine wpAnyH_take (i := 13) (v := (.int .i64 (n : Nat))) rfl (by kernel_rfl) (by kernel_rfl) (by kernel_rfl) (fun _ _ _ h => h) (Or.inl ⟨by kernel_rfl, (fun w hSw => by (try dsimp only at hSw); go_simp)⟩) hHeld ?_
      try simp only [Act.put, List.setIfInBounds_toArray, List.set_cons_zero, List.set_cons_succ]
      refine wpAnyH_ready (rs := [14]) (by kernel_rfl) (by simp) ?_
      refine AllReadyH.cons rfl (fun K hK => ?_) AllReadyH.nil
      go_simp
      refine (KR.out _ B0).mono ?_
      rintro r wq0 ⟨⟨vq, rfl, hq⟩, Bq, Bq2⟩
      have HQ := hid hq.vw
      clear hq
      try go_wp2_with fail
      refine hK.out _ _ (HS.out _ Bq) (fun hHeld2 => ?_)
      clear hK K
      try simp only [Act.put, List.setIfInBounds_toArray, List.set_cons_zero, List.set_cons_succ]
      refine wpAnyH_ready (rs := [15]) (by kernel_rfl) (by simp) ?_
      refine AllReadyH.cons rfl (fun K hK => ?_) AllReadyH.nil
      go_simp
      refine (sameB_true _ _ _ (Scr.seqL i n) (HV0.out.below Bq (Nat.le_refl _)) HQ.out (by rw [Scr.seqL_len]; omega)).mono ?_
      rintro r wz0 ⟨rfl, Bz⟩
      have BBz := below_then Bq Bz
      try go_wp2_with fail
      refine hK.out _ _ (HS.out _ BBz) (fun hHeld3 => ?_)
      clear hK K
      try simp only [Act.put, List.setIfInBounds_toArray, List.set_cons_zero, List.set_cons_succ]
      refine wpAnyH_take (i := 16) (v := (.bool false)) rfl (by kernel_rfl) (by kernel_rfl) (by kernel_rfl) (fun _ _ _ h => h) (Or.inl ⟨by kernel_rfl, (fun w hSw => by (try dsimp only at hSw); go_simp)⟩) hHeld3 ?_
      try simp only [Act.put, List.setIfInBounds_toArray, List.set_cons_zero, List.set_cons_succ]
      refine wpAnyH_take (i := 17) (v := (.bool false)) rfl (by kernel_rfl) (by kernel_rfl) (by kernel_rfl) (fun _ _ _ h => h) (Or.inl ⟨by kernel_rfl, (fun w hSw => by (try dsimp only at hSw); go_simp)⟩) hHeld3 ?_
      try simp only [Act.put, List.setIfInBounds_toArray, List.set_cons_zero, List.set_cons_succ]
      refine wpAnyH_take (i := 18) (v := (.bool false)) rfl (by kernel_rfl) (by kernel_rfl) (by kernel_rfl) (fun _ _ _ h => h) (Or.inl ⟨by kernel_rfl, (fun w hSw => by (try dsimp only at hSw); go_simp)⟩) hHeld3 ?_
      try simp only [Act.put, List.setIfInBounds_toArray, List.set_cons_zero, List.set_cons_succ]
      refine wpAnyH_done (by kernel_rfl) ?_ _
      refine NoPanic.normal ?_
      clear hHeld hHeld2 hHeld3 Bq2 hv1 hv2
      go_wp2
      have HBz := hid (below_then HBV0.out (BBz.mono (Nat.le_refl _)))
      have HB1 := hid HBz.out
      have HDT := hid ((BBz.block D0 (Array.getElem?_eq_some_iff.1 HD0.out).1).trans HD0.out)
      have hD0l : D0 < wz0.heap.size := (Array.getElem?_eq_some_iff.1 HDT.out).1
      have hsz0 : V0.heap.size ≤ wz0.heap.size := BBz.size
      clear HBz BBz HS HMV HGV HV0 HBV0 HD0 HM0 HG0 HBR0 KR HQ Bq Bz B0
      try go_wp2_with fail
      rw [rounds_succ]
      have q0 := (HC0.out _ HB1.out).2
      go_wp2_with fail
      generalize hW : World.alloc _ _ = wR1
      have F : Fr (fun _ => False) wz0 wR1 := by rw [← hW]; exact (Fr.alloc _ _ _).trans (Fr.alloc _ _ _)
      have HM1 := hid (show Blk wR1 wz0.heap.size 3 #[.int .i64 m] by rw [← hW]; exact Blk.fr (Blk.new wz0 _ _) (Fr.alloc (fun _ => False) _ _) (fun h => h))
      have HG1 := hid (show Blk wR1 (wz0.heap.size + 1) 30 #[.slice none 0 0] by rw [← hW]; have := Blk.new (wz0.alloc (.cells #[.int .i64 m] 3)) 30 #[.slice none 0 0]; rw [World.size_alloc] at this; exact this)
      have HBR1 := hid (HB1.out.trans (F.below HB1.out.size (fun _ _ h => h)))
      have HDR := hid ((F.block D0 (Array.getElem?_eq_some_iff.1 HDT.out).1 (fun h => h)).trans HDT.out)
      have hsS1 : w0.heap.size ≤ wz0.heap.size := HB1.out.size
      have hsR1 : wz0.heap.size + 1 < wR1.heap.size := HG1.out.lt
      clear hW F q0
      refine (wpIn_wide (n := 1)).1 ?_
      refine wpIn_rangeD (gf := 25) (lb := #[.pointer (some ⟨w.heap.size, 0, none⟩)]) rfl (enters_of Try.func25 (by kernel_rfl) rfl) HIT.out HBR1.out (fun _ => rfl)
        (fun k V => k < m ∧ Got V (wR1.heap.size + 3) (wz0.heap.size + 1) (Scr.seqL i k) ∧ Blk V wz0.heap.size 3 #[.int .i64 m] ∧ Below w0.heap.size w0 V ∧ V.heap[D0]? = some (.deferred (some [])) ∧ wR1.heap.size ≤ V.heap.size)
        (fun _ c V => c = .exit 2 ∧ Got V (wR1.heap.size + 3) (wz0.heap.size + 1) (Scr.seqL i m) ∧ Blk V wz0.heap.size 3 #[.int .i64 m] ∧ Below w0.heap.size w0 V ∧ V.heap[D0]? = some (.deferred (some [])) ∧ wR1.heap.size ≤ V.heap.size)
        (fun k A V h hf => ⟨h.1, h.2.1.fr hf (by omega) (fun g hg => by omega), h.2.2.1.fr hf (by omega), h.2.2.2.1.trans (hf.below h.2.2.2.1.size (fun j hj h2 => by omega)), (hf.block D0 (Array.getElem?_eq_some_iff.1 h.2.2.2.2.1).1 (by omega)).trans h.2.2.2.2.1, Nat.le_trans h.2.2.2.2.2 hf.size⟩)
        (fun k c A V h hf => ⟨h.1, h.2.1.fr hf (by omega) (fun g hg => by omega), h.2.2.1.fr hf (by omega), h.2.2.2.1.trans (hf.below h.2.2.2.1.size (fun j hj h2 => by omega)), (hf.block D0 (Array.getElem?_eq_some_iff.1 h.2.2.2.2.1).1 (by omega)).trans h.2.2.2.2.1, Nat.le_trans h.2.2.2.2.2 hf.size⟩)
        ⟨by omega, ⟨_, OwnL.nil _ _ _, HG1.out⟩, HM1.out, HBR1.out, HDR.out, Nat.le_refl _⟩ (fun _ => ⟨m, by omega, fun V h => Nat.lt_irrefl _ h.1⟩) ?avq ?assignvq ?bodyvq (fun _ _ _ h => by cases h) ?donevq
      case assignvq =>
        intro l k V K hK
        gi_wp2
        exact hK
      case bodyvq =>
        rintro l k V - ⟨hlt, hG, hM, hB, hX, hVs2⟩ hVs
        obtain ⟨v, hown, hgb⟩ := hG
        have HSk := hid (HSq.out k)
        generalize (Reg.c i k).toNat = bit at *
        have c0 : V.cell? ⟨wz0.heap.size + 1, 0, none⟩ = some v := hgb.cell 0
        have HO := hid hown
        have HGb := hid hgb
        have HM := hid hM
        have HB := hid hB
        have HX := hid hX
        have HVs := hid hVs2
        have hklen : ((Scr.seqL i k).map (Value.int .u8)).length = k := by simp [Scr.seqL_len]
        have Hk := hid hklen
        have Hlt := hid hlt
        have hk5 : k ≤ 500 := by omega
        have hn1 : ¬ wz0.heap.size + 1 = wz0.heap.size := by omega
        have hn2 : ¬ wz0.heap.size = wz0.heap.size + 1 := by omega
        clear hown hgb hM hB hX hVs2 hklen HIT
        have fin : ∀ (g cap : Nat) (w2 : World), OwnL w2 (wR1.heap.size + 3) 5 (.slice (some ⟨g, 0, none⟩) (k + 1) cap) ((Scr.seqL i k).map (Value.int .u8) ++ [.int .u8 (bit : Nat)]) → Fr (fun j => v.ownBlock = some j) V w2 →
            w2.frozen? ⟨wz0.heap.size + 1, 0, none⟩ = false ∧ w2.cell? ⟨wz0.heap.size + 1, 0, none⟩ = some v ∧ w2.cell? ⟨wz0.heap.size, 0, none⟩ = some (.int .i64 m) ∧
            (KeepT (fun b => b = w.heap.size ∨ (wR1.heap.size ≤ b ∧ b < wR1.heap.size + 2 + 1)) V (w2.setCell ⟨wz0.heap.size + 1, 0, none⟩ (.slice (some ⟨g, 0, none⟩) (k + 1) cap)) ∧
              Got (w2.setCell ⟨wz0.heap.size + 1, 0, none⟩ (.slice (some ⟨g, 0, none⟩) (k + 1) cap)) (wR1.heap.size + 3) (wz0.heap.size + 1) (Scr.seqL i (k + 1)) ∧
              Blk (w2.setCell ⟨wz0.heap.size + 1, 0, none⟩ (.slice (some ⟨g, 0, none⟩) (k + 1) cap)) wz0.heap.size 3 #[.int .i64 m] ∧
              Below w0.heap.size w0 (w2.setCell ⟨wz0.heap.size + 1, 0, none⟩ (.slice (some ⟨g, 0, none⟩) (k + 1) cap)) ∧
              (w2.setCell ⟨wz0.heap.size + 1, 0, none⟩ (.slice (some ⟨g, 0, none⟩) (k + 1) cap)).heap[D0]? = some (.deferred (some [])) ∧
              wR1.heap.size ≤ (w2.setCell ⟨wz0.heap.size + 1, 0, none⟩ (.slice (some ⟨g, 0, none⟩) (k + 1) cap)).heap.size) := by
          intro g cap w2 hown2 hf
          have hne : ∀ j, v.ownBlock = some j → wR1.heap.size + 3 ≤ j := fun j e => (HO.out.block e).1
          have hGb2 := HGb.out.fr hf (fun e => by have := hne _ e; omega)
          have F2 : Fr (fun j => j = wz0.heap.size + 1) w2 (w2.setCell ⟨wz0.heap.size + 1, 0, none⟩ (.slice (some ⟨g, 0, none⟩) (k + 1) cap)) := Fr.setCell (S := fun j => j = wz0.heap.size + 1) _ ⟨wz0.heap.size + 1, 0, none⟩ _ rfl
          have hM2 := HM.out.fr hf (fun e => by have := hne _ e; omega)
          have hg3 : wR1.heap.size + 3 ≤ g := (hown2.block (g := g) rfl).1
          have hvs := HVs.out
          refine ⟨hGb2.frozen 0, hGb2.cell 0, hM2.cell 0, ?_, ⟨_, ?_, hGb2.set_ 0 _⟩, hM2.fr F2 (by omega), ?_, ?_, Nat.le_trans (Nat.le_trans hvs hf.size) F2.size⟩
          · exact (KeepT.of_fr hf (fun j hj e => by have := hne _ e; omega)).trans (KeepT.of_fr F2 (fun j hj e => by omega))
          · rw [HSk.out, List.map_append, List.map_cons, List.map_nil]
            exact hown2.fr F2 (fun g' e => by simp [Value.ownBlock] at e; omega)
          · exact (HB.out.trans (hf.below HB.out.size (fun j hj e => by have := hne _ e; omega))).trans (F2.below (Nat.le_trans HB.out.size hf.size) (fun j hj e => by omega))
          · exact (F2.block D0 (Array.getElem?_eq_some_iff.1 ((hf.block D0 (Array.getElem?_eq_some_iff.1 HX.out).1 (fun e => by have := hne _ e; omega)).trans HX.out)).1 (by omega)).trans ((hf.block D0 (Array.getElem?_eq_some_iff.1 HX.out).1 (fun e => by have := hne _ e; omega)).trans HX.out)
        have HFin := hid fin
        clear fin
        by_cases hlast : k + 1 = m
        · have hd1 : ((k : Int) + 1 == (m : Int)) = true := by rw [beq_iff_eq]; omega
          have HLast := hid hlast
          clear hlast hlt
          gi_wp2_with (gi_at_builtin; refine wpListIn_append_one rfl (fun _ => rfl) elem_b (.tmp 41) (.tmp 43) rfl (wR1.heap.size + 3) _ k _ Hk.out rfl HO.out _ rfl rfl (by omega) (by omega) (by omega) ?_; intro g cap w2 hown2 hf; obtain ⟨hfr1, hco1, hco2, hres⟩ := HFin.out g cap w2 hown2 hf; have HR := hid hres; clear hres hown2 hf)
          have hres := HR.out
          have hl := HLast.out
          obtain ⟨h1, h2, h3⟩ := hres
          rw [show Scr.seqL i (k + 1) = Scr.seqL i m by rw [hl]] at h2
          exact ⟨h1, rfl, h2, h3⟩
        · have hd1 : ((k : Int) + 1 == (m : Int)) = false := by rw [beq_eq_false_iff_ne]; omega
          have HLast := hid hlast
          clear hlast hlt
          gi_wp2_with (gi_at_builtin; refine wpListIn_append_one rfl (fun _ => rfl) elem_b (.tmp 41) (.tmp 43) rfl (wR1.heap.size + 3) _ k _ Hk.out rfl HO.out _ rfl rfl (by omega) (by omega) (by omega) ?_; intro g cap w2 hown2 hf; obtain ⟨hfr1, hco1, hco2, hres⟩ := HFin.out g cap w2 hown2 hf; have HR := hid hres; clear hres hown2 hf)
          have hres := HR.out
          exact ⟨hres.1, by have := HLast.out; have := Hlt.out; omega, hres.2⟩
      case donevq =>
        rintro D1 c k V1 ⟨rfl, hG, hM, hB, hX, hVs⟩ hD hDl
        obtain ⟨gv, hown, hgb⟩ := hG
        have HV1 := hid hown.vw
        have HBV1 := hid hB
        have HD1 := hid hD
        have HDV := hid hX
        have HGV := hid hgb
        have HMV := hid hM
        have hsV1 : wR1.heap.size ≤ V1.heap.size := hVs
        obtain ⟨av, cv, rfl, hvv⟩ := hown.vw
        clear hM hB hX hVs hD hown hgb hvv
        rw [List.length_map, Scr.seqL_len] at *
        have HS := hid (show ∀ W, Below V1.heap.size V1 W → W.cell? ⟨wz0.heap.size + 1, 0, none⟩ = some (.slice av m cv) ∧ W.cell? ⟨wz0.heap.size, 0, none⟩ = some (.int .i64 m) from fun W hW => ⟨(HGV.out.below hW HGV.out.lt).cell 0, (HMV.out.below hW HMV.out.lt).cell 0⟩)
        have hv1 : decide (2147483648 ≤ (i : Int)) = false := decide_eq_false (by have := HVh.out; omega)
        have hv2 : decide ((i : Int) < 2147483648) = true := decide_eq_true (by have := HVh.out; omega)
        have B0 : Below V1.heap.size V1 V1.drew := below_drewN V1 1
        have KR := hid (fun W (h : Below V1.heap.size V1 W) => (refSeq_any W i HVh.out m (by omega)).mono fun r w' h' => (⟨h'.1, below_then h h'.2, h'.2⟩ : _ ∧ Below V1.heap.size V1 w' ∧ Below W.heap.size W w'))
        gi_wp2
        go_wp2
        refine wp_region_noPanic ?_
        refine wp_region_held_drew (S := (fun W => W.cell? ⟨wz0.heap.size + 1, 0, none⟩ = some (.slice av m cv) ∧ W.cell? ⟨wz0.heap.size, 0, none⟩ = some (.int .i64 m))) (by kernel_rfl) (HS.out _ B0) (fun hHeld => ?_)
        refine wpAnyH_take (i := 0) (v := (.int .u32 (i : Nat))) rfl (by kernel_rfl) (by kernel_rfl) (by kernel_rfl) (fun _ _ _ h => h) (Or.inl ⟨by kernel_rfl, (fun w hSw => by (try dsimp only at hSw); go_simp)⟩) hHeld ?_
        try simp only [Act.put, List.setIfInBounds_toArray, List.set_cons_zero, List.set_cons_succ]
        refine wpAnyH_take (i := 1) (v := (.bool false)) rfl (by kernel_rfl) (by kernel_rfl) (by kernel_rfl) (fun _ _ _ h => h) (Or.inl ⟨by kernel_rfl, (fun w hSw => by (try dsimp only at hSw); go_simp)⟩) hHeld ?_
        try simp only [Act.put, List.setIfInBounds_toArray, List.set_cons_zero, List.set_cons_succ]
        refine wpAnyH_take (i := 2) (v := (.bool false)) rfl (by kernel_rfl) (by kernel_rfl) (by kernel_rfl) (fun _ _ _ h => h) (Or.inl ⟨by kernel_rfl, (fun w hSw => by (try dsimp only at hSw); go_simp)⟩) hHeld ?_
        try simp only [Act.put, List.setIfInBounds_toArray, List.set_cons_zero, List.set_cons_succ]
        refine wpAnyH_take (i := 3) (v := undef) rfl (by kernel_rfl) (by kernel_rfl) (by kernel_rfl) (fun _ _ _ h => h) (Or.inr ⟨by kernel_rfl, rfl⟩) hHeld ?_
        try simp only [Act.put, List.setIfInBounds_toArray, List.set_cons_zero, List.set_cons_succ]
        refine wpAnyH_take (i := 4) (v := undef) rfl (by kernel_rfl) (by kernel_rfl) (by kernel_rfl) (fun _ _ _ h => h) (Or.inr ⟨by kernel_rfl, rfl⟩) hHeld ?_
        try simp only [Act.put, List.setIfInBounds_toArray, List.set_cons_zero, List.set_cons_succ]
        refine wpAnyH_take (i := 5) (v := undef) rfl (by kernel_rfl) (by kernel_rfl) (by kernel_rfl) (fun _ _ _ h => h) (Or.inr ⟨by kernel_rfl, rfl⟩) hHeld ?_
        try simp only [Act.put, List.setIfInBounds_toArray, List.set_cons_zero, List.set_cons_succ]
        refine wpAnyH_take (i := 6) (v := (.bool false)) rfl (by kernel_rfl) (by kernel_rfl) (by kernel_rfl) (fun _ _ _ h => h) (Or.inl ⟨by kernel_rfl, (fun w hSw => by (try dsimp only at hSw); go_simp)⟩) hHeld ?_
        try simp only [Act.put, List.setIfInBounds_toArray, List.set_cons_zero, List.set_cons_succ]
        refine wpAnyH_take (i := 7) (v := (.bool false)) rfl (by kernel_rfl) (by kernel_rfl) (by kernel_rfl) (fun _ _ _ h => h) (Or.inl ⟨by kernel_rfl, (fun w hSw => by (try dsimp only at hSw); go_simp)⟩) hHeld ?_
        try simp only [Act.put, List.setIfInBounds_toArray, List.set_cons_zero, List.set_cons_succ]
        refine wpAnyH_take (i := 8) (v := (.int .u32 (i : Nat))) rfl (by kernel_rfl) (by kernel_rfl) (by kernel_rfl) (fun _ _ _ h => h) (Or.inl ⟨by kernel_rfl, (fun w hSw => by (try dsimp only at hSw); go_simp)⟩) hHeld ?_
        try simp only [Act.put, List.setIfInBounds_toArray, List.set_cons_zero, List.set_cons_succ]
        refine wpAnyH_take (i := 9) (v := (.bool true)) rfl (by kernel_rfl) (by kernel_rfl) (by kernel_rfl) (fun _ _ _ h => h) (Or.inl ⟨by kernel_rfl, (fun w hSw => by (try dsimp only at hSw); go_simp)⟩) hHeld ?_
        try simp only [Act.put, List.setIfInBounds_toArray, List.set_cons_zero, List.set_cons_succ]
        refine wpAnyH_take (i := 10) (v := (.bool true)) rfl (by kernel_rfl) (by kernel_rfl) (by kernel_rfl) (fun _ _ _ h => h) (Or.inl ⟨by kernel_rfl, (fun w hSw => by (try dsimp only at hSw); go_simp)⟩) hHeld ?_
        try simp only [Act.put, List.setIfInBounds_toArray, List.set_cons_zero, List.set_cons_succ]
        refine wpAnyH_take (i := 11) (v := (.slice av m cv)) rfl (by kernel_rfl) (by kernel_rfl) (by kernel_rfl) (fun _ _ _ h => h) (Or.inl ⟨by kernel_rfl, (fun w hSw => by (try dsimp only at hSw); go_simp)⟩) hHeld ?_
        try simp only [Act.put, List.setIfInBounds_toArray, List.set_cons_zero, List.set_cons_succ]
        refine wpAnyH_take (i := 12) (v := (.int .u32 (i : Nat))) rfl (by kernel_rfl) (by kernel_rfl) (by kernel_rfl) (fun _ _ _ h => h) (Or.inl ⟨by kernel_rfl, (fun w hSw => by (try dsimp only at hSw); go_simp)⟩) hHeld ?_
        try simp only [Act.put, List.setIfInBounds_toArray, List.set_cons_zero, List.set_cons_succ]
        refine wpAnyH_take (i := 13) (v := (.int .i64 (m : Nat))) rfl (by kernel_rfl) (by kernel_rfl) (by kernel_rfl) (fun _ _ _ h => h) (Or.inl ⟨by kernel_rfl, (fun w hSw => by (try dsimp only at hSw); go_simp)⟩) hHeld ?_
        try simp only [Act.put, List.setIfInBounds_toArray, List.set_cons_zero, List.set_cons_succ]
        refine wpAnyH_ready (rs := [14]) (by kernel_rfl) (by simp) ?_
        refine AllReadyH.cons rfl (fun K hK => ?_) AllReadyH.nil
        go_simp
        refine (KR.out _ B0).mono ?_
        rintro r wq1 ⟨⟨vq, rfl, hq⟩, Bq, Bq2⟩
        have HQ := hid hq.vw
        clear hq
        try go_wp2_with fail
        refine hK.out _ _ (HS.out _ Bq) (fun hHeld2 => ?_)
        clear hK K
        try simp only [Act.put, List.setIfInBounds_toArray, List.set_cons_zero, List.set_cons_succ]
        refine wpAnyH_ready (rs := [15]) (by kernel_rfl) (by simp) ?_
        refine AllReadyH.cons rfl (fun K hK => ?_) AllReadyH.nil
        go_simp
        refine (sameB_true _ _ _ (Scr.seqL i m) (HV1.out.below Bq (Nat.le_refl _)) HQ.out (by rw [Scr.seqL_len]; omega)).mono ?_
        rintro r wz1 ⟨rfl, Bz⟩
        have BBz := below_then Bq Bz
        try go_wp2_with fail
        refine hK.out _ _ (HS.out _ BBz) (fun hHeld3 => ?_)
        clear hK K
        try simp only [Act.put, List.setIfInBounds_toArray, List.set_cons_zero, List.set_cons_succ]
        refine wpAnyH_take (i := 16) (v := (.bool false)) rfl (by kernel_rfl) (by kernel_rfl) (by kernel_rfl) (fun _ _ _ h => h) (Or.inl ⟨by kernel_rfl, (fun w hSw => by (try dsimp only at hSw); go_simp)⟩) hHeld3 ?_
        try simp only [Act.put, List.setIfInBounds_toArray, List.set_cons_zero, List.set_cons_succ]
        refine wpAnyH_take (i := 17) (v := (.bool false)) rfl (by kernel_rfl) (by kernel_rfl) (by kernel_rfl) (fun _ _ _ h => h) (Or.inl ⟨by kernel_rfl, (fun w hSw => by (try dsimp only at hSw); go_simp)⟩) hHeld3 ?_
        try simp only [Act.put, List.setIfInBounds_toArray, List.set_cons_zero, List.set_cons_succ]
        refine wpAnyH_take (i := 18) (v := (.bool false)) rfl (by kernel_rfl) (by kernel_rfl) (by kernel_rfl) (fun _ _ _ h => h) (Or.inl ⟨by kernel_rfl, (fun w hSw => by (try dsimp only at hSw); go_simp)⟩) hHeld3 ?_
        try simp only [Act.put, List.setIfInBounds_toArray, List.set_cons_zero, List.set_cons_succ]
        refine wpAnyH_done (by kernel_rfl) ?_ _
        refine NoPanic.normal ?_
        clear hHeld hHeld2 hHeld3 Bq2 hv1 hv2
        go_wp2
        have HBz := hid (below_then HBV1.out (BBz.mono (Nat.le_refl _)))
        have hd0 := (BBz.block D0 (Array.getElem?_eq_some_iff.1 HDV.out).1).trans HDV.out
        have hd1 := (BBz.block D1 (Array.getElem?_eq_some_iff.1 HD1.out).1).trans HD1.out
        have hD10 : D1 ≠ D0 := by omega
        try go_wp2_with fail
        rw [rounds_succ]
        go_wp2_with fail
        refine (known4 _).mono ?_
        rintro r we ⟨rfl, Be⟩
        have HDE0 := hid ((Be.block D0 (Array.getElem?_eq_some_iff.1 hd0).1).trans hd0)
        have HDE1 := hid ((Be.block D1 (Array.getElem?_eq_some_iff.1 hd1).1).trans hd1)
        have HBE := hid (HB.out.trans ((below_then HBz.out Be).mono HB.out.size))
        clear hd0 hd1 Be
        go_wp2
        have F1 : Fr (fun j => j = D1) we (we.putObj D1 (.deferred none)) := Fr.putObj we D1 _ rfl
        have F2 : Fr (fun j => j = D0) (we.putObj D1 (.deferred none)) ((we.putObj D1 (.deferred none)).putObj D0 (.deferred none)) := Fr.putObj _ D0 _ rfl
        exact bodyPostM_ret2 HDE1.out HDE0.out (fun e => hD10 e.symm) rfl (results_tmp rfl _ _ _) ⟨rfl, (HBE.out.trans (F1.below HBE.out.size (fun j hj e => by omega))).trans (F2.below (Nat.le_trans HBE.out.size F1.size) (fun j hj e => by omega))⟩
  · have HIT := hid (bits1_noneD i w.heap.size (by omega) hi (fun j => j = w.heap.size) rfl w0 (HA.out.cell 0) (fun j hj => by have := HA.out.lt; omega) (fun k => #[.int .u8 ((Reg.c i k).toNat : Nat)]))
    have HB0 := hid (Below.refl w0.heap.size w0)
    have HVh := hid hv
    clear hv hi
    refine wp_loop_rounds 3 ?_
    rw [rounds_succ]
    have q0 := (HC0.out _ HB0.out).1
    go_wp2_with fail
    generalize hW : World.alloc _ _ = wR0
    have F : Fr (fun _ => False) w0 wR0 := by rw [← hW]; exact (Fr.alloc _ _ _).trans (Fr.alloc _ _ _)
    have HM0 := hid (show Blk wR0 w0.heap.size 3 #[.int .i64 n] by rw [← hW]; exact Blk.fr (Blk.new w0 _ _) (Fr.alloc (fun _ => False) _ _) (fun h => h))
    have HG0 := hid (show Blk wR0 (w0.heap.size + 1) 30 #[.slice none 0 0] by rw [← hW]; have := Blk.new (w0.alloc (.cells #[.int .i64 n] 3)) 30 #[.slice none 0 0]; rw [World.size_alloc] at this; exact this)
    have HBR0 := hid (HB0.out.trans (F.below HB0.out.size (fun _ _ h => h)))
    skip
    have hsS0 : w0.heap.size ≤ w0.heap.size := HB0.out.size
    have hsR0 : w0.heap.size + 1 < wR0.heap.size := HG0.out.lt
    clear hW F q0
    refine (wpIn_wide (n := 1)).1 ?_
    refine wpIn_rangeD (gf := 25) (lb := #[.pointer (some ⟨w.heap.size, 0, none⟩)]) rfl (enters_of Try.func25 (by kernel_rfl) rfl) HIT.out HBR0.out (fun _ => rfl)
      (fun k V => Got V (wR0.heap.size + 3) (w0.heap.size + 1) [] ∧ Blk V w0.heap.size 3 #[.int .i64 n] ∧ Below w0.heap.size w0 V ∧ True ∧ wR0.heap.size ≤ V.heap.size)
      (fun _ _ _ => False)
      (fun k A V h hf => ⟨h.1.fr hf (by omega) (fun g hg => by omega), h.2.1.fr hf (by omega), h.2.2.1.trans (hf.below h.2.2.1.size (fun j hj h2 => by omega)), trivial, Nat.le_trans h.2.2.2.2 hf.size⟩)
      (fun k c A V h hf => h)
      ⟨⟨_, OwnL.nil _ _ _, HG0.out⟩, HM0.out, HBR0.out, trivial, Nat.le_refl _⟩ (fun h => by cases h) ?aip ?assignip ?bodyip ?doneip (fun _ _ _ _ h => h.elim)
    case assignip =>
      intro l k V K hK
      gi_wp2
      exact hK
    case bodyip =>
      rintro l k V hk - -
      exact absurd (hk 0 rfl) (Nat.not_lt_zero _)
    case doneip =>
      rintro D0 n0 V0 - ⟨hG, hM, hB, hX, hVs⟩ hD hDl
      obtain ⟨gv, hown, hgb⟩ := hG
      have HV0 := hid hown.vw
      have HBV0 := hid hB
      have HD0 := hid hD
      skip
      have HGV := hid hgb
      have HMV := hid hM
      have hsV0 : wR0.heap.size ≤ V0.heap.size := hVs
      obtain ⟨av, cv, rfl, hvv⟩ := hown.vw
      clear hM hB hX hVs hD hown hgb hvv
      rw [List.map_nil, List.length_nil] at *
      have HS := hid (show ∀ W, Below V0.heap.size V0 W → W.cell? ⟨w0.heap.size + 1, 0, none⟩ = some (.slice av 0 cv) ∧ W.cell? ⟨w0.heap.size, 0, none⟩ = some (.int .i64 n) from fun W hW => ⟨(HGV.out.below hW HGV.out.lt).cell 0, (HMV.out.below hW HMV.out.lt).cell 0⟩)
      have hv1 : decide (2147483648 ≤ (i : Int)) = true := decide_eq_true (by have := HVh.out; omega)
      have hv2 : decide ((i : Int) < 2147483648) = false := decide_eq_false (by have := HVh.out; omega)
      gi_wp2
      obtain ⟨q1, q2⟩ := HS.out _ (Below.refl _ _)
      go_wp2
      go_quiet (fail)
      clear q1 q2 hv1 hv2
      generalize hWz : World.drewN _ _ = wz0
      have BBz : Below V0.heap.size V0 wz0 := by rw [← hWz]; exact below_drewN _ _
      have HBz := hid (below_then HBV0.out BBz)
      clear hWz
      have HB1 := hid HBz.out
      have HDT := hid ((BBz.block D0 (Array.getElem?_eq_some_iff.1 HD0.out).1).trans HD0.out)
      have hD0l : D0 < wz0.heap.size := (Array.getElem?_eq_some_iff.1 HDT.out).1
      have hsz0 : V0.heap.size ≤ wz0.heap.size := BBz.size
      clear HBz BBz HS HMV HGV HV0 HBV0 HD0 HM0 HG0 HBR0 
      try go_wp2_with fail
      rw [rounds_succ]
      have q0 := (HC0.out _ HB1.out).2
      go_wp2_with fail
      generalize hW : World.alloc _ _ = wR1
      have F : Fr (fun _ => False) wz0 wR1 := by rw [← hW]; exact (Fr.alloc _ _ _).trans (Fr.alloc _ _ _)
      have HM1 := hid (show Blk wR1 wz0.heap.size 3 #[.int .i64 m] by rw [← hW]; exact Blk.fr (Blk.new wz0 _ _) (Fr.alloc (fun _ => False) _ _) (fun h => h))
      have HG1 := hid (show Blk wR1 (wz0.heap.size + 1) 30 #[.slice none 0 0] by rw [← hW]; have := Blk.new (wz0.alloc (.cells #[.int .i64 m] 3)) 30 #[.slice none 0 0]; rw [World.size_alloc] at this; exact this)
      have HBR1 := hid (HB1.out.trans (F.below HB1.out.size (fun _ _ h => h)))
      have HDR := hid ((F.block D0 (Array.getElem?_eq_some_iff.1 HDT.out).1 (fun h => h)).trans HDT.out)
      have hsS1 : w0.heap.size ≤ wz0.heap.size := HB1.out.size
      have hsR1 : wz0.heap.size + 1 < wR1.heap.size := HG1.out.lt
      clear hW F q0
      refine (wpIn_wide (n := 1)).1 ?_
      refine wpIn_rangeD (gf := 25) (lb := #[.pointer (some ⟨w.heap.size, 0, none⟩)]) rfl (enters_of Try.func25 (by kernel_rfl) rfl) HIT.out HBR1.out (fun _ => rfl)
        (fun k V => Got V (wR1.heap.size + 3) (wz0.heap.size + 1) [] ∧ Blk V wz0.heap.size 3 #[.int .i64 m] ∧ Below w0.heap.size w0 V ∧ V.heap[D0]? = some (.deferred (some [])) ∧ wR1.heap.size ≤ V.heap.size)
        (fun _ _ _ => False)
        (fun k A V h hf => ⟨h.1.fr hf (by omega) (fun g hg => by omega), h.2.1.fr hf (by omega), h.2.2.1.trans (hf.below h.2.2.1.size (fun j hj h2 => by omega)), (hf.block D0 (Array.getElem?_eq_some_iff.1 h.2.2.2.1).1 (by omega)).trans h.2.2.2.1, Nat.le_trans h.2.2.2.2 hf.size⟩)
        (fun k c A V h hf => h)
        ⟨⟨_, OwnL.nil _ _ _, HG1.out⟩, HM1.out, HBR1.out, HDR.out, Nat.le_refl _⟩ (fun h => by cases h) ?aiq ?assigniq ?bodyiq ?doneiq (fun _ _ _ _ h => h.elim)
      case assigniq =>
        intro l k V K hK
        gi_wp2
        exact hK
      case bodyiq =>
        rintro l k V hk - -
        exact absurd (hk 0 rfl) (Nat.not_lt_zero _)
      case doneiq =>
        rintro D1 n0 V1 - ⟨hG, hM, hB, hX, hVs⟩ hD hDl
        obtain ⟨gv, hown, hgb⟩ := hG
        have HV1 := hid hown.vw
        have HBV1 := hid hB
        have HD1 := hid hD
        have HDV := hid hX
        have HGV := hid hgb
        have HMV := hid hM
        have hsV1 : wR1.heap.size ≤ V1.heap.size := hVs
        obtain ⟨av, cv, rfl, hvv⟩ := hown.vw
        clear hM hB hX hVs hD hown hgb hvv
        rw [List.map_nil, List.length_nil] at *
        have HS := hid (show ∀ W, Below V1.heap.size V1 W → W.cell? ⟨wz0.heap.size + 1, 0, none⟩ = some (.slice av 0 cv) ∧ W.cell? ⟨wz0.heap.size, 0, none⟩ = some (.int .i64 m) from fun W hW => ⟨(HGV.out.below hW HGV.out.lt).cell 0, (HMV.out.below hW HMV.out.lt).cell 0⟩)
        have hv1 : decide (2147483648 ≤ (i : Int)) = true := decide_eq_true (by have := HVh.out; omega)
        have hv2 : decide ((i : Int) < 2147483648) = false := decide_eq_false (by have := HVh.out; omega)
        gi_wp2
        obtain ⟨q1, q2⟩ := HS.out _ (Below.refl _ _)
        go_wp2
        go_quiet (fail)
        clear q1 q2 hv1 hv2
        generalize hWz : World.drewN _ _ = wz1
        have BBz : Below V1.heap.size V1 wz1 := by rw [← hWz]; exact below_drewN _ _
        have HBz := hid (below_then HBV1.out BBz)
        clear hWz
        have hd0 := (BBz.block D0 (Array.getElem?_eq_some_iff.1 HDV.out).1).trans HDV.out
        have hd1 := (BBz.block D1 (Array.getElem?_eq_some_iff.1 HD1.out).1).trans HD1.out
        have hD10 : D1 ≠ D0 := by omega
        try go_wp2_with fail
        rw [rounds_succ]
        go_wp2_with fail
        refine (known4 _).mono ?_
        rintro r we ⟨rfl, Be⟩
        have HDE0 := hid ((Be.block D0 (Array.getElem?_eq_some_iff.1 hd0).1).trans hd0)
        have HDE1 := hid ((Be.block D1 (Array.getElem?_eq_some_iff.1 hd1).1).trans hd1)
        have HBE := hid (HB.out.trans ((below_then HBz.out Be).mono HB.out.size))
        clear hd0 hd1 Be
        go_wp2
        have F1 : Fr (fun j => j = D1) we (we.putObj D1 (.deferred none)) := Fr.putObj we D1 _ rfl
        have F2 : Fr (fun j => j = D0) (we.putObj D1 (.deferred none)) ((we.putObj D1 (.deferred none)).putObj D0 (.deferred none)) := Fr.putObj _ D0 _ rfl
        exact bodyPostM_ret2 HDE1.out HDE0.out (fun e => hD10 e.symm) rfl (results_tmp rfl _ _ _) ⟨rfl, (HBE.out.trans (F1.below HBE.out.size (fun j hj e => by omega))).trans (F2.below (Nat.le_trans HBE.out.size F1.size) (fun j hj e => by omega))⟩
end Go.Proofs.Ytmiaddcjedjjdaa
