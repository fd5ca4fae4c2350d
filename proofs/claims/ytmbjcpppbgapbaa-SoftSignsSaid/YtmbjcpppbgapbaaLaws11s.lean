/- userplanelaw11.SoftSigns. -/
import Derived.Test.YtmbjcpppbgapbaaSigA
import Derived.Test.YtmbjcpppbgapbaaGri9b
import Derived.IntWalk
import Derived.Deep.QuietTactic
import Derived.Deep.DrawnRows
import Derived.BigQuiet
namespace Go.Proofs.Ytmbjcpppbgapbaa
open Go.RowKit Go.Shelf
set_option linter.unusedVariables false
attribute [local go_sem] Oper.semAt_some
attribute [local go_sem ↓] Go.wp_at_zero Go.wp_at_succ
namespace Soft
theorem hard_own (A : List Int) : (hardR A).1 = tab (hardG (own A)) (own A).length := by
  unfold hardR own
  split <;> rfl
end Soft
/-- A function with two ranges over functions returns. -/
theorem bodyPostM_ret2 {F : Fence} {n : Nat} {P : Program} {fn : Func} {R : Ending → World → Prop} {a : Act} {w : World} {D1 D2 : Nat} {v : Value} (hK1 : w.heap[D1]? = some (.deferred (some []))) (hK2 : w.heap[D2]? = some (.deferred (some []))) (hne : D2 ≠ D1)
    (hd : a.defers = [{ target := .collected D1, args := #[] }, { target := .collected D2, args := #[] }])
    (hr : (results fn a.tmps).run P ((w.putObj D1 (.deferred none)).putObj D2 (.deferred none)) = .ok v ((w.putObj D1 (.deferred none)).putObj D2 (.deferred none))) (hR : R (.returned v) ((w.putObj D1 (.deferred none)).putObj D2 (.deferred none))) : bodyPostM F n P fn R .ret a w := by
  show LeavesInM F n P fn a.tmps R a.defers .returning w
  rw [hd]
  exact ⟨by simp, .inl ⟨D1, _, rfl, run_takeDeferred hK1, ⟨by simp, .inl ⟨D2, _, rfl, run_takeDeferred ((World.putObj_heap_other hne).trans hK2), ⟨v, hr, hR⟩⟩⟩⟩⟩
theorem n_post {V1 W : World} {kb : Nat} {u u' : Value} (hK : Blk V1 kb 3 #[u]) (hW : V1.setCell ⟨kb, 0, none⟩ u' = W) : Blk W kb 3 #[u'] ∧ Fr (fun j => j = kb) V1 W := by
  subst hW
  exact ⟨hK.set_ 0 u', Fr.setCell (S := fun j => j = kb) V1 ⟨kb, 0, none⟩ u' rfl⟩
theorem OwnL.stored' {w : World} {base : Nat} {e : TypeId} {v : Value} {g n cap : Nat} {xs : List Value} (h : OwnL w base e v xs) (hv : v = .slice (some ⟨g, 0, none⟩) n cap) (j : Nat) (u : Value) : OwnL (w.setCell ⟨g, j, none⟩ u) base e v (xs.set j u) := by
  subst hv
  exact h.stored j u
set_option maxRecDepth 100000 in
set_option maxHeartbeats 8000000 in
theorem law_SoftSigns (w : World) (va : Value) (A : List Int) (m : Int) (w0 : IntsIn .i64 w va A) (wm : (Lit.int .i64 m).wf = true) :
    Calls Try.prog 9 #[va, .int .i64 m] w fun e w' => e = .returned (.bool true) ∧ Below w.heap.size w w' := by
  have hnil : ∀ w (p : Value), (binOp .eql 57 (.func (.func 48) #[] #[p]) .nilFunc).run Try.prog w = .ok (.bool false) w := fun _ _ => by kernel_rfl
  obtain ⟨hva, hlA, -⟩ := w0
  by_cases hbig : 500 < A.length
  · obtain ⟨aa, ca, rfl, _⟩ := hva
    rw [List.length_map]
    have hd : decide (500 < A.length) = true := decide_eq_true hbig
    have Hb := hid hbig
    refine calls_of_wp_marks Try.func9 rfl ?_
    simp only [Try.ntmps9, List.size_toArray, List.length_cons, List.length_nil, Nat.reduceAdd, Nat.reduceSub, Array.replicate_succ, Array.replicate_zero, List.push_toArray, List.append_toArray, List.nil_append, List.cons_append]
    go_wp2_with fail
    refine (works11 _).mono ?_
    rintro r w1 ⟨rfl, B1⟩
    have HR := hid (show Blk w1 (w.heap.size + 1) 4 #[.bool false] from Blk.below (by have := Blk.new (w.alloc (.cells #[.int .i64 m] 3)) 4 #[.bool false]; rw [World.size_alloc] at this; exact this) B1 (by simp))
    have c0 : w1.cell? ⟨w.heap.size + 1, 0, none⟩ = some (.bool false) := HR.out.cell 0
    have f0 : w1.frozen? ⟨w.heap.size + 1, 0, none⟩ = false := HR.out.frozen 0
    have HB := hid (up_alloc (up_alloc B1))
    clear B1
    go_wp2
    have F : Fr (fun k => k = w.heap.size + 1) w1 (w1.setCell ⟨w.heap.size + 1, 0, none⟩ (.bool true)) := Fr.setCell (S := fun k => k = w.heap.size + 1) _ ⟨w.heap.size + 1, 0, none⟩ _ rfl
    have kE := (HR.out.set_ 0 (.bool true)).cell 0
    simp only [List.setIfInBounds_toArray, List.set_cons_zero, List.getElem?_toArray, List.getElem?_cons_zero] at kE
    exact bodyPostM_ret0 rfl (v := .bool true) (by simp [results, Try.results9, go_sem, kE]) ⟨rfl, HB.out.trans (F.below HB.out.size (fun j hj e => by omega))⟩
  obtain ⟨M, hM⟩ : ∃ M : Nat, (M : Int) = if 1 < m then m else 1 := ⟨(if 1 < m then m else 1).toNat, by split <;> omega⟩
  have hmx := hid (show (if 1 < m then m else 1) = (M : Int) by split <;> omega)
  have hM1 : 1 ≤ M := by split at hM <;> omega
  have hMm := hid (show ∀ k : Nat, (decide (m ≤ ((k : Int) + 1)) = true ↔ M ≤ k + 1) from fun k => by rw [decide_eq_true_iff]; split at hM <;> omega)
  have hl5 : A.length ≤ 500 := by omega
  have HB0l := hid (Soft.own_len A)
  have hBA := hid (show ∀ i, i < (Soft.own A).length → (Soft.own A).getD i 0 = A.getD i 0 by
    intro i hi
    unfold Soft.own at hi ⊢
    split at hi
    · simp at hi
    · rename_i h; rw [if_neg h])
  have KH := hid (fun w hva => refHard_any w va A hva (by omega))
  have hHard := Soft.hard_own A
  have hva1 := hva
  obtain ⟨aa, ca, rfl, _⟩ := hva
  have HV0 := hid hva1
  rw [List.length_map] at HV0 KH ⊢
  obtain ⟨B, hB⟩ : ∃ B, B = Soft.own A := ⟨_, rfl⟩
  rw [← hB] at hHard HB0l hBA
  obtain ⟨N, hN⟩ : ∃ N, B.length = N := ⟨_, rfl⟩
  rw [hN] at hHard HB0l hBA
  have HN := hid hN
  have HBe := hid hB
  rw [hHard] at KH
  have hNA := HB0l.out
  clear hB hHard hva1 wm hM HB0l hlA hN
  refine calls_of_wp_marks Try.func9 rfl ?_
  simp only [Try.ntmps9, List.size_toArray, List.length_cons, List.length_nil, Nat.reduceAdd, Nat.reduceSub, Array.replicate_succ, Array.replicate_zero, List.push_toArray, List.append_toArray, List.nil_append, List.cons_append]
  go_wp2_with fail
  refine (KH.out _ (HV0.out.below ((below_alloc w _).trans ((below_alloc _ _).mono (by simp))) (Nat.le_refl _))).mono ?_
  rintro r w1 ⟨⟨vh, rfl, hVh⟩, Bz⟩
  have HC1 := hid (show Blk w1 w.heap.size 3 #[.int .i64 m] from Blk.below (Blk.fr (Blk.new w _ _) (Fr.alloc (fun _ => False) _ _) (fun h => h)) Bz (by simp; omega))
  have HE1 := hid (show Blk w1 (w.heap.size + 1) 4 #[.bool false] from Blk.below (by have := Blk.new (w.alloc (.cells #[.int .i64 m] 3)) 4 #[.bool false]; rw [World.size_alloc] at this; exact this) Bz (by simp))
  have HB1 := hid (up_alloc (up_alloc Bz))
  have hVh2 := hVh
  obtain ⟨ah, ch, rfl, _⟩ := hVh
  have HVh1 := hid hVh2
  rw [List.length_map, Soft.tab_len] at HVh1 ⊢
  have hs1 : w.heap.size + 1 < w1.heap.size := HE1.out.lt
  generalize (Soft.hardR A).2 = er
  clear Bz hVh2
  go_wp2
  generalize hW : World.alloc _ _ = w2
  have F : Fr (fun _ => False) w1 w2 := by rw [← hW]; exact (Fr.alloc _ _ _).trans (Fr.alloc _ _ _)
  have HHb := hid (show Blk w2 w1.heap.size 38 #[.slice ah N ch] by rw [← hW]; exact Blk.fr (Blk.new w1 _ _) (Fr.alloc (fun _ => False) _ _) (fun h => h))
  have HAb := hid (show Blk w2 (w1.heap.size + 1) 26 #[.slice none 0 0] by rw [← hW]; have := Blk.new (w1.alloc (.cells #[.slice ah N ch] 38)) 26 #[.slice none 0 0]; rw [World.size_alloc] at this; exact this)
  have HC2 := hid (HC1.out.fr F (fun h => h))
  have HE2 := hid (HE1.out.fr F (fun h => h))
  have HB2 := hid (HB1.out.trans (F.below HB1.out.size (fun _ _ h => h)))
  have HV2 := hid (HV0.out.below HB2.out (Nat.le_refl _))
  have HB12 := hid (F.below (B := w1.heap.size) (Nat.le_refl _) (fun _ _ h => h))
  have hs2 : w1.heap.size + 1 < w2.heap.size := HAb.out.lt
  clear hW F HC1 HE1 HB1
  go_loopw [8] (fun i wr => ∃ k : Nat, k ≤ N ∧ i = .int .i64 k ∧ (∃ v, Blk wr (w1.heap.size + 1) 26 #[v] ∧ OwnL wr w2.heap.size 3 v ((Gr.sel (Soft.nzp B) k).map (Value.int .i64))) ∧ Fr (fun j => j = w1.heap.size + 1) w2 wr) (fun i _ => N - (intOf i).toNat)
  case atStart => exact ⟨0, Nat.zero_le _, rfl, ⟨_, HAb.out, OwnL.nil _ _ _⟩, Fr.refl _ _⟩
  case round =>
    obtain ⟨k, hk, rfl, ⟨v, hAt, hown⟩, hF⟩ := hrel
    have c5 : wr.cell? ⟨w1.heap.size, 0, none⟩ = some (.slice ah N ch) := (HHb.out.fr hF (by omega)).cell 0
    have c6 : wr.cell? ⟨w1.heap.size + 1, 0, none⟩ = some v := hAt.cell 0
    by_cases hlt : k < N
    · obtain ⟨b1, o1, c1, e1, hx⟩ := vw_at HV0.out (show k < A.length by omega)
      cases e1
      have hx2 := (HB2.out.cell (p := ⟨b1, o1 + k, none⟩) (World.block_lt_of_cell? w _ hx)).trans hx
      have hbl := World.block_lt_of_cell? w _ hx
      have hxr := (hF.cell (p := ⟨b1, o1 + k, none⟩) (World.block_lt_of_cell? w2 _ hx2) (fun e => by dsimp only at e hbl; omega)).trans hx2
      have HY := hid (@Gr.sel_yes (Soft.nzp B) k)
      have HNo := hid (@Gr.sel_no (Soft.nzp B) k)
      have HL := hid (Gr.sel_len (Soft.nzp B) k)
      have HNl := hid (show ((Gr.sel (Soft.nzp B) k).map (Value.int .i64)).length = (Gr.sel (Soft.nzp B) k).length by simp)
      have HNz := hid (show Soft.nzp B k = (A.getD k 0 != 0) by unfold Soft.nzp; rw [hBA.out k hlt])
      generalize A.getD k 0 = x at *
      have HO := hid hown
      have HF := hid hF
      have HAt := hid hAt
      clear hown hx hx2 hF hbl hAt
      cases hp : (x != 0) with
      | false =>
        have hd2 : (x == 0) = true := by simpa using hp
        have HP := hid (HNz.out.trans hp)
        clear HNz
        go_wp2
        go_roundw
        case rel => exact ⟨k + 1, by omega, by go_num, ⟨v, HAt.out, by rw [HNo.out HP.out]; exact HO.out⟩, HF.out⟩
        case measure => simp [intOf]; omega
      | true =>
        have hd2 : (x == 0) = false := by simpa using hp
        have HP := hid (HNz.out.trans hp)
        have hsz := HF.out.size
        have hlen := HL.out
        have hne : ∀ g, v.ownBlock = some g → ¬ g = w1.heap.size + 1 := fun g e => by have := (HO.out.block e).1; omega
        have HNe := hid hne
        clear HNz hne
        go_wp2_with (at_builtin; refine wpList_append_one rfl ielem_map (.tmp 36) (.tmp 38) rfl w2.heap.size _ _ _ HNl.out rfl HO.out _ rfl rfl (by omega) (by omega) hsz ?_; intro g1 cap1 w3 hown3 hf; have HA3 := hid (HAt.out.fr hf (fun e => HNe.out _ e rfl)); have HO3 := hid hown3; have HF3 := hid (show Fr (fun j => j = w1.heap.size + 1) w2 w3 from (Fr.trans (S := fun j => j = w1.heap.size + 1 ∨ w2.heap.size ≤ j) (HF.out.mono (fun _ _ e => .inl e)) (hf.mono (fun k' _ e => .inr (HO.out.block e).1))).mono (fun k' hk' e => e.elim id (fun h => absurd h (Nat.not_le.2 hk')))); clear hf hown3; have d6 : w3.cell? ⟨w1.heap.size + 1, 0, none⟩ = some v := HA3.out.cell 0; have d7 : w3.frozen? ⟨w1.heap.size + 1, 0, none⟩ = false := HA3.out.frozen 0)
        have F3 : ∀ u, Fr (fun j => j = w1.heap.size + 1) w3 (w3.setCell ⟨w1.heap.size + 1, 0, none⟩ u) := fun u => Fr.setCell (S := fun j => j = w1.heap.size + 1) _ ⟨w1.heap.size + 1, 0, none⟩ _ rfl
        go_roundw
        case rel => exact ⟨k + 1, by omega, by go_num, ⟨_, HA3.out.set_ 0 _, by rw [HY.out HP.out, List.map_append]; exact HO3.out.fr (F3 _) (fun g e => by simp [Value.ownBlock] at e; have := (HO3.out.block (g := g1) rfl).1; omega)⟩, HF3.out.trans (F3 _)⟩
        case measure => simp [intOf]; omega
    · obtain rfl : N = k := by omega
      obtain ⟨wq, hwq⟩ : ∃ wq, wq = wr := ⟨_, rfl⟩
      subst hwq
      have hPle := Gr.sel_len (Soft.nzp B) N
      have HPg0 := hid (fun i (hi : i < (Gr.sel (Soft.nzp B) N).length) => Gr.sel_get hi)
      have HSel := hid (show Gr.sel (Soft.nzp B) B.length = Gr.sel (Soft.nzp B) N by rw [HN.out])
      generalize Gr.sel (Soft.nzp B) N = P at *
      obtain ⟨n, hn⟩ : ∃ n, P.length = n := ⟨_, rfl⟩
      have Hn := hid hn
      rw [hn] at HPg0 hPle
      have hn5 : n ≤ 500 := by omega
      obtain ⟨pa, pc, rfl, _⟩ := hown.vw
      rw [List.length_map, hn] at hown hAt c6
      have HOq := hid hown
      have HAq := hid hAt
      have HHq := hid (HHb.out.fr hF (by omega))
      have HCq := hid (HC2.out.fr hF (by omega))
      have HEq := hid (HE2.out.fr hF (by omega))
      have HBq := hid (HB2.out.trans (hF.below HB2.out.size (fun j hj e => by omega)))
      have HVq := hid (HV0.out.below HBq.out (Nat.le_refl _))
      have HVhq := hid (HVh1.out.below (HB12.out.trans (hF.below HB12.out.size (fun j hj e => by omega))) (Nat.le_refl _))
      have hsq : w2.heap.size ≤ wq.heap.size := hF.size
      clear hown hAt hF hn
      go_wp2_with (at_builtin; refine wpList_copy_list rfl ielem_map (.tmp 40) (.tmp 41) rfl rfl _ (A.map (Value.int .i64)) rfl HVq.out (one_ints _ _) (by simp; omega) (by simp; omega) ?_; intro v4 w4 O4 B4; obtain ⟨a4, c4, rfl⟩ := O4.is_slice; have HO4 := hid O4; have HB4 := hid B4; rw [List.length_map] at HO4 ⊢; clear O4 B4)
      refine (signs_any w4 _ A HO4.out.vw (by omega)).mono ?_
      rintro r w5 ⟨⟨u, rfl, hU, hVU⟩, Bz⟩
      have hq4 : wq.heap.size ≤ w4.heap.size := HB4.out.size
      have HG4 := hid (show ∀ j, (Value.slice a4 A.length c4).ownBlock = some j → wq.heap.size ≤ j ∧ j < w4.heap.size from fun j e => HO4.out.block e)
      have HU := hid hU
      have HVU := hid hVU
      have HB45 := hid (HB4.out.trans (Bz.mono hq4))
      have HO5 := hid (HO4.out.fr (Fr.of_below Bz) (fun g e => by have := (HO4.out.block e).2; omega))
      have hU5 : w4.heap.size < w5.heap.size := hU.lt
      clear hU hVU Bz HO4 c5 c6 hlt hk
      go_wp2
      go_loopw [11] (fun i wr => ∃ k : Nat, k ≤ A.length ∧ i = .int .i64 k ∧ (∃ L, L.length = A.length ∧ OwnL wr wq.heap.size 3 (.slice a4 A.length c4) L) ∧ Fr (fun j => (Value.slice a4 A.length c4).ownBlock = some j) w5 wr) (fun i _ => A.length - (intOf i).toNat)
      case atStart => exact ⟨0, Nat.zero_le _, rfl, ⟨_, by rw [List.length_map], HO5.out⟩, Fr.refl _ _⟩
      case round =>
        obtain ⟨k, hk, rfl, ⟨L, hL, hown⟩, hF⟩ := hrel
        by_cases hlt : k < A.length
        · obtain ⟨g4, cap4, e4⟩ := hown.shape A.length hL (by omega)
          have hst := hid (hown.stored' e4 k (.int .i64 0))
          cases e4
          obtain ⟨x0, d0⟩ : ∃ x, wr.cell? ⟨g4, k, none⟩ = some x := ⟨_, hown.at k (by omega)⟩
          have d1 := hown.free k
          have HF := hid hF
          have HL := hid hL
          clear hown hF hL
          go_wp2
          have F3 : ∀ u, Fr (fun j => (Value.slice (some ⟨g4, 0, none⟩) A.length c4).ownBlock = some j) wr (wr.setCell ⟨g4, k, none⟩ u) := fun u => Fr.setCell (S := fun j => (Value.slice (some ⟨g4, 0, none⟩) A.length c4).ownBlock = some j) _ ⟨g4, k, none⟩ _ rfl
          go_roundw
          case rel => exact ⟨k + 1, by omega, by go_num, ⟨_, by rw [List.length_set]; exact HL.out, hst.out⟩, HF.out.trans (F3 _)⟩
          case measure => simp [intOf]; omega
        · obtain rfl : k = A.length := by omega
          obtain ⟨wC, hwC⟩ : ∃ wC, wC = wr := ⟨_, rfl⟩
          subst hwC
          have hF6 : Fr (fun j => wq.heap.size ≤ j ∧ j < w4.heap.size) w5 wC := hF.mono (fun k _ e => HG4.out k e)
          have hqC : Below wq.heap.size wq wC := HB45.out.trans (hF6.below HB45.out.size (fun j hj e => by omega))
          have HBC := hid (HBq.out.trans (hqC.mono HBq.out.size))
          have HCC := hid (HCq.out.below hqC HCq.out.lt)
          have HRes := hid (HEq.out.below hqC HEq.out.lt)
          have HKM := hid HCC.out.lt
          have HKR := hid (show w.heap.size ≤ w.heap.size + 1 by omega)
          have HAC := hid (HAq.out.below hqC HAq.out.lt)
          have HHC := hid (HHq.out.below hqC HHq.out.lt)
          have HVP := hid (HOq.out.vw.below hqC (Nat.le_refl _))
          have HVH := hid (HVhq.out.below hqC (Nat.le_refl _))
          have HUC := hid (HU.out.fr hF6 (by omega))
          have HVUC := hid (HVU.out.vw.fr hF6 (fun b off n' c e h => by have := HVU.out.hi b off n' c e; omega))
          have HK := hid (show ∀ W, Below wC.heap.size wC W → W.cell? ⟨w.heap.size, 0, none⟩ = some (.int .i64 m) ∧ W.cell? ⟨w1.heap.size + 1, 0, none⟩ = some (.slice pa n pc) ∧ Vw W (.slice pa n pc) (P.map (Value.int .i64)) ∧ W.cell? ⟨w1.heap.size, 0, none⟩ = some (.slice ah N ch) ∧ Vw W (.slice ah N ch) ((Soft.tab (Soft.hardG B) N).map (Value.int .u8)) from fun W hW =>
            ⟨(HCC.out.below hW HCC.out.lt).cell 0, (HAC.out.below hW HAC.out.lt).cell 0, HVP.out.below hW (Nat.le_refl _), (HHC.out.below hW HHC.out.lt).cell 0, HVH.out.below hW (Nat.le_refl _)⟩)
          rw [← HBe.out] at HVUC
          obtain ⟨f, hf⟩ : ∃ f : Nat → Int, ∀ k, f k = P.getD k 0 := ⟨fun k => P.getD k 0, fun _ => rfl⟩
          obtain ⟨g, hg⟩ : ∃ g : Nat → Int, ∀ k, g k = Soft.sgn (B.getD (P.getD k 0).toNat 0) := ⟨fun k => Soft.sgn (B.getD (P.getD k 0).toNat 0), fun _ => rfl⟩
          have Hf := hid hf
          have Hg := hid hg
          have hit := signs1_iter B (by rw [HN.out]; omega) w4.heap.size u (fun j => j < wC.heap.size) HUC.out.lt HVUC.out.lt wC (HUC.out.cell 0) HVUC.out (fun j hj => hj)
          rw [HSel.out, Hn.out] at hit
          rw [show (fun k : Nat => (#[.int .i64 (P.getD k 0), .int .u8 (Soft.sgn (B.getD (P.getD k 0).toNat 0))] : Array Value)) = (fun k => #[.int .i64 (f k), .int .u8 (g k)]) from funext fun k => by rw [hf, hg]] at hit
          have HIT := hid hit
          have HNb := hid (show N ≤ 100000 by omega)
          have HPg := hid (show ∀ k, k < n → ∃ j : Nat, P.getD k 0 = (j : Int) ∧ j < N from fun k hk => by obtain ⟨j, h1, h2, _⟩ := HPg0.out k hk; exact ⟨j, h1, h2⟩)
          clear hf hg hit hF6 hqC hown hF hL
          go_wp2_with fail
          generalize hW : World.alloc _ _ = w0
          have HT0 := hid (show Blk w0 wC.heap.size 3 #[.int .i64 0] by rw [← hW]; exact Blk.new wC _ _)
          have HB0 := hid (show Below wC.heap.size wC w0 by rw [← hW]; exact below_alloc _ _)
          clear hW
          refine wp_loop_rounds 3 ?_
          rw [rounds_succ]
          have q0 : w0.cell? ⟨wC.heap.size, 0, none⟩ = some (.int .i64 0) := HT0.out.cell 0
          go_wp2_with fail
          generalize hW : World.alloc _ _ = wR0
          have F : Fr (fun _ => False) w0 wR0 := by rw [← hW]; exact Fr.alloc _ _ _
          have HN0 := hid (show Blk wR0 w0.heap.size 3 #[.int .i64 (0 : Nat)] by rw [← hW]; exact Blk.new w0 _ _)
          have HTR0 := hid (HT0.out.fr F (fun h => h))
          skip
          have HBR0 := hid (HB0.out.trans (F.below HB0.out.size (fun _ _ h => h)))
          have hsR0 : w0.heap.size < wR0.heap.size := HN0.out.lt
          have hsC0 : wC.heap.size ≤ w0.heap.size := HB0.out.size
          have htb0 : wC.heap.size < w0.heap.size := HT0.out.lt
          clear hW F q0
          refine (wpIn_wide (n := 1)).1 ?_
          refine wpIn_range (gf := 48) (lb := #[.pointer (some ⟨w4.heap.size, 0, none⟩)]) rfl (enters_of Try.func48 (by kernel_rfl) rfl) HIT.out HBR0.out (fun _ => rfl)
            (fun k V => Blk V w0.heap.size 3 #[.int .i64 (k : Nat)] ∧ Blk V wC.heap.size 3 #[.int .i64 0] ∧ Below wC.heap.size wC V ∧ (k = 0 ∨ k < M) ∧ wR0.heap.size ≤ V.heap.size)
            (fun k c V => c = .exit 6 ∧ Blk V w0.heap.size 3 #[.int .i64 (k : Nat)] ∧ Blk V wC.heap.size 3 #[.int .i64 0] ∧ Below wC.heap.size wC V ∧ (k = M ∧ k ≤ n) ∧ wR0.heap.size ≤ V.heap.size)
            (fun k A V h hf => ⟨h.1.fr hf (by omega), h.2.1.fr hf (by omega), h.2.2.1.trans (hf.below h.2.2.1.size (fun j hj h' => by omega)), h.2.2.2.1, Nat.le_trans h.2.2.2.2 hf.size⟩)
            (fun k c A V h hf => ⟨h.1, h.2.1.fr hf (by omega), h.2.2.1.fr hf (by omega), h.2.2.2.1.trans (hf.below h.2.2.2.1.size (fun j hj h2 => by omega)), h.2.2.2.2.1, Nat.le_trans h.2.2.2.2.2 hf.size⟩)
            ⟨HN0.out, HTR0.out, HBR0.out, .inl rfl, Nat.le_refl _⟩ (fun h => by cases h) ?a10 ?assign0 ?body0 ?done0 ?stop0
          case assign0 =>
            intro l k V K hK
            gi_wp2
            exact hK
          case body0 =>
            rintro l k V hk ⟨hKk, hT, hB, hcond, hVs2⟩ hVs
            have hlt := hk n rfl
            obtain ⟨c1, c2, hV, c3, hH⟩ := HK.out _ hB
            obtain ⟨b1, o1, cc, e1, hx⟩ := vw_at hV (show k < P.length by rw [Hn.out]; exact hlt)
            rw [Hn.out] at e1
            cases e1
            obtain ⟨j, hj, hjl⟩ := HPg.out k hlt
            obtain ⟨b2, o2, cd, e2, hy⟩ := vw_at hH (show j < (Soft.tab (Soft.hardG B) N).length by rw [Soft.tab_len]; exact hjl)
            rw [Soft.tab_len] at e2
            cases e2
            rw [Soft.tab_at _ hjl] at hy
            have hgk := Hg.out k
            rw [hj, Int.toNat_natCast, ← show Soft.hardG B j = Soft.sgn (B.getD j 0) from rfl] at hgk
            rw [← hgk] at hy
            have hfk := Hf.out k
            rw [hj] at hfk hx
            rw [hfk]
            generalize g k = z at *
            have hjb : j ≤ 100000 := by have := HNb.out; omega
            clear hV hH hgk hfk hj
            have k0 : V.cell? ⟨w0.heap.size, 0, none⟩ = some (.int .i64 k) := hKk.cell 0
            have kf : V.frozen? ⟨w0.heap.size, 0, none⟩ = false := hKk.frozen 0
            have q0 : V.cell? ⟨wC.heap.size, 0, none⟩ = some (.int .i64 0) := hT.cell 0
            have HKk := hid hKk
            have HT := hid hT
            have HB := hid hB
            have Hc := hid hcond
            have HVs := hid hVs2
            have hd0 : decide ((n : Int) ≤ (k : Int)) = false := decide_eq_false (by omega)
            have hd00 : decide (n ≤ k) = false := decide_eq_false (by omega)
            have hk5 : k ≤ 100000 := by omega
            have n3 : ¬ wC.heap.size = w0.heap.size := by omega
            have n5 : ¬ w.heap.size = w0.heap.size := by have := HKM.out; omega
            clear hKk hT hB hcond hk HIT hVs2
            by_cases hbr : M ≤ k + 1
            · have hd : decide (m ≤ (k : Int) + 1) = true := (hMm.out k).2 hbr
              have Hbr := hid hbr
              have Hlt := hid hlt
              clear hbr
              gi_wp2
              generalize hW : World.setCell _ _ _ = W5
              obtain ⟨hK5, hF5⟩ := n_post HKk.out hW
              have hlt := Hlt.out
              have hbr := Hbr.out
              have hcd := Hc.out
              exact ⟨KeepT.of_fr hF5 (fun j hj h => by omega), rfl, hK5, HT.out.fr hF5 (by omega), HB.out.trans (hF5.below HB.out.size (fun j hj h => by omega)), ⟨by omega, by omega⟩, Nat.le_trans HVs.out hF5.size⟩
            · have hd : decide (m ≤ (k : Int) + 1) = false := by cases h : decide (m ≤ (k : Int) + 1); rfl; exact absurd ((hMm.out k).1 h) hbr
              have Hbr := hid hbr
              clear hbr
              gi_wp2
              generalize hW : World.setCell _ _ _ = W5
              obtain ⟨hK5, hF5⟩ := n_post HKk.out hW
              have hbr := Hbr.out
              exact ⟨KeepT.of_fr hF5 (fun j hj h => by omega), hK5, HT.out.fr hF5 (by omega), HB.out.trans (hF5.below HB.out.size (fun j hj h => by omega)), .inr (by omega), Nat.le_trans HVs.out hF5.size⟩
          case done0 =>
            rintro D0 n' V0 hn' ⟨hKk, hT, hB, hcond, hVs⟩ hD hDl
            obtain rfl : n = n' := by cases hn'; rfl
            have hmin := hid (show (if M < n then (M : Int) else (n : Int)) = ((n : Nat) : Int) by split <;> omega)
            have HKV0 := hid hKk
            have HTV0 := hid hT
            have HBV0 := hid hB
            have HD0 := hid hD
            have hsV0 := hVs
            clear hcond
            clear hKk hT hB hD hVs
            obtain ⟨c1, c2, -⟩ := HK.out _ HBV0.out
            have q0 : V0.cell? ⟨wC.heap.size, 0, none⟩ = some (.int .i64 0) := HTV0.out.cell 0
            have qf : V0.frozen? ⟨wC.heap.size, 0, none⟩ = false := HTV0.out.frozen 0
            have k0 : V0.cell? ⟨w0.heap.size, 0, none⟩ = some (.int .i64 n) := HKV0.out.cell 0
            have m2 := hmx.out
            have m3 := hmin.out
            go_wp2_with fail
            generalize hW : World.alloc _ _ = wT
            have HT1 := hid (show Blk wT V0.heap.size 3 #[.int .i64 1] by rw [← hW]; exact Blk.new V0 _ _)
            have F : Fr (fun _ => False) V0 wT := by rw [← hW]; exact Fr.alloc _ _ _
            have HB1 := hid (HBV0.out.trans (F.below HBV0.out.size (fun _ _ h => h)))
            have HDT := hid ((F.block D0 (Array.getElem?_eq_some_iff.1 HD0.out).1 (fun h => h)).trans HD0.out)
            have hD0l := (Array.getElem?_eq_some_iff.1 HD0.out).1
            clear hW F c1 c2 q0 qf k0 m2 m3 HTV0 HKV0
            rw [rounds_succ]
            have q0 : wT.cell? ⟨V0.heap.size, 0, none⟩ = some (.int .i64 1) := HT1.out.cell 0
            go_wp2_with fail
            generalize hW : World.alloc _ _ = wR1
            have F : Fr (fun _ => False) wT wR1 := by rw [← hW]; exact Fr.alloc _ _ _
            have HN1 := hid (show Blk wR1 wT.heap.size 3 #[.int .i64 (0 : Nat)] by rw [← hW]; exact Blk.new wT _ _)
            have HTR1 := hid (HT1.out.fr F (fun h => h))
            have HDR1 := hid ((F.block D0 (Array.getElem?_eq_some_iff.1 HDT.out).1 (fun h => h)).trans HDT.out)
            have HBR1 := hid (HB1.out.trans (F.below HB1.out.size (fun _ _ h => h)))
            have hsR1 : wT.heap.size < wR1.heap.size := HN1.out.lt
            have hsC1 : wC.heap.size ≤ wT.heap.size := HB1.out.size
            have htb1 : V0.heap.size < wT.heap.size := HT1.out.lt
            clear hW F q0
            refine (wpIn_wide (n := 1)).1 ?_
            refine wpIn_range (gf := 48) (lb := #[.pointer (some ⟨w4.heap.size, 0, none⟩)]) rfl (enters_of Try.func48 (by kernel_rfl) rfl) HIT.out HBR1.out (fun _ => rfl)
              (fun k V => Blk V wT.heap.size 3 #[.int .i64 (k : Nat)] ∧ Blk V V0.heap.size 3 #[.int .i64 1] ∧ Below wC.heap.size wC V ∧ V.heap[D0]? = some (.deferred (some [])) ∧ wR1.heap.size ≤ V.heap.size)
              (fun k c V => False)
              (fun k A V h hf => ⟨h.1.fr hf (by omega), h.2.1.fr hf (by omega), h.2.2.1.trans (hf.below h.2.2.1.size (fun j hj h' => by omega)), (hf.block D0 (Array.getElem?_eq_some_iff.1 h.2.2.2.1).1 (by omega)).trans h.2.2.2.1, Nat.le_trans h.2.2.2.2 hf.size⟩)
              (fun k c A V h hf => h)
              ⟨HN1.out, HTR1.out, HBR1.out, HDR1.out, Nat.le_refl _⟩ (fun h => by cases h) ?a11x ?assign1x ?body1x ?done1x (fun _ _ _ _ h => h.elim)
            case assign1x =>
              intro l k V K hK
              gi_wp2
              exact hK
            case body1x =>
              rintro l k V hk ⟨hKk, hT, hB, hcond, hVs2⟩ hVs
              have hlt := hk n rfl
              obtain ⟨c1, c2, hV, c3, hH⟩ := HK.out _ hB
              obtain ⟨b1, o1, cc, e1, hx⟩ := vw_at hV (show k < P.length by rw [Hn.out]; exact hlt)
              rw [Hn.out] at e1
              cases e1
              obtain ⟨j, hj, hjl⟩ := HPg.out k hlt
              obtain ⟨b2, o2, cd, e2, hy⟩ := vw_at hH (show j < (Soft.tab (Soft.hardG B) N).length by rw [Soft.tab_len]; exact hjl)
              rw [Soft.tab_len] at e2
              cases e2
              rw [Soft.tab_at _ hjl] at hy
              have hgk := Hg.out k
              rw [hj, Int.toNat_natCast, ← show Soft.hardG B j = Soft.sgn (B.getD j 0) from rfl] at hgk
              rw [← hgk] at hy
              have hfk := Hf.out k
              rw [hj] at hfk hx
              rw [hfk]
              generalize g k = z at *
              have hjb : j ≤ 100000 := by have := HNb.out; omega
              clear hV hH hgk hfk hj
              have k0 : V.cell? ⟨wT.heap.size, 0, none⟩ = some (.int .i64 k) := hKk.cell 0
              have kf : V.frozen? ⟨wT.heap.size, 0, none⟩ = false := hKk.frozen 0
              have q0 : V.cell? ⟨V0.heap.size, 0, none⟩ = some (.int .i64 1) := hT.cell 0
              have HKk := hid hKk
              have HT := hid hT
              have HB := hid hB
              have Hc := hid hcond
              have HVs := hid hVs2
              have hd0 : decide ((n : Int) ≤ (k : Int)) = false := decide_eq_false (by omega)
              have hd00 : decide (n ≤ k) = false := decide_eq_false (by omega)
              have hk5 : k ≤ 100000 := by omega
              have n3 : ¬ V0.heap.size = wT.heap.size := by omega
              have n5 : ¬ w.heap.size = wT.heap.size := by have := HKM.out; omega
              clear hKk hT hB hcond hk HIT hVs2
              gi_wp2
              generalize hW : World.setCell _ _ _ = W5
              obtain ⟨hK5, hF5⟩ := n_post HKk.out hW
              exact ⟨KeepT.of_fr hF5 (fun j hj h => by omega), hK5, HT.out.fr hF5 (by omega), HB.out.trans (hF5.below HB.out.size (fun j hj h => by omega)), (hF5.block D0 (Array.getElem?_eq_some_iff.1 Hc.out).1 (by omega)).trans Hc.out, Nat.le_trans HVs.out hF5.size⟩
            case done1x =>
              rintro D1 n' V1 hn' ⟨hKk, hT, hB, hcond, hVs⟩ hD hDl
              obtain rfl : n = n' := by cases hn'; rfl
              have HKV1 := hid hKk
              have HTV1 := hid hT
              have HBV1 := hid hB
              have HD1 := hid hD
              have hsV1 := hVs
              have HDV := hid hcond
              clear hcond
              clear hKk hT hB hD hVs
              obtain ⟨c1, c2, -⟩ := HK.out _ HBV1.out
              have q0 : V1.cell? ⟨V0.heap.size, 0, none⟩ = some (.int .i64 1) := HTV1.out.cell 0
              have qf : V1.frozen? ⟨V0.heap.size, 0, none⟩ = false := HTV1.out.frozen 0
              have k0 : V1.cell? ⟨wT.heap.size, 0, none⟩ = some (.int .i64 n) := HKV1.out.cell 0
              have m2 := hmx.out
              go_wp2_with fail
              rw [rounds_succ]
              go_wp2_with fail
              generalize hW : World.alloc _ _ = wE
              have F : Fr (fun _ => False) V1 wE := by rw [← hW]; exact Fr.alloc _ _ _
              have HBE := hid (HBV1.out.trans (F.below HBV1.out.size (fun _ _ h => h)))
              have HDE0 := hid ((F.block D0 (Array.getElem?_eq_some_iff.1 HDV.out).1 (fun h => h)).trans HDV.out)
              have HDE1 := hid ((F.block D1 (Array.getElem?_eq_some_iff.1 HD1.out).1 (fun h => h)).trans HD1.out)
              have hD10 : D1 ≠ D0 := by have := (Array.getElem?_eq_some_iff.1 HDT.out).1; omega
              clear hW F c1 c2 q0 qf k0 m2
              refine (works11 _).mono ?_
              rintro r we ⟨rfl, Be⟩
              have HBX := hid (below_then HBE.out Be)
              have HRw := hid (HRes.out.below HBX.out HRes.out.lt)
              have hd0 := hid ((Be.block D0 (Array.getElem?_eq_some_iff.1 HDE0.out).1).trans HDE0.out)
              have hd1 := hid ((Be.block D1 (Array.getElem?_eq_some_iff.1 HDE1.out).1).trans HDE1.out)
              have cz : we.cell? ⟨w.heap.size + 1, 0, none⟩ = some (.bool false) := HRw.out.cell 0
              have fz : we.frozen? ⟨w.heap.size + 1, 0, none⟩ = false := HRw.out.frozen 0
              have hDl0 : wC.heap.size ≤ D0 := by omega
              clear Be
              go_wp2
              have HRx := hid (HRw.out.set_ 0 (.bool true))
              have F : Fr (fun j => j = w.heap.size + 1) we (we.setCell ⟨w.heap.size + 1, 0, none⟩ (.bool true)) := Fr.setCell (S := fun j => j = w.heap.size + 1) we ⟨w.heap.size + 1, 0, none⟩ _ rfl
              have hRl := HRes.out.lt
              have hR0 := HKR.out
              have HD0' := hid ((F.block D0 (Array.getElem?_eq_some_iff.1 hd0.out).1 (by omega)).trans hd0.out)
              have HD1' := hid ((F.block D1 (Array.getElem?_eq_some_iff.1 hd1.out).1 (by omega)).trans hd1.out)
              have HBw := hid ((HBC.out.trans (HBX.out.mono HBC.out.size)).trans (F.below (Nat.le_trans HBC.out.size HBX.out.size) (fun j hj e => by omega)))
              have hwC := HBC.out.size
              clear F cz fz
              generalize World.setCell _ _ _ = wF at *
              have F1 : Fr (fun j => j = D1) wF (wF.putObj D1 (.deferred none)) := Fr.putObj wF D1 _ rfl
              have F2 : Fr (fun j => j = D0) (wF.putObj D1 (.deferred none)) ((wF.putObj D1 (.deferred none)).putObj D0 (.deferred none)) := Fr.putObj _ D0 _ rfl
              have kE := ((HRx.out.fr F1 (by omega)).fr F2 (by omega)).cell 0
              simp only [List.setIfInBounds_toArray, List.set_cons_zero, List.getElem?_toArray, List.getElem?_cons_zero] at kE
              exact bodyPostM_ret2 HD1'.out HD0'.out (fun e => hD10 e.symm) rfl (v := .bool true) (by simp [results, Try.results9, go_sem, kE]) ⟨rfl, (HBw.out.trans (F1.below HBw.out.size (fun j hj e => by omega))).trans (F2.below (Nat.le_trans HBw.out.size F1.size) (fun j hj e => by omega))⟩
          case stop0 =>
            rintro D0 c' k V0 ⟨rfl, hKk, hT, hB, ⟨hkM, hkn⟩, hVs⟩ hD hDl
            have hmin := hid (show (if M < n then (M : Int) else (n : Int)) = ((k : Nat) : Int) by split <;> omega)
            have HKV0 := hid hKk
            have HTV0 := hid hT
            have HBV0 := hid hB
            have HD0 := hid hD
            have hsV0 := hVs
            have Hkn := hid (And.intro hkM hkn)
            clear hkM hkn
            clear hKk hT hB hD hVs
            obtain ⟨c1, c2, -⟩ := HK.out _ HBV0.out
            have q0 : V0.cell? ⟨wC.heap.size, 0, none⟩ = some (.int .i64 0) := HTV0.out.cell 0
            have qf : V0.frozen? ⟨wC.heap.size, 0, none⟩ = false := HTV0.out.frozen 0
            have k0 : V0.cell? ⟨w0.heap.size, 0, none⟩ = some (.int .i64 k) := HKV0.out.cell 0
            have m2 := hmx.out
            have m3 := hmin.out
            gi_wp2
            go_wp2_with fail
            generalize hW : World.alloc _ _ = wT
            have HT1 := hid (show Blk wT V0.heap.size 3 #[.int .i64 1] by rw [← hW]; exact Blk.new V0 _ _)
            have F : Fr (fun _ => False) V0 wT := by rw [← hW]; exact Fr.alloc _ _ _
            have HB1 := hid (HBV0.out.trans (F.below HBV0.out.size (fun _ _ h => h)))
            have HDT := hid ((F.block D0 (Array.getElem?_eq_some_iff.1 HD0.out).1 (fun h => h)).trans HD0.out)
            have hD0l := (Array.getElem?_eq_some_iff.1 HD0.out).1
            clear hW F c1 c2 q0 qf k0 m2 m3 HTV0 HKV0
            rw [rounds_succ]
            have q0 : wT.cell? ⟨V0.heap.size, 0, none⟩ = some (.int .i64 1) := HT1.out.cell 0
            go_wp2_with fail
            generalize hW : World.alloc _ _ = wR1
            have F : Fr (fun _ => False) wT wR1 := by rw [← hW]; exact Fr.alloc _ _ _
            have HN1 := hid (show Blk wR1 wT.heap.size 3 #[.int .i64 (0 : Nat)] by rw [← hW]; exact Blk.new wT _ _)
            have HTR1 := hid (HT1.out.fr F (fun h => h))
            have HDR1 := hid ((F.block D0 (Array.getElem?_eq_some_iff.1 HDT.out).1 (fun h => h)).trans HDT.out)
            have HBR1 := hid (HB1.out.trans (F.below HB1.out.size (fun _ _ h => h)))
            have hsR1 : wT.heap.size < wR1.heap.size := HN1.out.lt
            have hsC1 : wC.heap.size ≤ wT.heap.size := HB1.out.size
            have htb1 : V0.heap.size < wT.heap.size := HT1.out.lt
            clear hW F q0
            refine (wpIn_wide (n := 1)).1 ?_
            refine wpIn_range (gf := 48) (lb := #[.pointer (some ⟨w4.heap.size, 0, none⟩)]) rfl (enters_of Try.func48 (by kernel_rfl) rfl) HIT.out HBR1.out (fun _ => rfl)
              (fun k V => Blk V wT.heap.size 3 #[.int .i64 (k : Nat)] ∧ Blk V V0.heap.size 3 #[.int .i64 1] ∧ Below wC.heap.size wC V ∧ V.heap[D0]? = some (.deferred (some [])) ∧ wR1.heap.size ≤ V.heap.size)
              (fun k c V => False)
              (fun k A V h hf => ⟨h.1.fr hf (by omega), h.2.1.fr hf (by omega), h.2.2.1.trans (hf.below h.2.2.1.size (fun j hj h' => by omega)), (hf.block D0 (Array.getElem?_eq_some_iff.1 h.2.2.2.1).1 (by omega)).trans h.2.2.2.1, Nat.le_trans h.2.2.2.2 hf.size⟩)
              (fun k c A V h hf => h)
              ⟨HN1.out, HTR1.out, HBR1.out, HDR1.out, Nat.le_refl _⟩ (fun h => by cases h) ?a11y ?assign1y ?body1y ?done1y (fun _ _ _ _ h => h.elim)
            case assign1y =>
              intro l k V K hK
              gi_wp2
              exact hK
            case body1y =>
              rintro l k V hk ⟨hKk, hT, hB, hcond, hVs2⟩ hVs
              have hlt := hk n rfl
              obtain ⟨c1, c2, hV, c3, hH⟩ := HK.out _ hB
              obtain ⟨b1, o1, cc, e1, hx⟩ := vw_at hV (show k < P.length by rw [Hn.out]; exact hlt)
              rw [Hn.out] at e1
              cases e1
              obtain ⟨j, hj, hjl⟩ := HPg.out k hlt
              obtain ⟨b2, o2, cd, e2, hy⟩ := vw_at hH (show j < (Soft.tab (Soft.hardG B) N).length by rw [Soft.tab_len]; exact hjl)
              rw [Soft.tab_len] at e2
              cases e2
              rw [Soft.tab_at _ hjl] at hy
              have hgk := Hg.out k
              rw [hj, Int.toNat_natCast, ← show Soft.hardG B j = Soft.sgn (B.getD j 0) from rfl] at hgk
              rw [← hgk] at hy
              have hfk := Hf.out k
              rw [hj] at hfk hx
              rw [hfk]
              generalize g k = z at *
              have hjb : j ≤ 100000 := by have := HNb.out; omega
              clear hV hH hgk hfk hj
              have k0 : V.cell? ⟨wT.heap.size, 0, none⟩ = some (.int .i64 k) := hKk.cell 0
              have kf : V.frozen? ⟨wT.heap.size, 0, none⟩ = false := hKk.frozen 0
              have q0 : V.cell? ⟨V0.heap.size, 0, none⟩ = some (.int .i64 1) := hT.cell 0
              have HKk := hid hKk
              have HT := hid hT
              have HB := hid hB
              have Hc := hid hcond
              have HVs := hid hVs2
              have hd0 : decide ((n : Int) ≤ (k : Int)) = false := decide_eq_false (by omega)
              have hd00 : decide (n ≤ k) = false := decide_eq_false (by omega)
              have hk5 : k ≤ 100000 := by omega
              have n3 : ¬ V0.heap.size = wT.heap.size := by omega
              have n5 : ¬ w.heap.size = wT.heap.size := by have := HKM.out; omega
              clear hKk hT hB hcond hk HIT hVs2
              gi_wp2
              generalize hW : World.setCell _ _ _ = W5
              obtain ⟨hK5, hF5⟩ := n_post HKk.out hW
              exact ⟨KeepT.of_fr hF5 (fun j hj h => by omega), hK5, HT.out.fr hF5 (by omega), HB.out.trans (hF5.below HB.out.size (fun j hj h => by omega)), (hF5.block D0 (Array.getElem?_eq_some_iff.1 Hc.out).1 (by omega)).trans Hc.out, Nat.le_trans HVs.out hF5.size⟩
            case done1y =>
              rintro D1 n' V1 hn' ⟨hKk, hT, hB, hcond, hVs⟩ hD hDl
              obtain rfl : n = n' := by cases hn'; rfl
              have HKV1 := hid hKk
              have HTV1 := hid hT
              have HBV1 := hid hB
              have HD1 := hid hD
              have hsV1 := hVs
              have HDV := hid hcond
              clear hcond
              clear hKk hT hB hD hVs
              obtain ⟨c1, c2, -⟩ := HK.out _ HBV1.out
              have q0 : V1.cell? ⟨V0.heap.size, 0, none⟩ = some (.int .i64 1) := HTV1.out.cell 0
              have qf : V1.frozen? ⟨V0.heap.size, 0, none⟩ = false := HTV1.out.frozen 0
              have k0 : V1.cell? ⟨wT.heap.size, 0, none⟩ = some (.int .i64 n) := HKV1.out.cell 0
              have m2 := hmx.out
              go_wp2_with fail
              rw [rounds_succ]
              go_wp2_with fail
              generalize hW : World.alloc _ _ = wE
              have F : Fr (fun _ => False) V1 wE := by rw [← hW]; exact Fr.alloc _ _ _
              have HBE := hid (HBV1.out.trans (F.below HBV1.out.size (fun _ _ h => h)))
              have HDE0 := hid ((F.block D0 (Array.getElem?_eq_some_iff.1 HDV.out).1 (fun h => h)).trans HDV.out)
              have HDE1 := hid ((F.block D1 (Array.getElem?_eq_some_iff.1 HD1.out).1 (fun h => h)).trans HD1.out)
              have hD10 : D1 ≠ D0 := by have := (Array.getElem?_eq_some_iff.1 HDT.out).1; omega
              clear hW F c1 c2 q0 qf k0 m2
              refine (works11 _).mono ?_
              rintro r we ⟨rfl, Be⟩
              have HBX := hid (below_then HBE.out Be)
              have HRw := hid (HRes.out.below HBX.out HRes.out.lt)
              have hd0 := hid ((Be.block D0 (Array.getElem?_eq_some_iff.1 HDE0.out).1).trans HDE0.out)
              have hd1 := hid ((Be.block D1 (Array.getElem?_eq_some_iff.1 HDE1.out).1).trans HDE1.out)
              have cz : we.cell? ⟨w.heap.size + 1, 0, none⟩ = some (.bool false) := HRw.out.cell 0
              have fz : we.frozen? ⟨w.heap.size + 1, 0, none⟩ = false := HRw.out.frozen 0
              have hDl0 : wC.heap.size ≤ D0 := by omega
              clear Be
              go_wp2
              have HRx := hid (HRw.out.set_ 0 (.bool true))
              have F : Fr (fun j => j = w.heap.size + 1) we (we.setCell ⟨w.heap.size + 1, 0, none⟩ (.bool true)) := Fr.setCell (S := fun j => j = w.heap.size + 1) we ⟨w.heap.size + 1, 0, none⟩ _ rfl
              have hRl := HRes.out.lt
              have hR0 := HKR.out
              have HD0' := hid ((F.block D0 (Array.getElem?_eq_some_iff.1 hd0.out).1 (by omega)).trans hd0.out)
              have HD1' := hid ((F.block D1 (Array.getElem?_eq_some_iff.1 hd1.out).1 (by omega)).trans hd1.out)
              have HBw := hid ((HBC.out.trans (HBX.out.mono HBC.out.size)).trans (F.below (Nat.le_trans HBC.out.size HBX.out.size) (fun j hj e => by omega)))
              have hwC := HBC.out.size
              clear F cz fz
              generalize World.setCell _ _ _ = wF at *
              have F1 : Fr (fun j => j = D1) wF (wF.putObj D1 (.deferred none)) := Fr.putObj wF D1 _ rfl
              have F2 : Fr (fun j => j = D0) (wF.putObj D1 (.deferred none)) ((wF.putObj D1 (.deferred none)).putObj D0 (.deferred none)) := Fr.putObj _ D0 _ rfl
              have kE := ((HRx.out.fr F1 (by omega)).fr F2 (by omega)).cell 0
              simp only [List.setIfInBounds_toArray, List.set_cons_zero, List.getElem?_toArray, List.getElem?_cons_zero] at kE
              exact bodyPostM_ret2 HD1'.out HD0'.out (fun e => hD10 e.symm) rfl (v := .bool true) (by simp [results, Try.results9, go_sem, kE]) ⟨rfl, (HBw.out.trans (F1.below HBw.out.size (fun j hj e => by omega))).trans (F2.below (Nat.le_trans HBw.out.size F1.size) (fun j hj e => by omega))⟩
end Go.Proofs.Ytmbjcpppbgapbaa
