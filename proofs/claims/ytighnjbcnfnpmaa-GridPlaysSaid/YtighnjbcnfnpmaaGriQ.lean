/- userplaneref17: Put, Get, Load. -/
import Derived.Test.YtighnjbcnfnpmaaGriP
import Derived.Deep.RegionLaw
namespace Go.Proofs.Ytighnjbcnfnpmaa
open Go.RowKit Go.Shelf
set_option linter.unusedVariables false
attribute [local go_sem ↓] Go.wp_at_zero Go.wp_at_succ
theorem step_append_one2 {P : Program} {ops : Array Oper} {o : Oper} {a : Act} {w : World} {K : Act → World → Prop} {Q : Exit → Act → World → Prop} {E' : Prop} (hg : o.guard = none) {t e : TypeId} (E : Elem2 P t e) (s x : Operand)
    (ho : o.op = .call { callee := .builtin .append, args := #[s, x], argTypes := #[t, t] })
    (base : Nat) (v : Value) (n : Nat) (xs : List Pt) (hn : xs.length = n) (hs : a.eval s = v) (hown : POwn w base e v xs) (px py : Int)
    (hx : a.eval x = .slice (some ⟨w.heap.size, 0, none⟩) 1 1) (hlen : (n + 1) * 16 ≤ 140737488355328) (hbase : base ≤ w.heap.size)
    (hK : ∀ g cap w', POwn w' base e (.slice (some ⟨g, 0, none⟩) (n + 1) cap) (xs ++ [(px, py)]) → Fr (fun k => v.ownBlock = some k) w w' → K (a.put o.dst (.slice (some ⟨g, 0, none⟩) (n + 1) cap)) w') :
    if Region.wanted o (yielded ops a.tmps) = true then Oper.wp P o a (w.alloc (.cells #[.int .i64 px, .int .i64 py] e)) K Q else E' := by
  have hw : Region.wanted o (yielded ops a.tmps) = true := by simp [Region.wanted, hg]
  rw [if_pos hw]
  subst hn
  obtain ⟨v', w', hr, h1, h2⟩ := exec_append_list2 E s x ho base v xs hs (hown.alloc _) _ [(px, py)] hx (PVw.lit1 w px py e) (by simpa using hlen) (by simp; omega)
  obtain ⟨g, cap, rfl⟩ := h1.shape (xs.length + 1) (by simp) (by omega)
  unfold Oper.wp
  rw [hr]
  exact hK g cap w' h1 ((Fr.alloc _ w _).trans h2)
theorem rboxes (w : World) (b t l : Int) (v : Value) : Blk ((w.alloc (.cells #[.int .i64 b, .int .i64 t, .int .i64 l, v] 60)).alloc (.cells #[.int .i64 0, .int .i64 0, .int .i64 0, .slice none 0 0] 60)) w.heap.size 60 #[.int .i64 b, .int .i64 t, .int .i64 l, v] ∧
    Blk ((w.alloc (.cells #[.int .i64 b, .int .i64 t, .int .i64 l, v] 60)).alloc (.cells #[.int .i64 0, .int .i64 0, .int .i64 0, .slice none 0 0] 60)) (w.heap.size + 1) 60 #[.int .i64 0, .int .i64 0, .int .i64 0, .slice none 0 0] ∧
    Below w.heap.size w ((w.alloc (.cells #[.int .i64 b, .int .i64 t, .int .i64 l, v] 60)).alloc (.cells #[.int .i64 0, .int .i64 0, .int .i64 0, .slice none 0 0] 60)) :=
  ⟨Blk.fr (Blk.new w _ _) (Fr.alloc (fun _ => False) _ _) (fun h => h), by have := Blk.new (w.alloc (.cells #[.int .i64 b, .int .i64 t, .int .i64 l, v] 60)) 60 #[.int .i64 0, .int .i64 0, .int .i64 0, .slice none 0 0]; rw [World.size_alloc] at this; exact this, (below_alloc _ _).alloc (by simp) _⟩
set_option maxHeartbeats 2000000 in
theorem rput_err (b t l first blocks : Int) (a : Option Addr) (N c : Nat) (vp : Value) (P : List Pt) (w : World) (hP : PVw w vp P) (he : Gr.putE b t l first blocks P.length ≠ 0) :
    Calls Try.prog 28 #[RV b t l (.slice a N c), .int .i64 first, .int .i64 blocks, vp] w fun e w' => e = .returned (.tuple #[RV b t l (.slice a N c), .int .i64 (Gr.putE b t l first blocks P.length)]) ∧ Below w.heap.size w w' := by
  have HD := hid (refData17_any b t l first blocks)
  obtain ⟨pa, pc, rfl, _⟩ := hP
  obtain ⟨hb1, hb2, hB⟩ := rboxes w b t l (.slice a N c)
  cases h : Gr.datOk b t l first blocks with
  | false =>
    rw [show Gr.datE b t l first blocks = 2 from if_neg (by simp [h])] at HD
    rw [show Gr.putE b t l first blocks P.length = 2 from if_neg (by simp [h])]
    generalize Gr.datL b t l first blocks = L at *
    clear he h
    go_enter Try.func28, Try.ntmps28
    go_wp2_with fail
    generalize World.alloc _ _ = w1 at hb1 hb2 hB ⊢
    have HX := hid hb1
    have HZ := hid hb2
    have HBe := hid hB
    have hs := hb2.lt
    clear hb1 hb2 hB
    refine (HD.out _).mono ?_
    rintro r w2 ⟨⟨v', rfl, hV⟩, B1⟩
    have hX := HX.out.below B1 HX.out.lt
    have HZ2 := hid (HZ.out.below B1 HZ.out.lt)
    have HB2 := hid (below_then HBe.out B1)
    have c0 : w2.cell? ⟨w.heap.size, 0, none⟩ = some (.int .i64 b) := hX.cell 0
    have c1 : w2.cell? ⟨w.heap.size, 1, none⟩ = some (.int .i64 t) := hX.cell 1
    have c2 : w2.cell? ⟨w.heap.size, 2, none⟩ = some (.int .i64 l) := hX.cell 2
    have c3 : w2.cell? ⟨w.heap.size, 3, none⟩ = some (.slice a N c) := hX.cell 3
    have g0 : w2.cell? ⟨w.heap.size + 1, 0, none⟩ = some (.int .i64 0) := HZ2.out.cell 0
    have g1 : w2.cell? ⟨w.heap.size + 1, 1, none⟩ = some (.int .i64 0) := HZ2.out.cell 1
    have g2 : w2.cell? ⟨w.heap.size + 1, 2, none⟩ = some (.int .i64 0) := HZ2.out.cell 2
    have g3 : w2.cell? ⟨w.heap.size + 1, 3, none⟩ = some (.slice none 0 0) := HZ2.out.cell 3
    have f0 := HZ2.out.frozen 0
    have f1 := HZ2.out.frozen 1
    have f2 := HZ2.out.frozen 2
    have f3 := HZ2.out.frozen 3
    clear hV hX B1
    go_wp2
    generalize hW : World.setCell _ _ _ = w9
    obtain ⟨hR9, F9⟩ := rbox_set HZ2.out hW
    have k0 := hR9.cell 0
    have k1 := hR9.cell 1
    have k2 := hR9.cell 2
    have k3 := hR9.cell 3
    simp only [List.getElem?_toArray, List.getElem?_cons_zero, List.getElem?_cons_succ] at k0 k1 k2 k3
    exact bodyPost_ret (v := .tuple #[RV b t l (.slice a N c), .int .i64 2]) (by simp [results, Try.results28, go_sem, k0, k1, k2, k3]) rfl ⟨rfl, HB2.out.trans (F9.below HB2.out.size (fun j hj e => by omega))⟩
  | true =>
    rw [show Gr.datE b t l first blocks = 0 from if_pos h] at HD
    have hp : Gr.putE b t l first blocks P.length = (if (Gr.datL b t l first blocks).length < P.length then 4 else 0) := if_pos h
    generalize Gr.datL b t l first blocks = L at *
    rw [hp] at he ⊢
    have hlt : L.length < P.length := by
      by_cases hh : L.length < P.length
      · exact hh
      · rw [if_neg hh] at he; exact absurd rfl he
    rw [if_pos hlt]
    clear he h hp
    go_enter Try.func28, Try.ntmps28
    go_wp2_with fail
    generalize World.alloc _ _ = w1 at hb1 hb2 hB ⊢
    have HX := hid hb1
    have HZ := hid hb2
    have HBe := hid hB
    have hs := hb2.lt
    clear hb1 hb2 hB
    refine (HD.out _).mono ?_
    rintro r w2 ⟨⟨v', rfl, hV⟩, B1⟩
    obtain ⟨la, lc, rfl, _⟩ := hV.vw
    rw [List.length_map]
    have hX := HX.out.below B1 HX.out.lt
    have HZ2 := hid (HZ.out.below B1 HZ.out.lt)
    have HB2 := hid (below_then HBe.out B1)
    have c0 : w2.cell? ⟨w.heap.size, 0, none⟩ = some (.int .i64 b) := hX.cell 0
    have c1 : w2.cell? ⟨w.heap.size, 1, none⟩ = some (.int .i64 t) := hX.cell 1
    have c2 : w2.cell? ⟨w.heap.size, 2, none⟩ = some (.int .i64 l) := hX.cell 2
    have c3 : w2.cell? ⟨w.heap.size, 3, none⟩ = some (.slice a N c) := hX.cell 3
    have g0 : w2.cell? ⟨w.heap.size + 1, 0, none⟩ = some (.int .i64 0) := HZ2.out.cell 0
    have g1 : w2.cell? ⟨w.heap.size + 1, 1, none⟩ = some (.int .i64 0) := HZ2.out.cell 1
    have g2 : w2.cell? ⟨w.heap.size + 1, 2, none⟩ = some (.int .i64 0) := HZ2.out.cell 2
    have g3 : w2.cell? ⟨w.heap.size + 1, 3, none⟩ = some (.slice none 0 0) := HZ2.out.cell 3
    have f0 := HZ2.out.frozen 0
    have f1 := HZ2.out.frozen 1
    have f2 := HZ2.out.frozen 2
    have f3 := HZ2.out.frozen 3
    clear hV hX B1
    go_wp2
    generalize hW : World.setCell _ _ _ = w9
    obtain ⟨hR9, F9⟩ := rbox_set HZ2.out hW
    have k0 := hR9.cell 0
    have k1 := hR9.cell 1
    have k2 := hR9.cell 2
    have k3 := hR9.cell 3
    simp only [List.getElem?_toArray, List.getElem?_cons_zero, List.getElem?_cons_succ] at k0 k1 k2 k3
    exact bodyPost_ret (v := .tuple #[RV b t l (.slice a N c), .int .i64 4]) (by simp [results, Try.results28, go_sem, k0, k1, k2, k3]) rfl ⟨rfl, HB2.out.trans (F9.below HB2.out.size (fun j hj e => by omega))⟩
set_option maxHeartbeats 4000000 in
theorem rput_ok (b t l first blocks : Int) (v : Value) (ps : List Pt) (vp : Value) (P : List Pt) (w : World) (hv : PVw w v ps) (hps : ps.length = (168 * b).toNat) (h0 : 0 < ps.length) (hm : ps.length ≤ 100000) (hP : PVw w vp P) (he : Gr.putE b t l first blocks P.length = 0) :
    Calls Try.prog 28 #[RV b t l v, .int .i64 first, .int .i64 blocks, vp] w fun e w' => (∃ q cap, e = .returned (.tuple #[RV b t l (.slice (some ⟨q, 0, none⟩) ps.length cap), .int .i64 0]) ∧ w.heap.size ≤ q ∧ POwn w' q 53 (.slice (some ⟨q, 0, none⟩) ps.length cap) (Gr.putP b t l ps first blocks P)) ∧ Below w.heap.size w w' := by
  have HD := hid (refData17_any b t l first blocks)
  have hok : Gr.datOk b t l first blocks = true := by
    cases h : Gr.datOk b t l first blocks
    · rw [Gr.putE, if_neg (by simp [h])] at he; simp at he
    · rfl
  rw [show Gr.datE b t l first blocks = 0 from if_pos hok] at HD
  rw [show Gr.putE b t l first blocks P.length = (if (Gr.datL b t l first blocks).length < P.length then 4 else 0) from if_pos hok] at he
  have HGt := hid (Gr.dat_get b t l first blocks)
  have HLen := hid (Gr.dat_len b t l first blocks)
  have hle : ¬ (Gr.datL b t l first blocks).length < P.length := fun h => by rw [if_pos h] at he; simp at he
  have HPu := hid (show Gr.putP b t l ps first blocks P = Gr.putN ps (Gr.datL b t l first blocks) (fun i => P.getD i (0, 0)) P.length from if_neg hle)
  rw [HPu.out]
  rw [← hps] at HGt HLen
  generalize Gr.datL b t l first blocks = L at *
  have hle2 : P.length ≤ L.length := by omega
  have hd : decide ((L.length : Int) < (P.length : Int)) = false := decide_eq_false (by omega)
  have HP := hid hP
  have HV := hid hv
  obtain ⟨pa, pc, rfl, _⟩ := hP
  obtain ⟨a, c, rfl, _⟩ := hv
  have hLb := HLen.out
  obtain ⟨hb1, hb2, hB⟩ := rboxes w b t l (.slice a ps.length c)
  clear hps he hok HPu hle
  go_enter Try.func28, Try.ntmps28
  go_wp2_with fail
  generalize World.alloc _ _ = w1 at hb1 hb2 hB ⊢
  have HX := hid hb1
  have HZ := hid hb2
  have HBe := hid hB
  have hs := hb2.lt
  clear hb1 hb2 hB
  refine (HD.out _).mono ?_
  rintro r w2 ⟨⟨v', rfl, hV⟩, B1⟩
  obtain ⟨la, lc, rfl, _⟩ := hV.vw
  have HL2 := hid hV
  rw [List.length_map] at HL2 ⊢
  have HX2 := hid (HX.out.below B1 HX.out.lt)
  have HZ2 := hid (HZ.out.below B1 HZ.out.lt)
  have HB2 := hid (below_then HBe.out B1)
  have hs2 : w1.heap.size ≤ w2.heap.size := B1.size
  have HV2 := hid (HV.out.below HB2.out (Nat.le_refl _))
  have HP2 := hid (HP.out.below HB2.out (Nat.le_refl _))
  have c3 : w2.cell? ⟨w.heap.size, 3, none⟩ = some (.slice a ps.length c) := HX2.out.cell 3
  have hl0 : w.heap.size < w2.heap.size := HX2.out.lt
  clear hV B1
  go_wp2_with (at_builtin; refine wpList_copy_list2 rfl pelem (.tmp 31) (.tmp 33) rfl rfl _ ps rfl HV2.out (by omega) ?_; intro vo w3 O3 B3; obtain ⟨g3, cap3, rfl⟩ := O3.shape ps.length rfl (by omega); have HX3 := hid (HX2.out.below B3 HX2.out.lt); have HO3 := hid O3; have HB3 := hid B3; have d3 : w3.cell? ⟨w.heap.size, 3, none⟩ = some (.slice a ps.length c) := HX3.out.cell 3; have e3 : w3.frozen? ⟨w.heap.size, 3, none⟩ = false := HX3.out.frozen 3; clear O3 B3)
  generalize hW4 : World.setCell _ _ _ = w4
  have F4 : Fr (fun j => j = w.heap.size) w3 w4 := by rw [← hW4]; exact Fr.setCell (S := fun j => j = w.heap.size) _ ⟨w.heap.size, 3, none⟩ _ rfl
  have HX4 := hid (show Blk w4 w.heap.size 60 #[.int .i64 b, .int .i64 t, .int .i64 l, .slice (some ⟨g3, 0, none⟩) ps.length cap3] by rw [← hW4]; exact HX3.out.set_ 3 _)
  have hg3 := (HO3.out.block (g := g3) rfl)
  have HO4 := hid (HO3.out.fr F4 (fun g' e => by simp [Value.ownBlock] at e; omega))
  have HZ4 := hid ((HZ2.out.below HB3.out HZ2.out.lt).fr F4 (by omega))
  have HB4 := hid ((below_then HB2.out HB3.out).trans (F4.below (Nat.le_trans HB2.out.size HB3.out.size) (fun j hj e => by omega)))
  have HL4 := hid ((HL2.out.below HB3.out (Nat.le_refl _)).fr F4 (fun g' hg' e => by omega))
  have HP4 := hid (HP.out.below HB4.out (Nat.le_refl _))
  have h24 : w2.heap.size ≤ w3.heap.size := HB3.out.size
  have h34 : w3.heap.size ≤ w4.heap.size := F4.size
  clear hW4 F4 HX3 HO3 HB3 d3 e3 c3 HX2 HZ2 HB2 HV2 HP2 HX HZ HBe
  go_loopw [12] (fun i wr => ∃ k : Nat, k ≤ P.length ∧ i = .int .i64 k ∧ POwn wr w2.heap.size 53 (.slice (some ⟨g3, 0, none⟩) ps.length cap3) (Gr.putN ps L (fun i => P.getD i (0, 0)) k) ∧ Fr (fun j => j = g3) w4 wr) (fun i _ => P.length - (intOf i).toNat)
  case atStart => exact ⟨0, Nat.zero_le _, rfl, HO4.out, Fr.refl _ _⟩
  case round =>
    obtain ⟨k, hk, rfl, hO, hF⟩ := hrel
    by_cases hlt : k < P.length
    · obtain ⟨j, hj, hjn⟩ := HGt.out k (by omega)
      obtain ⟨lb, lo, cc, e1, hx2⟩ := vw_at17 HL2.out.vw (show k < L.length by omega)
      cases e1
      have hlb := World.block_lt_of_cell? w2 _ hx2
      obtain ⟨lb', lo', cc', e1', hx4⟩ := vw_at17 HL4.out.vw (show k < L.length by omega)
      cases e1'
      rw [hj] at hx4
      dsimp only at hlb
      have hx := (hF.cell (p := ⟨lb, lo + k, none⟩) (by dsimp only; omega) (by dsimp only; omega)).trans hx4
      obtain ⟨b2, o2, e2, hy0, hy1⟩ := HP.out.at hlt
      cases e2
      have hyb := World.block_lt_of_cell? w _ hy0
      dsimp only at hyb
      obtain ⟨b2', o2', e2', hy0', hy1'⟩ := HP4.out.at hlt
      cases e2'
      have hwl : w.heap.size ≤ w4.heap.size := HB4.out.size
      have hyr0 := (hF.cell (p := ⟨b2, o2 + k * 2, none⟩) (by dsimp only; omega) (by dsimp only; omega)).trans hy0'
      have hyr1 := (hF.cell (p := ⟨b2, o2 + k * 2 + 1, none⟩) (by dsimp only; omega) (by dsimp only; omega)).trans hy1'
      have p3 : wr.cell? ⟨w.heap.size, 3, none⟩ = some (.slice (some ⟨g3, 0, none⟩) ps.length cap3) := (HX4.out.fr hF (by omega)).cell 3
      have HY := hid (show Gr.putN ps L (fun i => P.getD i (0, 0)) (k + 1) = (Gr.putN ps L (fun i => P.getD i (0, 0)) k).set j (P.getD k (0, 0)) by rw [Gr.putN, hj]; rfl)
      have hst0 := hO.stored j (P.getD k (0, 0)).1 (P.getD k (0, 0)).2
      obtain ⟨k0, k1⟩ := hO.cells (i := j) (by rw [Gr.putN_len]; exact hjn)
      have z0 := hO.free (j * 2)
      have z1 := hO.free (j * 2 + 1)
      generalize P.getD k (0, 0) = p at *
      obtain ⟨px, py⟩ := p
      dsimp only at hyr0 hyr1 hst0
      have hst := hid hst0
      have HF := hid hF
      clear hx2 hx4 hy0 hy1 hy0' hy1' hst0 hO hF
      go_wp2
      go_region
      all_goals
        generalize hW : World.drew _ = w9
        have F9 : Fr (fun q => q = g3) wr w9 := by rw [← hW]; exact ((Fr.setCell (S := fun q => q = g3) _ ⟨g3, j * 2, none⟩ _ rfl).trans (Fr.setCell (S := fun q => q = g3) _ ⟨g3, j * 2 + 1, none⟩ _ rfl)).trans (Fr.drew _ _)
        have HO9 := hid (show POwn w9 w2.heap.size 53 (.slice (some ⟨g3, 0, none⟩) ps.length cap3) _ by rw [← hW]; exact hst.out.fr (Fr.drew (fun _ => False) _) (fun _ _ h => h))
        have HF9 := hid (HF.out.trans F9)
        clear hW F9 k0 k1 z0 z1 p3 hx hyr0 hyr1
        go_wp2
        go_roundw
        case rel => exact ⟨k + 1, by omega, by go_num, by rw [HY.out]; exact HO9.out, HF9.out⟩
        case measure => simp [intOf]; omega
    · obtain rfl : k = P.length := by omega
      have hX := HX4.out.fr hF (by omega)
      have HZr := hid (HZ4.out.fr hF (by omega))
      have HBr := hid (HB4.out.trans (hF.below HB4.out.size (fun j hj e => by omega)))
      have HO9 := hid hO
      have c0 : wr.cell? ⟨w.heap.size, 0, none⟩ = some (.int .i64 b) := hX.cell 0
      have c1 : wr.cell? ⟨w.heap.size, 1, none⟩ = some (.int .i64 t) := hX.cell 1
      have c2 : wr.cell? ⟨w.heap.size, 2, none⟩ = some (.int .i64 l) := hX.cell 2
      have c3 : wr.cell? ⟨w.heap.size, 3, none⟩ = some (.slice (some ⟨g3, 0, none⟩) ps.length cap3) := hX.cell 3
      have q0 : wr.cell? ⟨w.heap.size + 1, 0, none⟩ = some (.int .i64 0) := HZr.out.cell 0
      have q1 : wr.cell? ⟨w.heap.size + 1, 1, none⟩ = some (.int .i64 0) := HZr.out.cell 1
      have q2 : wr.cell? ⟨w.heap.size + 1, 2, none⟩ = some (.int .i64 0) := HZr.out.cell 2
      have q3 : wr.cell? ⟨w.heap.size + 1, 3, none⟩ = some (.slice none 0 0) := HZr.out.cell 3
      have f0 := HZr.out.frozen 0
      have f1 := HZr.out.frozen 1
      have f2 := HZr.out.frozen 2
      have f3 := HZr.out.frozen 3
      clear hX hO hF
      go_wp2
      generalize hW : World.setCell _ _ _ = w9
      obtain ⟨hR9, F9⟩ := rbox_set HZr.out hW
      have k0 := hR9.cell 0
      have k1 := hR9.cell 1
      have k2 := hR9.cell 2
      have k3 := hR9.cell 3
      simp only [List.getElem?_toArray, List.getElem?_cons_zero, List.getElem?_cons_succ] at k0 k1 k2 k3
      exact bodyPost_ret (v := .tuple #[RV b t l (.slice (some ⟨g3, 0, none⟩) ps.length cap3), .int .i64 0]) (by simp [results, Try.results28, go_sem, k0, k1, k2, k3]) rfl ⟨⟨g3, cap3, rfl, by omega, (HO9.out.fr F9 (fun g' e => by simp [Value.ownBlock] at e; omega)).rebase rfl⟩, HBr.out.trans (F9.below HBr.out.size (fun j hj e => by omega))⟩
set_option maxHeartbeats 4000000 in
theorem rget_any (b t l first blocks : Int) (v : Value) (ps : List Pt) (w : World) (hv : PVw w v ps) (hps : ps.length = (168 * b).toNat) (hm : ps.length ≤ 100000) :
    Calls Try.prog 29 #[RV b t l v, .int .i64 first, .int .i64 blocks] w fun e w' => (∃ v', e = .returned (.tuple #[v', .int .i64 (Gr.datE b t l first blocks)]) ∧ POwn w' w.heap.size 53 v' (Gr.getP ps (Gr.datL b t l first blocks))) ∧ Below w.heap.size w w' := by
  have HD := hid (refData17_any b t l first blocks)
  have HGt := hid (Gr.dat_get b t l first blocks)
  have HLen := hid (Gr.dat_len b t l first blocks)
  rw [← hps] at HGt HLen
  generalize Gr.datL b t l first blocks = L at *
  generalize Gr.datE b t l first blocks = er at *
  have HV := hid hv
  obtain ⟨a, c, rfl, _⟩ := hv
  have hLb := HLen.out
  clear hps
  go_enter Try.func29, Try.ntmps29
  go_wp2_with fail
  refine (HD.out _).mono ?_
  rintro r w2 ⟨⟨v', rfl, hV⟩, B1⟩
  obtain ⟨la, lc, rfl, _⟩ := hV.vw
  have HL2 := hid hV
  rw [List.length_map] at HL2 ⊢
  have HX2 := hid (show Blk w2 w.heap.size 60 #[.int .i64 b, .int .i64 t, .int .i64 l, .slice a ps.length c] from Blk.below (Blk.new w _ _) B1 (by simp))
  have HB2 := hid (up_alloc B1)
  have hl0 : w.heap.size < w2.heap.size := HX2.out.lt
  have HV2 := hid (HV.out.below HB2.out (Nat.le_refl _))
  clear hV B1
  go_wp2
  go_loopw [10, 11] (fun o i wr => ∃ k : Nat, k ≤ L.length ∧ i = .int .i64 k ∧ POwn wr w2.heap.size 53 o (Gr.getP ps (L.take k)) ∧ Below w2.heap.size w2 wr) (fun _ i _ => L.length - (intOf i).toNat)
  case atStart => exact ⟨0, Nat.zero_le _, rfl, POwn.nil _ _ _, Below.refl _ _⟩
  case round =>
    obtain ⟨k, hk, rfl, hown, hB⟩ := hrel
    by_cases hlt : k < L.length
    · obtain ⟨j, hj, hjn⟩ := HGt.out k hlt
      obtain ⟨lb, lo, cc, e1, hx⟩ := vw_at17 (HL2.out.below hB (Nat.le_refl _)).vw hlt
      rw [hj] at hx
      cases e1
      obtain ⟨vb, vo, e2, k0, k1⟩ := (HV2.out.below hB (Nat.le_refl _)).at hjn
      cases e2
      have p3 : wr.cell? ⟨w.heap.size, 3, none⟩ = some (.slice (some ⟨vb, vo, none⟩) ps.length c) := (HX2.out.below hB HX2.out.lt).cell 3
      have HS := hid (Gr.getP_take_succ ps L k hlt)
      rw [hj, Int.toNat_natCast] at HS
      have HN := hid (show (Gr.getP ps (L.take k)).length = k by rw [Gr.getP_len, List.length_take]; omega)
      have hsz := hB.size
      have HB := hid hB
      have HO := hid hown
      generalize ps.getD j (0, 0) = p at *
      obtain ⟨px, py⟩ := p
      dsimp only at k0 k1
      clear hB hown
      go_wp2
      have hown' := HO.out.fr (Fr.drew (fun _ => False) wr) (fun _ _ h => h)
      have hszd : w2.heap.size ≤ wr.drew.heap.size := hsz
      go_region_law (refine step_append_one2 rfl pelem (.tmp 26) (.tmp 35) rfl w2.heap.size u10 k _ HN.out ?_ hown' _ _ ?_ (by omega) hszd ?_; rfl; rfl; intro g1 cap1 w3 hown3 hf)
      all_goals
        have HB3 := hid ((HB.out.trans ((below_drewN wr 1).mono hsz)).trans (hf.below (by simpa using hsz) (fun i hi e => by have := (HO.out.block e).1; omega)))
        have HO3 := hid hown3
        clear hf hown3 hown' hszd
        go_wp2
        go_roundw
        case rel => exact ⟨k + 1, by omega, by go_num, by rw [HS.out]; exact HO3.out, HB3.out⟩
        case measure => simp [intOf]; omega
    · obtain rfl : k = L.length := by omega
      rw [List.take_length] at hown
      have HO := hid (hown.base_mono HB2.out.size)
      have HBr := hid (below_then HB2.out hB)
      clear hown hB
      go_wp2
      go_ret2
      exact ⟨⟨_, rfl, HO.out⟩, HBr.out⟩
theorem rload_bad (b t l : Int) (a : Option Addr) (N c : Nat) (vp : Value) (P : List Pt) (w : World) (hP : PVw w vp P) (hl : P.length ≠ N) :
    Calls Try.prog 30 #[RV b t l (.slice a N c), vp] w fun e w' => e = .returned (.tuple #[RV b t l (.slice a N c), .int .i64 2]) ∧ Below w.heap.size w w' := by
  obtain ⟨pa, pc, rfl, hPc⟩ := hP
  clear hPc
  obtain ⟨hb1, hb2, hB⟩ := rboxes w b t l (.slice a N c)
  have hd : ((P.length : Int) != (N : Int)) = true := by simp; omega
  have Hl := hid hl
  generalize P.length = M at *
  clear hl
  have c0 := hb1.cell 0
  have c1 := hb1.cell 1
  have c2 := hb1.cell 2
  have c3 := hb1.cell 3
  simp only [List.getElem?_toArray, List.getElem?_cons_zero, List.getElem?_cons_succ] at c0 c1 c2 c3
  have q0 := hb2.cell 0
  have q1 := hb2.cell 1
  have q2 := hb2.cell 2
  have q3 := hb2.cell 3
  simp only [List.getElem?_toArray, List.getElem?_cons_zero, List.getElem?_cons_succ] at q0 q1 q2 q3
  have HZ := hid hb2
  have HB := hid hB
  clear hb1 hb2 hB
  go_enter Try.func30, Try.ntmps30
  go_wp2
  exact bodyPost_ret (v := .tuple #[RV b t l (.slice a N c), .int .i64 2]) (by simp [results, Try.results30, go_sem]) rfl ⟨rfl, (below_alloc _ _).alloc (by simp) _⟩
set_option maxHeartbeats 2000000 in
theorem rload_ok (b t l : Int) (a : Option Addr) (N c : Nat) (vp : Value) (P : List Pt) (w : World) (hP : PVw w vp P) (hl : P.length = N) (h0 : 0 < N) (hm : N ≤ 100000) :
    Calls Try.prog 30 #[RV b t l (.slice a N c), vp] w fun e w' => (∃ q cap, e = .returned (.tuple #[RV b t l (.slice (some ⟨q, 0, none⟩) N cap), .int .i64 0]) ∧ w.heap.size ≤ q ∧ POwn w' q 53 (.slice (some ⟨q, 0, none⟩) N cap) P) ∧ Below w.heap.size w w' := by
  have HP := hid hP
  obtain ⟨pa, pc, rfl, hPc⟩ := hP
  clear hPc
  obtain ⟨hb1, hb2, hB⟩ := rboxes w b t l (.slice a N c)
  have hd : ((P.length : Int) != (N : Int)) = false := by simp; omega
  have Hl := hid hl
  have hPm : P.length ≤ 100000 := by omega
  have hP0 : 0 < P.length := by omega
  clear hl
  go_enter Try.func30, Try.ntmps30
  go_wp2_with (at_builtin; refine wpList_copy_list2 rfl pelem (.tmp 13) (.tmp 14) rfl (by rw [World.size_alloc, World.size_alloc]; rfl) _ P rfl (HP.out.below hB (Nat.le_refl _)) (by omega) ?_; intro vo w3 O3 B3; obtain ⟨g3, cap3, rfl⟩ := O3.shape P.length rfl (by omega); have HX3 := hid (hb1.below B3 hb1.lt); have HZ3 := hid (hb2.below B3 hb2.lt); have HO3 := hid O3; have HB3 := hid (below_then hB B3); have hw3 := hb2.lt; have hg3 := O3.block (g := g3) rfl; have d3 : w3.cell? ⟨w.heap.size, 3, none⟩ = some (.slice a N c) := HX3.out.cell 3; have e3 : w3.frozen? ⟨w.heap.size, 3, none⟩ = false := HX3.out.frozen 3; clear O3 B3 hb1 hb2 hB;  have d0 : w3.cell? ⟨w.heap.size, 0, none⟩ = some (.int .i64 b) := HX3.out.cell 0; have d1 : w3.cell? ⟨w.heap.size, 1, none⟩ = some (.int .i64 t) := HX3.out.cell 1; have d2 : w3.cell? ⟨w.heap.size, 2, none⟩ = some (.int .i64 l) := HX3.out.cell 2;  have q0 : w3.cell? ⟨w.heap.size + 1, 0, none⟩ = some (.int .i64 0) := HZ3.out.cell 0; have q1 : w3.cell? ⟨w.heap.size + 1, 1, none⟩ = some (.int .i64 0) := HZ3.out.cell 1; have q2 : w3.cell? ⟨w.heap.size + 1, 2, none⟩ = some (.int .i64 0) := HZ3.out.cell 2; have q3 : w3.cell? ⟨w.heap.size + 1, 3, none⟩ = some (.slice none 0 0) := HZ3.out.cell 3;  have f0 := HZ3.out.frozen 0; have f1 := HZ3.out.frozen 1; have f2 := HZ3.out.frozen 2; have f3 := HZ3.out.frozen 3)
  have HX4 := hid (HX3.out.set_ 3 (.slice (some ⟨g3, 0, none⟩) P.length cap3))
  have F4 : Fr (fun j => j = w.heap.size) w3 (w3.setCell ⟨w.heap.size, 3, none⟩ (.slice (some ⟨g3, 0, none⟩) P.length cap3)) := Fr.setCell (S := fun j => j = w.heap.size) _ ⟨w.heap.size, 3, none⟩ _ rfl
  have HZ4 := hid (HZ3.out.fr F4 (by omega))
  have HO4 := hid (HO3.out.fr F4 (fun g' e => by simp [Value.ownBlock] at e; simp at hg3; omega))
  have HB4 := hid (HB3.out.trans (F4.below HB3.out.size (fun j hj e => by omega)))
  simp at hg3
  clear F4 HX3 HZ3 HO3 HB3 d0 d1 d2 d3 e3 q0 q1 q2 q3 f0 f1 f2 f3
  have h9 := rbox_set HZ4.out (v0 := .int .i64 b) (v1 := .int .i64 t) (v2 := .int .i64 l) (v3 := .slice (some ⟨g3, 0, none⟩) P.length cap3) rfl
  generalize hW : World.setCell _ _ _ = w9 at h9 ⊢
  obtain ⟨hR9, F9⟩ := h9
  have k0 := hR9.cell 0
  have k1 := hR9.cell 1
  have k2 := hR9.cell 2
  have k3 := hR9.cell 3
  simp only [List.getElem?_toArray, List.getElem?_cons_zero, List.getElem?_cons_succ] at k0 k1 k2 k3
  have HO9 := (HO4.out.fr F9 (fun g' e => by simp [Value.ownBlock] at e; omega)).rebase rfl
  have HB9 := HB4.out.trans (F9.below HB4.out.size (fun j hj e => by omega))
  exact bodyPost_ret (v := .tuple #[RV b t l (.slice (some ⟨g3, 0, none⟩) P.length cap3), .int .i64 0]) (by simp [results, Try.results30, go_sem, k0, k1, k2, k3]) rfl ⟨⟨g3, cap3, by rw [Hl.out], by omega, by rw [← Hl.out]; exact HO9⟩, HB9⟩
end Go.Proofs.Ytighnjbcnfnpmaa
