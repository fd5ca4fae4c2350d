/- userplane/grid: a grid in a block; New. -/
import Derived.Test.YtighnjbcnfnpmaaGriD
import Derived.Test.YtighnjbcnfnpmaaGri9b
import Derived.Test.YtighnjbcnfnpmaaPts
namespace Go.Proofs.Ytighnjbcnfnpmaa
open Go.RowKit Go.Shelf
set_option linter.unusedVariables false
attribute [local go_sem ↓] Go.wp_at_zero Go.wp_at_succ
theorem pelem : Elem2 Try.prog 48 53 := Elem2.mk' Try.underlying48 (by kernel_rfl)
theorem vw_at17 {w : World} {v : Value} {A : List Int} {k : IntKind} (h : Vw w v (A.map (Value.int k))) {i : Nat} (hi : i < A.length) : ∃ b off c, v = .slice (some ⟨b, off, none⟩) A.length c ∧ w.cell? ⟨b, off + i, none⟩ = some (.int k (A.getD i 0)) := by
  obtain ⟨a, c, rfl, hc⟩ := h
  obtain ⟨b, off, rfl, h1⟩ := hc i (by simpa using hi)
  refine ⟨b, off, c, by simp, ?_⟩
  rw [h1]
  simp [List.getD, hi]
/-- A grid in block g, its points' row in block q. -/
structure GB (W : World) (g q : Nat) (b t l : Int) (ps : List Pt) : Prop where
  ne : q ≠ g
  ex : ∃ cap, Blk W g 75 #[.int .i64 b, .int .i64 t, .int .i64 l, .slice (some ⟨q, 0, none⟩) ps.length cap] ∧ POwn W q 53 (.slice (some ⟨q, 0, none⟩) ps.length cap) ps
theorem GB.fr {S : Nat → Prop} {W W' : World} {g q : Nat} {b t l : Int} {ps : List Pt} (h : GB W g q b t l ps) (hf : Fr S W W') (hg : ¬ S g) (hq : ¬ S q) : GB W' g q b t l ps := by
  obtain ⟨h0, cap, h1, h2⟩ := h
  exact ⟨h0, cap, h1.fr hf hg, h2.fr hf (fun g' e => by simp [Value.ownBlock] at e; subst e; exact hq)⟩
theorem GB.lt {W : World} {g q : Nat} {b t l : Int} {ps : List Pt} (h : GB W g q b t l ps) : g < W.heap.size ∧ q < W.heap.size := by
  obtain ⟨h0, cap, h1, h2⟩ := h
  exact ⟨h1.lt, (h2.block (g := q) rfl).2⟩
theorem GB.below {B : Nat} {W W' : World} {g q : Nat} {b t l : Int} {ps : List Pt} (h : GB W g q b t l ps) (hb : Below B W W') (hg : g < B) (hq : q < B) : GB W' g q b t l ps :=
  h.fr (Fr.of_below hb) (by omega) (by omega)
theorem GB.blw {W W' : World} {g q : Nat} {b t l : Int} {ps : List Pt} (h : GB W g q b t l ps) (hb : Below W.heap.size W W') : GB W' g q b t l ps :=
  h.below hb h.lt.1 h.lt.2
/-- One point stored. -/
theorem GB.sto {W : World} {g q : Nat} {b t l : Int} {ps : List Pt} (h : GB W g q b t l ps) (j : Nat) (x y : Int) :
    GB ((W.setCell ⟨q, j * 2, none⟩ (.int .i64 x)).setCell ⟨q, j * 2 + 1, none⟩ (.int .i64 y)) g q b t l (ps.set j (x, y)) ∧ Fr (fun k => k = q) W ((W.setCell ⟨q, j * 2, none⟩ (.int .i64 x)).setCell ⟨q, j * 2 + 1, none⟩ (.int .i64 y)) := by
  obtain ⟨h0, cap, h1, h2⟩ := h
  have F : Fr (fun k => k = q) W ((W.setCell ⟨q, j * 2, none⟩ (.int .i64 x)).setCell ⟨q, j * 2 + 1, none⟩ (.int .i64 y)) := (Fr.setCell (S := fun k => k = q) _ ⟨q, j * 2, none⟩ _ rfl).trans (Fr.setCell (S := fun k => k = q) _ ⟨q, j * 2 + 1, none⟩ _ rfl)
  exact ⟨⟨h0, cap, by rw [List.length_set]; exact h1.fr F (fun e => h0 e.symm), by rw [List.length_set]; exact h2.stored j x y⟩, F⟩
set_option maxHeartbeats 1000000 in
theorem gnew_bad (b t l : Int) (h : Gr.vld b t l = false) (w : World) : Calls Try.prog 21 #[CV b t l] w fun e w' => e = .returned (.tuple #[.pointer none, .int .i64 2]) ∧ Below w.heap.size w w' := by
  have HC := hid (check_any b t l)
  rw [h, if_neg (by simp)] at HC
  go_enter Try.func21, Try.ntmps21
  go_wp2_with fail
  refine (HC.out _).mono ?_
  rintro r w1 ⟨rfl, B1⟩
  go_wp2
  go_ret2
  exact ⟨rfl, up_alloc B1⟩
set_option maxHeartbeats 4000000 in
theorem gnew_ok (b t l : Int) (h : Gr.vld b t l = true) (w : World) : Calls Try.prog 21 #[CV b t l] w fun e w' => (∃ g q, e = .returned (.tuple #[.pointer (some ⟨g, 0, none⟩), .int .i64 0]) ∧ w.heap.size ≤ g ∧ w.heap.size ≤ q ∧ GB w' g q b t l (Gr.newP b t l)) ∧ Below w.heap.size w w' := by
  have hc := Gr.vld_iff.1 h
  have HC := hid (check_any b t l)
  rw [h, if_pos rfl] at HC
  have b0 := hc.b0
  have b1 := hc.b1
  have HS := hid (size_any b t l (by omega) (by omega))
  have HR := hid (references_any b t l hc)
  obtain ⟨n, hn⟩ : ∃ n : Nat, (n : Int) = 168 * b := ⟨(168 * b).toNat, by omega⟩
  rw [← hn] at HS
  have hnb : n ≤ 100000 := by omega
  have HG := hid (fun i (hi : i < (Gr.refL b t l).length) => (show ∃ j : Nat, (Gr.refL b t l).getD i 0 = (j : Int) ∧ j < n by
    obtain ⟨j, h1, h2, _⟩ := Gr.sel_get hi
    exact ⟨j, h1, by rw [← hn] at h2; exact h2⟩))
  have HN := hid (show Gr.newP b t l = Gr.putN (List.replicate n (0, 0)) (Gr.refL b t l) (fun _ => (1, 1)) (Gr.refL b t l).length by unfold Gr.newP; rw [← hn]; rfl)
  have HLen := hid (show (Gr.refL b t l).length ≤ 100000 by
    have := Gr.sel_len (fun i => Gr.kd b t l i == 1) (168 * b).toNat
    unfold Gr.refL
    omega)
  rw [HN.out]
  generalize Gr.refL b t l = L at *
  clear h hc hn HN
  go_enter Try.func21, Try.ntmps21
  go_wp2_with fail
  refine (HC.out _).mono ?_
  rintro r w1 ⟨rfl, B1⟩
  have HP1 := hid (show Blk w1 w.heap.size 23 #[.int .i64 b, .int .i64 t, .int .i64 l] from Blk.below (Blk.new w _ _) B1 (by simp))
  have c0 : w1.cell? ⟨w.heap.size, 0, none⟩ = some (.int .i64 b) := HP1.out.cell 0
  have c1 : w1.cell? ⟨w.heap.size, 1, none⟩ = some (.int .i64 t) := HP1.out.cell 1
  have c2 : w1.cell? ⟨w.heap.size, 2, none⟩ = some (.int .i64 l) := HP1.out.cell 2
  have HB1 := hid (up_alloc B1)
  clear B1
  go_wp2_with fail
  refine (HS.out _).mono ?_
  rintro r w2 ⟨rfl, B2⟩
  have HA2 := hid (show Blk w2 w1.heap.size 75 #[.int .i64 b, .int .i64 t, .int .i64 l, .slice none 0 0] from Blk.below (Blk.new w1 _ _) B2 (by simp))
  have HB2 := hid (below_then HB1.out (up_alloc B2))
  have hg2 : w1.heap.size < w2.heap.size := HA2.out.lt
  have hg1 : w.heap.size ≤ w1.heap.size := HB1.out.size
  clear B2 c0 c1 c2
  go_wp2_with (first
    | (at_make; refine wpList_run_value rfl (exec_make_two pelem (.tmp 22) (.tmp 22) rfl .i64 .i64 _ _ n rfl rfl (by first | rfl | omega) (by first | rfl | omega) (by omega)) ?_;
       generalize hW3 : World.alloc _ _ = w3; have F3 : Fr (fun _ => False) w2 w3 := (by rw [← hW3]; exact Fr.alloc _ _ _);
       have HO3 := hid (show POwn w3 w2.heap.size 53 (.slice (some ⟨w2.heap.size, 0, none⟩) n n) (List.replicate n (0, 0)) by rw [← hW3]; exact POwn.zeros w2 _ _ n (Nat.le_refl _) (by omega));
       have HA3 := hid (HA2.out.fr F3 (fun h => h)); have HB3 := hid (HB2.out.trans (F3.below HB2.out.size (fun _ _ h => h)));
       have c0 := HA3.out.cell 0; have c1 := HA3.out.cell 1; have c2 := HA3.out.cell 2; have c3 := HA3.out.cell 3; have f3 := HA3.out.frozen 3; simp only [List.getElem?_toArray, List.getElem?_cons_zero, List.getElem?_cons_succ] at c0 c1 c2 c3; clear hW3 F3)
    | fail)
  generalize hW4 : World.setCell _ _ _ = w4
  have F4 : Fr (fun j => j = w1.heap.size) w3 w4 := by rw [← hW4]; exact Fr.setCell (S := fun j => j = w1.heap.size) _ ⟨w1.heap.size, 3, none⟩ _ rfl
  have HA4 := hid (show Blk w4 w1.heap.size 75 #[.int .i64 b, .int .i64 t, .int .i64 l, .slice (some ⟨w2.heap.size, 0, none⟩) n n] by rw [← hW4]; exact HA3.out.set_ 3 _)
  have HG4 := hid (show GB w4 w1.heap.size w2.heap.size b t l (List.replicate n (0, 0)) from ⟨by omega, n, by rw [List.length_replicate]; exact HA4.out, by rw [List.length_replicate]; exact HO3.out.fr F4 (fun g' e => by simp [Value.ownBlock] at e; omega)⟩)
  have HB4 := hid (HB3.out.trans (F4.below HB3.out.size (fun j hj e => by omega)))
  clear hW4 F4 HA4 HO3 HA3 HB3 c0 c1 c2 c3 f3
  refine (HR.out _).mono ?_
  rintro r w5 ⟨⟨v', rfl, hown⟩, B5⟩
  obtain ⟨a, c, rfl⟩ := hown.is_slice
  have HV5 := hid hown.vwA
  rw [List.length_map] at HV5
  have hq4 : w2.heap.size < w4.heap.size := HG4.out.lt.2
  have HG5 := hid (HG4.out.blw B5)
  have HB5 := hid (below_then HB4.out B5)
  clear hown B5 HG4 HB4
  rw [List.length_map]
  go_wp2
  go_loopw [32] (fun i wr => ∃ k : Nat, k ≤ L.length ∧ i = .int .i64 k ∧ GB wr w1.heap.size w2.heap.size b t l (Gr.putN (List.replicate n (0, 0)) L (fun _ => (1, 1)) k) ∧ VwA wr w4.heap.size (.slice a L.length c) (L.map (Value.int .i64)) ∧ Below w.heap.size w wr) (fun i _ => L.length - (intOf i).toNat)
  case atStart => exact ⟨0, Nat.zero_le _, rfl, HG5.out, HV5.out, HB5.out⟩
  case round =>
    obtain ⟨k, hk, rfl, hG, hV, hB⟩ := hrel
    have hLb := HLen.out
    by_cases hlt : k < L.length
    · obtain ⟨j, hj, hjn⟩ := HG.out k hlt
      obtain ⟨b1, o1, c1, e1, hx⟩ := vw_at17 hV.vw hlt
      rw [hj] at hx
      cases e1
      have hst := hid (hG.sto j 1 1)
      obtain ⟨hne, cap, hA, hO⟩ := hG
      rw [Gr.putN_len, List.length_replicate] at hA hO
      have p3 : wr.cell? ⟨w1.heap.size, 3, none⟩ = some (.slice (some ⟨w2.heap.size, 0, none⟩) n cap) := hA.cell 3
      obtain ⟨k0, k1⟩ := hO.cells (i := j) (by rw [Gr.putN_len, List.length_replicate]; exact hjn)
      have z0 := hO.free (j * 2)
      have z1 := hO.free (j * 2 + 1)
      have HV := hid hV
      have HB := hid hB
      have HY := hid (show Gr.putN (List.replicate n (0, 0)) L (fun _ => (1, 1)) (k + 1) = (Gr.putN (List.replicate n (0, 0)) L (fun _ => (1, 1)) k).set j (1, 1) by rw [Gr.putN, hj]; rfl)
      clear hV hB hA hO
      go_wp2
      go_roundw
      case rel => exact ⟨k + 1, by omega, by go_num, by rw [HY.out]; exact hst.out.1, HV.out.fr hst.out.2 (fun g' hg' e => by omega), HB.out.trans (hst.out.2.below HB.out.size (fun i hi e => by omega))⟩
      case measure => simp [intOf]; omega
    · obtain rfl : k = L.length := by omega
      have HG6 := hid hG
      have HB6 := hid hB
      clear hV hB hG
      go_wp2
      go_ret2
      exact ⟨⟨_, _, rfl, hg1, by omega, HG6.out⟩, HB6.out⟩
end Go.Proofs.Ytighnjbcnfnpmaa
