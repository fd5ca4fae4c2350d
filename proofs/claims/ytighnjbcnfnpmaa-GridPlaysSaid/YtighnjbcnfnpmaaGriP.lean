/- userplaneref17: New, Put, Get, Load. -/
import Derived.Test.YtighnjbcnfnpmaaGriL
namespace Go.Proofs.Ytighnjbcnfnpmaa
open Go.RowKit Go.Shelf
set_option linter.unusedVariables false
attribute [local go_sem ↓] Go.wp_at_zero Go.wp_at_succ
/-- The value of a reference grid. -/
abbrev RV (b t l : Int) (v : Value) : Value := .agg #[.int .i64 b, .int .i64 t, .int .i64 l, v]
theorem make2_eq (n : Nat) (hn : n ≤ 100000) (w : World) : (Instr.makeSlice 48 (.int .i64 (n : Int)) (.int .i64 (n : Int))).run Try.prog w = .ok (.slice (some ⟨w.heap.size, 0, none⟩) n n) (w.alloc (.cells (Array.replicate (n * 2) (.int .i64 0)) 53)) := by
  obtain ⟨i, hi, hz, hsz, hby⟩ := pelem.info
  have hr := run_make (P := Try.prog) w 48 53 i _ pelem.slice hi hz .i64 .i64 n n (by omega) (by omega) (by rw [hby]; omega) (by omega)
  simp only [Int.toNat_natCast, hsz] at hr
  rw [show (Value.agg #[.int .i64 0, .int .i64 0]).cells = #[.int .i64 0, .int .i64 0] from rfl, madeCells2] at hr
  exact hr
theorem rnew_bad (b t l : Int) (h : Gr.vld b t l = false) (w : World) : Calls Try.prog 27 #[CV b t l] w fun e w' => e = .returned (.tuple #[RV 0 0 0 (.slice none 0 0), .int .i64 2]) ∧ Below w.heap.size w w' := by
  have HV := hid (refValid17 b t l)
  rw [h] at HV
  clear h
  go_enter Try.func27, Try.ntmps27
  go_wp2_with fail
  refine (HV.out _).mono ?_
  rintro r w1 ⟨rfl, B1⟩
  have HR := hid (show Blk w1 (w.heap.size + 1) 60 #[.int .i64 0, .int .i64 0, .int .i64 0, .slice none 0 0] from Blk.below (by have := Blk.new (w.alloc (.cells #[.int .i64 b, .int .i64 t, .int .i64 l] 23)) 60 #[.int .i64 0, .int .i64 0, .int .i64 0, .slice none 0 0]; rw [World.size_alloc] at this; exact this) B1 (by simp))
  have HB := hid (up_alloc (up_alloc B1))
  clear B1
  have c0 : w1.cell? ⟨w.heap.size + 1, 0, none⟩ = some (.int .i64 0) := HR.out.cell 0
  have c1 : w1.cell? ⟨w.heap.size + 1, 1, none⟩ = some (.int .i64 0) := HR.out.cell 1
  have c2 : w1.cell? ⟨w.heap.size + 1, 2, none⟩ = some (.int .i64 0) := HR.out.cell 2
  have c3 : w1.cell? ⟨w.heap.size + 1, 3, none⟩ = some (.slice none 0 0) := HR.out.cell 3
  have f0 := HR.out.frozen 0
  have f1 := HR.out.frozen 1
  have f2 := HR.out.frozen 2
  have f3 := HR.out.frozen 3
  go_wp2
  generalize hW : World.setCell _ _ _ = w2
  have hR2 : Blk w2 (w.heap.size + 1) 60 #[.int .i64 0, .int .i64 0, .int .i64 0, .slice none 0 0] := by rw [← hW]; exact (((HR.out.set_ 0 _).set_ 1 _).set_ 2 _).set_ 3 _
  have F : Fr (fun j => j = w.heap.size + 1) w1 w2 := by
    rw [← hW]
    exact (((Fr.setCell (S := fun j => j = w.heap.size + 1) _ ⟨w.heap.size + 1, 0, none⟩ _ rfl).trans (Fr.setCell (S := fun j => j = w.heap.size + 1) _ ⟨w.heap.size + 1, 1, none⟩ _ rfl)).trans (Fr.setCell (S := fun j => j = w.heap.size + 1) _ ⟨w.heap.size + 1, 2, none⟩ _ rfl)).trans (Fr.setCell (S := fun j => j = w.heap.size + 1) _ ⟨w.heap.size + 1, 3, none⟩ _ rfl)
  have k0 := hR2.cell 0
  have k1 := hR2.cell 1
  have k2 := hR2.cell 2
  have k3 := hR2.cell 3
  simp only [List.getElem?_toArray, List.getElem?_cons_zero, List.getElem?_cons_succ] at k0 k1 k2 k3
  exact bodyPost_ret (v := .tuple #[RV 0 0 0 (.slice none 0 0), .int .i64 2]) (by simp [results, Try.results27, go_sem, k0, k1, k2, k3]) rfl ⟨rfl, HB.out.trans (F.below HB.out.size (fun j hj e => by omega))⟩
/-- A reference grid's box is filled whole. -/
theorem rbox_set {W1 W : World} {hb : Nat} {u0 u1 u2 u3 v0 v1 v2 v3 : Value} (h : Blk W1 hb 60 #[u0, u1, u2, u3]) (hW : (((W1.setCell ⟨hb, 0, none⟩ v0).setCell ⟨hb, 1, none⟩ v1).setCell ⟨hb, 2, none⟩ v2).setCell ⟨hb, 3, none⟩ v3 = W) :
    Blk W hb 60 #[v0, v1, v2, v3] ∧ Fr (fun j => j = hb) W1 W := by
  subst hW
  exact ⟨(((h.set_ 0 _).set_ 1 _).set_ 2 _).set_ 3 _, (((Fr.setCell (S := fun j => j = hb) _ ⟨hb, 0, none⟩ _ rfl).trans (Fr.setCell (S := fun j => j = hb) _ ⟨hb, 1, none⟩ _ rfl)).trans (Fr.setCell (S := fun j => j = hb) _ ⟨hb, 2, none⟩ _ rfl)).trans (Fr.setCell (S := fun j => j = hb) _ ⟨hb, 3, none⟩ _ rfl)⟩
set_option maxHeartbeats 4000000 in
theorem rnew_ok (b t l : Int) (h : Gr.vld b t l = true) (w : World) : Calls Try.prog 27 #[CV b t l] w fun e w' => (∃ q cap, e = .returned (.tuple #[RV b t l (.slice (some ⟨q, 0, none⟩) (168 * b).toNat cap), .int .i64 0]) ∧ w.heap.size ≤ q ∧ POwn w' q 53 (.slice (some ⟨q, 0, none⟩) (168 * b).toNat cap) (Gr.newP b t l)) ∧ Below w.heap.size w w' := by
  have HV := hid (refValid17 b t l)
  rw [h] at HV
  have HR := hid (refReferences17 b t l)
  rw [if_pos h] at HR
  have hc := Gr.vld_iff.1 h
  have b0 := hc.b0
  have b1 := hc.b1
  obtain ⟨n, hn⟩ : ∃ n : Nat, (n : Int) = 168 * b := ⟨(168 * b).toNat, by omega⟩
  have hnt : (168 * b).toNat = n := by rw [← hn]; rfl
  have hnb : n ≤ 100000 := by omega
  have HG := hid (fun i (hi : i < (Gr.refL b t l).length) => (show ∃ j : Nat, (Gr.refL b t l).getD i 0 = (j : Int) ∧ j < n by
    obtain ⟨j, h1, h2, _⟩ := Gr.sel_get hi
    exact ⟨j, h1, by rw [hnt] at h2; exact h2⟩))
  have HN := hid (show Gr.newP b t l = Gr.putN (List.replicate n (0, 0)) (Gr.refL b t l) (fun _ => (1, 1)) (Gr.refL b t l).length by unfold Gr.newP; rw [hnt])
  have HLen := hid (show (Gr.refL b t l).length ≤ 100000 by
    have := Gr.sel_len (fun i => Gr.kd b t l i == 1) (168 * b).toNat
    unfold Gr.refL
    omega)
  rw [HN.out, hnt]
  generalize Gr.refL b t l = L at *
  have hmk := make2_eq n hnb
  have h168 : IntKind.i64.wrap (168 * b) = (n : Int) := by rw [hn]; exact IntWalk.i64_in _ (by omega)
  have h168' : 168 * b = (n : Int) := hn.symm
  have Hmk := hid hmk
  clear h hc hn HN hnt hmk
  go_enter Try.func27, Try.ntmps27
  go_wp2_with fail
  refine (HV.out _).mono ?_
  rintro r w1 ⟨rfl, B1⟩
  have HC1 := hid (show Blk w1 w.heap.size 23 #[.int .i64 b, .int .i64 t, .int .i64 l] from Blk.below ((Blk.new w _ _).fr (Fr.alloc (fun _ => False) _ _) (fun h => h)) B1 (by simp; omega))
  have HR1 := hid (show Blk w1 (w.heap.size + 1) 60 #[.int .i64 0, .int .i64 0, .int .i64 0, .slice none 0 0] from Blk.below (by have := Blk.new (w.alloc (.cells #[.int .i64 b, .int .i64 t, .int .i64 l] 23)) 60 #[.int .i64 0, .int .i64 0, .int .i64 0, .slice none 0 0]; rw [World.size_alloc] at this; exact this) B1 (by simp))
  have HB1 := hid (up_alloc (up_alloc B1))
  have hs1 : w.heap.size + 1 < w1.heap.size := HR1.out.lt
  clear B1
  have c0 : w1.drew.cell? ⟨w.heap.size, 0, none⟩ = some (.int .i64 b) := HC1.out.cell 0
  have c1 : w1.drew.cell? ⟨w.heap.size, 1, none⟩ = some (.int .i64 t) := HC1.out.cell 1
  have c2 : w1.drew.cell? ⟨w.heap.size, 2, none⟩ = some (.int .i64 l) := HC1.out.cell 2
  have d0 : w1.cell? ⟨w.heap.size, 0, none⟩ = some (.int .i64 b) := HC1.out.cell 0
  have d1 : w1.cell? ⟨w.heap.size, 1, none⟩ = some (.int .i64 t) := HC1.out.cell 1
  have d2 : w1.cell? ⟨w.heap.size, 2, none⟩ = some (.int .i64 l) := HC1.out.cell 2
  have hmk := Hmk.out
  have hl1 : w.heap.size < w1.heap.size := by omega
  have hl2 : w.heap.size < w1.heap.size + 1 := by omega
  have hwn : IntKind.i64.wrap (n : Int) = (n : Int) := IntWalk.i64_in _ (by omega)
  go_wp2
  go_region
  · clear c0 c1 c2 d0 d1 d2 hmk Hmk
    generalize hW : World.drew _ = w2
    have HBox := hid (show Blk w2 (w1.heap.size + 1) 60 #[.int .i64 b, .int .i64 t, .int .i64 l, .slice (some ⟨w1.heap.size, 0, none⟩) n n] by rw [← hW]; exact by have := Blk.new (w1.alloc (.cells (Array.replicate (n * 2) (.int .i64 0)) 53)) 60 #[.int .i64 b, .int .i64 t, .int .i64 l, .slice (some ⟨w1.heap.size, 0, none⟩) n n]; rw [World.size_alloc] at this; exact this.fr (Fr.drew (fun _ => False) _) (fun h => h))
    have HRow := hid (show POwn w2 (w1.heap.size) 53 (.slice (some ⟨w1.heap.size, 0, none⟩) n n) (List.replicate n (0, 0)) by rw [← hW]; exact (POwn.zeros w1 _ 53 n (Nat.le_refl _) (by omega)).fr ((Fr.alloc (fun _ => False) _ _).trans (Fr.drew _ _)) (fun _ _ h => h))
    have F : Fr (fun _ => False) w1 w2 := by rw [← hW]; exact ((Fr.alloc _ _ _).trans (Fr.alloc _ _ _)).trans (Fr.drew _ _)
    have HC2 := hid (HC1.out.fr F (fun h => h))
    have HR2 := hid (HR1.out.fr F (fun h => h))
    have HB2 := hid (HB1.out.trans (F.below HB1.out.size (fun _ _ h => h)))
    have h12 : w1.heap.size ≤ w2.heap.size := F.size
    have hgl := HBox.out.lt
    have hrl := (HRow.out.block (g := w1.heap.size) rfl).2
    clear hW F HC1 HR1 HB1
    have c0 : w2.cell? ⟨w.heap.size, 0, none⟩ = some (.int .i64 b) := HC2.out.cell 0
    have c1 : w2.cell? ⟨w.heap.size, 1, none⟩ = some (.int .i64 t) := HC2.out.cell 1
    have c2 : w2.cell? ⟨w.heap.size, 2, none⟩ = some (.int .i64 l) := HC2.out.cell 2
    go_wp2_with fail
    refine (HR.out _).mono ?_
    rintro r w3 ⟨⟨v', rfl, hown⟩, B⟩
    obtain ⟨a, c, rfl, _⟩ := hown.vw
    have HV3 := hid hown.vwA
    rw [List.length_map] at HV3 ⊢
    have HBox3 := hid (HBox.out.below B HBox.out.lt)
    have HRow3 := hid (HRow.out.below B (Nat.le_refl _))
    have HR3 := hid (HR2.out.below B HR2.out.lt)
    have HB3 := hid (below_then HB2.out B)
    clear B hown c0 c1 c2 HBox HRow HC2 HR2
    go_wp2
    go_loopw [6] (fun i wr => ∃ k : Nat, k ≤ L.length ∧ i = .int .i64 k ∧ Blk wr (w1.heap.size + 1) 60 #[.int .i64 b, .int .i64 t, .int .i64 l, .slice (some ⟨w1.heap.size, 0, none⟩) n n] ∧ POwn wr (w1.heap.size) 53 (.slice (some ⟨w1.heap.size, 0, none⟩) n n) (Gr.putN (List.replicate n (0, 0)) L (fun _ => (1, 1)) k) ∧ VwA wr w2.heap.size (.slice a L.length c) (L.map (Value.int .i64)) ∧ Blk wr (w.heap.size + 1) 60 #[.int .i64 0, .int .i64 0, .int .i64 0, .slice none 0 0] ∧ Below w.heap.size w wr) (fun i _ => L.length - (intOf i).toNat)
    case atStart => exact ⟨0, Nat.zero_le _, rfl, HBox3.out, HRow3.out, HV3.out, HR3.out, HB3.out⟩
    case round =>
      obtain ⟨k, hk, rfl, hBx, hO, hV, hRz, hB⟩ := hrel
      have hLb := HLen.out
      by_cases hlt : k < L.length
      · obtain ⟨j, hj, hjn⟩ := HG.out k hlt
        obtain ⟨b1', o1, cc, e1, hx⟩ := vw_at17 hV.vw hlt
        rw [hj] at hx
        cases e1
        have hst := hid (hO.stored j 1 1)
        obtain ⟨k0, k1⟩ := hO.cells (i := j) (by rw [Gr.putN_len, List.length_replicate]; exact hjn)
        have z0 := hO.free (j * 2)
        have z1 := hO.free (j * 2 + 1)
        have p3 : wr.cell? ⟨w1.heap.size + 1, 3, none⟩ = some (.slice (some ⟨w1.heap.size, 0, none⟩) n n) := hBx.cell 3
        have HY := hid (show Gr.putN (List.replicate n (0, 0)) L (fun _ => (1, 1)) (k + 1) = (Gr.putN (List.replicate n (0, 0)) L (fun _ => (1, 1)) k).set j (1, 1) by rw [Gr.putN, hj]; rfl)
        have HBx := hid hBx
        have HV := hid hV
        have HRz := hid hRz
        have HBr := hid hB
        clear hBx hO hV hRz hB
        go_wp2
        go_region
        all_goals
          generalize hW : World.drew _ = w9
          have F9 : Fr (fun q => q = w1.heap.size) wr w9 := by rw [← hW]; exact ((Fr.setCell (S := fun q => q = w1.heap.size) _ ⟨w1.heap.size, j * 2, none⟩ _ rfl).trans (Fr.setCell (S := fun q => q = w1.heap.size) _ ⟨w1.heap.size, j * 2 + 1, none⟩ _ rfl)).trans (Fr.drew _ _)
          have HO9 := hid (show POwn w9 (w1.heap.size) 53 (.slice (some ⟨w1.heap.size, 0, none⟩) n n) _ by rw [← hW]; exact hst.out.fr (Fr.drew (fun _ => False) _) (fun _ _ h => h))
          have HBx9 := hid (HBx.out.fr F9 (by omega))
          have HV9 := hid (HV.out.fr F9 (fun g' hg' e => by omega))
          have HRz9 := hid (HRz.out.fr F9 (by omega))
          have HBr9 := hid (HBr.out.trans (F9.below HBr.out.size (fun i hi e => by omega)))
          clear hW F9 k0 k1 z0 z1 p3 hx
          go_wp2
          go_roundw
          case rel => exact ⟨k + 1, by omega, by go_num, HBx9.out, by rw [HY.out]; exact HO9.out, HV9.out, HRz9.out, HBr9.out⟩
          case measure => simp [intOf]; omega
      · obtain rfl : k = L.length := by omega
        have HO9 := hid hO
        have HBr := hid hB
        have HRz := hid hRz
        have c0 : wr.cell? ⟨w1.heap.size + 1, 0, none⟩ = some (.int .i64 b) := hBx.cell 0
        have c1 : wr.cell? ⟨w1.heap.size + 1, 1, none⟩ = some (.int .i64 t) := hBx.cell 1
        have c2 : wr.cell? ⟨w1.heap.size + 1, 2, none⟩ = some (.int .i64 l) := hBx.cell 2
        have c3 : wr.cell? ⟨w1.heap.size + 1, 3, none⟩ = some (.slice (some ⟨w1.heap.size, 0, none⟩) n n) := hBx.cell 3
        have g0 : wr.cell? ⟨w.heap.size + 1, 0, none⟩ = some (.int .i64 0) := hRz.cell 0
        have g1 : wr.cell? ⟨w.heap.size + 1, 1, none⟩ = some (.int .i64 0) := hRz.cell 1
        have g2 : wr.cell? ⟨w.heap.size + 1, 2, none⟩ = some (.int .i64 0) := hRz.cell 2
        have g3 : wr.cell? ⟨w.heap.size + 1, 3, none⟩ = some (.slice none 0 0) := hRz.cell 3
        have f0 := hRz.frozen 0
        have f1 := hRz.frozen 1
        have f2 := hRz.frozen 2
        have f3 := hRz.frozen 3
        clear hBx hO hV hRz hB
        go_wp2
        generalize hW : World.setCell _ _ _ = w9
        obtain ⟨hR9, F9⟩ := rbox_set HRz.out hW
        have k0 := hR9.cell 0
        have k1 := hR9.cell 1
        have k2 := hR9.cell 2
        have k3 := hR9.cell 3
        simp only [List.getElem?_toArray, List.getElem?_cons_zero, List.getElem?_cons_succ] at k0 k1 k2 k3
        exact bodyPost_ret (v := .tuple #[RV b t l (.slice (some ⟨w1.heap.size, 0, none⟩) n n), .int .i64 0]) (by simp [results, Try.results27, go_sem, k0, k1, k2, k3]) rfl ⟨⟨w1.heap.size, n, rfl, by omega, HO9.out.fr F9 (fun g' e => by simp [Value.ownBlock] at e; omega)⟩, HBr.out.trans (F9.below HBr.out.size (fun j hj e => by omega))⟩
  · clear c0 c1 c2 d0 d1 d2 hmk Hmk
    generalize hW : World.drew _ = w2
    have HBox := hid (show Blk w2 (w1.heap.size) 60 #[.int .i64 b, .int .i64 t, .int .i64 l, .slice (some ⟨w1.heap.size + 1, 0, none⟩) n n] by rw [← hW]; exact (Blk.new w1 60 #[.int .i64 b, .int .i64 t, .int .i64 l, .slice (some ⟨w1.heap.size + 1, 0, none⟩) n n]).fr ((Fr.alloc (fun _ => False) _ _).trans (Fr.drew _ _)) (fun h => h))
    have HRow := hid (show POwn w2 (w1.heap.size + 1) 53 (.slice (some ⟨w1.heap.size + 1, 0, none⟩) n n) (List.replicate n (0, 0)) by rw [← hW]; exact by have := POwn.zeros (w1.alloc (.cells #[.int .i64 b, .int .i64 t, .int .i64 l, .slice (some ⟨w1.heap.size + 1, 0, none⟩) n n] 60)) (w1.heap.size + 1) 53 n (by rw [World.size_alloc]; exact Nat.le_refl _) (by omega); rw [World.size_alloc] at this; exact this.fr (Fr.drew (fun _ => False) _) (fun _ _ h => h))
    have F : Fr (fun _ => False) w1 w2 := by rw [← hW]; exact ((Fr.alloc _ _ _).trans (Fr.alloc _ _ _)).trans (Fr.drew _ _)
    have HC2 := hid (HC1.out.fr F (fun h => h))
    have HR2 := hid (HR1.out.fr F (fun h => h))
    have HB2 := hid (HB1.out.trans (F.below HB1.out.size (fun _ _ h => h)))
    have h12 : w1.heap.size ≤ w2.heap.size := F.size
    have hgl := HBox.out.lt
    have hrl := (HRow.out.block (g := w1.heap.size + 1) rfl).2
    clear hW F HC1 HR1 HB1
    have c0 : w2.cell? ⟨w.heap.size, 0, none⟩ = some (.int .i64 b) := HC2.out.cell 0
    have c1 : w2.cell? ⟨w.heap.size, 1, none⟩ = some (.int .i64 t) := HC2.out.cell 1
    have c2 : w2.cell? ⟨w.heap.size, 2, none⟩ = some (.int .i64 l) := HC2.out.cell 2
    go_wp2_with fail
    refine (HR.out _).mono ?_
    rintro r w3 ⟨⟨v', rfl, hown⟩, B⟩
    obtain ⟨a, c, rfl, _⟩ := hown.vw
    have HV3 := hid hown.vwA
    rw [List.length_map] at HV3 ⊢
    have HBox3 := hid (HBox.out.below B HBox.out.lt)
    have HRow3 := hid (HRow.out.below B (Nat.le_refl _))
    have HR3 := hid (HR2.out.below B HR2.out.lt)
    have HB3 := hid (below_then HB2.out B)
    clear B hown c0 c1 c2 HBox HRow HC2 HR2
    go_wp2
    go_loopw [6] (fun i wr => ∃ k : Nat, k ≤ L.length ∧ i = .int .i64 k ∧ Blk wr (w1.heap.size) 60 #[.int .i64 b, .int .i64 t, .int .i64 l, .slice (some ⟨w1.heap.size + 1, 0, none⟩) n n] ∧ POwn wr (w1.heap.size + 1) 53 (.slice (some ⟨w1.heap.size + 1, 0, none⟩) n n) (Gr.putN (List.replicate n (0, 0)) L (fun _ => (1, 1)) k) ∧ VwA wr w2.heap.size (.slice a L.length c) (L.map (Value.int .i64)) ∧ Blk wr (w.heap.size + 1) 60 #[.int .i64 0, .int .i64 0, .int .i64 0, .slice none 0 0] ∧ Below w.heap.size w wr) (fun i _ => L.length - (intOf i).toNat)
    case atStart => exact ⟨0, Nat.zero_le _, rfl, HBox3.out, HRow3.out, HV3.out, HR3.out, HB3.out⟩
    case round =>
      obtain ⟨k, hk, rfl, hBx, hO, hV, hRz, hB⟩ := hrel
      have hLb := HLen.out
      by_cases hlt : k < L.length
      · obtain ⟨j, hj, hjn⟩ := HG.out k hlt
        obtain ⟨b1', o1, cc, e1, hx⟩ := vw_at17 hV.vw hlt
        rw [hj] at hx
        cases e1
        have hst := hid (hO.stored j 1 1)
        obtain ⟨k0, k1⟩ := hO.cells (i := j) (by rw [Gr.putN_len, List.length_replicate]; exact hjn)
        have z0 := hO.free (j * 2)
        have z1 := hO.free (j * 2 + 1)
        have p3 : wr.cell? ⟨w1.heap.size, 3, none⟩ = some (.slice (some ⟨w1.heap.size + 1, 0, none⟩) n n) := hBx.cell 3
        have HY := hid (show Gr.putN (List.replicate n (0, 0)) L (fun _ => (1, 1)) (k + 1) = (Gr.putN (List.replicate n (0, 0)) L (fun _ => (1, 1)) k).set j (1, 1) by rw [Gr.putN, hj]; rfl)
        have HBx := hid hBx
        have HV := hid hV
        have HRz := hid hRz
        have HBr := hid hB
        clear hBx hO hV hRz hB
        go_wp2
        go_region
        all_goals
          generalize hW : World.drew _ = w9
          have F9 : Fr (fun q => q = w1.heap.size + 1) wr w9 := by rw [← hW]; exact ((Fr.setCell (S := fun q => q = w1.heap.size + 1) _ ⟨w1.heap.size + 1, j * 2, none⟩ _ rfl).trans (Fr.setCell (S := fun q => q = w1.heap.size + 1) _ ⟨w1.heap.size + 1, j * 2 + 1, none⟩ _ rfl)).trans (Fr.drew _ _)
          have HO9 := hid (show POwn w9 (w1.heap.size + 1) 53 (.slice (some ⟨w1.heap.size + 1, 0, none⟩) n n) _ by rw [← hW]; exact hst.out.fr (Fr.drew (fun _ => False) _) (fun _ _ h => h))
          have HBx9 := hid (HBx.out.fr F9 (by omega))
          have HV9 := hid (HV.out.fr F9 (fun g' hg' e => by omega))
          have HRz9 := hid (HRz.out.fr F9 (by omega))
          have HBr9 := hid (HBr.out.trans (F9.below HBr.out.size (fun i hi e => by omega)))
          clear hW F9 k0 k1 z0 z1 p3 hx
          go_wp2
          go_roundw
          case rel => exact ⟨k + 1, by omega, by go_num, HBx9.out, by rw [HY.out]; exact HO9.out, HV9.out, HRz9.out, HBr9.out⟩
          case measure => simp [intOf]; omega
      · obtain rfl : k = L.length := by omega
        have HO9 := hid hO
        have HBr := hid hB
        have HRz := hid hRz
        have c0 : wr.cell? ⟨w1.heap.size, 0, none⟩ = some (.int .i64 b) := hBx.cell 0
        have c1 : wr.cell? ⟨w1.heap.size, 1, none⟩ = some (.int .i64 t) := hBx.cell 1
        have c2 : wr.cell? ⟨w1.heap.size, 2, none⟩ = some (.int .i64 l) := hBx.cell 2
        have c3 : wr.cell? ⟨w1.heap.size, 3, none⟩ = some (.slice (some ⟨w1.heap.size + 1, 0, none⟩) n n) := hBx.cell 3
        have g0 : wr.cell? ⟨w.heap.size + 1, 0, none⟩ = some (.int .i64 0) := hRz.cell 0
        have g1 : wr.cell? ⟨w.heap.size + 1, 1, none⟩ = some (.int .i64 0) := hRz.cell 1
        have g2 : wr.cell? ⟨w.heap.size + 1, 2, none⟩ = some (.int .i64 0) := hRz.cell 2
        have g3 : wr.cell? ⟨w.heap.size + 1, 3, none⟩ = some (.slice none 0 0) := hRz.cell 3
        have f0 := hRz.frozen 0
        have f1 := hRz.frozen 1
        have f2 := hRz.frozen 2
        have f3 := hRz.frozen 3
        clear hBx hO hV hRz hB
        go_wp2
        generalize hW : World.setCell _ _ _ = w9
        obtain ⟨hR9, F9⟩ := rbox_set HRz.out hW
        have k0 := hR9.cell 0
        have k1 := hR9.cell 1
        have k2 := hR9.cell 2
        have k3 := hR9.cell 3
        simp only [List.getElem?_toArray, List.getElem?_cons_zero, List.getElem?_cons_succ] at k0 k1 k2 k3
        exact bodyPost_ret (v := .tuple #[RV b t l (.slice (some ⟨w1.heap.size + 1, 0, none⟩) n n), .int .i64 0]) (by simp [results, Try.results27, go_sem, k0, k1, k2, k3]) rfl ⟨⟨w1.heap.size + 1, n, rfl, by omega, HO9.out.fr F9 (fun g' e => by simp [Value.ownBlock] at e; omega)⟩, HBr.out.trans (F9.below HBr.out.size (fun j hj e => by omega))⟩
end Go.Proofs.Ytighnjbcnfnpmaa
