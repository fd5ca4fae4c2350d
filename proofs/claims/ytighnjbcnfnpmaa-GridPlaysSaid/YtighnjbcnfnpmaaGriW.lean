/- userplanelaw17: kind, works: the examples of the chapter hold. -/
import Derived.Test.YtighnjbcnfnpmaaGriI
namespace Go.Proofs.Ytighnjbcnfnpmaa
open Go.RowKit Go.Shelf
set_option linter.unusedVariables false
attribute [local go_sem ↓] Go.wp_at_zero Go.wp_at_succ
theorem lawKind_ok (b t l : Int) (i : Nat) (want : Int) (h : Gr.vld b t l = true) (hi : (i : Int) < 168 * b) (hk : Gr.kd b t l i = want) (w : World) : Calls Try.prog 37 #[CV b t l, .int .i64 i, .int .i64 want] w fun e w' => e = .returned (.bool true) ∧ Below w.heap.size w w' := by
  have HK := hid (fun w => kindF_ok b t l i w h hi)
  rw [hk] at HK
  clear hk h hi
  go_enter Try.func37, Try.ntmps37
  go_wp2_with fail
  refine (HK.out _).mono ?_
  rintro r w1 ⟨rfl, B1⟩
  go_wp2_with (go_at_call 12; refine (num17_any _ _).mono ?_; rintro r w' ⟨rfl, rfl⟩)
  go_ret
  exact ⟨rfl, up_alloc B1⟩
namespace Gr
theorem wk_a : (datL 6 1 0 0 1).length = 150 ∧ (datL 6 1 0 0 1).getD 0 0 = 72 ∧ datE 6 1 0 0 1 = 0 := by decide +kernel
theorem wk_b : (datL 6 1 0 0 6).length = 900 ∧ datE 6 1 0 0 6 = 0 := by decide +kernel
theorem wk_c : datE 6 1 0 6 1 = 2 := by decide +kernel
theorem wk_p : putE 6 1 0 1 1 1 = 0 ∧ putE 6 1 0 0 1 151 = 4 ∧ datE 6 1 0 1 1 = 0 ∧ (datL 6 1 0 1 1).length = 150 := by decide +kernel
theorem wk_g : (getP (putP 6 1 0 (newP 6 1 0) 1 1 [(3, -1)]) (datL 6 1 0 1 1)).getD 0 (0, 0) = (3, -1) ∧ (getP (putP 6 1 0 (newP 6 1 0) 1 1 [(3, -1)]) (datL 6 1 0 1 1)).getD 1 (0, 0) = (0, 0) := by decide +kernel
end Gr
theorem putP_len (b t l : Int) (P : List Pt) (first blocks : Int) (q : List Pt) : (Gr.putP b t l P first blocks q).length = P.length := by
  unfold Gr.putP
  split
  · rfl
  · rw [Gr.putN_len]
set_option maxRecDepth 100000 in
set_option maxHeartbeats 8000000 in
theorem works17 (w : World) : Calls Try.prog 15 #[] w fun e w' => e = .returned (.bool true) ∧ Below w.heap.size w w' := by
  have hv : Gr.vld 6 1 0 = true := by decide
  have hw : ∀ x : Int, x = 0 ∨ x = 1 ∨ x = 6 → (Lit.int .i64 x).wf = true := by rintro x (rfl | rfl | rfl) <;> decide
  have w0f := hw 0 (by omega)
  have w1f := hw 1 (by omega)
  have w6f := hw 6 (by omega)
  have K0 := hid (show ∀ w, Calls Try.prog 11 #[CV 6 1 0, .int .i64 1008] w _ from fun w => kindF_out 6 1 0 1008 w hv (by omega))
  have K1 := hid (show ∀ w, Calls Try.prog 37 #[CV 6 1 0, .int .i64 0, .int .i64 1] w _ from fun w => lawKind_ok 6 1 0 0 1 hv (by omega) (by decide) w)
  have K2 := hid (show ∀ w, Calls Try.prog 37 #[CV 6 1 0, .int .i64 1, .int .i64 2] w _ from fun w => lawKind_ok 6 1 0 1 2 hv (by omega) (by decide) w)
  have K3 := hid (show ∀ w, Calls Try.prog 37 #[CV 6 1 0, .int .i64 73, .int .i64 3] w _ from fun w => lawKind_ok 6 1 0 73 3 hv (by omega) (by decide) w)
  have K4 := hid (show ∀ w, Calls Try.prog 37 #[CV 6 1 0, .int .i64 291, .int .i64 1] w _ from fun w => lawKind_ok 6 1 0 291 1 hv (by omega) (by decide) w)
  have K5 := hid (data_any 6 1 0 0 1 w6f w0f w1f)
  have K6 := hid (data_any 6 1 0 0 6 w6f w0f w6f)
  have K7 := hid (data_any 6 1 0 6 1 w6f w6f w1f)
  have K8 := hid (gnew_ok 6 1 0 hv)
  rw [Gr.wk_a.2.2] at K5
  rw [Gr.wk_b.2] at K6
  rw [Gr.wk_c] at K7
  have ea := hid Gr.wk_a
  have eb := hid Gr.wk_b
  generalize Gr.datL 6 1 0 0 1 = La at *
  generalize Gr.datL 6 1 0 0 6 = Lb at *
  clear hw
  go_enter Try.func15, Try.ntmps15
  go_wp2_with fail
  refine (K0.out _).mono ?_
  rintro r w1 ⟨rfl, B⟩
  have HC1 := hid (show Blk w1 w.heap.size 23 #[.int .i64 6, .int .i64 1, .int .i64 0] from Blk.below (Blk.new w _ _) B (by simp))
  have HB1 := hid (up_alloc B)
  have hl1 : w.heap.size < w1.heap.size := HC1.out.lt
  clear B
  have c0 : w1.cell? ⟨w.heap.size, 0, none⟩ = some (.int .i64 6) := HC1.out.cell 0
  have c1 : w1.cell? ⟨w.heap.size, 1, none⟩ = some (.int .i64 1) := HC1.out.cell 1
  have c2 : w1.cell? ⟨w.heap.size, 2, none⟩ = some (.int .i64 0) := HC1.out.cell 2
  go_wp2_with fail
  refine (K1.out _).mono ?_
  rintro r w2 ⟨rfl, B⟩
  have HC2 := hid (HC1.out.below B HC1.out.lt)
  have HB2 := hid (below_then HB1.out B)
  clear B HC1 HB1 c0 c1 c2
  have c0 : w2.cell? ⟨w.heap.size, 0, none⟩ = some (.int .i64 6) := HC2.out.cell 0
  have c1 : w2.cell? ⟨w.heap.size, 1, none⟩ = some (.int .i64 1) := HC2.out.cell 1
  have c2 : w2.cell? ⟨w.heap.size, 2, none⟩ = some (.int .i64 0) := HC2.out.cell 2
  go_wp2_with fail
  refine (K2.out _).mono ?_
  rintro r w3 ⟨rfl, B⟩
  have HC3 := hid (HC2.out.below B HC2.out.lt)
  have HB3 := hid (below_then HB2.out B)
  clear B HC2 HB2 c0 c1 c2
  have c0 : w3.cell? ⟨w.heap.size, 0, none⟩ = some (.int .i64 6) := HC3.out.cell 0
  have c1 : w3.cell? ⟨w.heap.size, 1, none⟩ = some (.int .i64 1) := HC3.out.cell 1
  have c2 : w3.cell? ⟨w.heap.size, 2, none⟩ = some (.int .i64 0) := HC3.out.cell 2
  go_wp2_with fail
  refine (K3.out _).mono ?_
  rintro r w4 ⟨rfl, B⟩
  have HC4 := hid (HC3.out.below B HC3.out.lt)
  have HB4 := hid (below_then HB3.out B)
  clear B HC3 HB3 c0 c1 c2
  have c0 : w4.cell? ⟨w.heap.size, 0, none⟩ = some (.int .i64 6) := HC4.out.cell 0
  have c1 : w4.cell? ⟨w.heap.size, 1, none⟩ = some (.int .i64 1) := HC4.out.cell 1
  have c2 : w4.cell? ⟨w.heap.size, 2, none⟩ = some (.int .i64 0) := HC4.out.cell 2
  go_wp2_with fail
  refine (K4.out _).mono ?_
  rintro r w5 ⟨rfl, B⟩
  have HC5 := hid (HC4.out.below B HC4.out.lt)
  have HB5 := hid (below_then HB4.out B)
  clear B HC4 HB4 c0 c1 c2
  have c0 : w5.cell? ⟨w.heap.size, 0, none⟩ = some (.int .i64 6) := HC5.out.cell 0
  have c1 : w5.cell? ⟨w.heap.size, 1, none⟩ = some (.int .i64 1) := HC5.out.cell 1
  have c2 : w5.cell? ⟨w.heap.size, 2, none⟩ = some (.int .i64 0) := HC5.out.cell 2
  go_wp2_with (go_at_call 12; refine (num17_any _ _).mono ?_; rintro r w' ⟨rfl, rfl⟩)
  refine (K5.out _).mono ?_
  rintro r w6 ⟨⟨va, rfl, hVa⟩, B⟩
  have HVa6 := hid hVa
  clear hVa
  have HC6 := hid (HC5.out.below B HC5.out.lt)
  have HB6 := hid (below_then HB5.out B)
  clear B HC5 HB5 c0 c1 c2
  have c0 : w6.cell? ⟨w.heap.size, 0, none⟩ = some (.int .i64 6) := HC6.out.cell 0
  have c1 : w6.cell? ⟨w.heap.size, 1, none⟩ = some (.int .i64 1) := HC6.out.cell 1
  have c2 : w6.cell? ⟨w.heap.size, 2, none⟩ = some (.int .i64 0) := HC6.out.cell 2
  go_wp2_with fail
  refine (K6.out _).mono ?_
  rintro r w7 ⟨⟨vb, rfl, hVb⟩, B⟩
  have HVb7 := hid hVb
  have HVa7 := hid (HVa6.out.below B (Nat.le_refl _))
  clear hVb HVa6
  have HC7 := hid (HC6.out.below B HC6.out.lt)
  have HB7 := hid (below_then HB6.out B)
  clear B HC6 HB6 c0 c1 c2
  have c0 : w7.cell? ⟨w.heap.size, 0, none⟩ = some (.int .i64 6) := HC7.out.cell 0
  have c1 : w7.cell? ⟨w.heap.size, 1, none⟩ = some (.int .i64 1) := HC7.out.cell 1
  have c2 : w7.cell? ⟨w.heap.size, 2, none⟩ = some (.int .i64 0) := HC7.out.cell 2
  go_wp2_with fail
  refine (K7.out _).mono ?_
  rintro r w8 ⟨⟨vc, rfl, hVc⟩, B⟩
  have HVb8 := hid (HVb7.out.below B (Nat.le_refl _))
  have HVa8 := hid (HVa7.out.below B (Nat.le_refl _))
  clear hVc HVb7 HVa7
  have HC8 := hid (HC7.out.below B HC7.out.lt)
  have HB8 := hid (below_then HB7.out B)
  clear B HC7 HB7 c0 c1 c2
  have c0 : w8.cell? ⟨w.heap.size, 0, none⟩ = some (.int .i64 6) := HC8.out.cell 0
  have c1 : w8.cell? ⟨w.heap.size, 1, none⟩ = some (.int .i64 1) := HC8.out.cell 1
  have c2 : w8.cell? ⟨w.heap.size, 2, none⟩ = some (.int .i64 0) := HC8.out.cell 2
  obtain ⟨ba, oa, ca, ea1, hxa⟩ := vw_at17 HVa8.out.vw (i := 0) (by rw [ea.out.1]; omega)
  obtain ⟨ab, cb, eb1, _⟩ := HVb8.out.vw
  rw [ea.out.1] at ea1
  rw [List.length_map, eb.out.1] at eb1
  rw [ea.out.2.1] at hxa
  rw [Nat.add_zero] at hxa
  subst ea1 eb1
  go_wp2_with (go_at_call 12; refine (num17_any _ _).mono ?_; rintro r w' ⟨rfl, rfl⟩)
  have hl8 := HC8.out.lt
  refine (K8.out _).mono ?_
  rintro r w9 ⟨⟨g, q, rfl, hg, hq, hG⟩, B⟩
  have HG9 := hid hG
  clear hG hxa HVa8 HVb8
  have HC9 := hid (HC8.out.below B HC8.out.lt)
  have HB9 := hid (below_then HB8.out B)
  clear B HC8 HB8 c0 c1 c2
  have c0 : w9.cell? ⟨w.heap.size, 0, none⟩ = some (.int .i64 6) := HC9.out.cell 0
  have c1 : w9.cell? ⟨w.heap.size, 1, none⟩ = some (.int .i64 1) := HC9.out.cell 1
  have c2 : w9.cell? ⟨w.heap.size, 2, none⟩ = some (.int .i64 0) := HC9.out.cell 2
  have hgl := HG9.out.lt
  have B := below_alloc w9 (.cells #[.int .i64 3, .int .i64 (-1)] 53)
  have HP := hid (gput_ok (HG9.out.blw B) hv (Gr.newP_len 6 1 0) 1 1 w1f w1f _ [(3, -1)] (PVw.lit1 w9 3 (-1) 53) (fun b off m c e => by cases e; omega) Gr.wk_p.1)
  clear B
  go_wp2_with fail
  refine HP.out.mono ?_
  rintro r w10 ⟨rfl, hG, F⟩
  have HG10 := hid hG
  have HC10 := hid ((HC9.out.fr (Fr.alloc (fun _ => False) _ _) (fun h => h)).fr F (by omega))
  have hs : w9.heap.size < w10.heap.size := Nat.lt_of_lt_of_le (by simp) F.size
  have HB10 := hid ((HB9.out.trans ((below_alloc w9 _).mono HB9.out.size)).trans (F.below (by have := HB9.out.size; simp; omega) (fun k hk e => by omega)))
  clear HC9 HB9 HP hG F c0 c1 c2
  have HQ := hid (gget_any HG10.out hv (by rw [putP_len]; exact Gr.newP_len 6 1 0) 1 1 w1f w1f)
  rw [Gr.wk_p.2.2.1] at HQ
  have hGl := HG10.out.lt
  go_wp2_with fail
  refine HQ.out.mono ?_
  rintro r w11 ⟨⟨vl, rfl, hV⟩, B⟩
  have HG11 := hid (HG10.out.blw B)
  have HB11 := hid (below_then HB10.out B)
  have eg := hid Gr.wk_g
  have hlen : (Gr.getP (Gr.putP 6 1 0 (Gr.newP 6 1 0) 1 1 [(3, -1)]) (Gr.datL 6 1 0 1 1)).length = 150 := by rw [Gr.getP_len]; exact Gr.wk_p.2.2.2
  generalize Gr.getP (Gr.putP 6 1 0 (Gr.newP 6 1 0) 1 1 [(3, -1)]) (Gr.datL 6 1 0 1 1) = Lg at *
  obtain ⟨gl, cl, rfl⟩ := hV.shape 150 hlen (by omega)
  have HV := hid hV
  have Hlen := hid hlen
  clear hV hlen B HQ HB10 HC10
  have Bm := below_alloc w11 (.cells (Array.replicate (151 * 2) (.int .i64 0)) 53)
  have HE := hid (gput_err (HG11.out.blw Bm) hv (by rw [putP_len, Gr.newP_len]; decide) 0 1 w0f w1f (.slice (some ⟨w11.heap.size, 0, none⟩) 151 151) (List.replicate 151 (0, 0)) (POwn.zeros w11 _ 53 151 (Nat.le_refl _) (by omega)).vw (by rw [List.length_replicate, Gr.wk_p.2.1]; omega))
  rw [List.length_replicate, Gr.wk_p.2.1] at HE
  go_wp2_with (at_make; refine wpList_run_value rfl (exec_make_two pelem (.const (.int .i64 151)) (.const (.int .i64 151)) rfl .i64 .i64 _ _ 151 rfl rfl rfl rfl (by omega)) ?_)
  refine HE.out.mono ?_
  rintro r w12 ⟨rfl, B⟩
  have HB12 := hid (below_then HB11.out (up_alloc B))
  obtain ⟨k0, k1⟩ := (HV.out.below (up_alloc B) (Nat.le_refl _)).cells (i := 0) (by rw [Hlen.out]; omega)
  obtain ⟨k2, k3⟩ := (HV.out.below (up_alloc B) (Nat.le_refl _)).cells (i := 1) (by rw [Hlen.out]; omega)
  rw [eg.out.1] at k0 k1
  rw [eg.out.2] at k2 k3
  dsimp only at k0 k1 k2 k3
  clear HE B
  go_wp2_with (go_at_call 12; refine (num17_any _ _).mono ?_; rintro r w' ⟨rfl, rfl⟩)
  go_ret
  exact ⟨rfl, HB12.out⟩
end Go.Proofs.Ytighnjbcnfnpmaa
