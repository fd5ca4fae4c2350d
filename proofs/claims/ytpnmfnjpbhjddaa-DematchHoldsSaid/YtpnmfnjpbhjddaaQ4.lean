/- Texts of the proof, one after another: RmG RmH RmI. -/
import Derived.Test.YtpnmfnjpbhjddaaQ3
import Derived.Test.YtpnmfnjpbhjddaaQ2
import Derived.Test.YtpnmfnjpbhjddaaQ1
import Derived.Outline
/- userplane/ratematch: Positions. -/
namespace Go.Proofs.Ytpnmfnjpbhjddaa
open Go.RowKit Go.Shelf
set_option linter.unusedVariables false
attribute [local go_sem] Oper.semAt_some
theorem anyU_any (w : World) (v : Value) (L : List Int) (hv : Vw w v (L.map (Value.int .i64))) (hl : L.length ≤ 9223372036854775807) :
    Calls Try.prog 44 #[v, .func (.func 22) #[] #[]] w fun e w' => e = .returned (.bool (Rm.anyU L)) ∧ w = w' := by
  have := icontains_any w v (L.map (Value.int .i64)) hv (by simpa using hl) 22 #[] (enters_of Try.func22 (by kernel_rfl) rfl) (fun i => Rm.us (L.getD i 0))
    (fun i hi => by
      have hi' : i < L.length := by simpa using hi
      have e : (L.map (Value.int .i64))[i] = Value.int .i64 (L.getD i 0) := by simp [List.getD, hi']
      rw [e]
      exact (usable_any _ _).mono fun e w' h => ⟨h.1, h.2.symm⟩)
  rw [List.length_map] at this
  exact this.mono fun e w' h => ⟨h.1, h.2.symm⟩
set_option maxHeartbeats 1000000 in
theorem rmPos_err (k f limit rv n : Int) (h : ¬ (Rm.valid k f limit = true ∧ 0 ≤ rv ∧ rv ≤ 3 ∧ 0 ≤ n ∧ n ≤ 131072)) (w : World) :
    Calls Try.prog 23 #[.int .i64 k, .int .i64 f, .int .i64 limit, .int .i64 rv, .int .i64 n] w fun e w' => e = .returned (.tuple #[.slice none 0 0, .int .i64 2]) ∧ Below w.heap.size w w' := by
  cases hv : Rm.valid k f limit with
  | false =>
    have C := hid (rmOf_err k f limit hv)
    clear hv h
    go_enter Try.func23, Try.ntmps23
    go_wp2
    go_step3
    go_wp2_with (go_at_call 41; refine (C.out _).mono ?_; rintro e w1 ⟨rfl, B1⟩)
    rw [Exit.noGoto_ret]
    go_ret2
    exact ⟨rfl, below_then (below_alloc _ _) (below_then B1 (below_alloc _ _))⟩
  | true =>
    obtain ⟨h1, h2, h3, h4, h5⟩ := Rm.valid_of hv
    rw [hv] at h
    clear hv
    obtain ⟨k, rfl⟩ := Int.eq_ofNat_of_zero_le (show 0 ≤ k by omega)
    obtain ⟨f, rfl⟩ := Int.eq_ofNat_of_zero_le h3
    have C := hid (rmOf_ok k f limit (by omega) (by omega) (by omega) h5)
    generalize Rm.rows k = R at *
    generalize Rm.size k limit = S at *
    have h' : rv < 0 ∨ 3 < rv ∨ n < 0 ∨ 131072 < n := by
      rcases Classical.em (rv < 0 ∨ 3 < rv ∨ n < 0 ∨ 131072 < n) with h' | h'
      · exact h'
      · exact absurd ⟨rfl, by omega, by omega, by omega, by omega⟩ h
    clear h h1 h2 h3 h4 h5
    by_cases e1 : rv < 0
    · clear h'
      go_enter Try.func23, Try.ntmps23
      go_wp2
      go_step3
      go_wp2_with (go_at_call 41; refine (C.out _).mono ?_; rintro e w1 ⟨rfl, B1⟩)
      rw [Exit.noGoto_ret]
      go_ret2
      exact ⟨rfl, below_then (below_alloc _ _) (below_then B1 (below_alloc _ _))⟩
    by_cases e2 : 3 < rv
    · clear h'
      go_enter Try.func23, Try.ntmps23
      go_wp2
      go_step3
      go_wp2_with (go_at_call 41; refine (C.out _).mono ?_; rintro e w1 ⟨rfl, B1⟩)
      rw [Exit.noGoto_ret]
      go_ret2
      exact ⟨rfl, below_then (below_alloc _ _) (below_then B1 (below_alloc _ _))⟩
    by_cases e3 : n < 0
    · clear h'
      go_enter Try.func23, Try.ntmps23
      go_wp2
      go_step3
      go_wp2_with fail
      refine (C.out _).mono ?_
      rintro e w1 ⟨rfl, B1⟩
      have hlt : w.heap.size < w1.heap.size := by have := B1.size; simp at this; omega
      have hce : w1.cell? ⟨w.heap.size, 0, none⟩ = some (.int .i64 n) := (B1.cell (p := ⟨w.heap.size, 0, none⟩) (by simp)).trans (by go_simp)
      have BB := below_then (below_alloc _ _) (below_then B1 (below_alloc w1 (.cells #[.int .i64 k, .int .i64 f, .int .i64 R, .int .i64 S] 70)))
      clear B1
      go_wp2
      rw [Exit.noGoto_ret]
      go_ret2
      exact ⟨rfl, BB⟩
    have e4 : 131072 < n := by omega
    clear h'
    go_enter Try.func23, Try.ntmps23
    go_wp2
    go_step3
    go_wp2_with fail
    refine (C.out _).mono ?_
    rintro e w1 ⟨rfl, B1⟩
    have hlt : w.heap.size < w1.heap.size := by have := B1.size; simp at this; omega
    have hce : w1.cell? ⟨w.heap.size, 0, none⟩ = some (.int .i64 n) := (B1.cell (p := ⟨w.heap.size, 0, none⟩) (by simp)).trans (by go_simp)
    have BB := below_then (below_alloc _ _) (below_then B1 (below_alloc w1 (.cells #[.int .i64 k, .int .i64 f, .int .i64 R, .int .i64 S] 70)))
    clear B1
    go_wp2
    rw [Exit.noGoto_ret]
    go_ret2
    exact ⟨rfl, BB⟩
end Go.Proofs.Ytpnmfnjpbhjddaa
/- userplane/ratematch: Positions of a valid selection. -/
namespace Go.Proofs.Ytpnmfnjpbhjddaa
open Go.RowKit Go.Shelf
set_option linter.unusedVariables false
attribute [local go_sem] Oper.semAt_some
set_option maxHeartbeats 4000000 in
theorem rmPos_ok (k f rv n : Nat) (limit : Int) (hk1 : 40 ≤ k) (hk2 : k ≤ 6144) (hf : f < k) (hl : 1 ≤ limit) (hrv : rv ≤ 3) (hn0 : 1 ≤ n) (hn : n ≤ 131072) (R S st : Nat) (L : List Int) (hR : R = Rm.rows k) (hS : S = Rm.size k limit) (hL : L = Rm.buf k f R S) (hst : st = Rm.start R S rv) (hu : Rm.cnt L L.length ≠ 0) (w : World) :
    Calls Try.prog 23 #[.int .i64 k, .int .i64 f, .int .i64 limit, .int .i64 rv, .int .i64 n] w fun e w' => (∃ v', e = .returned (.tuple #[v', .int .i64 0]) ∧ OwnL w' w.heap.size 3 v' ((Rm.posL L st n).map (Value.int .i64))) ∧ Below w.heap.size w w' := by
  have hr := Rm.rows_bd hk1 hk2
  have hs := Rm.size_bd (k := k) hl hk1
  rw [← hR] at hr hs
  rw [← hS] at hs
  have C := hid (rmOf_ok k f limit hk1 hk2 hf hl)
  rw [← hR, ← hS] at C
  have CB := hid (fun w => buffer_any k f R S hk1 hk2 hf hr.2.2.1 hr.2.2.2 hs.2 w)
  rw [← hL] at CB
  have CS := hid (fun w => start_any k f R S rv hr.1 (by omega) hs.1 hs.2 hrv w)
  rw [← hst] at CS
  have HL := hid (show L.length = S by rw [hL]; exact Rm.buf_len hs.2)
  have hstl : st < S := by rw [hst]; exact Rm.start_lt hs.1
  have HU := hid (show ∃ j, j < L.length ∧ Rm.us (L.getD j 0) = true from Rm.cnt_pos hu)
  have CU := hid (show ∀ w v, Vw w v (L.map (Value.int .i64)) → Calls Try.prog 44 #[v, .func (.func 22) #[] #[]] w fun e w' => e = .returned (.bool true) ∧ w = w' from fun w v h => by
    have := anyU_any w v L h (by rw [HL.out]; omega)
    rwa [Rm.anyU_eq, decide_eq_true hu] at this)
  have hSb : S ≤ 20000 := by omega
  have hS1 := hs.1
  clear hR hS hL hst hu hr hs
  unfold wordV at CB CS
  have e1 : ¬ (rv : Int) < 0 := by omega
  have e2 : ¬ (3 : Int) < (rv : Int) := by omega
  have e3 : ¬ (n : Int) < 0 := by omega
  have e4 : ¬ (131072 : Int) < (n : Int) := by omega
  have e5 : ((n : Int) == 0) = false := by rw [beq_eq_false_iff_ne]; omega
  refine calls_of_wp_marks Try.func23 rfl ?_
  simp only [Try.ntmps23, List.size_toArray, List.length_cons, List.length_nil, Nat.reduceAdd, Nat.reduceSub, Array.replicate_succ, Array.replicate_zero, List.push_toArray, List.append_toArray, List.nil_append, List.cons_append]
  go_wp2
  go_step3
  go_wp2_with fail
  refine (C.out _).mono ?_
  rintro e w1 ⟨rfl, B1⟩
  have hlt1 : w.heap.size < w1.heap.size := by have := B1.size; simp at this; omega
  have hce : w1.cell? ⟨w.heap.size, 0, none⟩ = some (.int .i64 n) := (B1.cell (p := ⟨w.heap.size, 0, none⟩) (by simp)).trans (by go_simp)
  have BB := below_then (below_alloc _ _) B1
  clear B1
  go_wp2_with fail
  refine (CB.out _).mono ?_
  rintro e w2 ⟨⟨v2, rfl, V2⟩, B2⟩
  have hlt2 : w1.heap.size < w2.heap.size := by have := B2.size; simp at this; omega
  have hce2 : w2.cell? ⟨w.heap.size, 0, none⟩ = some (.int .i64 n) := (B2.cell (p := ⟨w.heap.size, 0, none⟩) (by simp; omega)).trans (by go_simp)
  have hcw : w2.cell? ⟨w1.heap.size, 0, none⟩ = some (.int .i64 k) ∧ w2.cell? ⟨w1.heap.size, 1, none⟩ = some (.int .i64 f) ∧ w2.cell? ⟨w1.heap.size, 2, none⟩ = some (.int .i64 R) ∧ w2.cell? ⟨w1.heap.size, 3, none⟩ = some (.int .i64 S) :=
    ⟨(B2.cell (p := ⟨w1.heap.size, 0, none⟩) (by simp)).trans (by go_simp), (B2.cell (p := ⟨w1.heap.size, 1, none⟩) (by simp)).trans (by go_simp), (B2.cell (p := ⟨w1.heap.size, 2, none⟩) (by simp)).trans (by go_simp), (B2.cell (p := ⟨w1.heap.size, 3, none⟩) (by simp)).trans (by go_simp)⟩
  obtain ⟨hcw0, hcw1, hcw2, hcw3⟩ := hcw
  have BB2 := below_then BB (below_then (below_alloc _ _) B2)
  have HV2 := hid V2
  obtain ⟨va, vc, rfl, _⟩ := V2
  rw [List.length_map, HL.out] at HV2 ⊢
  have HVA := hid (show ∀ gb off, va = some ⟨gb, off, none⟩ → gb < w2.heap.size from fun gb off e => by
    subst e
    rcases vw_split HV2.out with ⟨a0, c0, _, h0⟩ | ⟨gb', off', cb', hvb, hp0, hcl⟩
    · rw [h0] at HL; have := HL.out; simp at this; omega
    · cases hvb; exact World.block_lt_of_cell? _ _ (hcl 0 hp0))
  clear B2 hce BB
  have hlt3 : w.heap.size < w2.heap.size := by omega
  go_wp2_with (first
    | (go_at_call 44; refine (CU.out _ _ HV2.out).mono ?_; rintro e w' ⟨rfl, rfl⟩)
    | (at_make; refine wpList_run_value rfl (exec_make_one elem_int (.const (.int .i64 0)) (.tmp 51) rfl .i64 .i64 _ _ 0 n rfl rfl rfl rfl (by omega) (by omega) (by omega)) ?_))
  generalize hW3 : World.alloc _ _ = W3
  replace hW3 := hW3.symm
  obtain ⟨n2, hn2⟩ : ∃ n2, n2 = w2.heap.size := ⟨_, rfl⟩
  rw [← hn2] at HVA
  have hs3 : W3.heap.size = n2 + 2 := by rw [hW3, hn2]; simp
  have B23 : Below w2.heap.size w2 W3 := by rw [hW3]; exact ((Below.refl _ _).alloc (Nat.le_refl _) _).alloc (by simp) _
  have hce3 := hid ((B23.cell (p := ⟨w.heap.size, 0, none⟩) hlt3).trans hce2)
  have k0 := hid ((B23.cell (p := ⟨w1.heap.size, 0, none⟩) hlt2).trans hcw0)
  have k1 := hid ((B23.cell (p := ⟨w1.heap.size, 1, none⟩) hlt2).trans hcw1)
  have k2 := hid ((B23.cell (p := ⟨w1.heap.size, 2, none⟩) hlt2).trans hcw2)
  have k3 := hid ((B23.cell (p := ⟨w1.heap.size, 3, none⟩) hlt2).trans hcw3)
  have own3 := hid (show OwnL W3 w.heap.size 3 (.slice (some ⟨n2, 0, none⟩) 0 n) [] by
    rw [hW3, hn2]
    exact (OwnL.empty w2 w.heap.size 3 n (.int .i64 0) (by omega) (by omega)).alloc _)
  have out3 := hid (show OwnL W3 w.heap.size 22 (.slice (some ⟨n2 + 1, 0, none⟩) 1 1) [.slice (some ⟨n2, 0, none⟩) 0 n] by
    rw [hW3, hn2]
    have h1 := OwnL.made (w2.alloc (.cells (Array.replicate n (.int .i64 0)) 3)) w.heap.size 22 [.slice (some ⟨w2.heap.size, 0, none⟩) 0 n] (by simp; omega) (by simp)
    rw [World.size_alloc] at h1
    exact h1)
  have V3 := hid (HV2.out.below B23 (Nat.le_refl _))
  have BB3 := hid (below_then BB2 B23)
  have hm1 : w.heap.size < n2 := by omega
  have hm2 : w1.heap.size < n2 := by omega
  have hm3 := hid hs3
  rw [← hn2] at *
  clear hW3 B23 hce2 hcw0 hcw1 hcw2 hcw3 BB2 HV2 hn2 hlt2 hlt3 hs3
  have k0' := k0.out
  have k1' := k1.out
  have k2' := k2.out
  have k3' := k3.out
  go_step3
  go_wp2_with fail
  refine (CS.out _).mono ?_
  rintro e w4 ⟨rfl, B4⟩
  have hs4 : n2 + 2 ≤ w4.heap.size := by have := B4.size; have := hm3.out; omega
  have hce4 := hid ((B4.cell (p := ⟨w.heap.size, 0, none⟩) (by have := hm3.out; dsimp only; omega)).trans hce3.out)
  have own4 := hid (own3.out.fr (Fr.of_below B4) (fun b e => by have := (own3.out.block e).2; omega))
  have out4 := hid (out3.out.fr (Fr.of_below B4) (fun b e => by have := (out3.out.block e).2; omega))
  have V4 := hid (V3.out.below B4 (Nat.le_refl _))
  have BB4 := hid (below_then BB3.out B4)
  clear k0' k1' k2' k3' k0 k1 k2 k3 B4 hce3 own3 out3 V3 BB3 hm3
  go_wp2_with fail
  refine (around_any _ _ _ _ _).mono ?_
  rintro e w5 ⟨rfl, rfl⟩
  generalize hW : World.alloc _ _ = W
  replace hW := hW.symm
  obtain ⟨n4, hn4⟩ : ∃ n4, n4 = w4.heap.size := ⟨_, rfl⟩
  rw [← hn4] at hs4
  have hWs : W.heap.size = n4 + 2 := by rw [hW, hn4]; simp
  have BW : Below w4.heap.size w4 W := by rw [hW]; exact two_boxes _ _ _
  rcases vw_split V4.out with ⟨a0, c0, _, h0⟩ | ⟨gb, off, cb, hvb, hp0, hcl⟩
  · exfalso; rw [h0] at HL; have := HL.out; simp at this; omega
  have hgbl : gb < w4.heap.size := World.block_lt_of_cell? _ _ (hcl 0 hp0)
  rw [HL.out] at hvb
  cases hvb
  have hcf : W.cell? ⟨n4 + 1, 0, none⟩ = some (.int .i64 st) := by rw [hW, hn4]; go_simp
  have hcb : W.cell? ⟨n4, 0, none⟩ = some (.slice (some ⟨gb, off, none⟩) S vc) := by rw [hW, hn4]; go_simp
  have hcell : ∀ j, j < L.length → W.cell? ⟨gb, off + j, none⟩ = some (.int .i64 (L.getD j 0)) := fun j hj => (BW.cell (p := ⟨gb, off + j, none⟩) hgbl).trans (hcl j hj)
  have hceW := hid ((BW.cell (p := ⟨w.heap.size, 0, none⟩) (by dsimp only; omega)).trans hce4.out)
  have ownW := hid (own4.out.fr (Fr.of_below BW) (fun b e => by have := (own4.out.block e).2; omega))
  have outW := hid (out4.out.fr (Fr.of_below BW) (fun b e => by have := (out4.out.block e).2; omega))
  have BBW := hid (below_then BB4.out BW)
  have hgne : gb < n2 := HVA.out gb off rfl
  have HIT := hid (around1_iter L st (n4 + 1) n4 gb off vc hp0 (by rw [HL.out]; omega) (by rw [HL.out]; exact hstl) (fun b => b = n4 + 1 ∨ b = n4 ∨ b = gb) (.inl rfl) (.inr (.inl rfl)) (.inr (.inr rfl)) W hcf (by rw [HL.out]; exact hcb) hcell (by intro b hb; omega))
  rw [← hn4] at *
  have HS := hid hWs
  have Hn := hid (show n2 + 2 ≤ n4 from hs4)
  have Hgb := hid hgne
  clear hW hWs hcf hcb hcell hcl BW hs4 hlt1 own4 out4 V4 BB4 hce4 hgne hgbl HVA C CB CS
  go_wp2
  refine (wpIn_wide (n := 1)).1 ?_
  refine wpIn_range (gf := 53) (lb := #[.pointer (some ⟨n4 + 1, 0, none⟩), .pointer (some ⟨n4, 0, none⟩)]) rfl (enters_of Try.func53 (by kernel_rfl) rfl) HIT.out (Below.refl _ _) (fun _ => rfl)
    (fun k V => ∃ m, m = (Rm.selL L st k).length ∧ m < n ∧ OwnL V w.heap.size 3 (.slice (some ⟨n2, 0, none⟩) m n) ((Rm.selL L st k).map (Value.int .i64)) ∧ OwnL V w.heap.size 22 (.slice (some ⟨n2 + 1, 0, none⟩) 1 1) [.slice (some ⟨n2, 0, none⟩) m n] ∧
      V.cell? ⟨w.heap.size, 0, none⟩ = some (.int .i64 n) ∧ Below w.heap.size w V)
    (fun k c V => c = .exit 1 ∧ (Rm.selL L st k).length = n ∧ OwnL V w.heap.size 3 (.slice (some ⟨n2, 0, none⟩) n n) ((Rm.selL L st k).map (Value.int .i64)) ∧ OwnL V w.heap.size 22 (.slice (some ⟨n2 + 1, 0, none⟩) 1 1) [.slice (some ⟨n2, 0, none⟩) n n] ∧ Below w.heap.size w V)
    (fun k A V h hf => by
      obtain ⟨m, hm, hlt, h1, h2, h3, h4⟩ := h
      have := HS.out; have := Hn.out
      exact ⟨m, hm, hlt, h1.fr hf (fun g e => by simp [Value.ownBlock] at e; omega), h2.fr hf (fun g e => by simp [Value.ownBlock] at e; omega), (hf.cell (World.block_lt_of_cell? A _ h3) (by dsimp only; omega)).trans h3, h4.trans (hf.below h4.size (fun k hk h' => by omega))⟩)
    (fun k c A V h hf => by
      obtain ⟨hc, hl, h1, h2, h4⟩ := h
      have := HS.out; have := Hn.out
      exact ⟨hc, hl, h1.fr hf (fun g e => by simp [Value.ownBlock] at e; omega), h2.fr hf (fun g e => by simp [Value.ownBlock] at e; omega), h4.trans (hf.below h4.size (fun k hk h' => by omega))⟩)
    ⟨0, rfl, by omega, ownW.out, outW.out, hceW.out, BBW.out⟩ (fun _ => ⟨n * L.length, ?hN, fun V h => ?hM⟩) ?a1 ?assign ?body (fun _ _ _ h => by cases h) ?stop
  case hN => rw [HL.out]; exact Nat.le_trans (Nat.mul_le_mul hn hSb) (by decide)
  case hM =>
    obtain ⟨m, hm, hlt, _⟩ := h
    have := Rm.selL_many (i := st) HU.out n
    omega
  case assign =>
    intro l k V K hK
    gi_wp2
    exact hK
  case body =>
    rintro l k V - ⟨m, hm, hlt, hownV, houtV, hcV, hBV⟩ hVs
    have HY := hid (@Rm.selL_yes L st k)
    have HNo := hid (@Rm.selL_no L st k)
    obtain ⟨p, hp⟩ : ∃ p, p = Rm.at_ L st k := ⟨_, rfl⟩
    rw [← hp] at HY HNo ⊢
    have HUs := hid (fun w => usable_any p w)
    have hco := houtV.at 0 (by simp)
    rw [List.getElem_cons_zero] at hco
    have HO := hid hownV
    have HO2 := hid houtV
    have HVs := hid hVs
    have HM := hid hm
    have HB := hid hBV
    clear hp hownV houtV hVs HIT ownW outW hceW hm hBV
    cases hu : Rm.us p with
    | false =>
      have HU2 := hid hu
      clear hu
      gi_wp2_with (first
        | (refine ⟨trivial, rfl, CallsIn.inRound _ (callsIn_wide.2 ((HUs.out _).mono ?_))⟩; rintro e w0 ⟨rfl, rfl⟩; rw [HU2.out]))
      exact ⟨KeepT.refl _ _, m, by rw [HNo.out HU2.out]; exact HM.out, hlt, by rw [HNo.out HU2.out]; exact HO.out, HO2.out, hcV, HB.out⟩
    | true =>
      have HU2 := hid hu
      clear hu
      have fin : ∀ (w1 : World), OwnL w1 w.heap.size 3 (.slice (some ⟨n2, 0, none⟩) (m + 1) n) ((Rm.selL L st k).map (Value.int .i64) ++ [.int .i64 p]) → Fr (fun j => j = n2) V w1 →
          w1.frozen? ⟨n2 + 1, 0, none⟩ = false ∧ w1.cell? ⟨n2 + 1, 0, none⟩ = some (.slice (some ⟨n2, 0, none⟩) m n) ∧
          (w1.setCell ⟨n2 + 1, 0, none⟩ (.slice (some ⟨n2, 0, none⟩) (m + 1) n)).cell? ⟨w.heap.size, 0, none⟩ = some (.int .i64 n) ∧
          (w1.setCell ⟨n2 + 1, 0, none⟩ (.slice (some ⟨n2, 0, none⟩) (m + 1) n)).cell? ⟨n2 + 1, 0, none⟩ = some (.slice (some ⟨n2, 0, none⟩) (m + 1) n) ∧
          Hid (KeepT (fun b => (b = n4 + 1 ∨ b = n4 ∨ b = gb) ∨ (W.heap.size ≤ b ∧ b < W.heap.size + 2 + 0)) V (w1.setCell ⟨n2 + 1, 0, none⟩ (.slice (some ⟨n2, 0, none⟩) (m + 1) n)) ∧
            m + 1 = (Rm.selL L st (k + 1)).length ∧
            OwnL (w1.setCell ⟨n2 + 1, 0, none⟩ (.slice (some ⟨n2, 0, none⟩) (m + 1) n)) w.heap.size 3 (.slice (some ⟨n2, 0, none⟩) (m + 1) n) ((Rm.selL L st (k + 1)).map (Value.int .i64)) ∧
            OwnL (w1.setCell ⟨n2 + 1, 0, none⟩ (.slice (some ⟨n2, 0, none⟩) (m + 1) n)) w.heap.size 22 (.slice (some ⟨n2 + 1, 0, none⟩) 1 1) [.slice (some ⟨n2, 0, none⟩) (m + 1) n] ∧
            Below w.heap.size w (w1.setCell ⟨n2 + 1, 0, none⟩ (.slice (some ⟨n2, 0, none⟩) (m + 1) n))) := by
        intro w1 hown1 hf1
        have := HS.out; have := Hn.out; have := Hgb.out
        have hout1 := HO2.out.fr hf1 (fun g e h => by simp [Value.ownBlock] at e; omega)
        have hf2 : Fr (fun j => j = n2 ∨ j = n2 + 1) V (w1.setCell ⟨n2 + 1, 0, none⟩ (.slice (some ⟨n2, 0, none⟩) (m + 1) n)) :=
          (hf1.mono (fun j _ h => .inl h)).trans (Fr.setCell _ _ _ (.inr rfl))
        have hst := hout1.stored 0 (.slice (some ⟨n2, 0, none⟩) (m + 1) n)
        refine ⟨hout1.free 0, hout1.at 0 (by simp), (hf2.cell (World.block_lt_of_cell? V _ hcV) (by dsimp only; omega)).trans hcV, hst.at 0 (by simp), KeepT.of_fr hf2 (fun j hj h => by omega), ?_, ?_, hst, HB.out.trans (hf2.below HB.out.size (fun j hj h => by omega))⟩
        · rw [HY.out HU2.out, List.length_append, ← HM.out]; rfl
        · rw [HY.out HU2.out, List.map_append, List.map_cons, List.map_nil]
          exact hown1.fr (Fr.setCell (S := fun j => j = n2 + 1) _ _ _ rfl) (fun g e h => by simp [Value.ownBlock] at e; omega)
      have HFin := hid fin
      clear fin
      by_cases hlast : m + 1 = n
      · have hd1 : ((m : Int) + 1 == (n : Int)) = true := by rw [beq_iff_eq]; omega
        have HLast := hid hlast
        clear hlast
        gi_wp2_with (first
          | (refine ⟨trivial, rfl, CallsIn.inRound _ (callsIn_wide.2 ((HUs.out _).mono ?_))⟩; rintro e w0 ⟨rfl, rfl⟩; rw [HU2.out])
          | (gi_at_builtin; refine wpListIn_append_room1 rfl (fun _ => rfl) elem_int (.tmp 62) (.tmp 64) rfl w.heap.size _ _ _ _ rfl HO.out _ rfl rfl (by omega) ?_; intro w1 hown1 hf1; obtain ⟨hfr1, hco1, hce1, hco2, HR⟩ := HFin.out _ hown1 hf1; clear hown1 hf1))
        obtain ⟨r1, r2, r3, r4, r5⟩ := HR.out
        have e := HLast.out
        refine ⟨r1, rfl, by omega, ?_, ?_, r5⟩
        · rw [e] at r3 ⊢; exact r3
        · rw [e] at r4 ⊢; exact r4
      · have hd1 : ((m : Int) + 1 == (n : Int)) = false := by rw [beq_eq_false_iff_ne]; omega
        have HLast := hid hlast
        clear hlast
        gi_wp2_with (first
          | (refine ⟨trivial, rfl, CallsIn.inRound _ (callsIn_wide.2 ((HUs.out _).mono ?_))⟩; rintro e w0 ⟨rfl, rfl⟩; rw [HU2.out])
          | (gi_at_builtin; refine wpListIn_append_room1 rfl (fun _ => rfl) elem_int (.tmp 62) (.tmp 64) rfl w.heap.size _ _ _ _ rfl HO.out _ rfl rfl (by omega) ?_; intro w1 hown1 hf1; obtain ⟨hfr1, hco1, hce1, hco2, HR⟩ := HFin.out _ hown1 hf1; clear hown1 hf1))
        obtain ⟨r1, r2, r3, r4, r5⟩ := HR.out
        have e := HLast.out
        exact ⟨r1, m + 1, r2, by omega, r3, r4, hce1, r5⟩
  case stop =>
    rintro D c' k V ⟨rfl, hl, hownV, houtV, hBV⟩ hD hDl
    have hco := houtV.at 0 (by simp)
    rw [List.getElem_cons_zero] at hco
    have hDn := HS.out
    have hDn2 := Hn.out
    have HE := hid (Rm.posL_of HU.out hl)
    clear HIT ownW outW hceW hl
    gi_wp2
    go_wp2
    have hf : Fr (fun j => j = D) V (V.putObj D (.deferred none)) := Fr.putObj V D _ rfl
    refine bodyPostM_ret1 hD rfl (results_tmp2 rfl _ _ _) ⟨⟨_, rfl, ?_⟩, hBV.trans (hf.below hBV.size (fun j hj e => by omega))⟩
    rw [← HE.out]
    exact hownV.fr hf (fun g e h => by simp [Value.ownBlock] at e; omega)
end Go.Proofs.Ytpnmfnjpbhjddaa
/- userplane/ratematch: Positions, every way. -/
namespace Go.Proofs.Ytpnmfnjpbhjddaa
open Go.RowKit Go.Shelf
set_option linter.unusedVariables false
attribute [local go_sem] Oper.semAt_some
set_option maxHeartbeats 1000000 in
theorem rmPos_zero (k f rv n : Nat) (limit : Int) (hk1 : 40 ≤ k) (hk2 : k ≤ 6144) (hf : f < k) (hl : 1 ≤ limit) (hrv : rv ≤ 3) (hn : n ≤ 131072) (R S : Nat) (L : List Int) (hR : R = Rm.rows k) (hS : S = Rm.size k limit) (hL : L = Rm.buf k f R S) (hn0 : n = 0) (hu : True) (w : World) :
    Calls Try.prog 23 #[.int .i64 k, .int .i64 f, .int .i64 limit, .int .i64 rv, .int .i64 n] w fun e w' => e = .returned (.tuple #[.slice none 0 0, .int .i64 0]) ∧ Below w.heap.size w w' := by
  have hr := Rm.rows_bd hk1 hk2
  have hs := Rm.size_bd (k := k) hl hk1
  rw [← hR] at hr hs
  rw [← hS] at hs
  have C := hid (rmOf_ok k f limit hk1 hk2 hf hl)
  rw [← hR, ← hS] at C
  have CB := hid (fun w => buffer_any k f R S hk1 hk2 hf hr.2.2.1 hr.2.2.2 hs.2 w)
  rw [← hL] at CB
  have HL := hid (show L.length = S by rw [hL]; exact Rm.buf_len hs.2)
  have hSb : S ≤ 20000 := by omega
  have hS1 := hs.1
  clear hR hS hL hu hr hs
  unfold wordV at CB
  have e1 : ¬ (rv : Int) < 0 := by omega
  have e2 : ¬ (3 : Int) < (rv : Int) := by omega
  have e3 : ¬ (n : Int) < 0 := by omega
  have e4 : ¬ (131072 : Int) < (n : Int) := by omega
  have e5 : ((n : Int) == 0) = true := by rw [beq_iff_eq]; omega
  refine calls_of_wp_marks Try.func23 rfl ?_
  simp only [Try.ntmps23, List.size_toArray, List.length_cons, List.length_nil, Nat.reduceAdd, Nat.reduceSub, Array.replicate_succ, Array.replicate_zero, List.push_toArray, List.append_toArray, List.nil_append, List.cons_append]
  go_wp2
  go_step3
  go_wp2_with fail
  refine (C.out _).mono ?_
  rintro e w1 ⟨rfl, B1⟩
  have hlt1 : w.heap.size < w1.heap.size := by have := B1.size; simp at this; omega
  have hce : w1.cell? ⟨w.heap.size, 0, none⟩ = some (.int .i64 n) := (B1.cell (p := ⟨w.heap.size, 0, none⟩) (by simp)).trans (by go_simp)
  have BB := below_then (below_alloc _ _) B1
  clear B1
  go_wp2_with fail
  refine (CB.out _).mono ?_
  rintro e w2 ⟨⟨v2, rfl, V2⟩, B2⟩
  have hlt2 : w1.heap.size < w2.heap.size := by have := B2.size; simp at this; omega
  have hce2 : w2.cell? ⟨w.heap.size, 0, none⟩ = some (.int .i64 n) := (B2.cell (p := ⟨w.heap.size, 0, none⟩) (by simp; omega)).trans (by go_simp)
  have hcw : w2.cell? ⟨w1.heap.size, 0, none⟩ = some (.int .i64 k) ∧ w2.cell? ⟨w1.heap.size, 1, none⟩ = some (.int .i64 f) ∧ w2.cell? ⟨w1.heap.size, 2, none⟩ = some (.int .i64 R) ∧ w2.cell? ⟨w1.heap.size, 3, none⟩ = some (.int .i64 S) :=
    ⟨(B2.cell (p := ⟨w1.heap.size, 0, none⟩) (by simp)).trans (by go_simp), (B2.cell (p := ⟨w1.heap.size, 1, none⟩) (by simp)).trans (by go_simp), (B2.cell (p := ⟨w1.heap.size, 2, none⟩) (by simp)).trans (by go_simp), (B2.cell (p := ⟨w1.heap.size, 3, none⟩) (by simp)).trans (by go_simp)⟩
  obtain ⟨hcw0, hcw1, hcw2, hcw3⟩ := hcw
  go_wp2
  exact bodyPostM_ret0 rfl (results_tmp2 rfl _ _ _) ⟨rfl, below_then BB (below_then (below_alloc _ _) B2)⟩
set_option maxHeartbeats 1000000 in
theorem rmPos_none (k f rv n : Nat) (limit : Int) (hk1 : 40 ≤ k) (hk2 : k ≤ 6144) (hf : f < k) (hl : 1 ≤ limit) (hrv : rv ≤ 3) (hn : n ≤ 131072) (R S : Nat) (L : List Int) (hR : R = Rm.rows k) (hS : S = Rm.size k limit) (hL : L = Rm.buf k f R S) (hn0 : 1 ≤ n) (hu : Rm.cnt L L.length = 0) (w : World) :
    Calls Try.prog 23 #[.int .i64 k, .int .i64 f, .int .i64 limit, .int .i64 rv, .int .i64 n] w fun e w' => e = .returned (.tuple #[.slice none 0 0, .int .i64 10]) ∧ Below w.heap.size w w' := by
  have hr := Rm.rows_bd hk1 hk2
  have hs := Rm.size_bd (k := k) hl hk1
  rw [← hR] at hr hs
  rw [← hS] at hs
  have C := hid (rmOf_ok k f limit hk1 hk2 hf hl)
  rw [← hR, ← hS] at C
  have CB := hid (fun w => buffer_any k f R S hk1 hk2 hf hr.2.2.1 hr.2.2.2 hs.2 w)
  rw [← hL] at CB
  have HL := hid (show L.length = S by rw [hL]; exact Rm.buf_len hs.2)
  have CU := hid (show ∀ w v, Vw w v (L.map (Value.int .i64)) → Calls Try.prog 44 #[v, .func (.func 22) #[] #[]] w fun e w' => e = .returned (.bool false) ∧ w = w' from fun w v h => by
    have := anyU_any w v L h (by rw [HL.out]; omega)
    rwa [Rm.anyU_eq, decide_eq_false (fun h => h hu)] at this)
  have hSb : S ≤ 20000 := by omega
  have hS1 := hs.1
  clear hR hS hL hu hr hs
  unfold wordV at CB
  have e1 : ¬ (rv : Int) < 0 := by omega
  have e2 : ¬ (3 : Int) < (rv : Int) := by omega
  have e3 : ¬ (n : Int) < 0 := by omega
  have e4 : ¬ (131072 : Int) < (n : Int) := by omega
  have e5 : ((n : Int) == 0) = false := by rw [beq_eq_false_iff_ne]; omega
  refine calls_of_wp_marks Try.func23 rfl ?_
  simp only [Try.ntmps23, List.size_toArray, List.length_cons, List.length_nil, Nat.reduceAdd, Nat.reduceSub, Array.replicate_succ, Array.replicate_zero, List.push_toArray, List.append_toArray, List.nil_append, List.cons_append]
  go_wp2
  go_step3
  go_wp2_with fail
  refine (C.out _).mono ?_
  rintro e w1 ⟨rfl, B1⟩
  have hlt1 : w.heap.size < w1.heap.size := by have := B1.size; simp at this; omega
  have hce : w1.cell? ⟨w.heap.size, 0, none⟩ = some (.int .i64 n) := (B1.cell (p := ⟨w.heap.size, 0, none⟩) (by simp)).trans (by go_simp)
  have BB := below_then (below_alloc _ _) B1
  clear B1
  go_wp2_with fail
  refine (CB.out _).mono ?_
  rintro e w2 ⟨⟨v2, rfl, V2⟩, B2⟩
  have hlt2 : w1.heap.size < w2.heap.size := by have := B2.size; simp at this; omega
  have hce2 : w2.cell? ⟨w.heap.size, 0, none⟩ = some (.int .i64 n) := (B2.cell (p := ⟨w.heap.size, 0, none⟩) (by simp; omega)).trans (by go_simp)
  have hcw : w2.cell? ⟨w1.heap.size, 0, none⟩ = some (.int .i64 k) ∧ w2.cell? ⟨w1.heap.size, 1, none⟩ = some (.int .i64 f) ∧ w2.cell? ⟨w1.heap.size, 2, none⟩ = some (.int .i64 R) ∧ w2.cell? ⟨w1.heap.size, 3, none⟩ = some (.int .i64 S) :=
    ⟨(B2.cell (p := ⟨w1.heap.size, 0, none⟩) (by simp)).trans (by go_simp), (B2.cell (p := ⟨w1.heap.size, 1, none⟩) (by simp)).trans (by go_simp), (B2.cell (p := ⟨w1.heap.size, 2, none⟩) (by simp)).trans (by go_simp), (B2.cell (p := ⟨w1.heap.size, 3, none⟩) (by simp)).trans (by go_simp)⟩
  obtain ⟨hcw0, hcw1, hcw2, hcw3⟩ := hcw
  have BB2 := below_then BB (below_then (below_alloc _ _) B2)
  have HV2 := hid V2
  obtain ⟨va, vc, rfl, _⟩ := V2
  rw [List.length_map, HL.out] at HV2 ⊢
  go_wp2_with (go_at_call 44; refine (CU.out _ _ HV2.out).mono ?_; rintro e w' ⟨rfl, rfl⟩)
  exact bodyPostM_ret0 rfl (results_tmp2 rfl _ _ _) ⟨rfl, BB2⟩
/-- Positions. -/
theorem rmPos_any (k f limit rv n : Int) (w : World) :
    Calls Try.prog 23 #[.int .i64 k, .int .i64 f, .int .i64 limit, .int .i64 rv, .int .i64 n] w fun e w' => (∃ v', e = .returned (.tuple #[v', .int .i64 (Rm.posR k f limit rv n).2]) ∧ Vw w' v' ((Rm.posR k f limit rv n).1.map (Value.int .i64))) ∧ Below w.heap.size w w' := by
  unfold Rm.posR
  split
  · rename_i h
    obtain ⟨hv, hr0, hr3, hn0, hn⟩ := h
    obtain ⟨h1, h2, h3, h4, h5⟩ := Rm.valid_of hv
    obtain ⟨k, rfl⟩ := Int.eq_ofNat_of_zero_le (show 0 ≤ k by omega)
    obtain ⟨f, rfl⟩ := Int.eq_ofNat_of_zero_le h3
    obtain ⟨rv, rfl⟩ := Int.eq_ofNat_of_zero_le hr0
    obtain ⟨n, rfl⟩ := Int.eq_ofNat_of_zero_le hn0
    simp only [Int.toNat_natCast]
    have hlen : (Rm.buf k f (Rm.rows k) (Rm.size k limit)).length = Rm.size k limit := by
      refine Rm.buf_len ?_
      unfold Rm.size; omega
    by_cases hz : (n : Int) = 0
    · rw [if_pos hz]
      refine (rmPos_zero k f rv n limit (by omega) (by omega) (by omega) h5 (by omega) (by omega) _ _ _ rfl rfl rfl (by omega) trivial w).mono ?_
      rintro e w' ⟨rfl, B⟩
      exact ⟨⟨_, rfl, Vw.nil _ _ _⟩, B⟩
    · rw [if_neg hz]
      by_cases hc : Rm.cnt (Rm.buf k f (Rm.rows k) (Rm.size k limit)) (Rm.size k limit) = 0
      · rw [if_pos hc]
        refine (rmPos_none k f rv n limit (by omega) (by omega) (by omega) h5 (by omega) (by omega) _ _ _ rfl rfl rfl (by omega) (by rw [hlen]; exact hc) w).mono ?_
        rintro e w' ⟨rfl, B⟩
        exact ⟨⟨_, rfl, Vw.nil _ _ _⟩, B⟩
      · rw [if_neg hc]
        refine (rmPos_ok k f rv n limit (by omega) (by omega) (by omega) h5 (by omega) (by omega) (by omega) _ _ _ _ rfl rfl rfl rfl (by rw [hlen]; exact hc) w).mono ?_
        rintro e w' ⟨⟨v', rfl, O⟩, B⟩
        exact ⟨⟨_, rfl, O.vw⟩, B⟩
  · rename_i h
    refine (rmPos_err k f limit rv n h w).mono ?_
    rintro e w' ⟨rfl, B⟩
    exact ⟨⟨_, rfl, Vw.nil _ _ _⟩, B⟩
end Go.Proofs.Ytpnmfnjpbhjddaa
