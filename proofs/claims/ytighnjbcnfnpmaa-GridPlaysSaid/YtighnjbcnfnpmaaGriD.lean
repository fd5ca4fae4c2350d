/- userplane/grid: references, Data. -/
import Derived.Test.YtighnjbcnfnpmaaGriC
namespace Go.Proofs.Ytighnjbcnfnpmaa
open Go.RowKit Go.Shelf
set_option linter.unusedVariables false
attribute [local go_sem ↓] Go.wp_at_zero Go.wp_at_succ
theorem ref1_any (b t l : Int) (hc : Gr.Cf b t l) (i : Nat) (hi : (i : Int) < 168 * b) (q : Nat) (w : World) (hq : Blk w q 73 #[.int .i64 b, .int .i64 t, .int .i64 l]) :
    Calls Try.prog 48 #[.int .i64 i, .pointer (some ⟨q, 0, none⟩)] w fun e w' => e = .returned (.tuple #[.int .i64 i, .bool (Gr.kd b t l i == 1)]) ∧ Below w.heap.size w w' := by
  have c0 : w.cell? ⟨q, 0, none⟩ = some (.int .i64 b) := hq.cell 0
  have c1 : w.cell? ⟨q, 1, none⟩ = some (.int .i64 t) := hq.cell 1
  have c2 : w.cell? ⟨q, 2, none⟩ = some (.int .i64 l) := hq.cell 2
  have HK := hid (kind_any b t l hc i hi)
  generalize Gr.kd b t l i = z at *
  clear hq hc
  go_enter Try.func48, Try.ntmps48
  go_wp2_with fail
  refine (HK.out _).mono ?_
  rintro r w2 ⟨rfl, B2⟩
  go_wp2
  go_ret2
  exact ⟨rfl, B2⟩
theorem references_any (b t l : Int) (hc : Gr.Cf b t l) (w : World) : Calls Try.prog 41 #[CV b t l] w fun e w' => (∃ v', e = .returned v' ∧ OwnL w' w.heap.size 3 v' ((Gr.refL b t l).map (Value.int .i64))) ∧ Below w.heap.size w w' := by
  have b0 := hc.b0
  have b1 := hc.b1
  have HS := hid (fun W (hB : Blk W w.heap.size 73 #[.int .i64 b, .int .i64 t, .int .i64 l]) => selected_any W b t l (by omega) (by omega) (168 * b).toNat (by omega) 48 #[.pointer (some ⟨w.heap.size, 0, none⟩)] (fun i => Gr.kd b t l i == 1) (enters_of Try.func48 (by kernel_rfl) rfl)
    (fun k hk V hV => ref1_any b t l hc k (by omega) w.heap.size V (hB.below hV hB.lt)))
  go_enter Try.func41, Try.ntmps41
  go_wp2_with fail
  refine (HS.out _ (Blk.new w _ _)).mono ?_
  rintro r w2 ⟨⟨v', rfl, hown⟩, B2⟩
  have HO := hid (hown.base_mono (show w.heap.size ≤ _ by simp))
  clear hown
  go_wp2
  go_ret
  exact ⟨⟨_, rfl, HO.out⟩, up_alloc B2⟩
set_option maxHeartbeats 2000000 in
theorem dat1_any (b t l first blocks : Int) (hc : Gr.Cf b t l) (f0 : 0 ≤ first) (f1 : first ≤ b) (g0 : 1 ≤ blocks) (g1 : blocks ≤ b - first) (i : Nat) (hi : (i : Int) < 168 * b) (q qf qb : Nat) (w : World) (hq : Blk w q 73 #[.int .i64 b, .int .i64 t, .int .i64 l])
    (hf : Blk w qf 3 #[.int .i64 first]) (hb : Blk w qb 3 #[.int .i64 blocks]) :
    Calls Try.prog 39 #[.int .i64 i, .pointer (some ⟨q, 0, none⟩), .pointer (some ⟨qf, 0, none⟩), .pointer (some ⟨qb, 0, none⟩)] w fun e w' => e = .returned (.tuple #[.int .i64 i, .bool (Gr.datP b t l first blocks i)]) ∧ Below w.heap.size w w' := by
  have HQ := hid hq
  have HF := hid hf
  have HBk := hid hb
  have b0 := hc.b0
  have b1 := hc.b1
  have HK := hid (kind_any b t l hc i hi)
  have HW := hid (width_any b t l (by omega) (by omega))
  have hi0 : (0 : Int) ≤ i := by omega
  have hk0 : 0 ≤ (i : Int) % (12 * b) := Int.emod_nonneg _ (by omega)
  have hk1 : (i : Int) % (12 * b) < 12 * b := Int.emod_lt_of_pos _ (by omega)
  have HE := hid (show Gr.datP b t l first blocks i = (decide (first ≤ (i : Int) % (12 * b) / 12) && decide ((i : Int) % (12 * b) / 12 < first + blocks) && (Gr.kd b t l i == 3)) from rfl)
  have e2 := hid (show (i : Int).tmod (12 * b) = (i : Int) % (12 * b) from Int.tmod_eq_emod_of_nonneg hi0)
  have hne : ¬ 12 * b = 0 := by omega
  have hne2 : ((12 * b : Int) == 0) = false := by rw [beq_eq_false_iff_ne]; omega
  have hkb : (i : Int) % (12 * b) ≤ 1200 := by omega
  have hq0 : 0 ≤ (i : Int) % (12 * b) / 12 := by omega
  have hq1 : (i : Int) % (12 * b) / 12 ≤ 100 := by omega
  have hw : IntKind.i64.wrap (first + blocks) = first + blocks := IntWalk.i64_in _ (by omega)
  have he1 := e2.out
  have he3 : IntKind.i64.wrap ((i : Int) % (12 * b) / 12) = (i : Int) % (12 * b) / 12 := IntWalk.i64_in _ (by omega)
  have c0 : w.cell? ⟨q, 0, none⟩ = some (.int .i64 b) := hq.cell 0
  have c1 : w.cell? ⟨q, 1, none⟩ = some (.int .i64 t) := hq.cell 1
  have c2 : w.cell? ⟨q, 2, none⟩ = some (.int .i64 l) := hq.cell 2
  clear hq hf hb hk1 hc e2 he3
  generalize Gr.kd b t l i = z at *
  have cs : (decide (first ≤ (i : Int) % (12 * b) / 12) = false) ∨ (decide (first ≤ (i : Int) % (12 * b) / 12) = true ∧ decide ((i : Int) % (12 * b) / 12 < first + blocks) = false) ∨ (decide (first ≤ (i : Int) % (12 * b) / 12) = true ∧ decide ((i : Int) % (12 * b) / 12 < first + blocks) = true) := by
    by_cases h1 : first ≤ (i : Int) % (12 * b) / 12
    · by_cases h2 : (i : Int) % (12 * b) / 12 < first + blocks
      · right; right; exact ⟨decide_eq_true h1, decide_eq_true h2⟩
      · right; left; exact ⟨decide_eq_true h1, decide_eq_false h2⟩
    · left; exact decide_eq_false h1
  rcases cs with k1 | ⟨k1, k2⟩ | ⟨k1, k2⟩
  · rw [show Gr.datP b t l first blocks i = false by rw [HE.out, k1]; rfl]
    clear HE
    go_enter Try.func39, Try.ntmps39
    go_wp2_with fail
    refine (HW.out _).mono ?_
    rintro r w1 ⟨rfl, B1⟩
    have HF1 := hid (HF.out.below B1 HF.out.lt)
    clear c0 c1 c2
    have d0 : w1.cell? ⟨qf, 0, none⟩ = some (.int .i64 first) := HF1.out.cell 0
    go_wp2
    go_ret2
    exact ⟨rfl, B1⟩
  · rw [show Gr.datP b t l first blocks i = false by rw [HE.out, k1, k2]; rfl]
    clear HE
    go_enter Try.func39, Try.ntmps39
    go_wp2_with fail
    refine (HW.out _).mono ?_
    rintro r w1 ⟨rfl, B1⟩
    have HF1 := hid (HF.out.below B1 HF.out.lt)
    have HBk1 := hid (HBk.out.below B1 HBk.out.lt)
    clear c0 c1 c2
    have d0 : w1.cell? ⟨qf, 0, none⟩ = some (.int .i64 first) := HF1.out.cell 0
    have d1 : w1.cell? ⟨qb, 0, none⟩ = some (.int .i64 blocks) := HBk1.out.cell 0
    go_wp2
    go_ret2
    exact ⟨rfl, B1⟩
  · rw [show Gr.datP b t l first blocks i = (z == 3) by rw [HE.out, k1, k2]; rfl]
    clear HE
    go_enter Try.func39, Try.ntmps39
    go_wp2_with fail
    refine (HW.out _).mono ?_
    rintro r w1 ⟨rfl, B1⟩
    have HQ1 := hid (HQ.out.below B1 HQ.out.lt)
    have HF1 := hid (HF.out.below B1 HF.out.lt)
    have HBk1 := hid (HBk.out.below B1 HBk.out.lt)
    clear c0 c1 c2
    have c0 : w1.cell? ⟨q, 0, none⟩ = some (.int .i64 b) := HQ1.out.cell 0
    have c1 : w1.cell? ⟨q, 1, none⟩ = some (.int .i64 t) := HQ1.out.cell 1
    have c2 : w1.cell? ⟨q, 2, none⟩ = some (.int .i64 l) := HQ1.out.cell 2
    have d0 : w1.cell? ⟨qf, 0, none⟩ = some (.int .i64 first) := HF1.out.cell 0
    have d1 : w1.cell? ⟨qb, 0, none⟩ = some (.int .i64 blocks) := HBk1.out.cell 0
    go_wp2_with fail
    refine (HK.out _).mono ?_
    rintro r w2 ⟨rfl, B2⟩
    go_wp2
    go_ret2
    exact ⟨rfl, below_then B1 B2⟩
def dataJ (w : World) (b t l first blocks : Int) (A : Act) (W : World) : Prop := (fun A W => (∃ x10 x11 x12 x13 x14 x15 x16 x17 x18 x19 x20 x21 x22 x23 x24 x25 x26 x27 x28 x29 x30 x31 x32 x33 : Value, A = { tmps := #[CV b t l, .int .i64 first, .int .i64 blocks, .pointer (some ⟨w.heap.size, 0, none⟩), .pointer (some ⟨w.heap.size + 1, 0, none⟩), .pointer (some ⟨w.heap.size + 1 + 1, 0, none⟩), .slice none 0 0, .int .i64 0, .slice none 0 0, .pointer (some ⟨w.heap.size + 1 + 1 + 1, 0, none⟩), x10, x11, x12, x13, x14, x15, x16, x17, x18, x19, x20, x21, x22, x23, x24, x25, x26, x27, x28, x29, x30, x31, x32, x33, undef, undef, undef, undef, undef, undef, undef, undef, undef], defers := [] }) ∧ Below w.heap.size w W) A W
set_option maxHeartbeats 4000000 in
set_option maxRecDepth 100000 in
theorem data_err (b t l first blocks : Int) (wb : (Lit.int .i64 b).wf = true) (wf : (Lit.int .i64 first).wf = true) (wk : (Lit.int .i64 blocks).wf = true) (h : Gr.datOk b t l first blocks = false) (w : World) :
    Calls Try.prog 16 #[CV b t l, .int .i64 first, .int .i64 blocks] w fun e w' => e = .returned (.tuple #[.slice none 0 0, .int .i64 2]) ∧ Below w.heap.size w w' := by
  have HC := hid (check_any b t l)
  have HA := hid (fun w q hq => all_lit0 (Gr.vld b t l) (decide (0 ≤ first)) (decide (1 ≤ blocks)) q hq w)
  have cs : ((Gr.vld b t l && decide (0 ≤ first) && decide (1 ≤ blocks)) = false) ∨ (Gr.vld b t l = true ∧ decide (0 ≤ first) = true ∧ decide (1 ≤ blocks) = true ∧ ((decide (b < first) = true) ∨ (decide (b < first) = false ∧ decide (b - first < blocks) = true))) := by
    cases hv : Gr.vld b t l
    · left; rfl
    · by_cases h1 : 0 ≤ first
      · by_cases h2 : 1 ≤ blocks
        · right
          refine ⟨rfl, decide_eq_true h1, decide_eq_true h2, ?_⟩
          simp [Gr.datOk, hv, h1, h2] at h
          by_cases h3 : b < first
          · exact .inl (decide_eq_true h3)
          · exact .inr ⟨decide_eq_false h3, decide_eq_true (h (by omega))⟩
        · left; simp [h2]
      · left; simp [h1]
  have fin : ∀ V : Bool, (V = (Gr.vld b t l && decide (0 ≤ first) && decide (1 ≤ blocks))) → (V = false ∨ (V = true ∧ 0 ≤ first ∧ b ≤ 100 ∧ 0 ≤ b ∧ ((decide (b < first) = true) ∨ (decide (b < first) = false ∧ decide (b - first < blocks) = true)))) → Calls Try.prog 16 #[CV b t l, .int .i64 first, .int .i64 blocks] w fun e w' => e = .returned (.tuple #[.slice none 0 0, .int .i64 2]) ∧ Below w.heap.size w w' := by
    intro V hV hor
    have HA' := hid (fun w => HA.out w V hV)
    have e0 : (((if Gr.vld b t l = true then 0 else 2 : Int) == 0)) = Gr.vld b t l := by cases Gr.vld b t l <;> rfl
    generalize (if Gr.vld b t l = true then (0 : Int) else 2) = ck at *
    generalize Gr.vld b t l = vv at *
    clear HA hV h cs wb wf wk
    generalize hp : decide (0 ≤ first) = p at HA'
    generalize hq : decide (1 ≤ blocks) = q at HA'
    go_enter Try.func16, Try.ntmps16
    go_wp2
    refine wp_scope_fwd 0 (dataJ w b t l first blocks) rfl ?first ?pass
    case pass =>
      rintro A W ⟨⟨x10, x11, x12, x13, x14, x15, x16, x17, x18, x19, x20, x21, x22, x23, x24, x25, x26, x27, x28, x29, x30, x31, x32, x33, rfl⟩, hB⟩
      go_wp2
      rw [Exit.noGoto_ret]
      go_ret2
      exact ⟨rfl, hB⟩
    case first =>
      go_wp2
      generalize hW : World.alloc _ _ = W
      have HB := hid (show Below w.heap.size w W by rw [← hW]; exact bal (bal (bal (below_alloc _ _) _) _) _)
      have HP := hid (show Blk W w.heap.size 23 #[.int .i64 b, .int .i64 t, .int .i64 l] by
        rw [← hW]; exact (((Blk.new w _ _).fr (Fr.alloc (fun _ => False) _ _) (fun h => h)).fr (Fr.alloc (fun _ => False) _ _) (fun h => h)).fr (Fr.alloc (fun _ => False) _ _) (fun h => h))
      have HQ := hid (show Blk W (w.heap.size + 1) 3 #[.int .i64 first] by
        rw [← hW]; refine Blk.fr (Blk.fr ?_ (Fr.alloc (fun _ => False) _ _) (fun h => h)) (Fr.alloc (fun _ => False) _ _) (fun h => h)
        have := Blk.new (w.alloc (.cells #[.int .i64 b, .int .i64 t, .int .i64 l] 23)) 3 #[.int .i64 first]
        rwa [World.size_alloc] at this)
      have HR := hid (show Blk W (w.heap.size + 1 + 1) 3 #[.int .i64 blocks] by
        rw [← hW]; refine Blk.fr ?_ (Fr.alloc (fun _ => False) _ _) (fun h => h)
        have := Blk.new ((w.alloc (.cells #[.int .i64 b, .int .i64 t, .int .i64 l] 23)).alloc (.cells #[.int .i64 first] 3)) 3 #[.int .i64 blocks]
        rwa [World.size_alloc, World.size_alloc] at this)
      clear hW
      have HS := hid (show ∀ U, Below W.heap.size W U → U.cell? ⟨w.heap.size, 0, none⟩ = some (.int .i64 b) ∧ U.cell? ⟨w.heap.size, 1, none⟩ = some (.int .i64 t) ∧ U.cell? ⟨w.heap.size, 2, none⟩ = some (.int .i64 l) ∧ U.cell? ⟨w.heap.size + 1, 0, none⟩ = some (.int .i64 first) ∧ U.cell? ⟨w.heap.size + 1 + 1, 0, none⟩ = some (.int .i64 blocks) from fun U hU =>
        ⟨(HP.out.below hU HP.out.lt).cell 0, (HP.out.below hU HP.out.lt).cell 1, (HP.out.below hU HP.out.lt).cell 2, (HQ.out.below hU HQ.out.lt).cell 0, (HR.out.below hU HR.out.lt).cell 0⟩)
      have K1 := hid (fun U (h : Below W.heap.size W U) => (HC.out U).mono fun r w' h' => (⟨h'.1, below_then h h'.2⟩ : _ ∧ Below W.heap.size W w'))
      have K2 := hid (fun U (h : Below W.heap.size W U) => (HA'.out U).mono fun r w' h' => (⟨h'.1, by rw [← h'.2]; exact bal h _⟩ : _ ∧ Below W.heap.size W w'))
      have B0 : Below W.heap.size W W.drew := below_drewN W 1
      clear HC HA' HP HQ HR
      go_region_held3 (fun U => U.cell? ⟨w.heap.size, 0, none⟩ = some (.int .i64 b) ∧ U.cell? ⟨w.heap.size, 1, none⟩ = some (.int .i64 t) ∧ U.cell? ⟨w.heap.size, 2, none⟩ = some (.int .i64 l) ∧ U.cell? ⟨w.heap.size + 1, 0, none⟩ = some (.int .i64 first) ∧ U.cell? ⟨w.heap.size + 1 + 1, 0, none⟩ = some (.int .i64 blocks)) (first | exact HS.out _ (by assumption) | exact HS.out _ (bal (by assumption) _))
        ((first
          | (go_at_call 13; (with_reducible refine (K1.out _ (by assumption)).mono ?_); rintro r w6 ⟨rfl, B6⟩)
          | (go_at_call 36; refine (K2.out _ (by assumption)).mono ?_; rintro r w7 ⟨rfl, B7⟩)))
      all_goals
        obtain ⟨c0, c1, c2, c3, c4⟩ := HS.out _ B7
        have HB7 := hid (below_then HB.out B7)
        clear hp hq e0 HS K1 K2 B0 B6 B7
        rcases hor with rfl | ⟨rfl, f0, b1, b0, h3 | ⟨h3, h4⟩⟩
        · go_wp2
          go_step3
          exact ⟨rfl, ⟨⟨_, _, _, _, _, _, _, _, _, _, _, _, _, _, _, _, _, _, _, _, _, _, _, _, rfl⟩, HB7.out⟩⟩
        · go_wp2
          go_step3
          exact ⟨rfl, ⟨⟨_, _, _, _, _, _, _, _, _, _, _, _, _, _, _, _, _, _, _, _, _, _, _, _, rfl⟩, HB7.out⟩⟩
        · have hfb : first ≤ b := by have := of_decide_eq_false h3; omega
          go_wp2
          go_step3
          exact ⟨rfl, ⟨⟨_, _, _, _, _, _, _, _, _, _, _, _, _, _, _, _, _, _, _, _, _, _, _, _, rfl⟩, HB7.out⟩⟩
  rcases cs with h1 | ⟨h1, h2, h3, h4⟩
  · exact fin _ rfl (.inl h1)
  · have hc := Gr.vld_iff.1 h1
    have b0 := hc.b0
    exact fin _ rfl (.inr ⟨by rw [h1, h2, h3]; rfl, of_decide_eq_true h2, hc.b1, by omega, h4⟩)
set_option maxHeartbeats 4000000 in
set_option maxRecDepth 100000 in
theorem data_ok (b t l first blocks : Int) (h : Gr.datOk b t l first blocks = true) (w : World) :
    Calls Try.prog 16 #[CV b t l, .int .i64 first, .int .i64 blocks] w fun e w' => (∃ v', e = .returned (.tuple #[v', .int .i64 0]) ∧ VwA w' w.heap.size v' ((Gr.sel (Gr.datP b t l first blocks) (168 * b).toNat).map (Value.int .i64))) ∧ Below w.heap.size w w' := by
  simp only [Gr.datOk, Bool.and_eq_true, decide_eq_true_eq] at h
  obtain ⟨⟨⟨⟨hv, f0⟩, g0⟩, f1⟩, g1⟩ := h
  have hc := Gr.vld_iff.1 hv
  have b0 := hc.b0
  have b1 := hc.b1
  have HC := hid (check_any b t l)
  rw [hv, if_pos rfl] at HC
  have HA := hid (fun w => all_lit0 true true true true rfl w)
  have d1 : decide (0 ≤ first) = true := decide_eq_true f0
  have d2 : decide (1 ≤ blocks) = true := decide_eq_true g0
  have d3 : decide (b < first) = false := decide_eq_false (by omega)
  have d4 : decide (b - first < blocks) = false := decide_eq_false (by omega)
  have HS0 := hid (fun W q qf qb (hB : Blk W q 73 #[.int .i64 b, .int .i64 t, .int .i64 l]) (hF : Blk W qf 3 #[.int .i64 first]) (hK : Blk W qb 3 #[.int .i64 blocks]) => selected_any W b t l (by omega) (by omega) (168 * b).toNat (by omega) 39 #[.pointer (some ⟨q, 0, none⟩), .pointer (some ⟨qf, 0, none⟩), .pointer (some ⟨qb, 0, none⟩)] (Gr.datP b t l first blocks) (enters_of Try.func39 (by kernel_rfl) rfl)
    (fun k hk V hV => dat1_any b t l first blocks hc f0 f1 g0 g1 k (by omega) q qf qb V (hB.below hV hB.lt) (hF.below hV hF.lt) (hK.below hV hK.lt)))
  generalize Gr.sel (Gr.datP b t l first blocks) (168 * b).toNat = L at *
  clear hc hv
  go_enter Try.func16, Try.ntmps16
  go_wp2
  go_step3
  go_wp2
  generalize hW : World.alloc _ _ = W
  have HB := hid (show Below w.heap.size w W by rw [← hW]; exact bal (bal (bal (below_alloc _ _) _) _) _)
  have HP := hid (show Blk W w.heap.size 23 #[.int .i64 b, .int .i64 t, .int .i64 l] by
    rw [← hW]; exact (((Blk.new w _ _).fr (Fr.alloc (fun _ => False) _ _) (fun h => h)).fr (Fr.alloc (fun _ => False) _ _) (fun h => h)).fr (Fr.alloc (fun _ => False) _ _) (fun h => h))
  have HQ := hid (show Blk W (w.heap.size + 1) 3 #[.int .i64 first] by
    rw [← hW]; refine Blk.fr (Blk.fr ?_ (Fr.alloc (fun _ => False) _ _) (fun h => h)) (Fr.alloc (fun _ => False) _ _) (fun h => h)
    have := Blk.new (w.alloc (.cells #[.int .i64 b, .int .i64 t, .int .i64 l] 23)) 3 #[.int .i64 first]
    rwa [World.size_alloc] at this)
  have HR := hid (show Blk W (w.heap.size + 1 + 1) 3 #[.int .i64 blocks] by
    rw [← hW]; refine Blk.fr ?_ (Fr.alloc (fun _ => False) _ _) (fun h => h)
    have := Blk.new ((w.alloc (.cells #[.int .i64 b, .int .i64 t, .int .i64 l] 23)).alloc (.cells #[.int .i64 first] 3)) 3 #[.int .i64 blocks]
    rwa [World.size_alloc, World.size_alloc] at this)
  have HT := hid (show Blk W (w.heap.size + 1 + 1 + 1) 73 #[.int .i64 b, .int .i64 t, .int .i64 l] by
    rw [← hW]
    have := Blk.new (((w.alloc (.cells #[.int .i64 b, .int .i64 t, .int .i64 l] 23)).alloc (.cells #[.int .i64 first] 3)).alloc (.cells #[.int .i64 blocks] 3)) 73 #[.int .i64 b, .int .i64 t, .int .i64 l]
    rwa [World.size_alloc, World.size_alloc, World.size_alloc] at this)
  clear hW
  have HS := hid (show ∀ U, Below W.heap.size W U → U.cell? ⟨w.heap.size, 0, none⟩ = some (.int .i64 b) ∧ U.cell? ⟨w.heap.size, 1, none⟩ = some (.int .i64 t) ∧ U.cell? ⟨w.heap.size, 2, none⟩ = some (.int .i64 l) ∧ U.cell? ⟨w.heap.size + 1, 0, none⟩ = some (.int .i64 first) ∧ U.cell? ⟨w.heap.size + 1 + 1, 0, none⟩ = some (.int .i64 blocks) from fun U hU =>
    ⟨(HP.out.below hU HP.out.lt).cell 0, (HP.out.below hU HP.out.lt).cell 1, (HP.out.below hU HP.out.lt).cell 2, (HQ.out.below hU HQ.out.lt).cell 0, (HR.out.below hU HR.out.lt).cell 0⟩)
  have K1 := hid (fun U (h : Below W.heap.size W U) => (HC.out U).mono fun r w' h' => (⟨h'.1, below_then h h'.2⟩ : _ ∧ Below W.heap.size W w'))
  have K2 := hid (fun U (h : Below W.heap.size W U) => (HA.out U).mono fun r w' h' => (⟨h'.1, by rw [← h'.2]; exact bal h _⟩ : _ ∧ Below W.heap.size W w'))
  have B0 : Below W.heap.size W W.drew := below_drewN W 1
  clear HC HA
  go_region_held3 (fun U => U.cell? ⟨w.heap.size, 0, none⟩ = some (.int .i64 b) ∧ U.cell? ⟨w.heap.size, 1, none⟩ = some (.int .i64 t) ∧ U.cell? ⟨w.heap.size, 2, none⟩ = some (.int .i64 l) ∧ U.cell? ⟨w.heap.size + 1, 0, none⟩ = some (.int .i64 first) ∧ U.cell? ⟨w.heap.size + 1 + 1, 0, none⟩ = some (.int .i64 blocks)) (first | exact HS.out _ (by assumption) | exact HS.out _ (bal (by assumption) _))
    ((first
      | (go_at_call 13; (with_reducible refine (K1.out _ (by assumption)).mono ?_); rintro r w6 ⟨rfl, B6⟩)
      | (go_at_call 36; refine (K2.out _ (by assumption)).mono ?_; rintro r w7 ⟨rfl, B7⟩)))
  all_goals
    obtain ⟨c0, c1, c2, c3, c4⟩ := HS.out _ B7
    have HB7 := hid (below_then HB.out B7)
    have HT7 := hid (HT.out.below B7 HT.out.lt)
    have HQ7 := hid (HQ.out.below B7 HQ.out.lt)
    have HR7 := hid (HR.out.below B7 HR.out.lt)
    have e0 : w7.cell? ⟨w.heap.size + 1 + 1 + 1, 0, none⟩ = some (.int .i64 b) := HT7.out.cell 0
    have e1 : w7.cell? ⟨w.heap.size + 1 + 1 + 1, 1, none⟩ = some (.int .i64 t) := HT7.out.cell 1
    have e2 : w7.cell? ⟨w.heap.size + 1 + 1 + 1, 2, none⟩ = some (.int .i64 l) := HT7.out.cell 2
    clear HS K1 K2 B0 B6 B7 HP HQ HR HT HB
    go_wp2_with fail
    refine (HS0.out _ _ _ _ HT7.out HQ7.out HR7.out).mono ?_
    rintro r w8 ⟨⟨v', rfl, hown⟩, B8⟩
    have HN := hid (show (L.map (Value.int .i64)).length = L.length by simp)
    obtain ⟨a2, k2, rfl, hcap, hcut⟩ := hown.cut
    rw [HN.out] at hcap hcut ⊢
    have HV := hid (hcut.mono HB7.out.size)
    clear hown hcut
    go_wp2
    first
    | go_ret2
    | (rw [Exit.noGoto_ret]; go_ret2)
    exact ⟨⟨_, rfl, HV.out⟩, below_then HB7.out B8⟩
theorem data_any (b t l first blocks : Int) (wb : (Lit.int .i64 b).wf = true) (wf : (Lit.int .i64 first).wf = true) (wk : (Lit.int .i64 blocks).wf = true) (w : World) :
    Calls Try.prog 16 #[CV b t l, .int .i64 first, .int .i64 blocks] w fun e w' => (∃ v', e = .returned (.tuple #[v', .int .i64 (Gr.datE b t l first blocks)]) ∧ VwA w' w.heap.size v' ((Gr.datL b t l first blocks).map (Value.int .i64))) ∧ Below w.heap.size w w' := by
  cases h : Gr.datOk b t l first blocks with
  | true =>
    rw [show Gr.datE b t l first blocks = 0 from if_pos h, show Gr.datL b t l first blocks = _ from if_pos h]
    exact data_ok b t l first blocks h w
  | false =>
    rw [show Gr.datE b t l first blocks = 2 from if_neg (by simp [h]), show Gr.datL b t l first blocks = [] from if_neg (by simp [h])]
    exact (data_err b t l first blocks wb wf wk h w).mono fun r w' ⟨h1, h2⟩ => ⟨⟨_, h1, VwA.nil _ _ _⟩, h2⟩
end Go.Proofs.Ytighnjbcnfnpmaa
