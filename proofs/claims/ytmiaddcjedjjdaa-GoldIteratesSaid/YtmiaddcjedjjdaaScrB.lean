/- userplane/gold.scrambled at byte. -/
import Derived.Test.YtmiaddcjedjjdaaBits
import Derived.Test.YtmiaddcjedjjdaaRoom
import Derived.Test.YtmiaddcjedjjdaaVw2
import Derived.Test.YtmiaddcjedjjdaaContB
import Derived.Test.YtmiaddcjedjjdaaScr9
namespace Go.Proofs.Ytmiaddcjedjjdaa
open Go.RowKit Go.Shelf
set_option linter.unusedVariables false
attribute [local go_sem] Oper.semAt_some
theorem elem_b : Elem1 Try.prog 30 5 1 (.int .u8 0) := Elem1.mk' Try.underlying30 (by kernel_rfl) rfl
theorem binv_any (x : Int) (w : World) : Calls Try.prog 28 #[.int .u8 x] w fun e w' => e = .returned (.bool (Scr.binv x)) ∧ w' = w := by
  unfold Scr.binv
  by_cases h : 1 < x
  · go_enter Try.func28, Try.ntmps28
    go_wp2
    go_ret
    exact ⟨by simp [h], rfl⟩
  · go_enter Try.func28, Try.ntmps28
    go_wp2
    go_ret
    exact ⟨by simp; omega, rfl⟩
theorem bflip_any (x : Int) (hx : Scr.binv x = false) (hw : (Lit.int .u8 x).wf = true) (w : World) : Calls Try.prog 29 #[.int .u8 x] w fun e w' => e = .returned (.int .u8 (Scr.bflip x)) ∧ w = w' := by
  have hb : Scr.bok x := Scr.bok_of hx hw
  unfold Scr.bok at hb
  unfold Scr.bflip
  obtain ⟨hb1, hb2⟩ := hb
  clear hx hw
  go_enter Try.func29, Try.ntmps29
  go_wp2
  go_ret
  exact ⟨ret_int (by omega), rfl⟩
theorem bbad_any (w : World) (v : Value) (B : List Int) (hv : Vw w v (B.map (Value.int .u8))) (hl : B.length ≤ 9223372036854775807) :
    Calls Try.prog 33 #[v, .func (.func 28) #[] #[]] w fun e w' => e = .returned (.bool (Scr.bbad B)) ∧ w = w' := by
  have := bcontains_any w v (B.map (Value.int .u8)) hv (by simpa using hl) 28 #[] (enters_of Try.func28 (by kernel_rfl) rfl) (fun i => Scr.binv (B.getD i 0))
    (fun i hi => by
      have hi' : i < B.length := by simpa using hi
      have e : (B.map (Value.int .u8))[i] = Value.int .u8 (B.getD i 0) := by simp [List.getD, hi']
      rw [e]
      exact binv_any _ _)
  rw [List.length_map] at this
  exact this.mono fun e w' h => ⟨by rw [h.1, Scr.bbad_eq], h.2.symm⟩

/-- Not scrambled. -/
theorem bscr_err (w : World) (v : Value) (i : Nat) (hi : i < 4294967296) (B : List Int) (er : Int) (hv : Vw w v (B.map (Value.int .u8))) (hl : B.length ≤ 9223372036854775807) (h : 2147483648 ≤ i ∨ 131072 < B.length ∨ Scr.bbad B = true) :
    Calls Try.prog 27 #[.int .u32 i, v, .func (.func 28) #[] #[], .int .i64 er, .func (.func 29) #[] #[]] w fun e w' => e = .returned (.tuple #[.slice none 0 0, .int .i64 (if 2147483648 ≤ i then 2 else if 131072 < B.length then 4 else er)]) ∧ Below w.heap.size w w' := by
  have HC := hid (fun w h => bbad_any w v B h hl)
  have HV := hid hv
  obtain ⟨a, c, rfl, _⟩ := hv
  rw [List.length_map] at HC HV ⊢
  refine calls_of_wp_marks Try.func27 rfl ?_
  simp only [Try.ntmps27, List.size_toArray, List.length_cons, List.length_nil, Nat.reduceAdd, Nat.reduceSub, Array.replicate_succ, Array.replicate_zero, List.push_toArray, List.append_toArray, List.nil_append, List.cons_append]
  by_cases h1 : 2147483648 ≤ i
  · rw [if_pos h1]
    have hd : (i : Int) / 2147483648 = 1 := by omega
    clear h h1
    go_wp2
    exact bodyPostM_ret0 rfl (results_tmp2 rfl _ _ _) ⟨rfl, ((Below.refl _ _).alloc (Nat.le_refl _) _).alloc (by simp) _⟩
  · rw [if_neg h1]
    have hd : (i : Int) / 2147483648 = 0 := by omega
    by_cases h2 : 131072 < B.length
    · rw [if_pos h2]
      have hd2 : decide (131072 < (B.length : Int)) = true := by simp; omega
      clear h h1 h2
      go_wp2
      exact bodyPostM_ret0 rfl (results_tmp2 rfl _ _ _) ⟨rfl, ((Below.refl _ _).alloc (Nat.le_refl _) _).alloc (by simp) _⟩
    · rw [if_neg h2]
      have hd2 : decide (131072 < (B.length : Int)) = false := by simp; omega
      have HB := hid (show Scr.bbad B = true from (h.resolve_left h1).resolve_left h2)
      clear h h1 h2
      go_wp2_with (go_at_call 33; refine (HC.out _ ((HV.out.fr (Fr.alloc (fun _ => False) _ _) (fun _ _ _ _ _ h => h)).fr (Fr.alloc (fun _ => False) _ _) (fun _ _ _ _ _ h => h))).mono ?_; rintro e w1 ⟨rfl, rfl⟩; rw [HB.out])
      exact bodyPostM_ret0 rfl (results_tmp2 rfl _ _ _) ⟨rfl, ((Below.refl _ _).alloc (Nat.le_refl _) _).alloc (by simp) _⟩

set_option maxHeartbeats 2000000 in
/-- Scrambled. -/
theorem bscr_ok (w : World) (v : Value) (i : Nat) (hi : i < 2147483648) (B : List Int) (er : Int) (hv : Vw w v (B.map (Value.int .u8))) (hl : B.length ≤ 131072) (hb : Scr.bbad B = false) (hwf : ∀ n ∈ B, (Lit.int .u8 n).wf = true) :
    Calls Try.prog 27 #[.int .u32 i, v, .func (.func 28) #[] #[], .int .i64 er, .func (.func 29) #[] #[]] w fun e w' => (∃ v', e = .returned (.tuple #[v', .int .i64 0]) ∧ OwnL w' w.heap.size 5 v' ((Scr.bscr i B B.length).map (Value.int .u8))) ∧ Below w.heap.size w w' := by
  have HC := hid (fun w h => bbad_any w v B h (by omega))
  have HV := hid hv
  have HB := hid hb
  have hd : (i : Int) / 2147483648 = 0 := by omega
  rcases vw_split hv with ⟨a, c, rfl, rfl⟩ | ⟨b, off, c, rfl, hp0, hc⟩
  · clear hv hb hwf hl
    refine calls_of_wp_marks Try.func27 rfl ?_
    simp only [Try.ntmps27, List.size_toArray, List.length_cons, List.length_nil, Nat.reduceAdd, Nat.reduceSub, Array.replicate_succ, Array.replicate_zero, List.push_toArray, List.append_toArray, List.nil_append, List.cons_append]
    go_wp2_with (first
      | (go_at_call 33; refine (HC.out _ ((HV.out.fr (Fr.alloc (fun _ => False) _ _) (fun _ _ _ _ _ h => h)).fr (Fr.alloc (fun _ => False) _ _) (fun _ _ _ _ _ h => h))).mono ?_; rintro e w1 ⟨rfl, rfl⟩; rw [HB.out])
      | (at_make; refine wpList_run_value rfl (exec_make_one elem_b (.const (.int .i64 0)) (.tmp 29) rfl .i64 .i64 _ _ 0 0 rfl rfl rfl rfl (by omega) (by omega) (by omega)) ?_))
    refine bodyPostM_ret0 rfl (results_tmp2 rfl _ _ _) ⟨⟨_, rfl, ?_⟩, ?_⟩
    · show OwnL _ _ _ (.slice (some ⟨w.heap.size + 1 + 1, 0, none⟩) 0 0) []
      have h1 := OwnL.empty ((w.alloc (.cells #[.slice a 0 c] 30)).alloc (.cells #[.func (.func 29) #[] #[]] 62)) w.heap.size 5 0 (.int .u8 0) (by simp; omega) (by omega)
      simp only [World.size_alloc] at h1
      exact h1.alloc _
    · exact ((((Below.refl _ _).alloc (Nat.le_refl _) _).alloc (by simp) _).alloc (by simp; omega) _).alloc (by simp; omega) _
  · have HCc := hid hc
    have HW := hid hwf
    have hbl : b < w.heap.size := World.block_lt_of_cell? w _ (hc 0 hp0)
    have hne : ((B.length : Int) == 0) = false := by rw [beq_eq_false_iff_ne]; omega
    clear hv hb hwf hc
    refine calls_of_wp_marks Try.func27 rfl ?_
    simp only [Try.ntmps27, List.size_toArray, List.length_cons, List.length_nil, Nat.reduceAdd, Nat.reduceSub, Array.replicate_succ, Array.replicate_zero, List.push_toArray, List.append_toArray, List.nil_append, List.cons_append]
    go_wp2_with (first
      | (go_at_call 33; refine (HC.out _ ((HV.out.fr (Fr.alloc (fun _ => False) _ _) (fun _ _ _ _ _ h => h)).fr (Fr.alloc (fun _ => False) _ _) (fun _ _ _ _ _ h => h))).mono ?_; rintro e w1 ⟨rfl, rfl⟩; rw [HB.out])
      | (at_make; refine wpList_run_value rfl (exec_make_one elem_b (.const (.int .i64 0)) (.tmp 29) rfl .i64 .i64 _ _ 0 B.length rfl rfl rfl rfl (by omega) (by omega) (by omega)) ?_)
      | (go_at_call 18; refine (bits_any _ _).mono ?_; rintro e w2 ⟨rfl, rfl⟩))
    generalize hW : World.alloc _ _ = W
    replace hW := hW.symm
    have hWs : W.heap.size = w.heap.size + 5 := by rw [hW]; simp
    have hBW : Below w.heap.size w W := by
      rw [hW]
      exact (((((Below.refl _ _).alloc (Nat.le_refl _) _).alloc (by simp) _).alloc (by simp; omega) _).alloc (by simp; omega) _).alloc (by simp; omega) _
    have hcl : W.cell? ⟨w.heap.size, 0, none⟩ = some (.slice (some ⟨b, off, none⟩) B.length c) := by rw [hW]; go_simp
    have hcf : W.cell? ⟨w.heap.size + 1, 0, none⟩ = some (.func (.func 29) #[] #[]) := by rw [hW]; go_simp
    have hci : W.cell? ⟨w.heap.size + 1 + 1 + 1 + 1, 0, none⟩ = some (.int .u32 i) := by rw [hW]; go_simp
    have hown : OwnL W w.heap.size 5 (.slice (some ⟨w.heap.size + 1 + 1, 0, none⟩) 0 B.length) ((Scr.bscr i B 0).map (Value.int .u8)) := by
      rw [hW]
      have h1 := OwnL.empty ((w.alloc (.cells #[.slice (some ⟨b, off, none⟩) B.length c] 30)).alloc (.cells #[.func (.func 29) #[] #[]] 62)) w.heap.size 5 B.length (.int .u8 0) (by simp; omega) (by omega)
      simp only [World.size_alloc] at h1
      exact (h1.alloc _).alloc _
    have hout : OwnL W w.heap.size 30 (.slice (some ⟨w.heap.size + 1 + 1 + 1, 0, none⟩) 1 1) [.slice (some ⟨w.heap.size + 1 + 1, 0, none⟩) 0 B.length] := by
      rw [hW]
      have h1 := OwnL.made (((w.alloc (.cells #[.slice (some ⟨b, off, none⟩) B.length c] 30)).alloc (.cells #[.func (.func 29) #[] #[]] 62)).alloc (.cells (Array.replicate B.length (.int .u8 0)) 5)) w.heap.size 30 [.slice (some ⟨w.heap.size + 1 + 1, 0, none⟩) 0 B.length] (by simp; omega) (by simp)
      simp only [World.size_alloc] at h1
      exact h1.alloc _
    have HIT := hid (bits1_iter i (w.heap.size + 1 + 1 + 1 + 1) hi (fun j => j = w.heap.size + 1 + 1 + 1 + 1) rfl W hci (by intro j hj; omega))
    have HS := hid hWs
    clear hW hWs hci
    refine (wpIn_wide (n := 1)).1 ?_
    refine wpIn_range (gf := 25) (lb := #[.pointer (some ⟨w.heap.size + 1 + 1 + 1 + 1, 0, none⟩)]) rfl (enters_of Try.func25 (by kernel_rfl) rfl) HIT.out (Below.refl _ _) (fun _ => rfl)
      (fun k V => k < B.length ∧ OwnL V w.heap.size 5 (.slice (some ⟨w.heap.size + 1 + 1, 0, none⟩) k B.length) ((Scr.bscr i B k).map (Value.int .u8)) ∧ OwnL V w.heap.size 30 (.slice (some ⟨w.heap.size + 1 + 1 + 1, 0, none⟩) 1 1) [.slice (some ⟨w.heap.size + 1 + 1, 0, none⟩) k B.length] ∧
        V.cell? ⟨w.heap.size, 0, none⟩ = some (.slice (some ⟨b, off, none⟩) B.length c) ∧ V.cell? ⟨w.heap.size + 1, 0, none⟩ = some (.func (.func 29) #[] #[]) ∧ Below w.heap.size w V)
      (fun _ c V => c = .exit 1 ∧ OwnL V w.heap.size 5 (.slice (some ⟨w.heap.size + 1 + 1, 0, none⟩) B.length B.length) ((Scr.bscr i B B.length).map (Value.int .u8)) ∧ OwnL V w.heap.size 30 (.slice (some ⟨w.heap.size + 1 + 1 + 1, 0, none⟩) 1 1) [.slice (some ⟨w.heap.size + 1 + 1, 0, none⟩) B.length B.length] ∧ Below w.heap.size w V)
      (fun k A V h hf => ⟨h.1, h.2.1.fr hf (fun g e => by rw [HS.out]; simp [Value.ownBlock] at e; omega), h.2.2.1.fr hf (fun g e => by rw [HS.out]; simp [Value.ownBlock] at e; omega), (hf.cell (World.block_lt_of_cell? A _ h.2.2.2.1) (by rw [HS.out]; dsimp only; omega)).trans h.2.2.2.1, (hf.cell (World.block_lt_of_cell? A _ h.2.2.2.2.1) (by rw [HS.out]; dsimp only; omega)).trans h.2.2.2.2.1,
        h.2.2.2.2.2.trans (hf.below h.2.2.2.2.2.size (fun k hk h' => by rw [HS.out] at h'; omega))⟩)
      (fun k c A V h hf => ⟨h.1, h.2.1.fr hf (fun g e => by rw [HS.out]; simp [Value.ownBlock] at e; omega), h.2.2.1.fr hf (fun g e => by rw [HS.out]; simp [Value.ownBlock] at e; omega),
        h.2.2.2.trans (hf.below h.2.2.2.size (fun k hk h' => by rw [HS.out] at h'; omega))⟩)
      ⟨hp0, hown, hout, hcl, hcf, hBW⟩ (fun _ => ⟨B.length, by omega, fun V h => Nat.lt_irrefl _ h.1⟩) ?a1 ?assign ?body (fun _ _ _ h => by cases h) ?stop
    case assign =>
      intro l k V K hK
      gi_wp2
      exact hK
    case body =>
      rintro l k V - ⟨hlt, hownV, houtV, hclV, hcfV, hBV⟩ hVs
      have hck := (hBV.cell (p := ⟨b, off + k, none⟩) hbl).trans (HCc.out k hlt)
      have hinv := Scr.bbad_at HB.out hlt
      have hw := HW.out (B.getD k 0) (by simp [List.getD, hlt])
      have HEl := hid (show Scr.bel i B k = if Reg.c i k then Scr.bflip (B.getD k 0) else B.getD k 0 from rfl)
      have HSc := hid (Scr.bscr_succ i B k)
      obtain ⟨x, hx⟩ : ∃ x, x = B.getD k 0 := ⟨_, rfl⟩
      rw [← hx] at hck hinv hw HEl
      have HF := hid (fun w => bflip_any x hinv hw w)
      have hco := houtV.at 0 (by simp)
      rw [List.getElem_cons_zero] at hco
      have HO := hid hownV
      have HO2 := hid houtV
      have HVs := hid hVs
      have hBl : b < V.heap.size := Nat.lt_of_lt_of_le hbl hBV.size
      clear hx hinv hw hown hout hcl hcf hownV houtV hVs HIT
      have hb2 : ¬ w.heap.size + 1 + 1 + 1 = w.heap.size + 1 + 1 := by omega
      have fin : ∀ (y : Int) (w1 : World), y = Scr.bel i B k → OwnL w1 w.heap.size 5 (.slice (some ⟨w.heap.size + 1 + 1, 0, none⟩) (k + 1) B.length) ((Scr.bscr i B k).map (Value.int .u8) ++ [.int .u8 y]) → Fr (fun j => j = w.heap.size + 1 + 1) V w1 →
          w1.frozen? ⟨w.heap.size + 1 + 1 + 1, 0, none⟩ = false ∧ w1.cell? ⟨w.heap.size + 1 + 1 + 1, 0, none⟩ = some (.slice (some ⟨w.heap.size + 1 + 1, 0, none⟩) k B.length) ∧
          (KeepT (fun j => j = w.heap.size + 1 + 1 + 1 + 1 ∨ (W.heap.size ≤ j ∧ j < W.heap.size + 2 + 1)) V (w1.setCell ⟨w.heap.size + 1 + 1 + 1, 0, none⟩ (.slice (some ⟨w.heap.size + 1 + 1, 0, none⟩) (k + 1) B.length)) ∧
            OwnL (w1.setCell ⟨w.heap.size + 1 + 1 + 1, 0, none⟩ (.slice (some ⟨w.heap.size + 1 + 1, 0, none⟩) (k + 1) B.length)) w.heap.size 5 (.slice (some ⟨w.heap.size + 1 + 1, 0, none⟩) (k + 1) B.length) ((Scr.bscr i B (k + 1)).map (Value.int .u8)) ∧
            OwnL (w1.setCell ⟨w.heap.size + 1 + 1 + 1, 0, none⟩ (.slice (some ⟨w.heap.size + 1 + 1, 0, none⟩) (k + 1) B.length)) w.heap.size 30 (.slice (some ⟨w.heap.size + 1 + 1 + 1, 0, none⟩) 1 1) [.slice (some ⟨w.heap.size + 1 + 1, 0, none⟩) (k + 1) B.length] ∧
            (w1.setCell ⟨w.heap.size + 1 + 1 + 1, 0, none⟩ (.slice (some ⟨w.heap.size + 1 + 1, 0, none⟩) (k + 1) B.length)).cell? ⟨w.heap.size, 0, none⟩ = some (.slice (some ⟨b, off, none⟩) B.length c) ∧
            (w1.setCell ⟨w.heap.size + 1 + 1 + 1, 0, none⟩ (.slice (some ⟨w.heap.size + 1 + 1, 0, none⟩) (k + 1) B.length)).cell? ⟨w.heap.size + 1, 0, none⟩ = some (.func (.func 29) #[] #[]) ∧
            Below w.heap.size w (w1.setCell ⟨w.heap.size + 1 + 1 + 1, 0, none⟩ (.slice (some ⟨w.heap.size + 1 + 1, 0, none⟩) (k + 1) B.length))) := by
        intro y w1 hy hown1 hf1
        have hout1 := HO2.out.fr hf1 (fun g e h => by simp [Value.ownBlock] at e; omega)
        have hf2 : Fr (fun j => j = w.heap.size + 1 + 1 ∨ j = w.heap.size + 1 + 1 + 1) V (w1.setCell ⟨w.heap.size + 1 + 1 + 1, 0, none⟩ (.slice (some ⟨w.heap.size + 1 + 1, 0, none⟩) (k + 1) B.length)) :=
          (hf1.mono (fun j _ h => .inl h)).trans (Fr.setCell _ _ _ (.inr rfl))
        refine ⟨hout1.free 0, hout1.at 0 (by simp), KeepT.of_fr hf2 (fun j hj h => by rw [HS.out] at hj; omega), ?_, hout1.stored 0 _, ?_, ?_, hBV.trans (hf2.below hBV.size (fun j hj h => by omega))⟩
        · rw [HSc.out, List.map_append, List.map_cons, List.map_nil, ← hy]
          exact hown1.fr (Fr.setCell (S := fun j => j = w.heap.size + 1 + 1 + 1) _ _ _ rfl) (fun g e h => by simp [Value.ownBlock] at e; omega)
        · exact (hf2.cell (World.block_lt_of_cell? V _ hclV) (by dsimp only; omega)).trans hclV
        · exact (hf2.cell (World.block_lt_of_cell? V _ hcfV) (by dsimp only; omega)).trans hcfV
      have HFin := hid fin
      clear fin hb2
      cases hcv : Reg.c i k with
      | true =>
        have HY := hid (show Scr.bflip x = Scr.bel i B k by rw [HEl.out, hcv]; rfl)
        clear hcv
        have ht : ((true.toNat : Nat) : Int) = 1 := rfl
        rw [ht]
        by_cases hlast : k + 1 = B.length
        · have hd1 : ((k : Int) + 1 == (B.length : Int)) = true := by rw [beq_iff_eq]; omega
          have HLast := hid hlast
          clear hlast
          gi_wp2_with (first
            | (refine ⟨trivial, rfl, CallsIn.inRound _ (callsIn_wide.2 ((HF.out _).mono ?_))⟩; rintro e w0 ⟨rfl, rfl⟩)
            | (gi_at_builtin; refine wpListIn_append_room1 rfl (fun _ => rfl) elem_b (.tmp 48) (.tmp 50) rfl w.heap.size _ _ _ _ rfl HO.out _ rfl rfl (by omega) ?_; intro w1 hown1 hf1; obtain ⟨hfr1, hco1, hres⟩ := HFin.out _ w1 HY.out hown1 hf1; have HR := hid hres; have hcl1 := hres.2.2.2.1; clear hres hown1 hf1))
          have hres := HR.out
          refine ⟨hres.1, rfl, ?_, ?_, hres.2.2.2.2.2⟩
          · have h := hres.2.1; rw [HLast.out] at h ⊢; exact h
          · have h := hres.2.2.1; rw [HLast.out] at h ⊢; exact h
        · have hd1 : ((k : Int) + 1 == (B.length : Int)) = false := by rw [beq_eq_false_iff_ne]; omega
          have HLast := hid hlast
          clear hlast
          gi_wp2_with (first
            | (refine ⟨trivial, rfl, CallsIn.inRound _ (callsIn_wide.2 ((HF.out _).mono ?_))⟩; rintro e w0 ⟨rfl, rfl⟩)
            | (gi_at_builtin; refine wpListIn_append_room1 rfl (fun _ => rfl) elem_b (.tmp 48) (.tmp 50) rfl w.heap.size _ _ _ _ rfl HO.out _ rfl rfl (by omega) ?_; intro w1 hown1 hf1; obtain ⟨hfr1, hco1, hres⟩ := HFin.out _ w1 HY.out hown1 hf1; have HR := hid hres; have hcl1 := hres.2.2.2.1; clear hres hown1 hf1))
          exact ⟨HR.out.1, by have := HLast.out; omega, HR.out.2⟩
      | false =>
        have HY := hid (show x = Scr.bel i B k by rw [HEl.out, hcv]; rfl)
        clear hcv
        have ht : ((false.toNat : Nat) : Int) = 0 := rfl
        rw [ht]
        by_cases hlast : k + 1 = B.length
        · have hd1 : ((k : Int) + 1 == (B.length : Int)) = true := by rw [beq_iff_eq]; omega
          have HLast := hid hlast
          clear hlast
          gi_wp2_with (first
            | (refine ⟨trivial, rfl, CallsIn.inRound _ (callsIn_wide.2 ((HF.out _).mono ?_))⟩; rintro e w0 ⟨rfl, rfl⟩)
            | (gi_at_builtin; refine wpListIn_append_room1 rfl (fun _ => rfl) elem_b (.tmp 48) (.tmp 50) rfl w.heap.size _ _ _ _ rfl HO.out _ rfl rfl (by omega) ?_; intro w1 hown1 hf1; obtain ⟨hfr1, hco1, hres⟩ := HFin.out _ w1 HY.out hown1 hf1; have HR := hid hres; have hcl1 := hres.2.2.2.1; clear hres hown1 hf1))
          have hres := HR.out
          refine ⟨hres.1, rfl, ?_, ?_, hres.2.2.2.2.2⟩
          · have h := hres.2.1; rw [HLast.out] at h ⊢; exact h
          · have h := hres.2.2.1; rw [HLast.out] at h ⊢; exact h
        · have hd1 : ((k : Int) + 1 == (B.length : Int)) = false := by rw [beq_eq_false_iff_ne]; omega
          have HLast := hid hlast
          clear hlast
          gi_wp2_with (first
            | (refine ⟨trivial, rfl, CallsIn.inRound _ (callsIn_wide.2 ((HF.out _).mono ?_))⟩; rintro e w0 ⟨rfl, rfl⟩)
            | (gi_at_builtin; refine wpListIn_append_room1 rfl (fun _ => rfl) elem_b (.tmp 48) (.tmp 50) rfl w.heap.size _ _ _ _ rfl HO.out _ rfl rfl (by omega) ?_; intro w1 hown1 hf1; obtain ⟨hfr1, hco1, hres⟩ := HFin.out _ w1 HY.out hown1 hf1; have HR := hid hres; have hcl1 := hres.2.2.2.1; clear hres hown1 hf1))
          exact ⟨HR.out.1, by have := HLast.out; omega, HR.out.2⟩
    case stop =>
      rintro D c' k V ⟨rfl, hownV, houtV, hBV⟩ hD hDl
      have hco := houtV.at 0 (by simp)
      rw [List.getElem_cons_zero] at hco
      have hDn := HS.out
      clear hown hout hcl hcf HIT
      gi_wp2
      go_wp2
      have hf : Fr (fun j => j = D) V (V.putObj D (.deferred none)) := Fr.putObj V D _ rfl
      refine bodyPostM_ret1 hD rfl (results_tmp2 rfl _ _ _) ⟨⟨_, rfl, ?_⟩, hBV.trans (hf.below hBV.size (fun j hj e => by omega))⟩
      exact hownV.fr hf (fun g e h => by simp [Value.ownBlock] at e; omega)
end Go.Proofs.Ytmiaddcjedjjdaa
