/- userplaneref18: Soft with errors, Bits. -/
import Derived.Test.YtngggknejkcepaaNoiE
namespace Go.Proofs.Ytngggknejkcepaa
open Go.RowKit Go.Shelf
set_option linter.unusedVariables false
namespace Noi
theorem sofL_bad {f e s : Int} {x : Nat} {A : List Int} (h : Soft.bad A = true) : sofL f e s x A = [] ∧ sofX x A = x ∧ sofE A = 2 := ⟨if_pos h, if_pos h, if_pos h⟩
theorem sofL_ok {f e s : Int} {x : Nat} {A : List Int} (h : Soft.bad A = false) : sofL f e s x A = Soft.tab (sofG f e s x A) A.length ∧ sofX x A = stN x (2 * A.length) ∧ sofE A = 0 := ⟨if_neg (by simp [h]), if_neg (by simp [h]), if_neg (by simp [h])⟩
theorem bitL_bad {f e : Int} {x : Nat} {A : List Int} (h : Soft.bbad A = true) : bitL f e x A = [] ∧ bitX x A = x ∧ bitE A = 3 := ⟨if_pos h, if_pos h, if_pos h⟩
theorem bitL_ok {f e : Int} {x : Nat} {A : List Int} (h : Soft.bbad A = false) : bitL f e x A = Soft.tab (bitG f e x A) A.length ∧ bitX x A = stN x A.length ∧ bitE A = 0 := ⟨if_neg (by simp [h]), if_neg (by simp [h]), if_neg (by simp [h])⟩
theorem sofX_lt {x : Nat} (h : x < M) (A : List Int) : sofX x A < M := by unfold sofX; split; exact h; exact stN_lt h _
theorem sofX_pos {x : Nat} (h0 : 0 < x) (h : x < M) (A : List Int) : 0 < sofX x A := by unfold sofX; split; exact h0; exact stN_pos h0 h _
theorem bitX_lt {x : Nat} (h : x < M) (A : List Int) : bitX x A < M := by unfold bitX; split; exact h; exact stN_lt h _
theorem bitX_pos {x : Nat} (h0 : 0 < x) (h : x < M) (A : List Int) : 0 < bitX x A := by unfold bitX; split; exact h0; exact stN_pos h0 h _
theorem sofL_len (f e s : Int) (x : Nat) (A : List Int) : (sofL f e s x A).length ≤ A.length := by unfold sofL; split <;> simp [Soft.tab_len]
theorem bitL_len (f e : Int) (x : Nat) (A : List Int) : (bitL f e x A).length ≤ A.length := by unfold bitL; split <;> simp [Soft.tab_len]
end Noi
set_option maxHeartbeats 1000000 in
theorem refSoft_err (w : World) (f e s : Int) (x : Nat) (v : Value) (A : List Int) (hv : Vw w v (A.map (Value.int .i64))) (hA : A.length ≤ 1000000) (hbad : Soft.bad A = true) :
    Calls Try.prog 21 #[NV f e s x, v] w fun r w' => r = .returned (.tuple #[NV f e s x, .slice none 0 0, .int .i64 2]) ∧ Below w.heap.size w w' := by
  have VA := hid (fun w' (h : Below w.heap.size w w') => refValid_any w' v A (hv.below h (Nat.le_refl _)) (by omega))
  obtain ⟨aa, ca, rfl, _⟩ := hv
  rw [List.length_map] at VA ⊢
  rw [hbad] at VA
  clear hbad
  go_enter Try.func21, Try.ntmps21
  go_wp2_with fail
  refine (VA.out _ ((below_alloc _ _).alloc (by simp) _)).mono ?_
  rintro r w1 ⟨rfl, rfl⟩
  go_wp2
  exact bodyPost_ret (v := .tuple #[NV f e s x, .slice none 0 0, .int .i64 2]) (by simp [results, Try.results21, go_sem]) rfl ⟨rfl, (below_alloc _ _).alloc (by simp) _⟩
theorem refSoft_any (w : World) (f e s : Int) (x : Nat) (v : Value) (A : List Int) (hc : Ch f e s) (hx : x < Noi.M) (hv : Vw w v (A.map (Value.int .i64))) (hA : A.length ≤ 1000000) :
    Calls Try.prog 21 #[NV f e s x, v] w fun r w' => (∃ v', r = .returned (.tuple #[NV f e s (Noi.sofX x A), v', .int .i64 (Noi.sofE A)]) ∧ VwA w' w.heap.size v' ((Noi.sofL f e s x A).map (Value.int .i64))) ∧ Below w.heap.size w w' := by
  cases h : Soft.bad A with
  | true =>
    obtain ⟨h1, h2, h3⟩ := Noi.sofL_bad (f := f) (e := e) (s := s) (x := x) h
    rw [h1, h2, h3]
    exact (refSoft_err w f e s x v A hv hA h).mono fun r w' ⟨h1, h2⟩ => ⟨⟨_, h1, VwA.nil _ _ _⟩, h2⟩
  | false =>
    obtain ⟨h1, h2, h3⟩ := Noi.sofL_ok (f := f) (e := e) (s := s) (x := x) h
    rw [h1, h2, h3]
    exact refSoft_ok w f e s x v A hc hx hv hA h
set_option maxHeartbeats 1000000 in
theorem refBits_err (w : World) (f e s : Int) (x : Nat) (v : Value) (A : List Int) (hv : Vw w v (A.map (Value.int .u8))) (hA : A.length ≤ 1000000) (hbad : Soft.bbad A = true) :
    Calls Try.prog 13 #[NV f e s x, v] w fun r w' => r = .returned (.tuple #[NV f e s x, .slice none 0 0, .int .i64 3]) ∧ Below w.heap.size w w' := by
  have VA := hid (fun w' (h : Below w.heap.size w w') => refBinary_any w' v A (hv.below h (Nat.le_refl _)) (by omega))
  obtain ⟨aa, ca, rfl, _⟩ := hv
  rw [List.length_map] at VA ⊢
  rw [hbad] at VA
  clear hbad
  go_enter Try.func13, Try.ntmps13
  go_wp2_with fail
  refine (VA.out _ ((below_alloc _ _).alloc (by simp) _)).mono ?_
  rintro r w1 ⟨rfl, rfl⟩
  go_wp2
  exact bodyPost_ret (v := .tuple #[NV f e s x, .slice none 0 0, .int .i64 3]) (by simp [results, Try.results13, go_sem]) rfl ⟨rfl, (below_alloc _ _).alloc (by simp) _⟩
set_option maxRecDepth 100000 in
set_option maxHeartbeats 4000000 in
theorem refBits_ok (w : World) (f e s : Int) (x : Nat) (v : Value) (A : List Int) (hc : Ch f e s) (hx : x < Noi.M) (hv : Vw w v (A.map (Value.int .u8))) (hwf : ∀ n ∈ A, (Lit.int .u8 n).wf = true) (hA : A.length ≤ 1000000) (hbad : Soft.bbad A = false) :
    Calls Try.prog 13 #[NV f e s x, v] w fun r w' => (∃ v', r = .returned (.tuple #[NV f e s (Noi.stN x A.length), v', .int .i64 0]) ∧ VwA w' w.heap.size v' ((Soft.tab (Noi.bitG f e x A) A.length).map (Value.int .u8))) ∧ Below w.heap.size w w' := by
  have VA := hid (fun w' (h : Below w.heap.size w w') => refBinary_any w' v A (hv.below h (Nat.le_refl _)) (by omega))
  have HA := hid hv
  have CC := hid hc
  have HX := hid hx
  have HW := hid hwf
  obtain ⟨aa, ca, rfl, _⟩ := hv
  rw [List.length_map] at VA HA ⊢
  rw [hbad] at VA
  have HBad := hid hbad
  clear hbad hc hx hwf
  go_enter Try.func13, Try.ntmps13
  go_wp2_with fail
  refine (VA.out _ ((below_alloc _ _).alloc (by simp) _)).mono ?_
  rintro r w1 ⟨rfl, rfl⟩
  go_wp2
  go_loopw [7, 8] (fun o i wr => ∃ k : Nat, k ≤ A.length ∧ i = .int .i64 k ∧ RB wr w.heap.size f e s (Noi.stN x k) ∧ RB wr (w.heap.size + 1) 0 0 0 0 ∧ OwnL wr (w.heap.size + 2) 5 o ((Soft.tab (Noi.bitG f e x A) k).map (Value.int .u8)) ∧ Below w.heap.size w wr) (fun _ i _ => A.length - (intOf i).toNat)
  case atStart =>
    exact ⟨0, Nat.zero_le _, rfl, Blk.fr (Blk.new w _ _) (Fr.alloc (fun _ => False) _ _) (fun h => h), by have := Blk.new (w.alloc (.cells #[.int .i64 f, .int .i64 e, .int .i64 s, .int .u64 (x : Nat)] 28)) 28 #[.int .i64 0, .int .i64 0, .int .i64 0, .int .u64 0]; rw [World.size_alloc] at this; exact this, OwnL.nil _ _ _, (below_alloc _ _).alloc (by simp) _⟩
  case round =>
    obtain ⟨k, hk, rfl, hN, hR, hown, hB⟩ := hrel
    by_cases hlt : k < A.length
    · obtain ⟨q, off, c', he, hck⟩ := vw_at' (HA.out.below hB (Nat.le_refl _)) hlt
      cases he
      have HCk := hid (show ∀ W, Below w.heap.size w W → W.cell? ⟨q, off + k, none⟩ = some (.int .u8 (A.getD k 0)) from fun W hW => by
        obtain ⟨q', off', c'', he, h⟩ := vw_at' (HA.out.below hW (Nat.le_refl _)) hlt
        cases he
        exact h)
      have hy1 : A.getD k 0 ≤ 1 := by have := Soft.bbad_at HBad.out hlt; simp [Soft.binv] at this; simpa [List.getD, hlt] using this
      have hy0 : 0 ≤ A.getD k 0 := by
        have := HW.out (A.getD k 0) (by simp [List.getD, hlt])
        simp only [Lit.wf, IntKind.min, IntKind.max, IntKind.signed, IntKind.bits] at this
        simp at this
        exact this.1
      have HG := hid (show Noi.bitG f e x A k = if Noi.evt f e (Noi.step (Noi.stN x k)) = 0 then A.getD k 0 else 1 - A.getD k 0 from rfl)
      have HTs := hid (Soft.tab_succ (Noi.bitG f e x A) k)
      have HNl := hid (show ((Soft.tab (Noi.bitG f e x A) k).map (Value.int .u8)).length = k by simp [Soft.tab_len])
      have HX2 := hid (show Noi.stN x (k + 1) = Noi.step (Noi.stN x k) from rfl)
      have hst := Noi.stN_lt HX.out k
      generalize Noi.stN x k = st at *
      have HSt := hid (fun w => refStep_any w f e s st hst)
      have HEv := hid (fun w => refEvent_any w f e s (Noi.step st) CC.out)
      have hev := Noi.evt_cases f e (Noi.step st)
      generalize A.getD k 0 = y at *
      generalize Noi.evt f e (Noi.step st) = ev at *
      generalize Noi.bitG f e x A k = z at *
      obtain ⟨⟨c0, c1, c2, c3⟩, fz⟩ := hN.c
      have f0 := fz 0
      clear fz hst
      have HN := hid hN
      have HR := hid hR
      have HO := hid hown
      have HB := hid hB
      clear hN hR hown hB
      have hpp : (decide (0 < ev) = false ∧ z = y) ∨ (decide (0 < ev) = true ∧ z = 1 - y) := by
        have := HG.out
        rcases hev with h | h | h <;> subst h <;> simp at this <;> simp [this]
      clear hev HG
      rcases hpp with ⟨hd, rfl⟩ | ⟨hd, rfl⟩
      all_goals
        go_wp2_with fail
        refine (HSt.out _).mono ?_
        rintro r w1 ⟨rfl, B1⟩
        have HN1 := hid (HN.out.below B1 HN.out.lt)
        obtain ⟨⟨c0', c1', c2', c3'⟩, fz⟩ := HN1.out.c
        have f0' := fz 0
        have f1' := fz 1
        have f2' := fz 2
        have f3' := fz 3
        have HR1 := hid (HR.out.below B1 HR.out.lt)
        have HO1 := hid (HO.out.fr (Fr.of_below B1) (fun g e => by have := (HO.out.block e).2; omega))
        have HB1 := hid (below_then HB.out B1)
        have HA1 := hid (HA.out.below HB1.out (Nat.le_refl _))
        clear c0 c1 c2 c3 f0 fz B1 hck
        go_wp2_with fail
        generalize hW2 : World.setCell _ _ _ = w2
        have h2 := HN1.out.sto _ hW2
        have HN2 := hid h2.1
        have HR2 := hid (HR1.out.fr h2.2 (by omega))
        have HO2 := hid (HO1.out.fr h2.2 (fun g e => by have := (HO1.out.block e).1; omega))
        have HB2 := hid (HB1.out.trans (h2.2.below HB1.out.size (fun j hj e => by omega)))
        clear hW2 h2 c0' c1' c2' c3' f0' f1' f2' f3'
        refine (HEv.out _).mono ?_
        rintro r w3 ⟨rfl, B3⟩
        have HN3 := hid (HN2.out.below B3 HN2.out.lt)
        have HR3 := hid (HR2.out.below B3 HR2.out.lt)
        have hown7 := HO2.out.fr (Fr.of_below B3) (fun g e => by have := (HO2.out.block e).2; omega)
        have HB3 := hid (below_then HB2.out B3)
        have hsz : w.heap.size + 2 ≤ w3.heap.size := by have := HR3.out.lt; omega
        have hck := HCk.out _ HB3.out
        clear B3
        go_wp2_with (first
          | (at_builtin; refine wpList_append_one rfl belem_sent (.tmp 24) (.tmp 30) rfl (w.heap.size + 2) _ k _ HNl.out rfl hown7 _ rfl rfl (by omega) (by omega) hsz ?_; intro g1 cap1 w9 hown9 hf9)
          | (at_builtin; refine wpList_append_one rfl belem_sent (.tmp 32) (.tmp 37) rfl (w.heap.size + 2) _ k _ HNl.out rfl hown7 _ rfl rfl (by omega) (by omega) hsz ?_; intro g1 cap1 w9 hown9 hf9))
        have hne : ∀ i, Value.ownBlock _ = some i → w.heap.size + 2 ≤ i := fun i e => (hown7.block e).1
        have HN9 := hid (HN3.out.fr hf9 (fun e => by have := hne _ e; omega))
        have HR9 := hid (HR3.out.fr hf9 (fun e => by have := hne _ e; omega))
        have HB9 := hid (HB3.out.trans (hf9.below HB3.out.size (fun j hj e => by have := hne _ e; omega)))
        have HO9 := hid hown9
        clear hown7 hf9 hne hown9 hck
        go_wp2
        go_roundw
        case rel => exact ⟨k + 1, by omega, by go_num, by rw [HX2.out]; exact HN9.out, HR9.out, by rw [HTs.out, List.map_append]; exact HO9.out, HB9.out⟩
        case measure => simp [intOf]; omega
    · obtain rfl : k = A.length := by omega
      have HNl := hid (show ((Soft.tab (Noi.bitG f e x A) A.length).map (Value.int .u8)).length = A.length by simp [Soft.tab_len])
      obtain ⟨a2, c2, rfl, hcap, hcut⟩ := hown.cut
      rw [HNl.out] at hcap hcut ⊢
      obtain ⟨⟨c0, c1, c2, c3⟩, fz⟩ := hN.c
      obtain ⟨⟨c0', c1', c2', c3'⟩, fz'⟩ := hR.c
      have f0' := fz' 0
      have f1' := fz' 1
      have f2' := fz' 2
      have f3' := fz' 3
      clear fz fz'
      have hvw := hown.vwA
      rw [HNl.out] at hvw
      have HV := hid hvw
      have HR := hid hR
      have HB := hid hB
      clear hown hcut hB hR hN hvw
      go_wp2
      generalize hW2 : World.setCell _ _ _ = w2
      have h2 := RB.sto' HR.out hW2
      have HV2 := hid (HV.out.fr h2.2 (fun b hb => by omega))
      have HB2 := hid (HB.out.trans (h2.2.below HB.out.size (fun j hj e => by omega)))
      obtain ⟨⟨k0, k1, k2, k3⟩, -⟩ := h2.1.c
      have hB2 : w.heap.size + 1 < w2.heap.size := h2.1.lt
      clear hW2 h2 c0 c1 c2 c3 c0' c1' c2' c3' f0' f1' f2' f3'
      exact bodyPost_ret (v := .tuple #[NV f e s (Noi.stN x A.length), _, .int .i64 0]) (by simp [results, Try.results13, go_sem, k0, k1, k2, k3]) rfl ⟨⟨_, rfl, HV2.out.mono (by omega)⟩, HB2.out⟩
theorem refBits_any (w : World) (f e s : Int) (x : Nat) (v : Value) (A : List Int) (hc : Ch f e s) (hx : x < Noi.M) (hv : Vw w v (A.map (Value.int .u8))) (hwf : ∀ n ∈ A, (Lit.int .u8 n).wf = true) (hA : A.length ≤ 1000000) :
    Calls Try.prog 13 #[NV f e s x, v] w fun r w' => (∃ v', r = .returned (.tuple #[NV f e s (Noi.bitX x A), v', .int .i64 (Noi.bitE A)]) ∧ VwA w' w.heap.size v' ((Noi.bitL f e x A).map (Value.int .u8))) ∧ Below w.heap.size w w' := by
  cases h : Soft.bbad A with
  | true =>
    obtain ⟨h1, h2, h3⟩ := Noi.bitL_bad (f := f) (e := e) (x := x) h
    rw [h1, h2, h3]
    exact (refBits_err w f e s x v A hv hA h).mono fun r w' ⟨h1, h2⟩ => ⟨⟨_, h1, VwA.nil _ _ _⟩, h2⟩
  | false =>
    obtain ⟨h1, h2, h3⟩ := Noi.bitL_ok (f := f) (e := e) (x := x) h
    rw [h1, h2, h3]
    exact refBits_ok w f e s x v A hc hx hv hwf hA h
end Go.Proofs.Ytngggknejkcepaa
