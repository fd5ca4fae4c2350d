/- userplaneref18: Soft, Bits. -/
import Derived.Test.YtngggknejkcepaaNoiD
import Derived.Test.YtngggknejkcepaaSoftV
import Derived.Test.YtngggknejkcepaaSentI
import Derived.Test.YtngggknejkcepaaSentB
namespace Go.Proofs.Ytngggknejkcepaa
open Go.RowKit Go.Shelf
set_option linter.unusedVariables false
theorem vw_at' {w : World} {v : Value} {A : List Int} {k : IntKind} (h : Vw w v (A.map (Value.int k))) {i : Nat} (hi : i < A.length) : ∃ b off c, v = .slice (some ⟨b, off, none⟩) A.length c ∧ w.cell? ⟨b, off + i, none⟩ = some (.int k (A.getD i 0)) := by
  obtain ⟨a, c, rfl, h⟩ := h
  obtain ⟨b, off, rfl, hc⟩ := h i (by simpa using hi)
  exact ⟨b, off, c, by simp, by simpa [List.getD, hi] using hc⟩
/-- A reference's Noise in block b. -/
def RB (w : World) (b : Nat) (f e s : Int) (x : Nat) : Prop := Blk w b 28 #[.int .i64 f, .int .i64 e, .int .i64 s, .int .u64 (x : Nat)]
section
variable {w w' : World} {b x : Nat} {f e s : Int}
theorem RB.fr {S : Nat → Prop} (h : RB w b f e s x) (hf : Fr S w w') (hs : ¬ S b) : RB w' b f e s x := Blk.fr h hf hs
theorem RB.below {B : Nat} (h : RB w b f e s x) (hb : Below B w w') (hg : b < B) : RB w' b f e s x := Blk.below h hb hg
theorem RB.lt (h : RB w b f e s x) : b < w.heap.size := Blk.lt h
theorem RB.c (h : RB w b f e s x) : (w.cell? ⟨b, 0, none⟩ = some (.int .i64 f) ∧ w.cell? ⟨b, 1, none⟩ = some (.int .i64 e) ∧ w.cell? ⟨b, 2, none⟩ = some (.int .i64 s) ∧ w.cell? ⟨b, 3, none⟩ = some (.int .u64 (x : Nat))) ∧ ∀ i, w.frozen? ⟨b, i, none⟩ = false :=
  ⟨⟨Blk.cell h 0, Blk.cell h 1, Blk.cell h 2, Blk.cell h 3⟩, Blk.frozen h⟩
theorem RB.sto (h : RB w b f e s x) (y : Nat) {W : World} (hW : (((w.setCell ⟨b, 0, none⟩ (.int .i64 f)).setCell ⟨b, 1, none⟩ (.int .i64 e)).setCell ⟨b, 2, none⟩ (.int .i64 s)).setCell ⟨b, 3, none⟩ (.int .u64 (y : Nat)) = W) : RB W b f e s y ∧ Fr (fun k => k = b) w W := by
  subst hW
  refine ⟨((((Blk.set_ h 0 _).set_ 1 _).set_ 2 _).set_ 3 _), ?_⟩
  exact (((Fr.setCell (S := fun k => k = b) _ ⟨b, 0, none⟩ _ rfl).trans (Fr.setCell (S := fun k => k = b) _ ⟨b, 1, none⟩ _ rfl)).trans (Fr.setCell (S := fun k => k = b) _ ⟨b, 2, none⟩ _ rfl)).trans (Fr.setCell (S := fun k => k = b) _ ⟨b, 3, none⟩ _ rfl)
theorem RB.sto' {f' e' s' : Int} (h : RB w b f' e' s' x) {y : Nat} {W : World} (hW : (((w.setCell ⟨b, 0, none⟩ (.int .i64 f)).setCell ⟨b, 1, none⟩ (.int .i64 e)).setCell ⟨b, 2, none⟩ (.int .i64 s)).setCell ⟨b, 3, none⟩ (.int .u64 (y : Nat)) = W) : RB W b f e s y ∧ Fr (fun k => k = b) w W := by
  subst hW
  refine ⟨((((Blk.set_ h 0 _).set_ 1 _).set_ 2 _).set_ 3 _), ?_⟩
  exact (((Fr.setCell (S := fun k => k = b) _ ⟨b, 0, none⟩ _ rfl).trans (Fr.setCell (S := fun k => k = b) _ ⟨b, 1, none⟩ _ rfl)).trans (Fr.setCell (S := fun k => k = b) _ ⟨b, 2, none⟩ _ rfl)).trans (Fr.setCell (S := fun k => k = b) _ ⟨b, 3, none⟩ _ rfl)
end
set_option maxRecDepth 100000 in
set_option maxHeartbeats 4000000 in
theorem refSoft_ok (w : World) (f e s : Int) (x : Nat) (v : Value) (A : List Int) (hc : Ch f e s) (hx : x < Noi.M) (hv : Vw w v (A.map (Value.int .i64))) (hA : A.length ≤ 1000000) (hbad : Soft.bad A = false) :
    Calls Try.prog 21 #[NV f e s x, v] w fun r w' => (∃ v', r = .returned (.tuple #[NV f e s (Noi.stN x (2 * A.length)), v', .int .i64 0]) ∧ VwA w' w.heap.size v' ((Soft.tab (Noi.sofG f e s x A) A.length).map (Value.int .i64))) ∧ Below w.heap.size w w' := by
  have VA := hid (fun w' (h : Below w.heap.size w w') => refValid_any w' v A (hv.below h (Nat.le_refl _)) (by omega))
  have HA := hid hv
  have CC := hid hc
  have HX := hid hx
  obtain ⟨aa, ca, rfl, _⟩ := hv
  rw [List.length_map] at VA HA ⊢
  rw [hbad] at VA
  have HBad := hid hbad
  clear hbad hc hx
  go_enter Try.func21, Try.ntmps21
  go_wp2_with fail
  refine (VA.out _ ((below_alloc _ _).alloc (by simp) _)).mono ?_
  rintro r w1 ⟨rfl, rfl⟩
  go_wp2
  go_loopw [7, 8] (fun o i wr => ∃ k : Nat, k ≤ A.length ∧ i = .int .i64 k ∧ RB wr w.heap.size f e s (Noi.stN x (2 * k)) ∧ RB wr (w.heap.size + 1) 0 0 0 0 ∧ OwnL wr (w.heap.size + 2) 3 o ((Soft.tab (Noi.sofG f e s x A) k).map (Value.int .i64)) ∧ Below w.heap.size w wr) (fun _ i _ => A.length - (intOf i).toNat)
  case atStart =>
    exact ⟨0, Nat.zero_le _, rfl, Blk.fr (Blk.new w _ _) (Fr.alloc (fun _ => False) _ _) (fun h => h), by have := Blk.new (w.alloc (.cells #[.int .i64 f, .int .i64 e, .int .i64 s, .int .u64 (x : Nat)] 28)) 28 #[.int .i64 0, .int .i64 0, .int .i64 0, .int .u64 0]; rw [World.size_alloc] at this; exact this, OwnL.nil _ _ _, (below_alloc _ _).alloc (by simp) _⟩
  case round =>
    obtain ⟨k, hk, rfl, hN, hR, hown, hB⟩ := hrel
    by_cases hlt : k < A.length
    · obtain ⟨q, off, c', he, hck⟩ := vw_at' (HA.out.below hB (Nat.le_refl _)) hlt
      cases he
      have hy := Soft.inv_false (Soft.bad_at HBad.out hlt)
      have HG := hid (show Noi.sofG f e s x A k = Soft.clamp (Noi.vin f e (Noi.step (Noi.stN x (2 * k))) (A.getD k 0) + Noi.dis s (Noi.step (Noi.step (Noi.stN x (2 * k))))) from rfl)
      have HTs := hid (Soft.tab_succ (Noi.sofG f e s x A) k)
      have HNl := hid (show ((Soft.tab (Noi.sofG f e s x A) k).map (Value.int .i64)).length = k by simp [Soft.tab_len])
      have HX2 := hid (show Noi.stN x (2 * (k + 1)) = Noi.step (Noi.step (Noi.stN x (2 * k))) from rfl)
      have hst := Noi.stN_lt HX.out (2 * k)
      generalize Noi.stN x (2 * k) = st at *
      have HSt := hid (fun w => refStep_any w f e s st hst)
      have HS2 := hid (fun w => refStep_any w f e s (Noi.step st) (Noi.step_lt hst))
      have HEv := hid (fun w => refEvent_any w f e s (Noi.step st) CC.out)
      have HD := hid (fun w => refDist_any w f e s (Noi.step (Noi.step st)) CC.out)
      have d0 := Noi.dis_lo CC.out.s0 (Noi.step (Noi.step st))
      have d1 := Noi.dis_hi CC.out.s0 (Noi.step (Noi.step st))
      have d2 := CC.out.s1
      have hev := Noi.evt_cases f e (Noi.step st)
      generalize A.getD k 0 = y at *
      have HV := hid (show Noi.vin f e (Noi.step st) y = if Noi.evt f e (Noi.step st) = 1 then -y else if Noi.evt f e (Noi.step st) = 2 then 0 else y from rfl)
      generalize Noi.vin f e (Noi.step st) y = pp at *
      generalize Noi.dis s (Noi.step (Noi.step st)) = qq at *
      generalize Noi.evt f e (Noi.step st) = ev at *
      generalize Noi.sofG f e s x A k = z at *
      have HCl := hid (fun w => refClamp_any (pp + qq) w)
      rw [← HG.out] at HCl
      obtain ⟨⟨c0, c1, c2, c3⟩, fz⟩ := hN.c
      have f0 := fz 0
      clear fz hst HG
      have HN := hid hN
      have HR := hid hR
      have HO := hid hown
      have HB := hid hB
      clear hN hR hown hB
      have hpp : (ev = 0 ∧ pp = y) ∨ (ev = 1 ∧ pp = -y) ∨ (ev = 2 ∧ pp = 0) := by
        have := HV.out
        rcases hev with h | h | h <;> subst h <;> simp at this <;> simp [this]
      clear hev
      rcases hpp with ⟨rfl, rfl⟩ | ⟨rfl, rfl⟩ | ⟨rfl, rfl⟩
      all_goals
        try rw [Int.zero_add] at HCl
        clear HV
        go_wp2_with fail
        refine (HSt.out _).mono ?_
        rintro r w1 ⟨rfl, B1⟩
        have HN1 := hid (HN.out.below B1 HN.out.lt)
        obtain ⟨⟨c0', c1', c2', c3'⟩, fz⟩ := HN1.out.c
        have f0' := fz 0
        have f1' := fz 1
        have f2' := fz 2
        have f3' := fz 3
        have HR1 := hid (HR.out.below B1 HR.out.lt)
        have HO1 := hid (HO.out.fr (Fr.of_below B1) (fun g e => by have := (HO.out.block e).2; omega))
        have HB1 := hid (below_then HB.out B1)
        clear c0 c1 c2 c3 f0 fz B1
        go_wp2_with fail
        generalize hW2 : World.setCell _ _ _ = w2
        have h2 := HN1.out.sto _ hW2
        have HN2 := hid h2.1
        have HR2 := hid (HR1.out.fr h2.2 (by omega))
        have HO2 := hid (HO1.out.fr h2.2 (fun g e => by have := (HO1.out.block e).1; omega))
        have HB2 := hid (HB1.out.trans (h2.2.below HB1.out.size (fun j hj e => by omega)))
        clear hW2 h2 c0' c1' c2' c3' f0' f1' f2' f3'
        refine (HEv.out _).mono ?_
        rintro r w3 ⟨rfl, B3⟩
        have HN3 := hid (HN2.out.below B3 HN2.out.lt)
        obtain ⟨⟨c0, c1, c2, c3⟩, -⟩ := HN3.out.c
        go_wp2_with fail
        refine (HEv.out _).mono ?_
        rintro r w4 ⟨rfl, B4⟩
        have HN4 := hid (HN3.out.below B4 HN3.out.lt)
        clear c0 c1 c2 c3
        obtain ⟨⟨c0, c1, c2, c3⟩, -⟩ := HN4.out.c
        go_wp2_with fail
        refine (HS2.out _).mono ?_
        rintro r w5 ⟨rfl, B5⟩
        have HN5 := hid (HN4.out.below B5 HN4.out.lt)
        clear c0 c1 c2 c3
        have B35 := below_then (below_then B3 B4) B5
        have HR5 := hid (HR2.out.below B35 HR2.out.lt)
        have HO5 := hid (HO2.out.fr (Fr.of_below B35) (fun g e => by have := (HO2.out.block e).2; omega))
        have HB5 := hid (below_then HB2.out B35)
        clear B3 B4 B5 B35
        obtain ⟨⟨c0', c1', c2', c3'⟩, fz⟩ := HN5.out.c
        have f0' := fz 0
        have f1' := fz 1
        have f2' := fz 2
        have f3' := fz 3
        clear fz
        go_wp2_with fail
        generalize hW6 : World.setCell _ _ _ = w6
        have h6 := HN5.out.sto _ hW6
        have HN6 := hid h6.1
        have HR6 := hid (HR5.out.fr h6.2 (by omega))
        have HO6 := hid (HO5.out.fr h6.2 (fun g e => by have := (HO5.out.block e).1; omega))
        have HB6 := hid (HB5.out.trans (h6.2.below HB5.out.size (fun j hj e => by omega)))
        clear hW6 h6 c0' c1' c2' c3' f0' f1' f2' f3'
        refine (HD.out _).mono ?_
        rintro r w7 ⟨rfl, B7⟩
        have HN7 := hid (HN6.out.below B7 HN6.out.lt)
        have HR7 := hid (HR6.out.below B7 HR6.out.lt)
        have hown7 := HO6.out.fr (Fr.of_below B7) (fun g e => by have := (HO6.out.block e).2; omega)
        have HB7 := hid (below_then HB6.out B7)
        have hsz : w.heap.size + 2 ≤ w7.heap.size := by have := HR7.out.lt; omega
        clear B7
        go_wp2_with (first
          | (go_at_call 43; refine (HCl.out _).mono ?_; rintro r w8 ⟨rfl, rfl⟩)
          | (at_builtin; refine wpList_append_one rfl ielem_sent (.tmp 36) (.tmp 42) rfl (w.heap.size + 2) _ k _ HNl.out rfl hown7 _ rfl rfl (by omega) (by omega) hsz ?_; intro g1 cap1 w9 hown9 hf9))
        have hne : ∀ i, Value.ownBlock _ = some i → w.heap.size + 2 ≤ i := fun i e => (hown7.block e).1
        have HN9 := hid (HN7.out.fr hf9 (fun e => by have := hne _ e; omega))
        have HR9 := hid (HR7.out.fr hf9 (fun e => by have := hne _ e; omega))
        have HB9 := hid (HB7.out.trans (hf9.below HB7.out.size (fun j hj e => by have := hne _ e; omega)))
        have HO9 := hid hown9
        clear hown7 hf9 hne hown9
        go_wp2
        go_roundw
        case rel => exact ⟨k + 1, by omega, by go_num, by rw [HX2.out]; exact HN9.out, HR9.out, by rw [HTs.out, List.map_append]; exact HO9.out, HB9.out⟩
        case measure => simp [intOf]; omega
    · obtain rfl : k = A.length := by omega
      have HNl := hid (show ((Soft.tab (Noi.sofG f e s x A) A.length).map (Value.int .i64)).length = A.length by simp [Soft.tab_len])
      obtain ⟨a2, c2, rfl, hcap, hcut⟩ := hown.cut
      rw [HNl.out] at hcap hcut ⊢
      obtain ⟨⟨c0, c1, c2, c3⟩, fz⟩ := hN.c
      obtain ⟨⟨c0', c1', c2', c3'⟩, fz'⟩ := hR.c
      have f0' := fz' 0
      have f1' := fz' 1
      have f2' := fz' 2
      have f3' := fz' 3
      clear fz fz'
      have hvw := hown.vwA
      rw [HNl.out] at hvw
      have HV := hid hvw
      have HR := hid hR
      have HB := hid hB
      clear hown hcut hB hR hN hvw
      go_wp2
      generalize hW2 : World.setCell _ _ _ = w2
      have h2 := RB.sto' HR.out hW2
      have HV2 := hid (HV.out.fr h2.2 (fun b hb => by omega))
      have HB2 := hid (HB.out.trans (h2.2.below HB.out.size (fun j hj e => by omega)))
      obtain ⟨⟨k0, k1, k2, k3⟩, -⟩ := h2.1.c
      have hB2 : w.heap.size + 1 < w2.heap.size := h2.1.lt
      clear hW2 h2 c0 c1 c2 c3 c0' c1' c2' c3' f0' f1' f2' f3'
      exact bodyPost_ret (v := .tuple #[NV f e s (Noi.stN x (2 * A.length)), _, .int .i64 0]) (by simp [results, Try.results21, go_sem, k0, k1, k2, k3]) rfl ⟨⟨_, rfl, HV2.out.mono (by omega)⟩, HB2.out⟩
end Go.Proofs.Ytngggknejkcepaa
