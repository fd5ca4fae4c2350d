/- userplaneref18: Points; userplanelaw18.points. -/
import Derived.Test.YtngggknejkcepaaSentP
namespace Go.Proofs.Ytngggknejkcepaa
open Go.RowKit Go.Shelf
set_option linter.unusedVariables false
attribute [local go_sem ↓] Go.wp_at_zero Go.wp_at_succ
theorem nbox (w : World) (f e s : Int) (x : Nat) : RB ((w.alloc (.cells #[.int .i64 f, .int .i64 e, .int .i64 s, .int .u64 (x : Nat)] 28)).alloc (.cells #[.int .i64 0, .int .i64 0, .int .i64 0, .int .u64 0] 28)) w.heap.size f e s x ∧
    RB ((w.alloc (.cells #[.int .i64 f, .int .i64 e, .int .i64 s, .int .u64 (x : Nat)] 28)).alloc (.cells #[.int .i64 0, .int .i64 0, .int .i64 0, .int .u64 0] 28)) (w.heap.size + 1) 0 0 0 0 ∧
    Below w.heap.size w ((w.alloc (.cells #[.int .i64 f, .int .i64 e, .int .i64 s, .int .u64 (x : Nat)] 28)).alloc (.cells #[.int .i64 0, .int .i64 0, .int .i64 0, .int .u64 0] 28)) :=
  ⟨Blk.fr (Blk.new w _ _) (Fr.alloc (fun _ => False) _ _) (fun h => h), by have := Blk.new (w.alloc (.cells #[.int .i64 f, .int .i64 e, .int .i64 s, .int .u64 (x : Nat)] 28)) 28 #[.int .i64 0, .int .i64 0, .int .i64 0, .int .u64 0]; rw [World.size_alloc] at this; exact this, (below_alloc _ _).alloc (by simp) _⟩
set_option maxRecDepth 100000 in
set_option maxHeartbeats 4000000 in
theorem refPts_bad (w : World) (f e s : Int) (x : Nat) (v : Value) (A : List Pt) (hv : PVw w v A) (hA : A.length ≤ 1000000) (hbad : Noi.pbad A = true) :
    Calls Try.prog 28 #[NV f e s x, v] w fun r w' => r = .returned (.tuple #[NV f e s x, .slice none 0 0, .int .i64 2]) ∧ Below w.heap.size w w' := by
  have HA := hid hv
  obtain ⟨aa, ca, rfl, _⟩ := hv
  have HBad := hid hbad
  clear hbad
  go_enter Try.func28, Try.ntmps28
  go_wp2
  obtain ⟨hn1, hr1, hb1⟩ := nbox w f e s x
  generalize World.alloc _ _ = w1 at hn1 hr1 hb1 ⊢
  have HN := hid hn1
  have HR := hid hr1
  have HB := hid hb1
  clear hn1 hr1 hb1
  go_loopw [7] (fun i wr => ∃ k : Nat, k ≤ A.length ∧ i = .int .i64 k ∧ Hid (∀ j, j < k → Noi.pinv (A.getD j (0, 0)) = false) ∧ w1 = wr) (fun i _ => A.length - (intOf i).toNat)
  case atStart => exact ⟨0, Nat.zero_le _, rfl, fun j h => absurd h (Nat.not_lt_zero _), rfl⟩
  case round =>
    obtain ⟨k, hk, rfl, hno, rfl⟩ := hrel
    by_cases hlt : k < A.length
    · obtain ⟨q, off, e1, hx, hy⟩ := (HA.out.below HB.out (Nat.le_refl _)).at hlt
      cases e1
      have hcs : (Noi.pinv (A.getD k (0, 0)) = false ∧ decide ((A.getD k (0, 0)).1 < -1073741824) = false ∧ decide (1073741824 < (A.getD k (0, 0)).1) = false ∧ decide ((A.getD k (0, 0)).2 < -1073741824) = false ∧ decide (1073741824 < (A.getD k (0, 0)).2) = false) ∨ (decide ((A.getD k (0, 0)).1 < -1073741824) = true) ∨ (decide ((A.getD k (0, 0)).1 < -1073741824) = false ∧ decide (1073741824 < (A.getD k (0, 0)).1) = true) ∨ (decide ((A.getD k (0, 0)).1 < -1073741824) = false ∧ decide (1073741824 < (A.getD k (0, 0)).1) = false ∧ decide ((A.getD k (0, 0)).2 < -1073741824) = true) ∨ (decide ((A.getD k (0, 0)).1 < -1073741824) = false ∧ decide (1073741824 < (A.getD k (0, 0)).1) = false ∧ decide ((A.getD k (0, 0)).2 < -1073741824) = false ∧ decide (1073741824 < (A.getD k (0, 0)).2) = true) := by
        unfold Noi.pinv
        cases decide ((A.getD k (0, 0)).1 < -1073741824) <;> cases decide (1073741824 < (A.getD k (0, 0)).1) <;> cases decide ((A.getD k (0, 0)).2 < -1073741824) <;> cases decide (1073741824 < (A.getD k (0, 0)).2) <;> simp
      have HP := hid (fun (h : Noi.pinv (A.getD k (0, 0)) = false) j (hj : j < k + 1) => (show Noi.pinv (A.getD j (0, 0)) = false by
        by_cases h2 : j = k
        · subst h2; exact h
        · exact hno.out j (by omega)))
      obtain ⟨⟨c0, c1, c2, c3⟩, -⟩ := HN.out.c
      obtain ⟨⟨c0', c1', c2', c3'⟩, fz'⟩ := HR.out.c
      have f0' := fz' 0
      have f1' := fz' 1
      have f2' := fz' 2
      have f3' := fz' 3
      clear fz'
      generalize A.getD k (0, 0) = p at *
      obtain ⟨px, py⟩ := p
      dsimp only at hx hy hcs
      rcases hcs with ⟨hp, d0, d1, d2, d3⟩ | d0 | ⟨d0, d1⟩ | ⟨d0, d1, d2⟩ | ⟨d0, d1, d2, d3⟩
      · have HP2 := hid (HP.out hp)
        clear hp
        go_wp2
        go_roundw
        case rel => exact ⟨k + 1, by omega, by go_num, HP2, trivial⟩
        case measure => simp [intOf]; omega
      all_goals
        go_wp2
        generalize hW2 : World.setCell _ _ _ = w2
        have h2 := RB.sto' HR.out hW2
        have HB2 := hid (HB.out.trans (h2.2.below HB.out.size (fun j hj e => by omega)))
        obtain ⟨⟨k0, k1, k2, k3⟩, -⟩ := h2.1.c
        clear hW2 h2 c0 c1 c2 c3 c0' c1' c2' c3' f0' f1' f2' f3'
        exact bodyPost_ret (v := .tuple #[NV f e s x, .slice none 0 0, .int .i64 2]) (by simp [results, Try.results28, go_sem, k0, k1, k2, k3]) rfl ⟨rfl, HB2.out⟩
    · obtain rfl : k = A.length := by omega
      exfalso
      have h := HBad.out
      rw [← Noi.pbad_eq, List.any_eq_true] at h
      obtain ⟨i, hi, hp⟩ := h
      rw [hno.out i (by simpa using hi)] at hp
      cases hp
set_option maxRecDepth 100000 in
set_option maxHeartbeats 4000000 in
theorem refPts_ok (w : World) (f e s : Int) (x : Nat) (v : Value) (A : List Pt) (hc : Ch f e s) (hx : x < Noi.M) (hv : PVw w v A) (hA : A.length ≤ 1000000) (hbad : Noi.pbad A = false) :
    Calls Try.prog 28 #[NV f e s x, v] w fun r w' => (∃ v', r = .returned (.tuple #[NV f e s (Noi.stN x (2 * A.length)), v', .int .i64 0]) ∧ PVwA w' w.heap.size v' (Noi.pl s x A A.length)) ∧ Below w.heap.size w w' := by
  have HA := hid hv
  have CC := hid hc
  have HX := hid hx
  obtain ⟨aa, ca, rfl, _⟩ := hv
  have HBad := hid hbad
  clear hbad hc hx
  go_enter Try.func28, Try.ntmps28
  go_wp2
  obtain ⟨hn1, hr1, hb1⟩ := nbox w f e s x
  generalize World.alloc _ _ = w1 at hn1 hr1 hb1 ⊢
  have HN := hid hn1
  have HR := hid hr1
  have HB := hid hb1
  have hs1 : w.heap.size + 1 < w1.heap.size := hr1.lt
  clear hn1 hr1 hb1
  go_loopw [7] (fun i wr => ∃ k : Nat, k ≤ A.length ∧ i = .int .i64 k ∧ w1 = wr) (fun i _ => A.length - (intOf i).toNat)
  case atStart => exact ⟨0, Nat.zero_le _, rfl, rfl⟩
  case round =>
    obtain ⟨k, hk, rfl, rfl⟩ := hrel
    by_cases hlt : k < A.length
    · obtain ⟨q, off, e1, hx, hy⟩ := (HA.out.below HB.out (Nat.le_refl _)).at hlt
      cases e1
      have hp := Noi.pinv_in (Noi.pbad_at HBad.out hlt)
      generalize A.getD k (0, 0) = p at *
      obtain ⟨px, py⟩ := p
      dsimp only at hx hy hp
      obtain ⟨p0, p1, p2, p3⟩ := hp
      have d0 : decide (px < -1073741824) = false := decide_eq_false (by omega)
      have d1 : decide (1073741824 < px) = false := decide_eq_false (by omega)
      have d2 : decide (py < -1073741824) = false := decide_eq_false (by omega)
      have d3 : decide (1073741824 < py) = false := decide_eq_false (by omega)
      clear p0 p1 p2 p3
      go_wp2
      go_roundw
      case rel => exact ⟨k + 1, by omega, by go_num, trivial⟩
      case measure => simp [intOf]; omega
    · obtain rfl : k = A.length := by omega
      clear hk hlt
      go_wp2
      go_loopw [8, 9] (fun o i wr => ∃ k : Nat, k ≤ A.length ∧ i = .int .i64 k ∧ RB wr w.heap.size f e s (Noi.stN x (2 * k)) ∧ RB wr (w.heap.size + 1) 0 0 0 0 ∧ POwn wr w1.heap.size 89 o (Noi.pl s x A k) ∧ Below w.heap.size w wr ∧ w1.heap.size ≤ wr.heap.size) (fun _ i _ => A.length - (intOf i).toNat)
      case atStart => exact ⟨0, Nat.zero_le _, rfl, HN.out, HR.out, POwn.nil _ _ _, HB.out, Nat.le_refl _⟩
      case round =>
        obtain ⟨k, hk, rfl, hN, hR, hown, hB, h1r⟩ := hrel
        by_cases hlt : k < A.length
        · obtain ⟨q, off, e1, hx0, hy0⟩ := (HA.out.below hB (Nat.le_refl _)).at hlt
          cases e1
          have hqw : q < w.heap.size := by
            obtain ⟨q', o', e2, h2, _⟩ := HA.out.at hlt
            cases e2
            exact World.block_lt_of_cell? w _ h2
          have hqn : ¬ q = w.heap.size := by omega
          have hp := Noi.pinv_in (Noi.pbad_at HBad.out hlt)
          have HG := hid (show Noi.ptG s x A k = ((A.getD k (0, 0)).1 + Noi.dis s (Noi.step (Noi.stN x (2 * k))), (A.getD k (0, 0)).2 + Noi.dis s (Noi.step (Noi.step (Noi.stN x (2 * k))))) from rfl)
          have HTs := hid (Noi.pl_succ s x A k)
          have HNl := hid (Noi.pl_len s x A k)
          have HX2 := hid (show Noi.stN x (2 * (k + 1)) = Noi.step (Noi.step (Noi.stN x (2 * k))) from rfl)
          have hst := Noi.stN_lt HX.out (2 * k)
          generalize Noi.stN x (2 * k) = st at *
          have HSt := hid (fun w => refStep_any w f e s st hst)
          have HS2 := hid (fun w => refStep_any w f e s (Noi.step st) (Noi.step_lt hst))
          have HD := hid (fun w => refDist_any w f e s (Noi.step st) CC.out)
          have HD2 := hid (fun w => refDist_any w f e s (Noi.step (Noi.step st)) CC.out)
          have d0 := Noi.dis_lo CC.out.s0 (Noi.step st)
          have d1 := Noi.dis_hi CC.out.s0 (Noi.step st)
          have d2 := Noi.dis_lo CC.out.s0 (Noi.step (Noi.step st))
          have d3 := Noi.dis_hi CC.out.s0 (Noi.step (Noi.step st))
          have d4 := CC.out.s1
          generalize A.getD k (0, 0) = p at *
          obtain ⟨px, py⟩ := p
          dsimp only at hx0 hy0 hp HG
          generalize Noi.dis s (Noi.step (Noi.step st)) = y2 at *
          generalize Noi.dis s (Noi.step st) = y1 at *
          generalize Noi.ptG s x A k = z at *
          have hw1 : IntKind.i64.wrap (px + y1) = px + y1 := IntWalk.i64_in _ (by omega)
          have hw2 : IntKind.i64.wrap (py + y2) = py + y2 := IntWalk.i64_in _ (by omega)
          have hql := World.block_lt_of_cell? _ _ hx0
          have HA0 := hid (And.intro hx0 hy0)
          obtain ⟨⟨c0, c1, c2, c3⟩, -⟩ := hN.c
          have HN0 := hid hN
          have HR0 := hid hR
          have HO := hid hown
          have HBr := hid hB
          clear hN hR hown hB hx0 hy0 hst hp d0 d1 d2 d3 d4
          go_wp2_with fail
          refine (HSt.out _).mono ?_
          rintro r w2 ⟨rfl, B2⟩
          have HN2 := hid (HN0.out.below B2 HN0.out.lt)
          obtain ⟨⟨c0', c1', c2', c3'⟩, fz⟩ := HN2.out.c
          have f0' := fz 0
          have f1' := fz 1
          have f2' := fz 2
          have f3' := fz 3
          have HR2 := hid (HR0.out.below B2 HR0.out.lt)
          have HO2 := hid (HO.out.fr (Fr.of_below B2) (fun g e => by have := (HO.out.block e).2; omega))
          have HB2 := hid (below_then HBr.out B2)
          have h2r : wr.heap.size ≤ w2.heap.size := B2.size
          have hx2 := (B2.cell (p := ⟨q, off + k * 2, none⟩) hql).trans HA0.out.1
          have hy2 := (B2.cell (p := ⟨q, off + k * 2 + 1, none⟩) hql).trans HA0.out.2
          clear fz
          go_wp2
          have h3 := HN2.out.sto (Noi.step st) rfl
          generalize hW3 : World.setCell _ _ _ = w3 at h3 ⊢
          have HN3 := hid h3.1
          have HR3 := hid (HR2.out.fr h3.2 (by omega))
          have HO3 := hid (HO2.out.fr h3.2 (fun g e => by have := (HO2.out.block e).1; omega))
          have HB3 := hid (HB2.out.trans (h3.2.below HB2.out.size (fun j hj e => by omega)))
          have hs32 : w3.heap.size = w2.heap.size := by rw [← hW3]; simp
          have hs3 : w.heap.size + 1 < w2.heap.size := by rw [← hs32]; exact HR3.out.lt
          clear hW3 h3 c0 c1 c2 c3 c0' c1' c2' c3' f0' f1' f2' f3' hx2 hy2 B2 HN2 HR2 HO2 HB2
          generalize hW4 : World.alloc _ _ = w4
          have F : Fr (fun _ => False) w3 w4 := by rw [← hW4]; exact Fr.alloc _ _ _
          have HP4 := hid (show Blk w4 w2.heap.size 89 #[.int .i64 px, .int .i64 py] by rw [← hs32, ← hW4]; exact Blk.new w3 _ _)
          have HN4 := hid (HN3.out.fr F (fun h => h))
          have HR4 := hid (HR3.out.fr F (fun h => h))
          have HO4 := hid (HO3.out.fr F (fun _ _ h => h))
          have HB4 := hid (HB3.out.trans (F.below HB3.out.size (fun _ _ h => h)))
          have h34 : w2.heap.size < w4.heap.size := HP4.out.lt
          have hO3s := hid (fun g e => (show g < w2.heap.size by rw [← hs32]; exact (HO3.out.block (g := g) e).2))
          clear hW4 F HN3 HR3 HO3 HB3
          have hN4d := HN4.out.fr (Fr.drew (fun _ => False) _) (fun h => h)
          obtain ⟨⟨c0, c1, c2, c3⟩, -⟩ := hN4d.c
          have p0 : w4.drew.cell? ⟨w2.heap.size, 0, none⟩ = some (.int .i64 px) := HP4.out.cell 0
          clear hN4d
          go_region_law ((go_simp; refine (HD.out _).mono ?_; rintro r w5 ⟨rfl, B5⟩; have HP5 := hid (HP4.out.below ((below_drewN w4 1).trans B5) HP4.out.lt); have e0 : w5.cell? ⟨w2.heap.size, 0, none⟩ = some (.int .i64 px) := HP5.out.cell 0; have z0 : w5.frozen? ⟨w2.heap.size, 0, none⟩ = false := HP5.out.frozen 0))
          all_goals
            have B45 := (below_drewN w4 1).trans B5
            have HN5 := hid (HN4.out.below B45 HN4.out.lt)
            have HR5 := hid (HR4.out.below B45 HR4.out.lt)
            have HO5 := hid (HO4.out.below B45 (Nat.le_refl _))
            have HB5 := hid (below_then HB4.out B45)
            have h45 : w4.heap.size ≤ w5.heap.size := B45.size
            clear B45 B5 c0 c1 c2 c3 p0
            generalize hW6 : World.setCell _ _ _ = w6
            have F : Fr (fun j => j = w2.heap.size) w5 w6 := by rw [← hW6]; exact Fr.setCell (S := fun j => j = w2.heap.size) _ ⟨w2.heap.size, 0, none⟩ _ rfl
            have HP6 := hid (show Blk w6 w2.heap.size 89 #[.int .i64 (px + y1), .int .i64 py] by rw [← hW6]; exact HP5.out.set_ 0 _)
            have HN6 := hid (HN5.out.fr F (by omega))
            have HR6 := hid (HR5.out.fr F (by omega))
            have HO6 := hid (HO5.out.fr F (fun g e h => by have := hO3s.out g e; omega))
            have HB6 := hid (HB5.out.trans (F.below HB5.out.size (fun j hj e => by omega)))
            have h56 : w5.heap.size ≤ w6.heap.size := F.size
            clear hW6 F HN5 HR5 HO5 HB5 HP5 e0 z0 HN4 HR4 HO4 HB4 HP4
            obtain ⟨⟨c0, c1, c2, c3⟩, -⟩ := HN6.out.c
            go_wp2_with fail
            refine (HS2.out _).mono ?_
            rintro r w7 ⟨rfl, B7⟩
            have HN7 := hid (HN6.out.below B7 HN6.out.lt)
            obtain ⟨⟨c0', c1', c2', c3'⟩, fz⟩ := HN7.out.c
            have f0' := fz 0
            have f1' := fz 1
            have f2' := fz 2
            have f3' := fz 3
            clear fz
            have HR7 := hid (HR6.out.below B7 HR6.out.lt)
            have HP7 := hid (HP6.out.below B7 HP6.out.lt)
            have HO7 := hid (HO6.out.below B7 (Nat.le_refl _))
            have HB7 := hid (below_then HB6.out B7)
            have h67 : w6.heap.size ≤ w7.heap.size := B7.size
            clear B7 c0 c1 c2 c3 HN6 HR6 HP6 HO6 HB6
            go_wp2
            have h8 := HN7.out.sto (Noi.step (Noi.step st)) rfl
            generalize hW8 : World.setCell _ _ _ = w8 at h8 ⊢
            have HN8 := hid h8.1
            have HR8 := hid (HR7.out.fr h8.2 (by omega))
            have HP8 := hid (HP7.out.fr h8.2 (by omega))
            have HO8 := hid (HO7.out.fr h8.2 (fun g e => by have := (HO7.out.block e).1; omega))
            have HB8 := hid (HB7.out.trans (h8.2.below HB7.out.size (fun j hj e => by omega)))
            have h78 : w7.heap.size ≤ w8.heap.size := h8.2.size
            clear hW8 h8 c0' c1' c2' c3' f0' f1' f2' f3' HN7 HR7 HP7 HO7 HB7
            have hN8d := HN8.out.fr (Fr.drew (fun _ => False) _) (fun h => h)
            obtain ⟨⟨c0, c1, c2, c3⟩, -⟩ := hN8d.c
            have p1 : w8.drew.cell? ⟨w2.heap.size, 1, none⟩ = some (.int .i64 py) := HP8.out.cell 1
            clear hN8d
            go_region_law ((go_simp; refine (HD2.out _).mono ?_; rintro r w9 ⟨rfl, B9⟩; have HP9 := hid (HP8.out.below ((below_drewN w8 1).trans B9) HP8.out.lt); have e1 : w9.cell? ⟨w2.heap.size, 1, none⟩ = some (.int .i64 py) := HP9.out.cell 1; have z1 : w9.frozen? ⟨w2.heap.size, 1, none⟩ = false := HP9.out.frozen 1))
            all_goals
              have B89 := (below_drewN w8 1).trans B9
              have HN9 := hid (HN8.out.below B89 HN8.out.lt)
              have HR9 := hid (HR8.out.below B89 HR8.out.lt)
              have HO9 := hid (HO8.out.below B89 (Nat.le_refl _))
              have HB9 := hid (below_then HB8.out B89)
              have h89 : w8.heap.size ≤ w9.heap.size := B89.size
              clear B89 B9 c0 c1 c2 c3 p1
              generalize hW10 : World.setCell _ _ _ = w10
              have F : Fr (fun j => j = w2.heap.size) w9 w10 := by rw [← hW10]; exact Fr.setCell (S := fun j => j = w2.heap.size) _ ⟨w2.heap.size, 1, none⟩ _ rfl
              have HP10 := hid (show Blk w10 w2.heap.size 89 #[.int .i64 (px + y1), .int .i64 (py + y2)] by rw [← hW10]; exact HP9.out.set_ 1 _)
              have HN10 := hid (HN9.out.fr F (by omega))
              have HR10 := hid (HR9.out.fr F (by omega))
              have hown := HO9.out.fr F (fun g e h => by have := hO3s.out g e; omega)
              have HB10 := hid (HB9.out.trans (F.below HB9.out.size (fun j hj e => by omega)))
              have h910 : w9.heap.size ≤ w10.heap.size := F.size
              clear hW10 F HN9 HR9 HO9 HB9 HP9 e1 z1 HN8 HR8 HP8 HO8 HB8
              have k0 : w10.cell? ⟨w2.heap.size, 0, none⟩ = some (.int .i64 (px + y1)) := HP10.out.cell 0
              have k1 : w10.cell? ⟨w2.heap.size, 1, none⟩ = some (.int .i64 (py + y2)) := HP10.out.cell 1
              have hsz : w1.heap.size ≤ w10.heap.size := by omega
              go_wp2_with (at_builtin; refine wpList_append_one2 rfl pelem_n (.tmp 74) (.tmp 76) rfl w1.heap.size _ k _ HNl.out rfl hown _ _ rfl (by omega) hsz ?_; intro g1 cap1 w11 hown2 hf)
              have hne : ∀ i, Value.ownBlock _ = some i → w1.heap.size ≤ i := fun i e => (hown.block e).1
              have HN11 := hid (HN10.out.fr hf (fun e => by have := hne _ e; omega))
              have HR11 := hid (HR10.out.fr hf (fun e => by have := hne _ e; omega))
              have HB11 := hid (HB10.out.trans (hf.below HB10.out.size (fun j hj e => by have := hne _ e; omega)))
              have hsz11 : w10.heap.size ≤ w11.heap.size := hf.size
              have HO11 := hid hown2
              clear hown hf hne hown2
              go_roundw
              case rel => exact ⟨k + 1, by omega, by go_num, by rw [HX2.out]; exact HN11.out, HR11.out, by rw [HTs.out, HG.out]; exact HO11.out, HB11.out, by omega⟩
              case measure => simp [intOf]; omega
        · obtain rfl : k = A.length := by omega
          obtain ⟨⟨c0, c1, c2, c3⟩, fz⟩ := hN.c
          obtain ⟨⟨c0', c1', c2', c3'⟩, fz'⟩ := hR.c
          have f0' := fz' 0
          have f1' := fz' 1
          have f2' := fz' 2
          have f3' := fz' 3
          clear fz fz'
          have hvw := hown.vwA
          obtain ⟨a2, c2v, hsv⟩ := hown.is_slice
          rw [Noi.pl_len] at hsv
          subst hsv
          have HV := hid hvw
          have HR9 := hid hR
          have HB9 := hid hB
          clear hown hB hR hN hvw
          go_wp2
          generalize hW2 : World.setCell _ _ _ = w2
          have h2 := RB.sto' HR9.out hW2
          have HV2 := hid (HV.out.fr h2.2 (fun b hb => by omega))
          have HB2 := hid (HB9.out.trans (h2.2.below HB9.out.size (fun j hj e => by omega)))
          obtain ⟨⟨k0, k1, k2, k3⟩, -⟩ := h2.1.c
          clear hW2 h2 c0 c1 c2 c3 c0' c1' c2' c3' f0' f1' f2' f3'
          exact bodyPost_ret (v := .tuple #[NV f e s (Noi.stN x (2 * A.length)), .slice a2 A.length c2v, .int .i64 0]) (by simp [results, Try.results28, go_sem, k0, k1, k2, k3]) rfl ⟨⟨_, rfl, HV2.out.mono (by omega)⟩, HB2.out⟩
theorem refPts_any (w : World) (f e s : Int) (x : Nat) (v : Value) (A : List Pt) (hc : Ch f e s) (hx : x < Noi.M) (hv : PVw w v A) (hA : A.length ≤ 1000000) :
    Calls Try.prog 28 #[NV f e s x, v] w fun r w' => (∃ v', r = .returned (.tuple #[NV f e s (Noi.ptX x A), v', .int .i64 (Noi.ptE A)]) ∧ PVwA w' w.heap.size v' (Noi.ptL s x A)) ∧ Below w.heap.size w w' := by
  cases h : Noi.pbad A with
  | true =>
    rw [show Noi.ptL s x A = [] from if_pos h, show Noi.ptX x A = x from if_pos h, show Noi.ptE A = 2 from if_pos h]
    exact (refPts_bad w f e s x v A hv hA h).mono fun r w' ⟨h1, h2⟩ => ⟨⟨_, h1, PVwA.nil _ _ _⟩, h2⟩
  | false =>
    rw [show Noi.ptL s x A = Noi.pl s x A A.length from if_neg (by simp [h]), show Noi.ptX x A = Noi.stN x (2 * A.length) from if_neg (by simp [h]), show Noi.ptE A = 0 from if_neg (by simp [h])]
    exact refPts_ok w f e s x v A hc hx hv hA h
set_option maxHeartbeats 1000000 in
theorem lawPts (w : World) (va vb : Value) (A B : List Pt) (ha : PVw w va A) (hb : PVw w vb B) (hla : A.length ≤ 1000000) (hlb : B.length ≤ 1000000) :
    Calls Try.prog 29 #[va, vb] w fun e w' => e = .returned (.bool (decide (A = B))) ∧ ∃ n, w' = w.drewN n := by
  obtain ⟨a, c, rfl, hc⟩ := ha
  obtain ⟨a', c', rfl, hc'⟩ := hb
  by_cases hl : A.length = B.length
  · have hne : (((A.length : Int) != (B.length : Int)) = false) := by simp [hl]
    have HL : Hid (A.length = B.length) := hl
    clear hl
    go_enter Try.func29, Try.ntmps29
    go_wp2
    go_loopw [5] (fun i wr => ∃ k m : Nat, k ≤ A.length ∧ i = .int .i64 k ∧ A.take k = B.take k ∧ wr = w.drewN m) (fun i _ => A.length - (intOf i).toNat)
    case atStart => exact ⟨0, 0, Nat.zero_le _, rfl, rfl, rfl⟩
    case round =>
      obtain ⟨k, m, hk, rfl, htk, rfl⟩ := hrel
      by_cases hlt : k < A.length
      · have hlt' : k < B.length := by rw [← HL.out]; exact hlt
        obtain ⟨b1, o1, e1, h1, h2⟩ := hc k hlt
        obtain ⟨b2, o2, e2, h3, h4⟩ := hc' k hlt'
        cases e1
        cases e2
        clear hc hc'
        go_wp2
        by_cases he : A[k] = B[k]
        · have hd : ((A[k].1 : Int) == B[k].1) = true := by simp [he]
          have hd2 : ((A[k].2 : Int) == B[k].2) = true := by simp [he]
          have HE : Hid (A[k] = B[k]) := he
          clear he
          go_quiet (fail)
          go_wp2
          go_roundw
          case rel => exact ⟨k + 1, m + nq, by omega, by go_num, take_eq_succ hlt hlt' htk HE.out, rfl⟩
          case measure => simp [intOf]; omega
        · have HE : Hid (A[k] ≠ B[k]) := he
          by_cases h12 : A[k].1 = B[k].1
          · have hd : ((A[k].1 : Int) == B[k].1) = true := by simp [h12]
            have hd2 : ((A[k].2 : Int) == B[k].2) = false := by
              rw [beq_eq_false_iff_ne]
              exact fun h2 => he (Prod.ext h12 h2)
            clear he h12
            go_quiet (fail)
            go_wp2
            go_ret
            exact ⟨ret_bool (decide_eq_false (fun e : A = B => HE.out (by subst e; rfl))).symm, m + nq, by simp [World.drewN_drewN]⟩
          · have hd : ((A[k].1 : Int) == B[k].1) = false := by
              rw [beq_eq_false_iff_ne]
              exact h12
            clear he h12
            go_quiet (fail)
            go_wp2
            go_ret
            exact ⟨ret_bool (decide_eq_false (fun e : A = B => HE.out (by subst e; rfl))).symm, m + nq, by simp [World.drewN_drewN]⟩
      · go_wp2
        go_ret
        rw [List.take_of_length_le (by omega), List.take_of_length_le (by rw [← HL.out]; omega)] at htk
        exact ⟨ret_bool (decide_eq_true htk).symm, m, rfl⟩
  · have hne : (((A.length : Int) != (B.length : Int)) = true) := by simp; omega
    have HL : Hid (¬ A.length = B.length) := hl
    clear hl hc hc'
    go_enter Try.func29, Try.ntmps29
    go_wp2
    go_ret
    exact ⟨ret_bool (decide_eq_false (fun e : A = B => HL.out (by rw [e]))).symm, 0, rfl⟩
theorem pts_true (w : World) (va vb : Value) (A : List Pt) (ha : PVw w va A) (hb : PVw w vb A) (hl : A.length ≤ 1000000) :
    Calls Try.prog 29 #[va, vb] w fun r w' => r = .returned (.bool true) ∧ Below w.heap.size w w' := by
  have H := lawPts w va vb A A ha hb hl hl
  rw [decide_eq_true rfl] at H
  exact H.mono fun e w' ⟨h1, m, h2⟩ => ⟨h1, by subst h2; exact below_drewN _ m⟩
end Go.Proofs.Ytngggknejkcepaa
