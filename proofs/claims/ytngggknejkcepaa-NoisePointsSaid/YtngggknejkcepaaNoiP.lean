/- userplane/noise: Outputs' iterator of no generator; userplanelaw18: num, same, made. -/
import Derived.Test.YtngggknejkcepaaNoiO
import Derived.Test.YtngggknejkcepaaSame18
namespace Go.Proofs.Ytngggknejkcepaa
open Go.RowKit Go.Shelf
set_option linter.unusedVariables false
attribute [local go_sem] Oper.semAt_some
set_option maxHeartbeats 2000000 in
theorem outputs1_zero (c : Int) (bo bc : Nat) (T : Nat → Prop) (hTo : T bo) (hTc : T bc) (w : World)
    (hco : w.cell? ⟨bo, 0, none⟩ = some (.int .u64 0)) (hcc : w.cell? ⟨bc, 0, none⟩ = some (.int .i64 c)) (hT : ∀ b, T b → b < w.heap.size) (xs : Nat → Array Value) :
    IterC Try.prog 38 #[.pointer (some ⟨bo, 0, none⟩), .pointer (some ⟨bc, 0, none⟩)] xs (some 0) 1 T w := by
  intro l J Jx W hW hJ hJx hY h0 hN
  clear hN hY
  have hWs := hW.size
  have hco' := (hW.cell (p := ⟨bo, 0, none⟩) (hT bo hTo)).trans hco
  have hcc' := (hW.cell (p := ⟨bc, 0, none⟩) (hT bc hTc)).trans hcc
  have HJ := hid hJ
  clear hJ hco hcc hJx
  refine calls_of_wp Try.func38 rfl ?_
  simp only [Try.ntmps38, List.size_toArray, List.length_cons, List.length_nil, Nat.reduceAdd, Nat.reduceSub, Array.replicate_succ, Array.replicate_zero, List.push_toArray, List.append_toArray, List.nil_append, List.cons_append]
  by_cases hcp : c ≤ 0
  all_goals
    try have hcq : 0 < c := by omega
    go_step3
    go_wp2
    generalize hW2 : World.alloc _ _ = W2
    have HG2 : W2.cell? ⟨W.heap.size, 0, none⟩ = some (.int .u64 0) := by rw [← hW2]; exact (Blk.new W 70 #[.int .u64 0]).cell 0
    have hB2 : Below W.heap.size W W2 := by rw [← hW2]; exact below_alloc _ _
    have hcc2 := (hB2.cell (p := ⟨bc, 0, none⟩) (Nat.lt_of_lt_of_le (hT bc hTc) hWs)).trans hcc'
    have hJ2 : J 0 W2 := HJ.out _ _ _ h0 ((Fr.of_below hB2).mono (fun k hk h => by omega))
    clear hW2 hB2 hcc' hco' h0
    go_step3
    go_wp2
    refine wp_loop_rounds 1 ?_
    rw [rounds_succ]
    go_wp2
    rw [Exit.noGoto_normal]
    go_end0
    exact ⟨⟨_, rfl⟩, .inl ⟨_, rfl, hJ2⟩⟩
theorem num18_any (e : Int) (w : World) : Calls Try.prog 16 #[.int .i64 e] w fun r w' => r = .returned (.int .i64 e) ∧ w = w' := by
  go_enter Try.func16, Try.ntmps16
  go_wp2
  go_ret
  exact ⟨rfl, rfl⟩
theorem same18_true (w : World) (va vb : Value) (A : List Int) (ha : Vw w va (A.map (Value.int .i64))) (hb : Vw w vb (A.map (Value.int .i64))) (hl : A.length ≤ 1000000) :
    Calls Try.prog 22 #[va, vb] w fun r w' => r = .returned (.bool true) ∧ Below w.heap.size w w' := by
  have H := same18_any w va vb A A ha hb (by omega) (by omega)
  rw [decide_eq_true rfl] at H
  exact H.mono fun e w' ⟨h1, m, h2⟩ => ⟨h1, by subst h2; exact below_drewN _ m⟩
set_option maxHeartbeats 2000000 in
theorem made_ok (w : World) (f e s : Int) (x : Nat) (hc : Ch f e s) (hx : x < Noi.M) :
    Calls Try.prog 10 #[.agg #[.int .i64 f, .int .i64 e, .int .i64 s], .int .u64 (x : Nat)] w fun r w' => (∃ g, r = .returned (.tuple #[.pointer (some ⟨g, 0, none⟩), NV f e s (Noi.seed0 x), .bool true, .bool true]) ∧ NB w' g (Noi.seed0 x) f e s ∧ w.heap.size ≤ g) ∧ Below w.heap.size w w' := by
  have C1 := hid (fun w => new_ok w f e s x hc hx)
  have C2 := hid (fun w => refNew_ok w f e s x hc)
  generalize Noi.seed0 x = y at *
  clear hc hx
  go_enter Try.func10, Try.ntmps10
  go_wp2_with fail
  refine (C1.out _).mono ?_
  rintro r w1 ⟨⟨g, rfl, N1, hg⟩, B1⟩
  have HP1 := hid (show Blk w1 w.heap.size 23 #[.int .i64 f, .int .i64 e, .int .i64 s] from Blk.below (Blk.fr (Blk.new w _ _) (Fr.alloc (fun _ => False) _ _) (fun h => h)) B1 (by simp; omega))
  have HR1 := hid (show RB w1 (w.heap.size + 1) 0 0 0 0 from Blk.below (by have := Blk.new (w.alloc (.cells #[.int .i64 f, .int .i64 e, .int .i64 s] 23)) 28 #[.int .i64 0, .int .i64 0, .int .i64 0, .int .u64 0]; rw [World.size_alloc] at this; exact this) B1 (by simp))
  have c0 : w1.cell? ⟨w.heap.size, 0, none⟩ = some (.int .i64 f) := HP1.out.cell 0
  have c1 : w1.cell? ⟨w.heap.size, 1, none⟩ = some (.int .i64 e) := HP1.out.cell 1
  have c2 : w1.cell? ⟨w.heap.size, 2, none⟩ = some (.int .i64 s) := HP1.out.cell 2
  have hg2 : w.heap.size + 1 < g := by simp at hg; omega
  have HN1 := hid N1
  have HB1 := hid (up_alloc (up_alloc B1))
  clear N1 B1 hg
  go_wp2_with fail
  refine (C2.out _).mono ?_
  rintro r w2 ⟨rfl, B2⟩
  have HN2 := hid (HN1.out.below B2 HN1.out.lt)
  have HR2 := hid (HR1.out.below B2 HR1.out.lt)
  have HB2 := hid (below_then HB1.out B2)
  obtain ⟨⟨d0, d1, d2, d3⟩, fz⟩ := HR2.out.c
  have f0 := fz 0
  have f1 := fz 1
  have f2 := fz 2
  have f3 := fz 3
  clear fz c0 c1 c2 B2
  go_wp2
  generalize hW3 : World.setCell _ _ _ = w3
  have h3 := RB.sto' HR2.out hW3
  have HN3 := hid (HN2.out.fr h3.2 (by omega))
  have HB3 := hid (HB2.out.trans (h3.2.below HB2.out.size (fun j hj e => by omega)))
  have HR3 := hid h3.1
  clear hW3 h3 d0 d1 d2 d3 f0 f1 f2 f3
  obtain ⟨⟨d0, d1, d2, d3⟩, fz⟩ := HR3.out.c
  have f0 := fz 0
  have f1 := fz 1
  have f2 := fz 2
  have f3 := fz 3
  clear fz
  have HK0 := RB.sto' (f := f) (e := e) (s := s) (y := y) HR3.out rfl
  have HK := hid (HK0.1.fr (Fr.drew (fun _ => False) _) (fun h => h))
  have HKF := hid (HK0.2.trans (Fr.drew _ _))
  clear HK0
  go_region_held3 (fun w' => w'.cell? ⟨w.heap.size + 1, 0, none⟩ = some (.int .i64 f) ∧ w'.cell? ⟨w.heap.size + 1, 1, none⟩ = some (.int .i64 e) ∧ w'.cell? ⟨w.heap.size + 1, 2, none⟩ = some (.int .i64 s) ∧ w'.cell? ⟨w.heap.size + 1, 3, none⟩ = some (.int .u64 (y : Nat)))
    (first | exact ⟨d0, d1, d2, d3⟩ | exact HK.out.c.1 | go_keep) ((go_at_call 16; refine (num18_any _ _).mono ?_; rintro r w4 ⟨rfl, rfl⟩))
  all_goals
    generalize World.drew _ = w5 at HK HKF ⊢
    have HN5 := hid (HN3.out.fr HKF.out (by omega))
    have HB5 := hid (HB3.out.trans (HKF.out.below HB3.out.size (fun j hj e => by omega)))
    obtain ⟨⟨k0, k1, k2, k3⟩, -⟩ := HK.out.c
    have hlt5 : w.heap.size + 1 < w5.heap.size := HK.out.lt
    clear d0 d1 d2 d3 f0 f1 f2 f3
    go_wp2
    exact bodyPost_ret (v := .tuple #[.pointer (some ⟨g, 0, none⟩), NV f e s y, .bool true, .bool true]) (by simp [results, Try.results10, go_sem, k0, k1, k2, k3]) rfl ⟨⟨_, rfl, HN5.out, by omega⟩, HB5.out⟩
set_option maxHeartbeats 2000000 in
theorem made_bad (w : World) (f e s : Int) (x : Nat) (hc : ¬ Ch f e s) (wf : (Lit.int .i64 f).wf = true) (we : (Lit.int .i64 e).wf = true) :
    Calls Try.prog 10 #[.agg #[.int .i64 f, .int .i64 e, .int .i64 s], .int .u64 (x : Nat)] w fun r w' => r = .returned (.tuple #[.pointer none, NV 0 0 0 0, .bool false, .bool true]) ∧ Below w.heap.size w w' := by
  have C1 := hid (fun w => new_bad w f e s x hc wf we)
  have C2 := hid (fun w => refNew_bad w f e s x hc)
  clear hc wf we
  go_enter Try.func10, Try.ntmps10
  go_wp2_with fail
  refine (C1.out _).mono ?_
  rintro r w1 ⟨rfl, B1⟩
  have HP1 := hid (show Blk w1 w.heap.size 23 #[.int .i64 f, .int .i64 e, .int .i64 s] from Blk.below (Blk.fr (Blk.new w _ _) (Fr.alloc (fun _ => False) _ _) (fun h => h)) B1 (by simp; omega))
  have HR1 := hid (show RB w1 (w.heap.size + 1) 0 0 0 0 from Blk.below (by have := Blk.new (w.alloc (.cells #[.int .i64 f, .int .i64 e, .int .i64 s] 23)) 28 #[.int .i64 0, .int .i64 0, .int .i64 0, .int .u64 0]; rw [World.size_alloc] at this; exact this) B1 (by simp))
  have c0 : w1.cell? ⟨w.heap.size, 0, none⟩ = some (.int .i64 f) := HP1.out.cell 0
  have c1 : w1.cell? ⟨w.heap.size, 1, none⟩ = some (.int .i64 e) := HP1.out.cell 1
  have c2 : w1.cell? ⟨w.heap.size, 2, none⟩ = some (.int .i64 s) := HP1.out.cell 2
  have HB1 := hid (up_alloc (up_alloc B1))
  clear B1
  go_wp2_with fail
  refine (C2.out _).mono ?_
  rintro r w2 ⟨rfl, B2⟩
  have HR2 := hid (HR1.out.below B2 HR1.out.lt)
  have HB2 := hid (below_then HB1.out B2)
  obtain ⟨⟨d0, d1, d2, d3⟩, fz⟩ := HR2.out.c
  have f0 := fz 0
  have f1 := fz 1
  have f2 := fz 2
  have f3 := fz 3
  clear fz c0 c1 c2 B2
  go_wp2
  generalize hW3 : World.setCell _ _ _ = w3
  have h3 := RB.sto' HR2.out hW3
  have HB3 := hid (HB2.out.trans (h3.2.below HB2.out.size (fun j hj e => by omega)))
  have HR3 := hid h3.1
  clear hW3 h3 d0 d1 d2 d3 f0 f1 f2 f3
  obtain ⟨⟨d0, d1, d2, d3⟩, fz⟩ := HR3.out.c
  have f0 := fz 0
  have f1 := fz 1
  have f2 := fz 2
  have f3 := fz 3
  clear fz
  have HK0 := RB.sto' (f := 0) (e := 0) (s := 0) (y := 0) HR3.out rfl
  have HK := hid (HK0.1.fr (Fr.drew (fun _ => False) _) (fun h => h))
  have HKF := hid (HK0.2.trans (Fr.drew _ _))
  clear HK0
  go_region_held3 (fun w' => w'.cell? ⟨w.heap.size + 1, 0, none⟩ = some (.int .i64 0) ∧ w'.cell? ⟨w.heap.size + 1, 1, none⟩ = some (.int .i64 0) ∧ w'.cell? ⟨w.heap.size + 1, 2, none⟩ = some (.int .i64 0) ∧ w'.cell? ⟨w.heap.size + 1, 3, none⟩ = some (.int .u64 (0 : Nat)))
    (first | exact ⟨d0, d1, d2, d3⟩ | exact HK.out.c.1 | go_keep) ((go_at_call 16; refine (num18_any _ _).mono ?_; rintro r w4 ⟨rfl, rfl⟩))
  all_goals
    generalize World.drew _ = w5 at HK HKF ⊢
    have HB5 := hid (HB3.out.trans (HKF.out.below HB3.out.size (fun j hj e => by omega)))
    obtain ⟨⟨k0, k1, k2, k3⟩, -⟩ := HK.out.c
    have hlt5 : w.heap.size + 1 < w5.heap.size := HK.out.lt
    clear d0 d1 d2 d3 f0 f1 f2 f3
    go_wp2
    exact bodyPost_ret (v := .tuple #[.pointer none, NV 0 0 0 0, .bool false, .bool true]) (by simp [results, Try.results10, go_sem, k0, k1, k2, k3]) rfl ⟨rfl, HB5.out⟩
end Go.Proofs.Ytngggknejkcepaa
