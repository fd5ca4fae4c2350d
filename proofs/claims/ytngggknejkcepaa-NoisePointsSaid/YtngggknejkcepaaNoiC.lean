/- userplane/noise: within, New, State, Channel, Clone, Lost; the reference's New, Step, Event, Disturbance. -/
import Derived.Test.YtngggknejkcepaaVwA
import Derived.Test.YtngggknejkcepaaContI
namespace Go.Proofs.Ytngggknejkcepaa
open Go.RowKit Go.Shelf
set_option linter.unusedVariables false
namespace Noi
def outB (lo hi v : Int) : Bool := decide (v < lo) || decide (hi < v)
theorem any_out (lo hi : Int) (L : List Int) : ((List.range L.length).any fun i => outB lo hi (L.getD i 0)) = L.any (outB lo hi) := by
  rw [Bool.eq_iff_iff]
  simp only [List.any_eq_true, List.mem_range]
  constructor
  · rintro ⟨i, hi, h⟩
    exact ⟨L[i], List.getElem_mem hi, by simpa [List.getD, hi] using h⟩
  · rintro ⟨b, hb, h⟩
    obtain ⟨i, hi, rfl⟩ := List.getElem_of_mem hb
    exact ⟨i, hi, by simpa [List.getD, hi] using h⟩
def seed0 (x : Nat) : Nat := if x = 0 then 88172645463325252 else x
theorem seed0_pos (x : Nat) : 0 < seed0 x := by unfold seed0; split <;> omega
theorem seed0_lt {x : Nat} (h : x < M) : seed0 x < M := by
  unfold seed0
  split
  · decide
  · exact h
end Noi
theorem within1_any (w : World) (lo hi v : Int) (p q : Addr) (hp : w.cell? p = some (.int .i64 lo)) (hq : w.cell? q = some (.int .i64 hi)) :
    Calls Try.prog 56 #[.int .i64 v, .pointer (some p), .pointer (some q)] w fun e w' => e = .returned (.bool (Noi.outB lo hi v)) ∧ w' = w := by
  have HE := hid (show Noi.outB lo hi v = (decide (v < lo) || decide (hi < v)) from rfl)
  by_cases h : v < lo
  · have hd : decide (v < lo) = true := decide_eq_true h
    have HH := hid h
    clear h
    go_enter Try.func56, Try.ntmps56
    go_wp2
    go_ret
    exact ⟨ret_bool (by rw [HE.out]; simp [HH.out]), rfl⟩
  · have hd : decide (v < lo) = false := decide_eq_false h
    have HH := hid h
    clear h
    go_enter Try.func56, Try.ntmps56
    go_wp2
    go_ret
    exact ⟨ret_bool (by have := HH.out; rw [HE.out, decide_eq_false (show ¬ v < lo by omega), Bool.false_or]), rfl⟩
theorem within_any (w : World) (lo hi : Int) (v : Value) (L : List Int) (hv : Vw w v (L.map (Value.int .i64))) (hl : L.length ≤ 9223372036854775807) :
    Calls Try.prog 45 #[.int .i64 lo, .int .i64 hi, v] w fun e w' => e = .returned (.bool (!L.any (Noi.outB lo hi))) ∧ Below w.heap.size w w' := by
  have H := hid (fun W (hb : Below w.heap.size w W) p q h1 h2 => icontains_any W v (L.map (Value.int .i64)) (hv.below hb (Nat.le_refl _)) (by simpa using hl) 56 #[.pointer (some p), .pointer (some q)] (enters_of Try.func56 (by kernel_rfl) rfl) (fun i => Noi.outB lo hi (L.getD i 0))
    (fun i hi' => by
      have hi2 : i < L.length := by simpa using hi'
      have e : (L.map (Value.int .i64))[i] = Value.int .i64 (L.getD i 0) := by simp [List.getD, hi2]
      rw [e]
      exact within1_any W lo hi _ p q h1 h2))
  have HE := hid (Noi.any_out lo hi L)
  have HN := hid (show (L.map (Value.int .i64)).length = L.length by simp)
  clear hv
  go_enter Try.func45, Try.ntmps45
  go_wp2_with fail
  refine (H.out _ ((below_alloc _ _).alloc (by simp) _) _ _ (by go_simp) (by go_simp)).mono ?_
  rintro e w1 ⟨rfl, rfl⟩
  rw [HN.out, HE.out]
  go_wp2
  go_ret
  exact ⟨rfl, (below_alloc _ _).alloc (by simp) _⟩
theorem nlit (w : World) (xs : List Int) (k : IntKind) (e : TypeId) (n : Nat) (cs : Array Value) (hc : cs = (xs.map (Value.int k)).toArray) (hn : xs.length = n) : Vw (w.alloc (.cells cs e)) (.slice (some ⟨w.heap.size, 0, none⟩) n n) (xs.map (Value.int k)) := by
  subst hc
  have := Vw.lit w (xs.map (Value.int k)).toArray e n (by simpa using hn)
  simpa using this
theorem up_alloc {w w' : World} {o : Obj} (h : Below (w.alloc o).heap.size (w.alloc o) w') : Below w.heap.size w w' := below_then (below_alloc w o) h
set_option maxHeartbeats 1000000 in
theorem new_ok (w : World) (f e s : Int) (x : Nat) (hc : Ch f e s) (hx : x < Noi.M) :
    Calls Try.prog 25 #[.agg #[.int .i64 f, .int .i64 e, .int .i64 s], .int .u64 (x : Nat)] w fun r w' => (∃ g, r = .returned (.tuple #[.pointer (some ⟨g, 0, none⟩), .int .i64 0]) ∧ NB w' g (Noi.seed0 x) f e s ∧ w.heap.size ≤ g) ∧ Below w.heap.size w w' := by
  obtain ⟨f0, e0, fe, s0, s1⟩ := hc
  have C1 := hid (fun w v h => within_any w 0 1024 v [f, e, f + e] h (by simp))
  have C2 := hid (fun w v h => within_any w 0 127 v [s] h (by simp))
  have e1 : [f, e, f + e].any (Noi.outB 0 1024) = false := by simp [Noi.outB]; omega
  have e2 : [s].any (Noi.outB 0 127) = false := by simp [Noi.outB]; omega
  rw [e1] at C1
  rw [e2] at C2
  have hw : IntKind.i64.wrap (f + e) = f + e := IntWalk.i64_in _ (by omega)
  have hS := hid (show Noi.seed0 x = if x = 0 then 88172645463325252 else x from rfl)
  clear e1 e2
  have key : ∀ (b : Bool), decide (x = 0) = b → Calls Try.prog 25 #[.agg #[.int .i64 f, .int .i64 e, .int .i64 s], .int .u64 (x : Nat)] w fun r w' => (∃ g, r = .returned (.tuple #[.pointer (some ⟨g, 0, none⟩), .int .i64 0]) ∧ NB w' g (if b = true then 88172645463325252 else x) f e s ∧ w.heap.size ≤ g) ∧ Below w.heap.size w w' := by
    intro b hb
    cases b
    all_goals
      first
        | have hd : ((x : Int) == 0) = true := by have := of_decide_eq_true hb; simp [this]
        | have hd : ((x : Int) == 0) = false := by have := of_decide_eq_false hb; rw [beq_eq_false_iff_ne]; omega
      clear hb
      go_enter Try.func25, Try.ntmps25
      go_wp2_with fail
      refine (C1.out _ _ (by have := nlit (w.alloc (.cells #[.int .i64 f, .int .i64 e, .int .i64 s] 23)) [f, e, f + e] .i64 3 3 _ rfl rfl; rwa [World.size_alloc] at this)).mono ?_
      rintro r w1 ⟨rfl, B1⟩
      have HP1 := hid (show Blk w1 w.heap.size 23 #[.int .i64 f, .int .i64 e, .int .i64 s] from Blk.below (Blk.fr (Blk.new w _ _) (Fr.alloc (fun _ => False) _ _) (fun h => h)) B1 (by simp; omega))
      have c2 : w1.cell? ⟨w.heap.size, 2, none⟩ = some (.int .i64 s) := HP1.out.cell 2
      have B := hid (up_alloc (up_alloc B1))
      clear B1
      go_wp2_with fail
      refine (C2.out _ _ (nlit _ [s] .i64 3 1 _ rfl rfl)).mono ?_
      rintro r w2 ⟨rfl, B2⟩
      have hlt := HP1.out.lt
      have HP2 := hid (HP1.out.below (up_alloc B2) hlt)
      have B' := hid (below_then B.out (up_alloc B2))
      have d0 : w2.cell? ⟨w.heap.size, 0, none⟩ = some (.int .i64 f) := HP2.out.cell 0
      have d1 : w2.cell? ⟨w.heap.size, 1, none⟩ = some (.int .i64 e) := HP2.out.cell 1
      have d2 : w2.cell? ⟨w.heap.size, 2, none⟩ = some (.int .i64 s) := HP2.out.cell 2
      have hsz := B'.out.size
      clear B2 B c2 hlt
      go_wp2
      go_ret2
      exact ⟨⟨_, rfl, Blk.new w2 _ _, hsz⟩, B'.out.trans ((below_alloc _ _).mono hsz)⟩
  have := key _ rfl
  rw [hS.out]
  by_cases h0 : x = 0
  · rw [decide_eq_true h0] at this; rw [if_pos h0]; exact this
  · rw [decide_eq_false h0] at this; rw [if_neg h0]; exact this
set_option maxHeartbeats 1000000 in
theorem new_bad (w : World) (f e s : Int) (x : Nat) (hc : ¬ Ch f e s) (wf : (Lit.int .i64 f).wf = true) (we : (Lit.int .i64 e).wf = true) :
    Calls Try.prog 25 #[.agg #[.int .i64 f, .int .i64 e, .int .i64 s], .int .u64 (x : Nat)] w fun r w' => r = .returned (.tuple #[.pointer none, .int .i64 2]) ∧ Below w.heap.size w w' := by
  obtain ⟨q, hq⟩ : ∃ q, q = wrap64 (f + e) := ⟨_, rfl⟩
  by_cases h1 : [f, e, q].any (Noi.outB 0 1024) = true
  · have C1 := hid (fun w v h => within_any w 0 1024 v [f, e, q] h (by simp))
    rw [h1, hq] at C1
    clear hc wf we h1 hq
    go_enter Try.func25, Try.ntmps25
    go_wp2_with fail
    refine (C1.out _ _ (by have := nlit (w.alloc (.cells #[.int .i64 f, .int .i64 e, .int .i64 s] 23)) [f, e, wrap64 (f + e)] .i64 3 3 _ rfl rfl; rwa [World.size_alloc] at this)).mono ?_
    rintro r w1 ⟨rfl, B1⟩
    have B := hid (up_alloc (up_alloc B1))
    clear B1
    go_wp2
    go_ret2
    exact ⟨rfl, B.out⟩
  · have h1' : [f, e, q].any (Noi.outB 0 1024) = false := by simpa using h1
    have C1 := hid (fun w v h => within_any w 0 1024 v [f, e, q] h (by simp))
    rw [h1', hq] at C1
    have h2 : [s].any (Noi.outB 0 127) = true := by
      simp [Noi.outB] at h1' ⊢
      obtain ⟨⟨a1, a2⟩, ⟨a3, a4⟩, a5, a6⟩ := h1'
      have : q = f + e := by rw [hq]; exact IntWalk.wrap64_in _ (by omega)
      by_cases hs : s < 0
      · exact .inl hs
      · right
        by_cases hs2 : 127 < s
        · exact hs2
        · exact absurd ⟨by omega, by omega, by omega, by omega, by omega⟩ hc
    have C2 := hid (fun w v h => within_any w 0 127 v [s] h (by simp))
    rw [h2] at C2
    clear hc wf we h1 h1' h2 hq
    go_enter Try.func25, Try.ntmps25
    go_wp2_with fail
    refine (C1.out _ _ (by have := nlit (w.alloc (.cells #[.int .i64 f, .int .i64 e, .int .i64 s] 23)) [f, e, wrap64 (f + e)] .i64 3 3 _ rfl rfl; rwa [World.size_alloc] at this)).mono ?_
    rintro r w1 ⟨rfl, B1⟩
    have HP1 := hid (show Blk w1 w.heap.size 23 #[.int .i64 f, .int .i64 e, .int .i64 s] from Blk.below (Blk.fr (Blk.new w _ _) (Fr.alloc (fun _ => False) _ _) (fun h => h)) B1 (by simp; omega))
    have c2 : w1.cell? ⟨w.heap.size, 2, none⟩ = some (.int .i64 s) := HP1.out.cell 2
    have B := hid (up_alloc (up_alloc B1))
    clear B1
    go_wp2_with fail
    refine (C2.out _ _ (nlit _ [s] .i64 3 1 _ rfl rfl)).mono ?_
    rintro r w2 ⟨rfl, B2⟩
    have B' := hid (below_then B.out (up_alloc B2))
    clear B2 B
    go_wp2
    go_ret2
    exact ⟨rfl, B'.out⟩
theorem state_nil (w : World) (n : Value) (hC : Calls Try.prog 36 #[n] w fun r w' => r = .returned (.bool true) ∧ w = w') : Calls Try.prog 18 #[n] w fun r w' => r = .returned (.int .u64 0) ∧ w = w' := by
  have C := hid hC
  clear hC
  go_enter Try.func18, Try.ntmps18
  go_wp2_with fail
  refine C.out.mono ?_
  rintro r w1 ⟨rfl, rfl⟩
  go_wp2
  go_ret
  exact ⟨rfl, rfl⟩
theorem state_any (w : World) (b x : Nat) (f e s : Int) (hb : NB w b x f e s) (hx : 0 < x) : Calls Try.prog 18 #[.pointer (some ⟨b, 0, none⟩)] w fun r w' => r = .returned (.int .u64 (x : Nat)) ∧ w = w' := by
  have C := hid (absent_no w b x f e s hb hx)
  have c0 := hb.c0
  clear hb hx
  go_enter Try.func18, Try.ntmps18
  go_wp2_with fail
  refine C.out.mono ?_
  rintro r w1 ⟨rfl, rfl⟩
  go_wp2
  go_ret
  exact ⟨rfl, rfl⟩
theorem channel_nil (w : World) (n : Value) (hC : ∀ w1, Below w.heap.size w w1 → Calls Try.prog 36 #[n] w1 fun r w' => r = .returned (.bool true) ∧ w1 = w') : Calls Try.prog 23 #[n] w fun r w' => r = .returned (.agg #[.int .i64 0, .int .i64 0, .int .i64 0]) ∧ Below w.heap.size w w' := by
  have C := hid hC
  clear hC
  go_enter Try.func23, Try.ntmps23
  go_wp2_with fail
  refine (C.out _ (below_alloc _ _)).mono ?_
  rintro r w1 ⟨rfl, rfl⟩
  go_wp2
  exact bodyPost_ret (v := .agg #[.int .i64 0, .int .i64 0, .int .i64 0]) (by simp [results, Try.results23, go_sem]) rfl ⟨rfl, below_alloc _ _⟩
theorem channel_any (w : World) (b x : Nat) (f e s : Int) (hb : NB w b x f e s) (hx : 0 < x) : Calls Try.prog 23 #[.pointer (some ⟨b, 0, none⟩)] w fun r w' => r = .returned (.agg #[.int .i64 f, .int .i64 e, .int .i64 s]) ∧ Below w.heap.size w w' := by
  have hbl := hb.lt
  have C := hid (fun w1 (h : Below w.heap.size w w1) => absent_no w1 b x f e s (hb.below h hbl) hx)
  have HB := hid hb
  clear hb hx
  go_enter Try.func23, Try.ntmps23
  go_wp2_with fail
  refine (C.out _ (below_alloc _ _)).mono ?_
  rintro r w1 ⟨rfl, rfl⟩
  have c1 := HB.out.c1
  have c2 := HB.out.c2
  have c3 := HB.out.c3
  go_wp2
  exact bodyPost_ret (v := .agg #[.int .i64 f, .int .i64 e, .int .i64 s]) (by simp [results, Try.results23, go_sem]) rfl ⟨rfl, below_alloc _ _⟩
theorem clone_nil (w : World) (n : Value) (hC : Calls Try.prog 36 #[n] w fun r w' => r = .returned (.bool true) ∧ w = w') : Calls Try.prog 26 #[n] w fun r w' => r = .returned (.pointer none) ∧ w = w' := by
  have C := hid hC
  clear hC
  go_enter Try.func26, Try.ntmps26
  go_wp2_with fail
  refine C.out.mono ?_
  rintro r w1 ⟨rfl, rfl⟩
  go_wp2
  go_ret
  exact ⟨rfl, rfl⟩
theorem clone_any (w : World) (b x : Nat) (f e s : Int) (hb : NB w b x f e s) (hx : 0 < x) : Calls Try.prog 26 #[.pointer (some ⟨b, 0, none⟩)] w fun r w' => r = .returned (.pointer (some ⟨w.heap.size, 0, none⟩)) ∧ NB w' w.heap.size x f e s ∧ Below w.heap.size w w' := by
  have hbl := hb.lt
  have C := hid (absent_no w b x f e s hb hx)
  have c0 := hb.c0
  have c1 := hb.c1
  have c2 := hb.c2
  have c3 := hb.c3
  clear hb hx
  go_enter Try.func26, Try.ntmps26
  go_wp2_with fail
  refine C.out.mono ?_
  rintro r w1 ⟨rfl, rfl⟩
  go_wp2
  go_ret
  exact ⟨rfl, Blk.new _ _ _, below_alloc _ _⟩
theorem lost_nil (w : World) (n : Value) (hC : Calls Try.prog 36 #[n] w fun r w' => r = .returned (.bool true) ∧ w = w') : Calls Try.prog 14 #[n] w fun r w' => r = .returned (.tuple #[.bool false, .int .i64 1]) ∧ w = w' := by
  have C := hid hC
  clear hC
  go_enter Try.func14, Try.ntmps14
  go_wp2_with fail
  refine C.out.mono ?_
  rintro r w1 ⟨rfl, rfl⟩
  go_wp2
  go_ret2
  exact ⟨rfl, rfl⟩
theorem lost_any (w : World) (b x : Nat) (f e s : Int) (hc : Ch f e s) (hb : NB w b x f e s) (hx : 0 < x) (hM : x < Noi.M) : Calls Try.prog 14 #[.pointer (some ⟨b, 0, none⟩)] w fun r w' => r = .returned (.tuple #[.bool (Noi.evt f e (Noi.step x) != 0), .int .i64 0]) ∧ NB w' b (Noi.step x) f e s ∧ Fr (fun j => j = b) w w' := by
  have C := hid (absent_no w b x f e s hb hx)
  have D := hid (event_any w b x f e s hc hM hb)
  generalize Noi.evt f e (Noi.step x) = ev at *
  clear hb hx
  go_enter Try.func14, Try.ntmps14
  go_wp2_with fail
  refine C.out.mono ?_
  rintro r w1 ⟨rfl, rfl⟩
  go_wp2_with fail
  refine D.out.mono ?_
  rintro r w1 ⟨rfl, N1, F1⟩
  go_wp2
  go_ret2
  exact ⟨rfl, N1, F1⟩
end Go.Proofs.Ytngggknejkcepaa
