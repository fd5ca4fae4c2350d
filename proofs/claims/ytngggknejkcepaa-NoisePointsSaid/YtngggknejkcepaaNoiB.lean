/- userplane/noise: event, disturbance, value, bit. -/
import Derived.Test.YtngggknejkcepaaNoiA
import Derived.Test.YtngggknejkcepaaClamp0
import Derived.RegionTactic
import Derived.IntWalk
import Derived.Deep.DrawnRows
namespace Go.Proofs.Ytngggknejkcepaa
open Go.RowKit Go.Shelf
set_option linter.unusedVariables false
/-- A Noise in block b. -/
def NB (w : World) (b x : Nat) (f e s : Int) : Prop := Blk w b 72 #[.int .u64 (x : Nat), .int .i64 f, .int .i64 e, .int .i64 s]
/-- A valid channel. -/
structure Ch (f e s : Int) : Prop where
  f0 : 0 ≤ f
  e0 : 0 ≤ e
  fe : f + e ≤ 1024
  s0 : 0 ≤ s
  s1 : s ≤ 127
section
variable {w w' : World} {b x : Nat} {f e s : Int}
theorem NB.fr {S : Nat → Prop} (h : NB w b x f e s) (hf : Fr S w w') (hs : ¬ S b) : NB w' b x f e s := Blk.fr h hf hs
theorem NB.below {B : Nat} (h : NB w b x f e s) (hb : Below B w w') (hg : b < B) : NB w' b x f e s := Blk.below h hb hg
theorem NB.lt (h : NB w b x f e s) : b < w.heap.size := Blk.lt h
theorem NB.c0 (h : NB w b x f e s) : w.cell? ⟨b, 0, none⟩ = some (.int .u64 (x : Nat)) := Blk.cell h 0
theorem NB.c1 (h : NB w b x f e s) : w.cell? ⟨b, 1, none⟩ = some (.int .i64 f) := Blk.cell h 1
theorem NB.c2 (h : NB w b x f e s) : w.cell? ⟨b, 2, none⟩ = some (.int .i64 e) := Blk.cell h 2
theorem NB.c3 (h : NB w b x f e s) : w.cell? ⟨b, 3, none⟩ = some (.int .i64 s) := Blk.cell h 3
end
theorem nstep_any (w : World) (b x : Nat) (f e s : Int) (hx : x < Noi.M) (hb : NB w b x f e s) :
    Calls Try.prog 39 #[.pointer (some ⟨b, 0, none⟩)] w fun r w' => r = .returned (.int .u64 (Noi.step x : Nat)) ∧ NB w' b (Noi.step x) f e s ∧ Fr (fun k => k = b) w w' :=
  step_any b _ x hx [.int .i64 f, .int .i64 e, .int .i64 s] w hb
set_option maxHeartbeats 1000000 in
theorem event_any (w : World) (b x : Nat) (f e s : Int) (hc : Ch f e s) (hx : x < Noi.M) (hb : NB w b x f e s) :
    Calls Try.prog 37 #[.pointer (some ⟨b, 0, none⟩)] w fun r w' => r = .returned (.int .i64 (Noi.evt f e (Noi.step x))) ∧ NB w' b (Noi.step x) f e s ∧ Fr (fun k => k = b) w w' := by
  have C := hid (nstep_any w b x f e s hx hb)
  have HL := hid (Noi.step_lt hx)
  generalize Noi.step x = y at *
  obtain ⟨f0, e0, fe, s0, s1⟩ := hc
  have HE := hid (show Noi.evt f e y = if (y : Int) % 1024 < f then 1 else if (y : Int) % 1024 < f + e then 2 else 0 from rfl)
  have m0 : 0 ≤ (y : Int) % 1024 := by omega
  have m1 : (y : Int) % 1024 < 1024 := by omega
  clear hb hx
  by_cases h1 : (y : Int) % 1024 < f
  · have hd1 : decide ((y : Int) % 1024 < f) = true := by simpa using h1
    have HH := hid h1
    clear h1
    go_enter Try.func37, Try.ntmps37
    go_wp2_with fail
    refine C.out.mono ?_
    rintro r w1 ⟨rfl, N1, F1⟩
    have c1 := N1.c1
    have c2 := N1.c2
    have HN := hid N1
    have HF := hid F1
    clear N1 F1
    go_wp2
    go_ret
    exact ⟨ret_int (by rw [HE.out, if_pos HH.out]), HN.out, HF.out⟩
  · have hd1 : decide ((y : Int) % 1024 < f) = false := by simpa using h1
    by_cases h2 : (y : Int) % 1024 < f + e
    all_goals
      have HH : Hid (¬ (y : Int) % 1024 < f) := h1
      have HH2 := h2
      have HH2 := hid HH2
      first
        | have hd2 : decide ((y : Int) % 1024 < f + e) = true := decide_eq_true h2
        | have hd2 : decide ((y : Int) % 1024 < f + e) = false := decide_eq_false h2
      have hw : IntKind.i64.wrap (f + e) = f + e := IntWalk.i64_in _ (by omega)
      clear h1 h2
      go_enter Try.func37, Try.ntmps37
      go_wp2_with fail
      refine C.out.mono ?_
      rintro r w1 ⟨rfl, N1, F1⟩
      have c1 := N1.c1
      have c2 := N1.c2
      have HN := hid N1
      have HF := hid F1
      clear N1 F1
      go_wp2
      go_quiet (fail)
      go_wp2
      go_ret
      exact ⟨ret_int (by rw [HE.out, if_neg (by have := HH.out; omega)]; first | rw [if_pos HH2.out] | rw [if_neg (by have := HH2.out; omega)]), HN.out.fr (Fr.drewN (fun _ => False) _ _) (fun h => h), HF.out.trans (Fr.drewN _ _ _)⟩
set_option maxHeartbeats 1000000 in
theorem disturbance_any (w : World) (b x : Nat) (f e s : Int) (hc : Ch f e s) (hx : x < Noi.M) (hb : NB w b x f e s) :
    Calls Try.prog 54 #[.pointer (some ⟨b, 0, none⟩)] w fun r w' => r = .returned (.int .i64 (Noi.dis s (Noi.step x))) ∧ NB w' b (Noi.step x) f e s ∧ Fr (fun k => k = b) w w' := by
  have C := hid (nstep_any w.drew b x f e s hx hb)
  have HL := hid (Noi.step_lt hx)
  generalize Noi.step x = y at *
  obtain ⟨f0, e0, fe, s0, s1⟩ := hc
  have HE := hid (show Noi.dis s y = (y : Int) % (2 * s + 1) - s from rfl)
  have m0 : 0 ≤ (y : Int) % (2 * s + 1) := Int.emod_nonneg _ (by omega)
  have m1 : (y : Int) % (2 * s + 1) < 2 * s + 1 := Int.emod_lt_of_pos _ (by omega)
  have c3 : w.drew.cell? ⟨b, 3, none⟩ = some (.int .i64 s) := hb.c3
  have hw1 : IntKind.i64.wrap (2 * s) = 2 * s := IntWalk.i64_in _ (by omega)
  have hw2 : IntKind.i64.wrap (2 * s + 1) = 2 * s + 1 := IntWalk.i64_in _ (by omega)
  have hw3 : IntKind.u64.wrap (2 * s + 1) = 2 * s + 1 := IntWalk.u64_in _ (by omega)
  have hn2 : ((2 * s + 1 : Int) == 0) = false := by rw [beq_eq_false_iff_ne]; omega
  have hne : ¬ 2 * s + 1 = 0 := by omega
  clear hb hx
  go_enter Try.func54, Try.ntmps54
  go_wp2
  go_region_held3 (fun w' => w'.cell? ⟨b, 3, none⟩ = some (.int .i64 s)) (first | exact c3 | assumption | exact N1.c3 | go_keep)
    ((go_at_call 39; refine C.out.mono ?_; rintro r w1 ⟨rfl, N1, F1⟩))
  all_goals
    go_wp2
    go_ret
    exact ⟨ret_int (by rw [IntWalk.rem_in _ _ (by omega), IntWalk.i64_in ((y : Int) % (2 * s + 1)) (by omega), IntWalk.i64_in _ (by omega), HE.out]), N1, (Fr.drew _ w).trans F1⟩
set_option maxHeartbeats 1000000 in
theorem value_any (w : World) (b x : Nat) (f e s v : Int) (hc : Ch f e s) (hx : x < Noi.M) (hb : NB w b x f e s) (hv1 : -127 ≤ v) (hv2 : v ≤ 127) :
    Calls Try.prog 42 #[.pointer (some ⟨b, 0, none⟩), .int .i64 v] w fun r w' => r = .returned (.int .i64 (Noi.val f e s x v)) ∧ NB w' b (Noi.step (Noi.step x)) f e s ∧ Fr (fun k => k = b) w w' := by
  have C := hid (event_any w b x f e s hc hx hb)
  have D := hid (fun w h => disturbance_any w b (Noi.step x) f e s hc (Noi.step_lt hx) h)
  have HE := hid (show Noi.val f e s x v = Soft.clamp (Noi.vin f e (Noi.step x) v + Noi.dis s (Noi.step (Noi.step x))) from rfl)
  have d0 := Noi.dis_lo hc.s0 (Noi.step (Noi.step x))
  have d1 := Noi.dis_hi hc.s0 (Noi.step (Noi.step x))
  have d2 := hc.s1
  have HV := hid (show Noi.vin f e (Noi.step x) v = if Noi.evt f e (Noi.step x) = 1 then -v else if Noi.evt f e (Noi.step x) = 2 then 0 else v from rfl)
  have he := Noi.evt_cases f e (Noi.step x)
  generalize Noi.dis s (Noi.step (Noi.step x)) = q at *
  generalize Noi.vin f e (Noi.step x) v = p at *
  generalize Noi.evt f e (Noi.step x) = ev at *
  generalize Noi.val f e s x v = z at *
  have CL := hid (fun w => clamp_any (p + q) w)
  rw [← HE.out] at CL
  clear hb hx HE
  rcases he with rfl | rfl | rfl
  · obtain rfl : p = v := by have := HV.out; simpa using this
    clear HV
    go_enter Try.func42, Try.ntmps42
    go_wp2_with fail
    refine C.out.mono ?_
    rintro r w1 ⟨rfl, N1, F1⟩
    go_wp2_with fail
    refine (D.out _ N1).mono ?_
    rintro r w2 ⟨rfl, N2, F2⟩
    have hbl := N2.lt
    have HN := hid N2
    have HF := hid (F1.trans F2)
    clear N1 F1 N2 F2
    go_wp2_with fail
    refine (CL.out _).mono ?_
    rintro r w3 ⟨rfl, B3⟩
    go_wp2
    go_ret
    exact ⟨rfl, HN.out.below B3 hbl, HF.out.trans ((Fr.of_below B3).mono (fun k h1 h2 => by omega))⟩
  · obtain rfl : p = -v := by have := HV.out; simpa using this
    clear HV
    go_enter Try.func42, Try.ntmps42
    go_wp2_with fail
    refine C.out.mono ?_
    rintro r w1 ⟨rfl, N1, F1⟩
    go_wp2_with fail
    refine (D.out _ N1).mono ?_
    rintro r w2 ⟨rfl, N2, F2⟩
    have hbl := N2.lt
    have HN := hid N2
    have HF := hid (F1.trans F2)
    clear N1 F1 N2 F2
    go_wp2_with fail
    refine (CL.out _).mono ?_
    rintro r w3 ⟨rfl, B3⟩
    go_wp2
    go_ret
    exact ⟨rfl, HN.out.below B3 hbl, HF.out.trans ((Fr.of_below B3).mono (fun k h1 h2 => by omega))⟩
  · obtain rfl : p = 0 := by have := HV.out; simpa using this
    clear HV
    go_enter Try.func42, Try.ntmps42
    go_wp2_with fail
    refine C.out.mono ?_
    rintro r w1 ⟨rfl, N1, F1⟩
    go_wp2_with fail
    refine (D.out _ N1).mono ?_
    rintro r w2 ⟨rfl, N2, F2⟩
    have hbl := N2.lt
    have HN := hid N2
    have HF := hid (F1.trans F2)
    clear N1 F1 N2 F2
    rw [Int.zero_add] at CL
    go_wp2_with fail
    refine (CL.out _).mono ?_
    rintro r w3 ⟨rfl, B3⟩
    go_wp2
    go_ret
    exact ⟨rfl, HN.out.below B3 hbl, HF.out.trans ((Fr.of_below B3).mono (fun k h1 h2 => by omega))⟩
set_option maxHeartbeats 1000000 in
theorem bit_any (w : World) (b x : Nat) (f e s v : Int) (hc : Ch f e s) (hx : x < Noi.M) (hb : NB w b x f e s) (hv1 : 0 ≤ v) (hv2 : v ≤ 1) :
    Calls Try.prog 34 #[.pointer (some ⟨b, 0, none⟩), .int .u8 v] w fun r w' => r = .returned (.int .u8 (Noi.bit f e x v)) ∧ NB w' b (Noi.step x) f e s ∧ Fr (fun k => k = b) w w' := by
  have C := hid (event_any w b x f e s hc hx hb)
  have HE := hid (show Noi.bit f e x v = if Noi.evt f e (Noi.step x) = 0 then v else 1 - v from rfl)
  generalize Noi.evt f e (Noi.step x) = ev at *
  clear hb hx
  by_cases h0 : ev = 0
  · have hd : ((ev : Int) != 0) = false := by simp [h0]
    have H0 := hid h0
    clear h0
    go_enter Try.func34, Try.ntmps34
    go_wp2_with fail
    refine C.out.mono ?_
    rintro r w1 ⟨rfl, N1, F1⟩
    go_wp2
    go_ret
    exact ⟨ret_int (by rw [HE.out, if_pos H0.out]), N1, F1⟩
  · have hd : ((ev : Int) != 0) = true := by simp [h0]
    have H0 := hid h0
    clear h0
    go_enter Try.func34, Try.ntmps34
    go_wp2_with fail
    refine C.out.mono ?_
    rintro r w1 ⟨rfl, N1, F1⟩
    go_wp2
    go_ret
    exact ⟨ret_int (by rw [HE.out, if_neg H0.out]), N1, F1⟩
end Go.Proofs.Ytngggknejkcepaa
