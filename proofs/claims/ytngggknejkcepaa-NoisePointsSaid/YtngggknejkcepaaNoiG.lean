/- userplane/noise: Soft, Bits. -/
import Derived.Test.YtngggknejkcepaaNoiF
import Derived.Test.YtngggknejkcepaaContB
namespace Go.Proofs.Ytngggknejkcepaa
open Go.RowKit Go.Shelf
set_option linter.unusedVariables false
theorem soft_none (w : World) (n v : Value) (A : List Int) (hv : Vw w v (A.map (Value.int .i64))) (hA : A.length ≤ 1000000) (hC : ∀ w1, Below w.heap.size w w1 → Calls Try.prog 36 #[n] w1 fun r w' => r = .returned (.bool true) ∧ w1 = w') :
    Calls Try.prog 20 #[n, v] w fun r w' => r = .returned (.tuple #[.slice none 0 0, .int .i64 1]) ∧ Below w.heap.size w w' := by
  have VA := hid (valid_any w v A hv (by omega))
  have C := hid hC
  clear hv hC
  generalize (!Soft.bad A) = fine at VA
  go_enter Try.func20, Try.ntmps20
  go_wp2_with fail
  refine VA.out.mono ?_
  rintro r w1 ⟨rfl, B1⟩
  go_wp2_with fail
  refine (isent_none _ _ _ _ _ _ (C.out _ B1)).mono ?_
  rintro r w2 ⟨rfl, rfl⟩
  go_wp2
  go_ret2
  exact ⟨rfl, B1⟩
set_option maxHeartbeats 1000000 in
theorem soft_any (w : World) (b x : Nat) (f e s : Int) (v : Value) (A : List Int) (hc : Ch f e s) (h0 : 0 < x) (hx : x < Noi.M) (hb : NB w b x f e s) (hv : Vw w v (A.map (Value.int .i64))) (hvb : ∀ q off n c, v = .slice (some ⟨q, off, none⟩) n c → 0 < A.length → ¬ q = b) (hA : A.length ≤ 1000000) :
    Calls Try.prog 20 #[.pointer (some ⟨b, 0, none⟩), v] w fun r w' => (∃ v', r = .returned (.tuple #[v', .int .i64 (Noi.sofE A)]) ∧ VwA w' w.heap.size v' ((Noi.sofL f e s x A).map (Value.int .i64))) ∧ NB w' b (Noi.sofX x A) f e s ∧ Fr (fun j => j = b) w w' := by
  have VA := hid (valid_any w v A hv (by omega))
  have hbl := hb.lt
  cases h : Soft.bad A with
  | true =>
    obtain ⟨h1, h2, h3⟩ := Noi.sofL_bad (f := f) (e := e) (s := s) (x := x) h
    rw [h1, h2, h3]
    rw [h] at VA
    have HB := hid hb
    clear h h1 h2 h3 hb hv
    go_enter Try.func20, Try.ntmps20
    go_wp2_with fail
    refine VA.out.mono ?_
    rintro r w1 ⟨rfl, B1⟩
    go_wp2_with fail
    refine (isent_err _ b x f e s (HB.out.below B1 hbl) h0 _ _ _).mono ?_
    rintro r w2 ⟨rfl, rfl⟩
    go_wp2
    go_ret2
    exact ⟨⟨_, rfl, VwA.nil _ _ _⟩, HB.out.below B1 hbl, (Fr.of_below B1).mono (fun k h1 h2 => by omega)⟩
  | false =>
    obtain ⟨h1, h2, h3⟩ := Noi.sofL_ok (f := f) (e := e) (s := s) (x := x) h
    rw [h1, h2, h3]
    rw [h] at VA
    have HS := hid (fun w1 (hB : Below w.heap.size w w1) => isent_ok w1 b f e s v A 2 (by omega) (hv.below hB (Nat.le_refl _)) hvb 42 (fun k => Noi.stN x (2 * k)) (Noi.sofG f e s x A) (hb.below hB hbl) h0
      (enters_of Try.func42 (by kernel_rfl) rfl)
      (fun k hk W hW => by
        have hy := Soft.inv_false (Soft.bad_at h hk)
        exact value_any W b (Noi.stN x (2 * k)) f e s (A.getD k 0) hc (Noi.stN_lt hx _) hW hy.1 hy.2))
    clear h h1 h2 h3 hb hv hvb
    go_enter Try.func20, Try.ntmps20
    go_wp2_with fail
    refine VA.out.mono ?_
    rintro r w1 ⟨rfl, B1⟩
    go_wp2_with fail
    refine (HS.out _ B1).mono ?_
    rintro r w2 ⟨⟨v', rfl, V2⟩, N2, F2⟩
    have HV2 := hid (V2.mono B1.size)
    have HN := hid N2
    clear V2 N2
    go_wp2
    go_ret2
    exact ⟨⟨_, rfl, HV2.out⟩, HN.out, ((Fr.of_below B1).mono (fun k h1 h2 => by omega)).trans F2⟩
theorem nbinv_any (x : Int) (w : World) : Calls Try.prog 32 #[.int .u8 x] w fun e w' => e = .returned (.bool (Soft.binv x)) ∧ w' = w := by
  have HE := hid (show Soft.binv x = decide (1 < x) from rfl)
  go_enter Try.func32, Try.ntmps32
  go_wp2
  go_ret
  exact ⟨ret_bool HE.out.symm, rfl⟩
theorem nbbad_any (w : World) (v : Value) (B : List Int) (hv : Vw w v (B.map (Value.int .u8))) (hl : B.length ≤ 1000000) :
    Calls Try.prog 31 #[v, .func (.func 32) #[] #[]] w fun e w' => e = .returned (.bool (Soft.bbad B)) ∧ w = w' := by
  have H := bcontains_any w v (B.map (Value.int .u8)) hv (by simp; omega) 32 #[] (enters_of Try.func32 (by kernel_rfl) rfl) (fun i => Soft.binv (B.getD i 0))
    (fun i hi => by
      have hi' : i < B.length := by simpa using hi
      have e : (B.map (Value.int .u8))[i] = Value.int .u8 (B.getD i 0) := by simp [List.getD, hi']
      rw [e]
      exact nbinv_any _ _)
  rw [List.length_map, Soft.bbad_eq] at H
  exact H.mono fun e w' ⟨h1, h2⟩ => ⟨h1, h2.symm⟩
theorem bits_none (w : World) (n v : Value) (A : List Int) (hv : Vw w v (A.map (Value.int .u8))) (hA : A.length ≤ 1000000) (hC : Calls Try.prog 36 #[n] w fun r w' => r = .returned (.bool true) ∧ w = w') :
    Calls Try.prog 12 #[n, v] w fun r w' => r = .returned (.tuple #[.slice none 0 0, .int .i64 1]) ∧ w = w' := by
  have VA := hid (nbbad_any w v A hv (by omega))
  have C := hid hC
  clear hv hC
  generalize Soft.bbad A = fine at VA
  go_enter Try.func12, Try.ntmps12
  go_wp2_with fail
  refine VA.out.mono ?_
  rintro r w1 ⟨rfl, rfl⟩
  go_wp2_with fail
  refine (bsent_none _ _ _ _ _ _ C.out).mono ?_
  rintro r w2 ⟨rfl, rfl⟩
  go_wp2
  go_ret2
  exact ⟨rfl, rfl⟩
set_option maxHeartbeats 1000000 in
theorem nbits_any (w : World) (b x : Nat) (f e s : Int) (v : Value) (A : List Int) (hc : Ch f e s) (h0 : 0 < x) (hx : x < Noi.M) (hb : NB w b x f e s) (hv : Vw w v (A.map (Value.int .u8))) (hwf : ∀ n ∈ A, (Lit.int .u8 n).wf = true) (hvb : ∀ q off n c, v = .slice (some ⟨q, off, none⟩) n c → 0 < A.length → ¬ q = b) (hA : A.length ≤ 1000000) :
    Calls Try.prog 12 #[.pointer (some ⟨b, 0, none⟩), v] w fun r w' => (∃ v', r = .returned (.tuple #[v', .int .i64 (Noi.bitE A)]) ∧ VwA w' w.heap.size v' ((Noi.bitL f e x A).map (Value.int .u8))) ∧ NB w' b (Noi.bitX x A) f e s ∧ Fr (fun j => j = b) w w' := by
  have VA := hid (nbbad_any w v A hv (by omega))
  have hbl := hb.lt
  cases h : Soft.bbad A with
  | true =>
    obtain ⟨h1, h2, h3⟩ := Noi.bitL_bad (f := f) (e := e) (x := x) h
    rw [h1, h2, h3]
    rw [h] at VA
    have HB := hid hb
    clear h h1 h2 h3 hb hv hwf
    go_enter Try.func12, Try.ntmps12
    go_wp2_with fail
    refine VA.out.mono ?_
    rintro r w1 ⟨rfl, rfl⟩
    go_wp2_with fail
    refine (bsent_err _ b x f e s HB.out h0 _ _ _).mono ?_
    rintro r w2 ⟨rfl, rfl⟩
    go_wp2
    go_ret2
    exact ⟨⟨_, rfl, VwA.nil _ _ _⟩, HB.out, Fr.refl _ _⟩
  | false =>
    obtain ⟨h1, h2, h3⟩ := Noi.bitL_ok (f := f) (e := e) (x := x) h
    rw [h1, h2, h3]
    rw [h] at VA
    have HS := hid (bsent_ok w b f e s v A 3 (by omega) hv hvb 34 (fun k => Noi.stN x k) (Noi.bitG f e x A) hb h0
      (enters_of Try.func34 (by kernel_rfl) rfl)
      (fun k hk W hW => by
        have hy1 : A.getD k 0 ≤ 1 := by have := Soft.bbad_at h hk; simp [Soft.binv] at this; simpa [List.getD, hk] using this
        have hy0 : 0 ≤ A.getD k 0 := by
          have := hwf (A.getD k 0) (by simp [List.getD, hk])
          simp only [Lit.wf, IntKind.min, IntKind.max, IntKind.signed, IntKind.bits] at this
          simp at this
          exact this.1
        exact bit_any W b (Noi.stN x k) f e s (A.getD k 0) hc (Noi.stN_lt hx _) hW hy0 hy1))
    clear h h1 h2 h3 hb hv hvb hwf
    go_enter Try.func12, Try.ntmps12
    go_wp2_with fail
    refine VA.out.mono ?_
    rintro r w1 ⟨rfl, rfl⟩
    go_wp2_with fail
    refine HS.out.mono ?_
    rintro r w2 ⟨⟨v', rfl, V2⟩, N2, F2⟩
    have HV2 := hid V2
    have HN := hid N2
    clear V2 N2
    go_wp2
    go_ret2
    exact ⟨⟨_, rfl, HV2.out⟩, HN.out, F2⟩
end Go.Proofs.Ytngggknejkcepaa
