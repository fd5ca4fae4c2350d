/- userplanelaw09.SubblockOwn: the walk. -/
import Derived.Test.YtpdoeibgnbdgfaaLaws9c
import Derived.Test.YtpdoeibgnbdgfaaOwnB
namespace Go.Proofs.Ytpdoeibgnbdgfaa
open Go.RowKit Go.Shelf
set_option linter.unusedVariables false

/-- What Interleave returns, as a list and an error's number. -/
def interR (B : List Int) (s : Int) : List Int × Int :=
  if (B.length : Int) < 1 ∨ 6148 < (B.length : Int) ∨ s < 0 ∨ 2 < s then ([], 2) else if Ord.okBits B = false then ([], 3) else (Ord.interL B ((B.length + 31) / 32) s, 0)
theorem interR_len (B : List Int) (s : Int) : (interR B s).1.length ≤ 6176 := by
  unfold interR
  split
  · simp
  · split
    · simp
    · simp [Ord.interL_len]; omega
theorem inter_any (w : World) (v : Value) (B : List Int) (s : Int) (hv : Vw w v (B.map (Value.int .u8))) (hl : B.length ≤ 9223372036854775807) :
    Calls Try.prog 19 #[v, .int .i64 s] w fun e w' => (∃ v', e = .returned (.tuple #[v', .int .i64 (interR B s).2]) ∧ OwnL w' w.heap.size 5 v' ((interR B s).1.map (Value.int .u8))) ∧ Below w.heap.size w w' := by
  unfold interR
  by_cases h : (B.length : Int) < 1 ∨ 6148 < (B.length : Int) ∨ s < 0 ∨ 2 < s
  · rw [if_pos h]
    exact (inter_err w v B s hv hl (by omega)).mono fun e w' ⟨h1, h2⟩ => ⟨⟨_, h1, OwnL.nil _ _ _⟩, h2⟩
  · rw [if_neg h]
    refine (inter_ok w v B ((B.length + 31) / 32) s hv (by omega) (by omega) (by omega) (by omega) (by omega) (by omega)).mono fun e w' hp => ?_
    cases hok : Ord.okBits B with
    | false => rw [if_pos rfl]; obtain ⟨h1, h2⟩ := hp.bad hok; exact ⟨⟨_, h1, OwnL.nil _ _ _⟩, h2⟩
    | true => rw [if_neg (by simp)]; obtain ⟨h1, h2⟩ := hp.good hok; exact ⟨h1, h2⟩
theorem deint_any (w : World) (v : Value) (L : List Int) (d s : Int) (hv : Vw w v (L.map (Value.int .u8))) (hl : L.length ≤ 9223372036854775807) :
    Calls Try.prog 21 #[v, .int .i64 d, .int .i64 s] w fun e w' => (∃ (v' : Value) (x : Int) (L' : List Int), L'.length ≤ 6148 ∧ e = .returned (.tuple #[v', .int .i64 x]) ∧ OwnL w' w.heap.size 5 v' (L'.map (Value.int .u8))) ∧ Below w.heap.size w w' := by
  by_cases h : d < 1 ∨ 6148 < d ∨ s < 0 ∨ 2 < s
  · exact (deint_err w v L d s hv h).mono fun e w' ⟨h1, h2⟩ => ⟨⟨_, _, [], by simp, h1, OwnL.nil _ _ _⟩, h2⟩
  · obtain ⟨d, rfl⟩ := Int.eq_ofNat_of_zero_le (show 0 ≤ d by omega)
    refine (deint_ok w v L d ((d + 31) / 32) s hv hl (by omega) (by omega) (by omega) (by omega) (by omega) (by omega)).mono fun e w' hp => ?_
    rcases hp with ⟨-, h1, h2⟩ | ⟨-, -, h1, h2⟩ | ⟨-, -, ⟨v', h1, h3⟩, h2⟩
    · exact ⟨⟨_, _, [], by simp, h1, OwnL.nil _ _ _⟩, h2⟩
    · exact ⟨⟨_, _, [], by simp, h1, OwnL.nil _ _ _⟩, h2⟩
    · exact ⟨⟨_, _, _, by rw [Ord.deintL_len]; omega, h1, h3⟩, h2⟩
theorem order_any (w : World) (d s : Int) :
    Calls Try.prog 11 #[.int .i64 d, .int .i64 s] w fun e w' => (∃ (v' : Value) (x : Int) (L' : List Int), L'.length ≤ 6176 ∧ e = .returned (.tuple #[v', .int .i64 x]) ∧ OwnL w' w.heap.size 3 v' (L'.map (Value.int .i64))) ∧ Below w.heap.size w w' := by
  by_cases h : d < 1 ∨ 6148 < d ∨ s < 0 ∨ 2 < s
  · exact (order_err d s h w).mono fun e w' ⟨h1, h2⟩ => ⟨⟨_, _, [], by simp, h1, OwnL.nil _ _ _⟩, h2⟩
  · obtain ⟨d, rfl⟩ := Int.eq_ofNat_of_zero_le (show 0 ≤ d by omega)
    refine (order_ok d ((d + 31) / 32) s (by omega) (by omega) (by omega) (by omega) (by omega) (by omega) w).mono fun e w' ⟨v', h1, h2, h3⟩ => ?_
    exact ⟨⟨_, _, _, by rw [Ord.outL_len]; omega, h1, h2⟩, h3⟩

/-- The relation of a loop that overwrites a slice of one's own. -/
def Over (w0 : World) (base : Nat) (e : TypeId) (v : Value) (n : Nat) (i : Value) (wr : World) : Prop :=
  ∃ (k : Nat) (xs : List Value), k ≤ n ∧ i = .int .i64 k ∧ xs.length = n ∧ OwnL wr base e v xs ∧ Fr (fun j => v.ownBlock = some j) w0 wr

set_option maxHeartbeats 4000000 in
theorem law_SubblockOwn (w : World) (v : Value) (B : List Int) (s : Int) (hb : IntsIn .u8 w v B) (ws : (Lit.int .i64 s).wf = true) :
    Calls Try.prog 10 #[v, .int .i64 s] w fun e w' => e = .returned (.bool true) ∧ Below w.heap.size w w' := by
  clear ws
  obtain ⟨hv, hl, -⟩ := hb
  by_cases hbig : 1000 < B.length
  · obtain ⟨a, c, rfl, _⟩ := hv
    rw [List.length_map]
    have hgt : decide (1000 < (B.length : Int)) = true := by simp; omega
    go_enter Try.func10, Try.ntmps10
    go_wp2_with (go_at_call 14; refine (known_true _).mono ?_; rintro e w4 ⟨rfl, hB4⟩)
    go_ret
    exact ⟨rfl, hB4⟩
  have HV := hid hv
  have hle : B.length ≤ 1000 := by omega
  have HL := hid (interR_len B s)
  obtain ⟨I, x, HIx⟩ : ∃ I x, Hid (interR B s = (I, x)) := ⟨_, _, rfl⟩
  have C0 := hid (fun w v h => inter_any w v B s h hl)
  rw [HIx.out] at C0 HL
  have hIl : I.length ≤ 6176 := HL.out
  clear HL
  obtain ⟨a, c, rfl, _⟩ := hv
  rw [List.length_map] at HV ⊢
  clear hbig
  go_enter Try.func10, Try.ntmps10
  go_wp2_with fail
  refine (ownB_any _ _ _ HV.out (by omega)).mono ?_
  rintro e w1 ⟨⟨v1, rfl, hown1⟩, hB1⟩
  have HOwn := hid hown1
  have HS1 := hid hB1
  obtain ⟨a1, c1, rfl⟩ := hown1.is_slice
  rw [List.length_map] at HOwn ⊢
  clear hown1 hB1
  go_wp2_with fail
  refine (C0.out _ _ HOwn.out.vw).mono ?_
  rintro e w2 ⟨⟨v2, rfl, hown2⟩, hB2⟩
  have HA := hid hown2
  have HS2 := hid hB2
  obtain ⟨a2, c2, rfl⟩ := hown2.is_slice
  rw [List.length_map] at HA ⊢
  clear hown2 hB2
  go_wp2_with fail
  refine (ownB_any _ _ _ HA.out.vw (by omega)).mono ?_
  rintro e w3 ⟨⟨v3, rfl, hown3⟩, hB3⟩
  have HKp := hid hown3
  have HS3 := hid hB3
  obtain ⟨a3, c3, rfl⟩ := hown3.is_slice
  rw [List.length_map] at HKp ⊢
  clear hown3 hB3
  go_wp2_with fail
  refine (deint_any _ _ _ _ _ (HA.out.vw.below HS3.out (Nat.le_refl _)) (by omega)).mono ?_
  rintro e w4 ⟨⟨v4, x4, L4, hl4, rfl, hown4⟩, hB4⟩
  have HD := hid hown4
  have HS4 := hid hB4
  obtain ⟨a4, c4, rfl⟩ := hown4.is_slice
  rw [List.length_map] at HD ⊢
  clear hown4 hB4
  go_wp2_with fail
  refine (order_any _ _ _).mono ?_
  rintro e w5 ⟨⟨v5, x5, L5, hl5, rfl, hown5⟩, hB5⟩
  have HO := hid hown5
  have HS5 := hid hB5
  obtain ⟨a5, c5, rfl⟩ := hown5.is_slice
  rw [List.length_map] at HO ⊢
  clear hown5 hB5
  have HD5 := hid (HD.out.fr (Fr.of_below HS5.out) (fun g hg h => by have := (HD.out.block hg).2; omega))
  obtain ⟨n4, hn4⟩ : ∃ n, n = L4.length := ⟨_, rfl⟩
  obtain ⟨n5, hn5⟩ : ∃ n, n = L5.length := ⟨_, rfl⟩
  obtain ⟨n2, hn2⟩ : ∃ n, n = I.length := ⟨_, rfl⟩
  rw [← hn4] at HD HD5 hl4 ⊢
  rw [← hn5] at HO hl5 ⊢
  rw [← hn2] at HA HKp hIl ⊢
  have HN4 := hid hn4
  have HN5 := hid hn5
  have HN2 := hid hn2
  clear hn4 hn5 hn2
  go_wp2
  go_loopw [13] (fun i wr => Over w5 w3.heap.size 5 (.slice a4 n4 c4) n4 i wr) (fun i _ => n4 - (intOf i).toNat)
  case atStart => exact ⟨0, _, Nat.zero_le _, rfl, by rw [List.length_map]; exact HN4.out.symm, HD5.out, Fr.refl _ _⟩
  case round =>
    obtain ⟨k, xs, hk, rfl, hxs, hown, hf⟩ := hrel
    by_cases hlt : k < n4
    · obtain ⟨g, rfl⟩ := hown.shape' (by omega)
      have hfr := hown.free k
      obtain ⟨u, hu⟩ : ∃ u : Value, wr.cell? ⟨g, k, none⟩ = some u := ⟨_, hown.at k (by omega)⟩
      have Hown := hid hown
      have HF := hid hf
      clear hown hf
      go_wp2
      go_roundw
      case rel => exact ⟨k + 1, _, by omega, by go_num, by simpa using hxs, Hown.out.stored k (.int .u8 77), HF.out.trans (Fr.setCell _ _ _ rfl)⟩
      case measure => simp [intOf]; omega
    · obtain ⟨wq, hwq⟩ : ∃ wq, wq = wr := ⟨_, rfl⟩
      have HF1 := hid hf
      have HO6 := hid (HO.out.fr hf (fun g hg h => by have h1 := (HO.out.block hg).1; have h2 := (HD.out.block h).2; omega))
      clear hf hown hxs
      subst hwq
      go_wp2
      go_loopw [14] (fun i wr' => Over wq w4.heap.size 3 (.slice a5 n5 c5) n5 i wr') (fun i _ => n5 - (intOf i).toNat)
      case atStart => exact ⟨0, _, Nat.zero_le _, rfl, by rw [List.length_map]; exact HN5.out.symm, HO6.out, Fr.refl _ _⟩
      case round =>
        clear hk hlt
        obtain ⟨k, xs, hk, rfl, hxs, hown, hf⟩ := hrel
        by_cases hlt : k < n5
        · obtain ⟨g, rfl⟩ := hown.shape' (by omega)
          have hfr := hown.free k
          obtain ⟨u, hu⟩ : ∃ u : Value, wr.cell? ⟨g, k, none⟩ = some u := ⟨_, hown.at k (by omega)⟩
          have Hown := hid hown
          have HF := hid hf
          clear hown hf
          go_wp2
          go_roundw
          case rel => exact ⟨k + 1, _, by omega, by go_num, by simpa using hxs, Hown.out.stored k (.int .i64 78), HF.out.trans (Fr.setCell _ _ _ rfl)⟩
          case measure => simp [intOf]; omega
        · obtain ⟨wz, hwz⟩ : ∃ wz, wz = wr := ⟨_, rfl⟩
          subst hwz
          have HF2 := hid hf
          have HB3 := hid (((HS4.out.trans (HS5.out.mono HS4.out.size)).trans (HF1.out.below (Nat.le_trans HS4.out.size HS5.out.size) (fun j hj h => by have := (HD.out.block h).1; omega))).trans
            (hf.below (Nat.le_trans (Nat.le_trans HS4.out.size HS5.out.size) HF1.out.size) (fun j hj h => by have := (HO.out.block h).1; have := HS4.out.size; omega)))
          clear hf hown hxs
          have HA3 := hid (HA.out.fr (Fr.of_below HS3.out) (fun g hg h => by have := (HA.out.block hg).2; omega))
          have HA6 := hid (HA3.out.fr (Fr.of_below HB3.out) (fun g hg h => by have := (HA3.out.block hg).2; omega))
          have HKp6 := hid (HKp.out.fr (Fr.of_below HB3.out) (fun g hg h => by have := (HKp.out.block hg).2; omega))
          go_wp2_with (go_at_call 22; refine (sameB_any _ _ _ _ _ HA6.out.vw HKp6.out.vw (by rw [← HN2.out]; omega) (by rw [← HN2.out]; omega)).mono ?_; rintro e w6 ⟨rfl, n6, rfl⟩; rw [decide_eq_true rfl])
          have HA7 := hid (HA6.out.fr (Fr.drewN (fun _ => False) _ n6) (fun _ _ h => h))
          go_loopw [15] (fun i wr' => Over (wz.drewN n6) w1.heap.size 5 (.slice a2 n2 c2) n2 i wr') (fun i _ => n2 - (intOf i).toNat)
          case atStart => exact ⟨0, _, Nat.zero_le _, rfl, by rw [List.length_map]; exact HN2.out.symm, HA7.out, Fr.refl _ _⟩
          case round =>
            clear hk hlt
            obtain ⟨k, xs, hk, rfl, hxs, hown, hf⟩ := hrel
            by_cases hlt : k < n2
            · obtain ⟨g, rfl⟩ := hown.shape' (by omega)
              have hfr := hown.free k
              obtain ⟨u, hu⟩ : ∃ u : Value, wr.cell? ⟨g, k, none⟩ = some u := ⟨_, hown.at k (by omega)⟩
              have Hown := hid hown
              have HF := hid hf
              clear hown hf
              go_wp2
              go_roundw
              case rel => exact ⟨k + 1, _, by omega, by go_num, by simpa using hxs, Hown.out.stored k (.int .u8 79), HF.out.trans (Fr.setCell _ _ _ rfl)⟩
              case measure => simp [intOf]; omega
            · have hf' := (Fr.drewN (fun j => (Value.slice a2 n2 c2).ownBlock = some j) wz n6).trans hf
              have HB1 := hid (((HS2.out.trans (HS3.out.mono HS2.out.size)).trans (HB3.out.mono (Nat.le_trans HS2.out.size HS3.out.size))).trans
                (hf'.below (Nat.le_trans (Nat.le_trans HS2.out.size HS3.out.size) HB3.out.size) (fun j hj h => by have := (HA.out.block h).1; omega)))
              have HKp8 := hid (HKp6.out.fr hf' (fun g hg h => by have h1 := (HKp.out.block hg).1; have h2 := (HA.out.block h).2; omega))
              have HOw8 := hid (HOwn.out.vw.below HB1.out (Nat.le_refl _))
              have HV8 := hid ((HV.out.below HS1.out (Nat.le_refl _)).below HB1.out (Nat.le_refl _))
              have hxx : (x == x) = true := by simp
              clear hf hf' hown hxs
              go_wp2_with fail
              refine (C0.out _ _ HOw8.out).mono ?_
              rintro e w9 ⟨⟨v9, rfl, hown9⟩, hB9⟩
              have HC9 := hid hown9
              have HS9 := hid hB9
              clear hown9 hB9
              obtain ⟨a9, c9, rfl⟩ := HC9.out.is_slice
              rw [List.length_map] at HC9 ⊢
              go_wp2_with fail
              refine (sameB_any _ _ _ _ _ (HOw8.out.below HS9.out (Nat.le_refl _)) (HV8.out.below HS9.out (Nat.le_refl _)) hl hl).mono ?_
              rintro e w10 ⟨rfl, n10, rfl⟩
              rw [decide_eq_true rfl]
              go_wp2_with fail
              refine (sameB_any _ _ _ _ _ (HC9.out.vw.drewN n10) ((HKp8.out.vw.below HS9.out (Nat.le_refl _)).drewN n10) (by rw [← HN2.out]; omega) (by rw [← HN2.out]; omega)).mono ?_
              rintro e w11 ⟨rfl, n11, rfl⟩
              rw [decide_eq_true rfl]
              go_wp2_with (go_at_call 14; refine (known_true _).mono ?_; rintro e w12 ⟨rfl, hB12⟩)
              go_ret
              exact ⟨rfl, below_then (below_then (below_then (HS1.out.trans (HB1.out.mono HS1.out.size)) HS9.out) (below_drewN _ (n10 + n11))) hB12⟩
end Go.Proofs.Ytpdoeibgnbdgfaa
