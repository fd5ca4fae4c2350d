/- userplaneref11: Valid, Binary, Sum, Scale, Hard, Ideal. -/
import Derived.Test.YtmbjcpppbgapbaaSoftB
import Derived.Test.YtmbjcpppbgapbaaStepApp
import Derived.Deep.RegionHeld3
namespace Go.Proofs.Ytmbjcpppbgapbaa
open Go.RowKit Go.Shelf
set_option linter.unusedVariables false
theorem refValid_any (w : World) (v : Value) (A : List Int) (hv : Vw w v (A.map (Value.int .i64))) (hl : A.length ≤ 9223372036854775807) :
    Calls Try.prog 20 #[v] w fun e w' => e = .returned (.bool (!Soft.bad A)) ∧ w = w' := by
  rcases vw_split hv with ⟨a, c, rfl, rfl⟩ | ⟨b, off, c, rfl, hp, hc⟩
  · clear hv
    go_enter Try.func20, Try.ntmps20
    go_wp2
    refine wp_loop_rounds 1 ?_
    rw [rounds_succ]
    go_wp2
    go_ret
    exact ⟨rfl, rfl⟩
  · have HC := hid hc
    clear hv hc
    go_enter Try.func20, Try.ntmps20
    go_wp2
    go_loop [3] (fun i => ∃ k : Nat, k ≤ A.length ∧ i = .int .i64 k ∧ Hid (∀ j, j < k → Soft.inv (A.getD j 0) = false)) (fun i => A.length - (intOf i).toNat)
    case atStart => exact ⟨0, Nat.zero_le _, rfl, fun j hj => absurd hj (Nat.not_lt_zero _)⟩
    case round =>
      obtain ⟨k, hk, rfl, hno⟩ := hrel
      by_cases hlt : k < A.length
      · have hck := HC.out k hlt
        have HI := hid (show ∀ h : Soft.inv (A.getD k 0) = true, Soft.bad A = true from fun h => Soft.bad_of hlt h)
        have HX := hid (show ∀ x, x = A.getD k 0 → x = A.getD k 0 from fun x h => h)
        obtain ⟨x, hx⟩ : ∃ x, x = A.getD k 0 := ⟨_, rfl⟩
        rw [← hx] at hck HI
        have HXk := hid hx
        clear hx HX
        by_cases h1 : 127 < x
        · go_wp2
          go_ret
          exact ⟨ret_bool (by rw [HI.out (Soft.inv_of (.inl h1))]; rfl), rfl⟩
        · by_cases h2 : x < -127
          · go_wp2
            go_ret
            exact ⟨ret_bool (by rw [HI.out (Soft.inv_of (.inr h2))]; rfl), rfl⟩
          · go_wp2
            go_round
            case rel =>
              refine ⟨k + 1, by omega, by go_num, fun j hj => ?_⟩
              by_cases hjk : j = k
              · subst hjk; rw [← HXk.out]; exact Soft.inv_in (by omega) (by omega)
              · exact hno.out j (by omega)
            case measure => simp [intOf]; omega
      · obtain rfl : k = A.length := by omega
        go_wp2
        go_ret
        exact ⟨ret_bool (by rw [Soft.bad_no hno.out]; rfl), rfl⟩
theorem refBinary_any (w : World) (v : Value) (A : List Int) (hv : Vw w v (A.map (Value.int .u8))) (hl : A.length ≤ 9223372036854775807) :
    Calls Try.prog 45 #[v] w fun e w' => e = .returned (.bool (!Soft.bbad A)) ∧ w = w' := by
  rcases vw_split hv with ⟨a, c, rfl, rfl⟩ | ⟨b, off, c, rfl, hp, hc⟩
  · clear hv
    go_enter Try.func45, Try.ntmps45
    go_wp2
    refine wp_loop_rounds 1 ?_
    rw [rounds_succ]
    go_wp2
    go_ret
    exact ⟨rfl, rfl⟩
  · have HC := hid hc
    clear hv hc
    go_enter Try.func45, Try.ntmps45
    go_wp2
    go_loop [3] (fun i => ∃ k : Nat, k ≤ A.length ∧ i = .int .i64 k ∧ Hid (∀ j, j < k → Soft.binv (A.getD j 0) = false)) (fun i => A.length - (intOf i).toNat)
    case atStart => exact ⟨0, Nat.zero_le _, rfl, fun j hj => absurd hj (Nat.not_lt_zero _)⟩
    case round =>
      obtain ⟨k, hk, rfl, hno⟩ := hrel
      by_cases hlt : k < A.length
      · have hck := HC.out k hlt
        have HI := hid (show ∀ h : Soft.binv (A.getD k 0) = true, Soft.bbad A = true from fun h => Soft.bbad_of hlt h)
        obtain ⟨x, hx⟩ : ∃ x, x = A.getD k 0 := ⟨_, rfl⟩
        rw [← hx] at hck HI
        have HXk := hid hx
        clear hx
        by_cases h1 : 1 < x
        · go_wp2
          go_ret
          exact ⟨ret_bool (by rw [HI.out (by simp [Soft.binv, h1])]; rfl), rfl⟩
        · go_wp2
          go_round
          case rel =>
            refine ⟨k + 1, by omega, by go_num, fun j hj => ?_⟩
            by_cases hjk : j = k
            · subst hjk; rw [← HXk.out]; simp [Soft.binv]; omega
            · exact hno.out j (by omega)
          case measure => simp [intOf]; omega
      · obtain rfl : k = A.length := by omega
        go_wp2
        go_ret
        exact ⟨ret_bool (by rw [Soft.bbad_no hno.out]; rfl), rfl⟩
/-- The reference's sums. -/
theorem refSum_err (w : World) (va vb : Value) (A B : List Int) (hva : Vw w va (A.map (Value.int .i64))) (hvb : Vw w vb (B.map (Value.int .i64))) (hA : A.length ≤ 9223372036854775807) (hB : B.length ≤ 9223372036854775807) (h : Soft.bad A = true ∨ Soft.bad B = true ∨ A.length ≠ B.length) :
    Calls Try.prog 16 #[va, vb] w fun e w' => e = .returned (.tuple #[.slice none 0 0, .int .i64 2]) ∧ w = w' := by
  have VA := hid (refValid_any w va A hva hA)
  have VB := hid (refValid_any w vb B hvb hB)
  obtain ⟨aa, ca, rfl, _⟩ := hva
  obtain ⟨ab, cb, rfl, _⟩ := hvb
  rw [List.length_map] at VA VB ⊢
  cases hbA : Soft.bad A with
  | true =>
    rw [hbA] at VA
    clear hbA h
    go_enter Try.func16, Try.ntmps16
    go_wp2_with fail
    refine VA.out.mono ?_
    rintro e w1 ⟨rfl, rfl⟩
    go_wp2
    go_ret2
    exact ⟨rfl, rfl⟩
  | false =>
    rw [hbA] at VA
    cases hbB : Soft.bad B with
    | true =>
      rw [hbB] at VB
      clear hbA hbB h
      go_enter Try.func16, Try.ntmps16
      go_wp2_with fail
      refine VA.out.mono ?_
      rintro e w1 ⟨rfl, rfl⟩
      go_wp2_with fail
      refine VB.out.mono ?_
      rintro e w1 ⟨rfl, rfl⟩
      go_wp2
      go_ret2
      exact ⟨rfl, rfl⟩
    | false =>
      rw [hbB] at VB
      have hl : A.length ≠ B.length := by simpa [hbA, hbB] using h
      have hle : ((A.length : Int) != (B.length : Int)) = true := by simp; omega
      clear hbA hbB h hl
      go_enter Try.func16, Try.ntmps16
      go_wp2_with fail
      refine VA.out.mono ?_
      rintro e w1 ⟨rfl, rfl⟩
      go_wp2_with fail
      refine VB.out.mono ?_
      rintro e w1 ⟨rfl, rfl⟩
      go_wp2
      go_ret2
      exact ⟨rfl, rfl⟩
set_option maxHeartbeats 1000000 in
theorem refSum_ok (w : World) (va vb : Value) (A B : List Int) (hva : Vw w va (A.map (Value.int .i64))) (hvb : Vw w vb (B.map (Value.int .i64))) (hA : A.length ≤ 17592186044415) (h1 : Soft.bad A = false) (h2 : Soft.bad B = false) (hl : A.length = B.length) :
    Calls Try.prog 16 #[va, vb] w fun e w' => (∃ v', e = .returned (.tuple #[v', .int .i64 0]) ∧ Vw w' v' ((Soft.tab (Soft.sumG A B) A.length).map (Value.int .i64))) ∧ Below w.heap.size w w' := by
  have VA := hid (refValid_any w va A hva (by omega))
  have VB := hid (refValid_any w vb B hvb (by omega))
  rw [h1] at VA
  rw [h2] at VB
  have HA := hid hva
  have HB := hid hvb
  obtain ⟨aa, ca, rfl, _⟩ := hva
  obtain ⟨ab, cb, rfl, _⟩ := hvb
  rw [List.length_map] at VA HA ⊢
  rw [List.length_map] at VB HB ⊢
  have hle : ((A.length : Int) != (B.length : Int)) = false := by simp [hl]
  have HL := hid hl
  clear h1 h2 hl
  go_enter Try.func16, Try.ntmps16
  go_wp2_with fail
  refine VA.out.mono ?_
  rintro e w1 ⟨rfl, rfl⟩
  go_wp2_with fail
  refine VB.out.mono ?_
  rintro e w1 ⟨rfl, rfl⟩
  go_wp2
  go_loopw [6, 7] (fun v i wr => ∃ k : Nat, k ≤ A.length ∧ i = .int .i64 k ∧ OwnL wr w.heap.size 3 v ((Soft.tab (Soft.sumG A B) k).map (Value.int .i64)) ∧ Below w.heap.size w wr) (fun _ i _ => A.length - (intOf i).toNat)
  case atStart => exact ⟨0, Nat.zero_le _, rfl, OwnL.nil _ _ _, Below.refl _ _⟩
  case round =>
    obtain ⟨k, hk, rfl, hown, hB⟩ := hrel
    by_cases hlt : k < A.length
    · obtain ⟨b1, o1, c1, e1, hx0⟩ := vw_at HA.out hlt
      have hbw1 : b1 < w.heap.size := World.block_lt_of_cell? _ _ hx0
      have hx := (hB.cell (p := ⟨b1, o1 + k, none⟩) hbw1).trans hx0
      have hlt2 : k < B.length := by have := HL.out; omega
      obtain ⟨b2, o2, c2, e2, hy0⟩ := vw_at HB.out hlt2
      have hbw2 : b2 < w.heap.size := World.block_lt_of_cell? _ _ hy0
      have hy := (hB.cell (p := ⟨b2, o2 + k, none⟩) hbw2).trans hy0
      clear hx0 hy0
      cases e1; cases e2
      have hmB : B.length ≤ 9223372036854775807 := by have := HL.out; omega
      have hown' := hown.fr (Fr.drew (fun _ => False) wr) (fun _ _ h => h)
      have hB' := hB.trans ((Fr.drew (fun _ => False) wr).below hB.size (fun _ _ h => h))
      have hsz' : w.heap.size ≤ wr.drew.heap.size := hB.size
      have HS := hid (Soft.tab_succ (Soft.sumG A B) k)
      have HN := hid (show ((Soft.tab (Soft.sumG A B) k).map (Value.int .i64)).length = k by simp [Soft.tab_len])
      have C := hid (fun w => refAdd_any (A.getD k 0) (B.getD k 0) w)
      have HG := hid (show Soft.sumG A B k = Soft.add (A.getD k 0) (B.getD k 0) from rfl)
      generalize A.getD k 0 = x at *
      generalize B.getD k 0 = y at *
      rw [← HG.out] at C
      clear hown hB HG
      have hxd : wr.drew.cell? ⟨b1, o1 + k, none⟩ = some (.int .i64 x) := hx
      have hyd : wr.drew.cell? ⟨b2, o2 + k, none⟩ = some (.int .i64 y) := hy
      have hbl1 : b1 < wr.drew.heap.size := World.block_lt_of_cell? _ _ hxd
      have hbl2 : b2 < wr.drew.heap.size := World.block_lt_of_cell? _ _ hyd
      go_wp2
      go_region_held3 (fun w' => w'.cell? ⟨b1, o1 + k, none⟩ = some (.int .i64 x) ∧ w'.cell? ⟨b2, o2 + k, none⟩ = some (.int .i64 y))
        (first
          | exact ⟨hxd, hyd⟩
          | (go_split_ands; exact ⟨by assumption, by assumption⟩)
          | exact ⟨((Fr.alloc (fun _ => False) wr.drew _).cell (p := ⟨b1, o1 + k, none⟩) hbl1 (fun h => h)).trans hxd, ((Fr.alloc (fun _ => False) wr.drew _).cell (p := ⟨b2, o2 + k, none⟩) hbl2 (fun h => h)).trans hyd⟩
          | exact ⟨(hf.cell (p := ⟨b1, o1 + k, none⟩) hbl1 (fun e => by have := (hown'.block e).1; dsimp only at this; omega)).trans hxd, (hf.cell (p := ⟨b2, o2 + k, none⟩) hbl2 (fun e => by have := (hown'.block e).1; dsimp only at this; omega)).trans hyd⟩
          | go_keep)
        (first
          | (refine step_append_one rfl ielem_map (.tmp 29) (.tmp 39) rfl w.heap.size _ k _ HN.out ?_ hown' _ ?_ ?_ (by omega) (by omega) hsz' ?_; rfl; rfl; rfl; intro g1 cap1 w2 hown2 hf)
          | (go_at_call 13; refine (C.out _).mono ?_; rintro e w1 ⟨rfl, rfl⟩))
      have hB4 := hB'.trans (hf.below hsz' (fun i hi e => by have := (hown'.block e).1; omega))
      clear hown' hf hB'
      go_wp2
      go_roundw
      case rel => exact ⟨k + 1, by omega, by go_num, by rw [HS.out, List.map_append]; exact hown2, hB4⟩
      case measure => simp [intOf]; omega
    · obtain rfl : k = A.length := by omega
      go_wp2
      go_ret2
      exact ⟨⟨_, rfl, hown.vw⟩, hB⟩
theorem refSum_any (w : World) (va vb : Value) (A B : List Int) (hva : Vw w va (A.map (Value.int .i64))) (hvb : Vw w vb (B.map (Value.int .i64))) (hA : A.length ≤ 17592186044415) (hB : B.length ≤ 9223372036854775807) :
    Calls Try.prog 16 #[va, vb] w fun e w' => (∃ v', e = .returned (.tuple #[v', .int .i64 (Soft.sumR A B).2]) ∧ Vw w' v' ((Soft.sumR A B).1.map (Value.int .i64))) ∧ Below w.heap.size w w' := by
  by_cases h : Soft.bad A = true ∨ Soft.bad B = true ∨ A.length ≠ B.length
  · rw [Soft.sumR_err h]
    exact (refSum_err w va vb A B hva hvb (by omega) hB h).mono fun e w' ⟨h1, h2⟩ => ⟨⟨_, h1, Vw.nil _ _ _⟩, by rw [← h2]; exact Below.refl _ _⟩
  · have h1 : Soft.bad A = false := by cases hb : Soft.bad A <;> simp_all
    have h2 : Soft.bad B = false := by cases hb : Soft.bad B <;> simp_all
    have h3 : A.length = B.length := by
      rcases Nat.decEq A.length B.length with h' | h'
      · exact absurd (.inr (.inr h')) h
      · exact h'
    rw [Soft.sumR_ok h1 h2 h3]
    exact refSum_ok w va vb A B hva hvb hA h1 h2 h3
end Go.Proofs.Ytmbjcpppbgapbaa
