/- userplaneref11: Scale, Hard, Ideal. -/
import Derived.Test.YtmbjcpppbgapbaaSoftR
namespace Go.Proofs.Ytmbjcpppbgapbaa
open Go.RowKit Go.Shelf
set_option linter.unusedVariables false
set_option maxHeartbeats 1000000 in
theorem refScale_any (w : World) (va : Value) (A : List Int) (p q : Int) (hva : Vw w va (A.map (Value.int .i64))) (hA : A.length ≤ 17592186044415) :
    Calls Try.prog 22 #[va, .int .i64 p, .int .i64 q] w fun e w' => (∃ v', e = .returned (.tuple #[v', .int .i64 (Soft.sclR A p q).2]) ∧ Vw w' v' ((Soft.sclR A p q).1.map (Value.int .i64))) ∧ Below w.heap.size w w' := by
  have VA := hid (refValid_any w va A hva (by omega))
  have HA := hid hva
  obtain ⟨aa, ca, rfl, _⟩ := hva
  rw [List.length_map] at VA HA ⊢
  cases hbA : Soft.bad A with
  | true =>
    rw [Soft.sclR_err (.inl hbA)]
    rw [hbA] at VA
    clear hbA
    go_enter Try.func22, Try.ntmps22
    go_wp2_with fail
    refine VA.out.mono ?_
    rintro e w1 ⟨rfl, rfl⟩
    go_wp2
    go_ret2
    exact ⟨⟨_, rfl, Vw.nil _ _ _⟩, Below.refl _ _⟩
  | false =>
    rw [hbA] at VA
    by_cases h1 : p < 0
    · rw [Soft.sclR_err (.inr (.inl h1))]
      clear hbA
      go_enter Try.func22, Try.ntmps22
      go_wp2_with fail
      refine VA.out.mono ?_
      rintro e w1 ⟨rfl, rfl⟩
      go_wp2
      go_ret2
      exact ⟨⟨_, rfl, Vw.nil _ _ _⟩, Below.refl _ _⟩
    by_cases h2 : 1073741824 < p
    · rw [Soft.sclR_err (.inr (.inr (.inl h2)))]
      clear hbA
      go_enter Try.func22, Try.ntmps22
      go_wp2_with fail
      refine VA.out.mono ?_
      rintro e w1 ⟨rfl, rfl⟩
      go_wp2
      go_ret2
      exact ⟨⟨_, rfl, Vw.nil _ _ _⟩, Below.refl _ _⟩
    by_cases h3 : q < 1
    · rw [Soft.sclR_err (.inr (.inr (.inr (.inl h3))))]
      clear hbA
      go_enter Try.func22, Try.ntmps22
      go_wp2_with fail
      refine VA.out.mono ?_
      rintro e w1 ⟨rfl, rfl⟩
      go_wp2
      go_ret2
      exact ⟨⟨_, rfl, Vw.nil _ _ _⟩, Below.refl _ _⟩
    by_cases h4 : 1073741824 < q
    · rw [Soft.sclR_err (.inr (.inr (.inr (.inr h4))))]
      clear hbA
      go_enter Try.func22, Try.ntmps22
      go_wp2_with fail
      refine VA.out.mono ?_
      rintro e w1 ⟨rfl, rfl⟩
      go_wp2
      go_ret2
      exact ⟨⟨_, rfl, Vw.nil _ _ _⟩, Below.refl _ _⟩
    rw [Soft.sclR_ok hbA (by omega) (by omega) (by omega) (by omega)]
    have HbA := hid hbA
    clear hbA
    go_enter Try.func22, Try.ntmps22
    go_wp2_with fail
    refine VA.out.mono ?_
    rintro e w1 ⟨rfl, rfl⟩
    go_wp2
    go_loopw [8, 9] (fun v i wr => ∃ k : Nat, k ≤ A.length ∧ i = .int .i64 k ∧ OwnL wr w.heap.size 3 v ((Soft.tab (Soft.sclG A p q) k).map (Value.int .i64)) ∧ Below w.heap.size w wr) (fun _ i _ => A.length - (intOf i).toNat)
    case atStart => exact ⟨0, Nat.zero_le _, rfl, OwnL.nil _ _ _, Below.refl _ _⟩
    case round =>
      obtain ⟨k, hk, rfl, hown, hB⟩ := hrel
      by_cases hlt : k < A.length
      · obtain ⟨b1, o1, c1, e1, hx⟩ := vw_at (HA.out.below hB (Nat.le_refl _)) hlt
        cases e1
        have hsz := hB.size
        have HS := hid (Soft.tab_succ (Soft.sclG A p q) k)
        have HN := hid (show ((Soft.tab (Soft.sclG A p q) k).map (Value.int .i64)).length = k by simp [Soft.tab_len])
        have hx0 := Soft.inv_false (Soft.bad_at HbA.out hlt)
        have C := hid (fun w => refClamp_any ((A.getD k 0 * p).tdiv q) w)
        have HY := hid (show Soft.clamp ((A.getD k 0 * p).tdiv q) = Soft.sclG A p q k from rfl)
        generalize A.getD k 0 = x at *
        have hb := mul_bd hx0.1 hx0.2 (show 0 ≤ p by omega) (by omega)
        have hd := Int.natAbs_tdiv (x * p) q
        have hle : ((x * p).tdiv q).natAbs ≤ (x * p).natAbs := by rw [hd]; exact Nat.div_le_self _ _
        have hw1 : IntKind.i64.wrap (x * p) = x * p := IntWalk.i64_in _ (by omega)
        have hw2 : IntKind.i64.wrap ((x * p).tdiv q) = (x * p).tdiv q := IntWalk.i64_in _ (by omega)
        have hq2 : ¬ q = 0 := by omega
        clear hd hle
        go_wp2_with (first
          | (go_at_call 11; refine (C.out _).mono ?_; rintro e w1 ⟨rfl, rfl⟩)
          | (at_builtin; refine wpList_append_one rfl ielem_map (.tmp 35) (.tmp 45) rfl w.heap.size _ k _ HN.out rfl hown _ rfl rfl (by omega) (by omega) hsz ?_; intro g1 cap1 w2 hown2 hf))
        have hB4 := hB.trans (hf.below hsz (fun i hi e => by have := (hown.block e).1; omega))
        clear hown hf hB
        go_wp2
        go_roundw
        case rel => exact ⟨k + 1, by omega, by go_num, by rw [HS.out, List.map_append, ← HY.out]; exact hown2, hB4⟩
        case measure => simp [intOf]; omega
      · obtain rfl : k = A.length := by omega
        go_wp2
        go_ret2
        exact ⟨⟨_, rfl, hown.vw⟩, hB⟩

set_option maxHeartbeats 1000000 in
theorem refHard_any (w : World) (va : Value) (A : List Int) (hva : Vw w va (A.map (Value.int .i64))) (hA : A.length ≤ 17592186044415) :
    Calls Try.prog 24 #[va] w fun e w' => (∃ v', e = .returned (.tuple #[v', .int .i64 (Soft.hardR A).2]) ∧ Vw w' v' ((Soft.hardR A).1.map (Value.int .u8))) ∧ Below w.heap.size w w' := by
  have VA := hid (refValid_any w va A hva (by omega))
  have HA := hid hva
  obtain ⟨aa, ca, rfl, _⟩ := hva
  rw [List.length_map] at VA HA ⊢
  cases hbA : Soft.bad A with
  | true =>
    rw [Soft.hardR_err hbA]
    rw [hbA] at VA
    clear hbA
    go_enter Try.func24, Try.ntmps24
    go_wp2_with fail
    refine VA.out.mono ?_
    rintro e w1 ⟨rfl, rfl⟩
    go_wp2
    go_ret2
    exact ⟨⟨_, rfl, Vw.nil _ _ _⟩, Below.refl _ _⟩
  | false =>
    rw [Soft.hardR_ok hbA]
    rw [hbA] at VA
    clear hbA
    go_enter Try.func24, Try.ntmps24
    go_wp2_with fail
    refine VA.out.mono ?_
    rintro e w1 ⟨rfl, rfl⟩
    go_wp2
    go_loopw [4, 5] (fun v i wr => ∃ k : Nat, k ≤ A.length ∧ i = .int .i64 k ∧ OwnL wr w.heap.size 5 v ((Soft.tab (Soft.hardG A) k).map (Value.int .u8)) ∧ Below w.heap.size w wr) (fun _ i _ => A.length - (intOf i).toNat)
    case atStart => exact ⟨0, Nat.zero_le _, rfl, OwnL.nil _ _ _, Below.refl _ _⟩
    case round =>
      obtain ⟨k, hk, rfl, hown, hB⟩ := hrel
      by_cases hlt : k < A.length
      · obtain ⟨b1, o1, c1, e1, hx⟩ := vw_at (HA.out.below hB (Nat.le_refl _)) hlt
        cases e1
        have hsz := hB.size
        have HS := hid (Soft.tab_succ (Soft.hardG A) k)
        have HN := hid (show ((Soft.tab (Soft.hardG A) k).map (Value.int .u8)).length = k by simp [Soft.tab_len])
        have HGk := hid (show Soft.hardG A k = Soft.sgn (A.getD k 0) from rfl)
        generalize A.getD k 0 = x at *
        obtain ⟨y, HY⟩ : ∃ y, Hid (y = Soft.hardG A k) := ⟨_, rfl⟩
        by_cases hneg : x < 0
        · obtain rfl : y = 1 := by rw [HY.out, HGk.out, Soft.sgn, if_pos hneg]
          go_wp2_with (at_builtin; refine wpList_append_one rfl belem_map (.tmp 20) (.tmp 21) rfl w.heap.size _ k _ HN.out rfl hown _ rfl rfl (by omega) (by omega) hsz ?_; intro g1 cap1 w2 hown2 hf)
          have hB4 := hB.trans (hf.below hsz (fun i hi e => by have := (hown.block e).1; omega))
          clear hown hf hB
          go_wp2
          go_roundw
          case rel => exact ⟨k + 1, by omega, by go_num, by rw [HS.out, List.map_append, ← HY.out]; exact hown2, hB4⟩
          case measure => simp [intOf]; omega
        obtain rfl : y = 0 := by rw [HY.out, HGk.out, Soft.sgn, if_neg hneg]
        go_wp2_with (at_builtin; refine wpList_append_one rfl belem_map (.tmp 23) (.tmp 24) rfl w.heap.size _ k _ HN.out rfl hown _ rfl rfl (by omega) (by omega) hsz ?_; intro g1 cap1 w2 hown2 hf)
        have hB4 := hB.trans (hf.below hsz (fun i hi e => by have := (hown.block e).1; omega))
        clear hown hf hB
        go_wp2
        go_roundw
        case rel => exact ⟨k + 1, by omega, by go_num, by rw [HS.out, List.map_append, ← HY.out]; exact hown2, hB4⟩
        case measure => simp [intOf]; omega
      · obtain rfl : k = A.length := by omega
        go_wp2
        go_ret2
        exact ⟨⟨_, rfl, hown.vw⟩, hB⟩

namespace Soft
theorem idlR_arg {B : List Int} {m : Int} (h : m < 0 ∨ 127 < m) : idlR B m = ([], 2) := if_pos h
theorem idlR_bit {B : List Int} {m : Int} (h1 : 0 ≤ m) (h2 : m ≤ 127) (h : bbad B = true) : idlR B m = ([], 3) := by rw [idlR, if_neg (by omega), if_pos h]
theorem idlR_ok {B : List Int} {m : Int} (h1 : 0 ≤ m) (h2 : m ≤ 127) (h : bbad B = false) : idlR B m = (tab (idlG B m) B.length, 0) := by rw [idlR, if_neg (by omega), if_neg (by simp [h])]
end Soft
set_option maxHeartbeats 1000000 in
theorem refIdeal_any (w : World) (va : Value) (A : List Int) (m : Int) (hva : Vw w va (A.map (Value.int .u8))) (hA : A.length ≤ 17592186044415) (hwf : ∀ n ∈ A, (Lit.int .u8 n).wf = true) :
    Calls Try.prog 26 #[va, .int .i64 m] w fun e w' => (∃ v', e = .returned (.tuple #[v', .int .i64 (Soft.idlR A m).2]) ∧ Vw w' v' ((Soft.idlR A m).1.map (Value.int .i64))) ∧ Below w.heap.size w w' := by
  have VA := hid (refBinary_any w va A hva (by omega))
  have HA := hid hva
  obtain ⟨aa, ca, rfl, _⟩ := hva
  rw [List.length_map] at VA HA ⊢
  by_cases h1 : m < 0
  · rw [Soft.idlR_arg (.inl h1)]
    go_enter Try.func26, Try.ntmps26
    go_wp2
    go_ret2
    exact ⟨⟨_, rfl, Vw.nil _ _ _⟩, Below.refl _ _⟩
  by_cases h2 : 127 < m
  · rw [Soft.idlR_arg (.inr h2)]
    go_enter Try.func26, Try.ntmps26
    go_wp2
    go_ret2
    exact ⟨⟨_, rfl, Vw.nil _ _ _⟩, Below.refl _ _⟩
  cases hbA : Soft.bbad A with
  | true =>
    rw [Soft.idlR_bit (by omega) (by omega) hbA]
    rw [hbA] at VA
    clear hbA
    go_enter Try.func26, Try.ntmps26
    go_wp2_with fail
    refine VA.out.mono ?_
    rintro e w1 ⟨rfl, rfl⟩
    go_wp2
    go_ret2
    exact ⟨⟨_, rfl, Vw.nil _ _ _⟩, Below.refl _ _⟩
  | false =>
    rw [Soft.idlR_ok (by omega) (by omega) hbA]
    rw [hbA] at VA
    have HbA := hid hbA
    have HW := hid hwf
    clear hbA hwf
    go_enter Try.func26, Try.ntmps26
    go_wp2_with fail
    refine VA.out.mono ?_
    rintro e w1 ⟨rfl, rfl⟩
    go_wp2
    go_loopw [6, 7] (fun v i wr => ∃ k : Nat, k ≤ A.length ∧ i = .int .i64 k ∧ OwnL wr w.heap.size 3 v ((Soft.tab (Soft.idlG A m) k).map (Value.int .i64)) ∧ Below w.heap.size w wr) (fun _ i _ => A.length - (intOf i).toNat)
    case atStart => exact ⟨0, Nat.zero_le _, rfl, OwnL.nil _ _ _, Below.refl _ _⟩
    case round =>
      obtain ⟨k, hk, rfl, hown, hB⟩ := hrel
      by_cases hlt : k < A.length
      · obtain ⟨b1, o1, c1, e1, hx⟩ := vw_at (HA.out.below hB (Nat.le_refl _)) hlt
        cases e1
        have hsz := hB.size
        have HS := hid (Soft.tab_succ (Soft.idlG A m) k)
        have HN := hid (show ((Soft.tab (Soft.idlG A m) k).map (Value.int .i64)).length = k by simp [Soft.tab_len])
        have hxb := Soft.bbad_at HbA.out hlt
        have hx0 := HW.out (A.getD k 0) (by simp [List.getD, hlt])
        have HGk := hid (show Soft.idlG A m k = (if A.getD k 0 = 1 then -m else m) from rfl)
        generalize A.getD k 0 = x at *
        simp [Soft.binv] at hxb
        simp [Lit.wf, IntKind.min, IntKind.max, IntKind.signed, IntKind.bits] at hx0
        obtain ⟨y, HY⟩ : ∃ y, Hid (y = Soft.idlG A m k) := ⟨_, rfl⟩
        by_cases hbit : x = 1
        · subst hbit
          obtain rfl : y = m - 2 * m := by rw [HY.out, HGk.out, if_pos rfl]; omega
          go_wp2_with (at_builtin; refine wpList_append_one rfl ielem_map (.tmp 23) (.tmp 34) rfl w.heap.size _ k _ HN.out rfl hown _ rfl rfl (by omega) (by omega) hsz ?_; intro g1 cap1 w2 hown2 hf)
          have hB4 := hB.trans (hf.below hsz (fun i hi e => by have := (hown.block e).1; omega))
          clear hown hf hB
          go_wp2
          go_roundw
          case rel => exact ⟨k + 1, by omega, by go_num, by rw [HS.out, List.map_append, ← HY.out]; exact hown2, hB4⟩
          case measure => simp [intOf]; omega
        obtain rfl : x = 0 := by omega
        obtain rfl : y = m := by rw [HY.out, HGk.out, if_neg (by omega)]
        clear hbit
        go_wp2_with (at_builtin; refine wpList_append_one rfl ielem_map (.tmp 23) (.tmp 34) rfl w.heap.size _ k _ HN.out rfl hown _ rfl rfl (by omega) (by omega) hsz ?_; intro g1 cap1 w2 hown2 hf)
        have hB4 := hB.trans (hf.below hsz (fun i hi e => by have := (hown.block e).1; omega))
        clear hown hf hB
        go_wp2
        go_roundw
        case rel => exact ⟨k + 1, by omega, by go_num, by rw [HS.out, List.map_append, ← HY.out]; exact hown2, hB4⟩
        case measure => simp [intOf]; omega
      · obtain rfl : k = A.length := by omega
        go_wp2
        go_ret2
        exact ⟨⟨_, rfl, hown.vw⟩, hB⟩
end Go.Proofs.Ytmbjcpppbgapbaa
