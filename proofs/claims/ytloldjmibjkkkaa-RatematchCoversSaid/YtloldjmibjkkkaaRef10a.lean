/- userplaneref10: Valid, element, Usable, Start. -/
import Derived.Test.YtloldjmibjkkkaaRmI
import Derived.Test.YtloldjmibjkkkaaSmall9
namespace Go.Proofs.Ytloldjmibjkkkaa
open Go.RowKit Go.Shelf
set_option linter.unusedVariables false
theorem refValid_any (k f limit : Int) (w : World) :
    Calls Try.prog 12 #[.int .i64 k, .int .i64 f, .int .i64 limit] w fun e w' => e = .returned (.bool (Rm.valid k f limit)) ∧ w = w' := by
  cases hv : Rm.valid k f limit with
  | true =>
    obtain ⟨h1, h2, h3, h4, h5⟩ := Rm.valid_of hv
    clear hv
    go_enter Try.func12, Try.ntmps12
    go_wp2
    go_ret
    exact ⟨rfl, rfl⟩
  | false =>
    have h := Rm.valid_no hv
    clear hv
    by_cases h1 : k < 40
    · clear h
      go_enter Try.func12, Try.ntmps12
      go_wp2
      go_ret
      exact ⟨rfl, rfl⟩
    by_cases h2 : 6144 < k
    · clear h
      go_enter Try.func12, Try.ntmps12
      go_wp2
      go_ret
      exact ⟨rfl, rfl⟩
    by_cases h3 : f < 0
    · clear h
      go_enter Try.func12, Try.ntmps12
      go_wp2
      go_ret
      exact ⟨rfl, rfl⟩
    by_cases h4 : k ≤ f
    · clear h
      go_enter Try.func12, Try.ntmps12
      go_wp2
      go_ret
      exact ⟨rfl, rfl⟩
    have h5 : limit < 1 := by omega
    clear h
    go_enter Try.func12, Try.ntmps12
    go_wp2
    go_ret
    exact ⟨ret_bool (decide_eq_false (by omega)), rfl⟩
theorem refElement_any (k f s : Nat) (i : Int) (hk : k ≤ 6144) (hs : s ≤ 2) (hi : i ≤ 10000) (w : World) :
    Calls Try.prog 28 #[.int .i64 k, .int .i64 f, .int .i64 s, .int .i64 i] w fun e w' => e = .returned (.int .i64 (Rm.el k f s i)) ∧ w = w' := by
  by_cases h1 : i < 0
  · rw [Rm.el_neg h1]
    go_enter Try.func28, Try.ntmps28
    go_wp2
    go_ret
    exact ⟨rfl, rfl⟩
  · have h0 : 0 ≤ i := by omega
    have hm : (s : Int) * ((k : Int) + 4) = ((s * (k + 4) : Nat) : Int) := by push_cast; rfl
    have hb : s * (k + 4) ≤ 2 * 6148 := Nat.mul_le_mul hs (by omega)
    by_cases h2 : s < 2
    · have h2' : (s : Int) < 2 := by omega
      by_cases h3 : i < (f : Int)
      · rw [Rm.el_fill h2 h3]
        clear hm hb
        go_enter Try.func28, Try.ntmps28
        go_wp2
        go_ret
        exact ⟨rfl, rfl⟩
      · rw [Rm.el_pos h0 (fun _ => by omega)]
        generalize s * (k + 4) = m at *
        go_enter Try.func28, Try.ntmps28
        go_wp2
        go_ret
        exact ⟨rfl, rfl⟩
    · have h2' : ¬ (s : Int) < 2 := by omega
      rw [Rm.el_pos h0 (fun h => absurd h h2)]
      generalize s * (k + 4) = m at *
      go_enter Try.func28, Try.ntmps28
      go_wp2
      go_ret
      exact ⟨rfl, rfl⟩
set_option maxHeartbeats 1000000 in
theorem refUsable_any (w : World) (v : Value) (L : List Int) (hv : Vw w v (L.map (Value.int .i64))) (hl : L.length ≤ 9223372036854775806) :
    Calls Try.prog 16 #[v] w fun e w' => e = .returned (.int .i64 (Rm.cnt L L.length)) ∧ w = w' := by
  rcases vw_split hv with ⟨a, c, rfl, rfl⟩ | ⟨b, off, c, rfl, hp0, hc⟩
  · clear hv
    go_enter Try.func16, Try.ntmps16
    go_wp2
    refine wp_loop_rounds 1 ?_
    rw [rounds_succ]
    go_wp2
    go_ret
    exact ⟨rfl, rfl⟩
  · have HC := hid hc
    clear hv hc
    go_enter Try.func16, Try.ntmps16
    go_wp2
    go_loopw [3, 4] (fun n i wr => ∃ k : Nat, k ≤ L.length ∧ n = .int .i64 (Rm.cnt L k) ∧ i = .int .i64 k ∧ w = wr) (fun _ i _ => L.length - (intOf i).toNat)
    case atStart => exact ⟨0, Nat.zero_le _, rfl, rfl, rfl⟩
    case round =>
      obtain ⟨k, hk, rfl, rfl, rfl⟩ := hrel
      by_cases hlt : k < L.length
      · have hx := HC.out k hlt
        have hle := Rm.cnt_le L k
        have HS := hid (show Rm.cnt L (k + 1) = Rm.cnt L k + (if Rm.us (L.getD k 0) = true then 1 else 0) from rfl)
        unfold Rm.us at HS
        obtain ⟨x, hxe⟩ : ∃ x, x = L.getD k 0 := ⟨_, rfl⟩
        rw [← hxe] at hx HS
        clear hxe
        by_cases hn : 0 ≤ x
        · rw [decide_eq_true hn, if_pos rfl] at HS
          go_wp2
          go_roundw
          case rel => exact ⟨k + 1, by omega, by rw [HS.out]; go_num, by go_num, trivial⟩
          case measure => simp [intOf]; omega
        · rw [decide_eq_false hn, if_neg (by simp)] at HS
          go_wp2
          go_roundw
          case rel => exact ⟨k + 1, by omega, by rw [HS.out]; go_num, by go_num, trivial⟩
          case measure => simp [intOf]; omega
      · obtain rfl : k = L.length := by omega
        go_wp2
        go_ret
        exact ⟨rfl, rfl⟩
theorem ceil_div {n m : Nat} (hm : 1 ≤ m) : (n + m - 1) / m = n / m + (if n % m = 0 then 0 else 1) := by
  have h := Nat.div_add_mod n m
  have hl := Nat.mod_lt n (show 0 < m by omega)
  generalize n / m = q at *
  generalize n % m = r at *
  subst h
  split
  · refine Nat.div_eq_of_lt_le ?_ ?_
    · rw [Nat.add_zero, Nat.mul_comm]; omega
    · rw [Nat.add_zero, Nat.add_mul, Nat.mul_comm q m]; omega
  · refine Nat.div_eq_of_lt_le ?_ ?_
    · rw [Nat.add_mul, Nat.mul_comm q m]; omega
    · rw [Nat.add_mul, Nat.add_mul, Nat.mul_comm q m]; omega
set_option maxHeartbeats 1000000 in
theorem refStart_any (k n rv R : Nat) (hk1 : 40 ≤ k) (hk2 : k ≤ 6144) (hR : R = Rm.rows k) (hn0 : 1 ≤ n) (hn : n ≤ 96 * R) (hrv : rv ≤ 3) (w : World) :
    Calls Try.prog 18 #[.int .i64 k, .int .i64 n, .int .i64 rv] w fun e w' => e = .returned (.int .i64 (Rm.start R n rv)) ∧ w = w' := by
  have hr := Rm.rows_bd hk1 hk2
  rw [← hR] at hr
  obtain ⟨k4, hk4⟩ : ∃ k4, k4 = k + 4 := ⟨_, rfl⟩
  have HC := hid (show ∀ w, Calls Try.prog 30 #[.int .i64 (k4 : Nat)] w fun e w' => e = .returned (.int .i64 R) ∧ w = w' from fun w => by
    have := refRows_any (k4 : Nat) w
    rwa [Cols.rowsZ_in (by omega) (by omega), show ((k4 : Nat) : Int) = (k : Int) + 4 by omega, show ((k : Int) + 4 + 31) / 32 = (R : Int) by omega, show (k : Int) + 4 = ((k4 : Nat) : Int) by omega] at this)
  have e0 : IntKind.i64.wrap ((k : Int) + 4) = (k4 : Int) := by rw [IntWalk.i64_in _ (by omega)]; omega
  have e0' : (k : Int) + 4 = (k4 : Int) := by omega
  obtain ⟨m8, hm8⟩ : ∃ m, m = 8 * R := ⟨_, rfl⟩
  obtain ⟨d, hd⟩ : ∃ d, d = n / m8 := ⟨_, rfl⟩
  obtain ⟨r8, hr8⟩ : ∃ d, d = n % m8 := ⟨_, rfl⟩
  have hdb : d ≤ 12 := by
    have : n / m8 < 13 := Nat.div_lt_of_lt_mul (by omega)
    omega
  obtain ⟨q, hq⟩ : ∃ q, q = d + (if r8 = 0 then 0 else 1) := ⟨_, rfl⟩
  have hqc : (n + 8 * R - 1) / (8 * R) = q := by rw [ceil_div (by omega), ← hm8, ← hd, ← hr8, hq]
  have hqb : q ≤ 13 := by rw [hq]; split <;> omega
  obtain ⟨q2, hq2⟩ : ∃ m, m = 2 * q := ⟨_, rfl⟩
  obtain ⟨p, hp⟩ : ∃ p, p = q2 * rv := ⟨_, rfl⟩
  have hpb : p ≤ 26 * 3 := by rw [hp]; exact Nat.mul_le_mul (by omega) hrv
  obtain ⟨t, ht⟩ : ∃ t, t = p + 2 := ⟨_, rfl⟩
  obtain ⟨M, hM⟩ : ∃ M, M = R * t := ⟨_, rfl⟩
  have hMb : M ≤ 193 * 80 := by rw [hM]; exact Nat.mul_le_mul (by omega) (by omega)
  obtain ⟨r, hrr⟩ : ∃ r, r = M % n := ⟨_, rfl⟩
  have HRes := hid (show Rm.start R n rv = r by
    unfold Rm.start
    rw [hqc, hrr, hM, ht, hp, hq2])
  have e1 : IntKind.i64.wrap (8 * (R : Int)) = (m8 : Int) := by rw [IntWalk.i64_in _ (by omega)]; omega
  have e1' : 8 * (R : Int) = (m8 : Int) := by omega
  have e4 : (n : Int).tdiv (m8 : Int) = (d : Int) := by rw [tdiv_nat, hd]
  have e4' : (n : Int).tmod (m8 : Int) = (r8 : Int) := by rw [tmod_nat, hr8]
  have e6 : IntKind.i64.wrap (2 * (q : Int)) = (q2 : Int) := by rw [IntWalk.i64_in _ (by omega)]; omega
  have e6' : 2 * (q : Int) = (q2 : Int) := by omega
  have e7 : (q2 : Int) * (rv : Int) = (p : Int) := by rw [hp]; exact (Int.natCast_mul _ _).symm
  have e8 : IntKind.i64.wrap ((p : Int) + 2) = (t : Int) := by rw [IntWalk.i64_in _ (by omega)]; omega
  have e8' : (p : Int) + 2 = (t : Int) := by omega
  have e9 : (R : Int) * (t : Int) = (M : Int) := by rw [hM]; exact (Int.natCast_mul _ _).symm
  have e10 : (M : Int).tmod (n : Int) = (r : Int) := by rw [tmod_nat, hrr]
  have n1 : ¬ (m8 : Int) = 0 := by omega
  have n2 : ¬ (n : Int) = 0 := by omega
  have n3 : ¬ m8 = 0 := by omega
  have n4 : ¬ n = 0 := by omega
  have hrb : r < n := by rw [hrr]; exact Nat.mod_lt _ (by omega)
  have v1 := IntWalk.i64_in (k4 : Int) (by omega)
  have v2 := IntWalk.i64_in (m8 : Int) (by omega)
  have v3 := IntWalk.i64_in (d : Int) (by omega)
  have v4 := IntWalk.i64_in (q : Int) (by omega)
  have v5 := IntWalk.i64_in (q2 : Int) (by omega)
  have v6 := IntWalk.i64_in (p : Int) (by omega)
  have v7 := IntWalk.i64_in (t : Int) (by omega)
  have v8 := IntWalk.i64_in (M : Int) (by omega)
  have v9 := IntWalk.i64_in (r8 : Int) (by rw [hr8]; have := Nat.mod_lt n (show 0 < m8 by omega); omega)
  by_cases hz : r8 = 0
  · rw [if_pos hz] at hq
    have hz' : (r8 : Int) = 0 := by omega
    have hqd : (d : Int) = (q : Int) := by omega
    clear hm8 hd hr8 hq hqc hq2 hp ht hM hrr hpb hn hR hr hz hdb hqb hMb hrb hk4 hk1 hk2 hrv hn0
    go_enter Try.func18, Try.ntmps18
    go_wp2_with (go_at_call 30; refine (HC.out _).mono ?_; rintro e w' ⟨rfl, rfl⟩)
    go_ret
    exact ⟨ret_int (by rw [HRes.out]), rfl⟩
  · rw [if_neg hz] at hq
    have hz' : 0 < (r8 : Int) := by omega
    have hqd : (d : Int) + 1 = (q : Int) := by omega
    clear hm8 hd hr8 hq hqc hq2 hp ht hM hrr hpb hn hR hr hz hdb hqb hMb hrb hk4 hk1 hk2 hrv hn0
    go_enter Try.func18, Try.ntmps18
    go_wp2_with (go_at_call 30; refine (HC.out _).mono ?_; rintro e w' ⟨rfl, rfl⟩)
    go_ret
    exact ⟨ret_int (by rw [HRes.out]), rfl⟩
end Go.Proofs.Ytloldjmibjkkkaa
