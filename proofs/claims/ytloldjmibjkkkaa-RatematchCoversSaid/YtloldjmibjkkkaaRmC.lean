/- userplane/ratematch: buffer, start, Buffer, Start; slices.Clone. -/
import Derived.Test.YtloldjmibjkkkaaRmB
import Derived.Test.YtloldjmibjkkkaaCopy
import Derived.Deep.QuietTactic
import Derived.BigQuiet
namespace Go.Proofs.Ytloldjmibjkkkaa
open Go.RowKit Go.Shelf
set_option linter.unusedVariables false
/-- A word's box. -/
def Boxed (b : Nat) (k f R n : Nat) (W : World) : Prop := W.cell? ⟨b, 0, none⟩ = some (.int .i64 k) ∧ W.cell? ⟨b, 1, none⟩ = some (.int .i64 f) ∧ W.cell? ⟨b, 2, none⟩ = some (.int .i64 R) ∧ W.cell? ⟨b, 3, none⟩ = some (.int .i64 n)
theorem Boxed.below {b k f R n B : Nat} {W W' : World} (h : Boxed b k f R n W) (hB : Below B W W') (hb : b < B) : Boxed b k f R n W' :=
  ⟨(hB.cell (p := ⟨b, 0, none⟩) hb).trans h.1, (hB.cell (p := ⟨b, 1, none⟩) hb).trans h.2.1, (hB.cell (p := ⟨b, 2, none⟩) hb).trans h.2.2.1, (hB.cell (p := ⟨b, 3, none⟩) hb).trans h.2.2.2⟩
set_option maxHeartbeats 1000000 in
theorem buffer_any (k f R n : Nat) (hk1 : 40 ≤ k) (hk2 : k ≤ 6144) (hf : f < k) (hR1 : k + 4 ≤ 32 * R) (hR2 : 32 * R < k + 4 + 32) (hn : n ≤ 96 * R) (w : World) :
    Calls Try.prog 23 #[wordV k f R n] w fun e w' => (∃ v', e = .returned v' ∧ Vw w' v' ((Rm.buf k f R n).map (Value.int .i64))) ∧ Below w.heap.size w w' := by
  have C := hid (fun w => full_any k f R n hk1 hk2 hf hR1 hR2 w)
  have hR : R ≤ 200 := by omega
  have hR0 : 2 ≤ R := by omega
  unfold wordV at *
  have hS0 : (w.alloc (.cells #[.int .i64 k, .int .i64 f, .int .i64 R, .int .i64 n] 42)).cell? ⟨w.heap.size, 0, none⟩ = some (.int .i64 k) ∧ (w.alloc (.cells #[.int .i64 k, .int .i64 f, .int .i64 R, .int .i64 n] 42)).cell? ⟨w.heap.size, 1, none⟩ = some (.int .i64 f) ∧ (w.alloc (.cells #[.int .i64 k, .int .i64 f, .int .i64 R, .int .i64 n] 42)).cell? ⟨w.heap.size, 2, none⟩ = some (.int .i64 R) ∧ (w.alloc (.cells #[.int .i64 k, .int .i64 f, .int .i64 R, .int .i64 n] 42)).cell? ⟨w.heap.size, 3, none⟩ = some (.int .i64 n) :=
    ⟨by go_simp, by go_simp, by go_simp, by go_simp⟩
  have hS1 : Below w.heap.size w (w.alloc (.cells #[.int .i64 k, .int .i64 f, .int .i64 R, .int .i64 n] 42)) := below_alloc _ _
  have hS2 : w.heap.size < (w.alloc (.cells #[.int .i64 k, .int .i64 f, .int .i64 R, .int .i64 n] 42)).heap.size := by simp
  go_enter Try.func23, Try.ntmps23
  go_wp2_with fail
  generalize w.alloc _ = W at hS0 hS1 hS2 ⊢
  have hSd : Below w.heap.size w W.drew := hS1.trans ((Fr.drew (fun _ => False) W).below hS1.size (fun _ _ h => h))
  have hn0 : (0 : Int) ≤ (n : Int) := by omega
  go_region_held3 (fun w' => w'.cell? ⟨w.heap.size, 0, none⟩ = some (.int .i64 k) ∧ w'.cell? ⟨w.heap.size, 1, none⟩ = some (.int .i64 f) ∧ w'.cell? ⟨w.heap.size, 2, none⟩ = some (.int .i64 R) ∧ w'.cell? ⟨w.heap.size, 3, none⟩ = some (.int .i64 n))
    (first
      | exact hS0
      | assumption
      | exact Boxed.below (B := W.drew.heap.size) (W := W.drew) hS0 hB1 hS2)
    (first
      | (go_at_call 34; refine (C.out _).mono ?_; rintro e w1 ⟨⟨v, rfl, hown⟩, hB1⟩; obtain ⟨g, cap, rfl⟩ := hown.shape (96 * R) (by simp [Rm.fullL_len]) (by omega); have hcap := hown.cap; have hcapI : (n : Int) ≤ (cap : Int) := by omega))
  go_wp2
  go_ret
  have := hown.vw.take n cap (by simp [Rm.fullL_len]; omega)
  rw [← List.map_take] at this
  exact ⟨⟨_, rfl, this⟩, hSd.trans (hB1.mono hSd.size)⟩
namespace Rm
/-- The start of a redundancy version. -/
def start (R n rv : Nat) : Nat := (R * (2 * ((n + 8 * R - 1) / (8 * R)) * rv + 2)) % n
end Rm
theorem clone_any (w : World) (v : Value) (A : List Int) (hv : Vw w v (A.map (Value.int .i64))) (hl : A.length ≤ 17592186044415) :
    Calls Try.prog 22 #[v] w fun e w' => (∃ v', e = .returned v' ∧ OwnL w' w.heap.size 3 v' (A.map (Value.int .i64))) ∧ Below w.heap.size w w' := by
  have HV := hid hv
  obtain ⟨a, c, rfl, hc⟩ := hv
  cases a with
  | none =>
    have h0 : A = [] := by
      cases A with
      | nil => rfl
      | cons x l => obtain ⟨b, off, h, _⟩ := hc 0 (by simp); cases h
    subst h0
    clear hc
    have hnil := fun w : World => Lib.run_eql_slice_nil (P := Try.prog) w 22 3 none 0 c 0 0 Try.underlying22
    simp only [Option.isNone_none] at hnil
    go_enter Try.func22, Try.ntmps22
    go_wp2
    go_ret
    exact ⟨⟨_, rfl, OwnL.nil _ _ _⟩, Below.refl _ _⟩
  | some a =>
    rw [List.length_map] at HV ⊢
    clear hc
    have hnil := fun w : World => Lib.run_eql_slice_nil (P := Try.prog) w 22 3 (some a) A.length c 0 0 Try.underlying22
    simp only [Option.isNone_some] at hnil
    go_enter Try.func22, Try.ntmps22
    go_wp2_with (at_builtin; refine wpList_copy_list rfl elem_int (.tmp 5) (.tmp 6) rfl rfl _ (A.map (Value.int .i64)) rfl HV.out (one_ints _ _) (by simp; omega) (by simp; omega) ?_; intro v' w1 O1 B1)
    go_ret
    exact ⟨⟨_, rfl, O1⟩, B1⟩

theorem tdiv_nat (a b : Nat) : (a : Int).tdiv (b : Int) = ((a / b : Nat) : Int) := by rw [Int.tdiv_eq_ediv_of_nonneg (by omega)]; rfl
theorem tmod_nat (a b : Nat) : (a : Int).tmod (b : Int) = ((a % b : Nat) : Int) := by rw [Int.tmod_eq_emod_of_nonneg (by omega)]; rfl
set_option maxHeartbeats 1000000 in
theorem start_any (k f R n rv : Nat) (hR0 : 2 ≤ R) (hR : R ≤ 200) (hn0 : 1 ≤ n) (hn : n ≤ 96 * R) (hrv : rv ≤ 3) (w : World) :
    Calls Try.prog 29 #[wordV k f R n, .int .i64 rv] w fun e w' => e = .returned (.int .i64 (Rm.start R n rv)) ∧ Below w.heap.size w w' := by
  obtain ⟨m8, hm8⟩ : ∃ m, m = 8 * R := ⟨_, rfl⟩
  obtain ⟨s, hs⟩ : ∃ s, s = n + m8 := ⟨_, rfl⟩
  obtain ⟨s1, hs1⟩ : ∃ s1, s1 + 1 = s := ⟨s - 1, by omega⟩
  obtain ⟨q, hq⟩ : ∃ q, q = s1 / m8 := ⟨_, rfl⟩
  have hqb : q ≤ 12 := by
    rw [hq]
    have : s1 / m8 < 13 := Nat.div_lt_of_lt_mul (by omega)
    omega
  obtain ⟨q2, hq2⟩ : ∃ m, m = 2 * q := ⟨_, rfl⟩
  obtain ⟨p, hp⟩ : ∃ p, p = q2 * rv := ⟨_, rfl⟩
  have hpb : p ≤ 24 * 3 := by rw [hp]; exact Nat.mul_le_mul (by omega) hrv
  obtain ⟨t, ht⟩ : ∃ t, t = p + 2 := ⟨_, rfl⟩
  obtain ⟨M, hM⟩ : ∃ M, M = R * t := ⟨_, rfl⟩
  have hMb : M ≤ 200 * 74 := by rw [hM]; exact Nat.mul_le_mul hR (by omega)
  obtain ⟨r, hr⟩ : ∃ r, r = M % n := ⟨_, rfl⟩
  have HRes := hid (show Rm.start R n rv = r by
    unfold Rm.start
    rw [hr, hM, ht, hp, hq2, hq, show s1 = n + 8 * R - 1 by omega, hm8])
  have e1 : IntKind.i64.wrap (8 * (R : Int)) = (m8 : Int) := by rw [IntWalk.i64_in _ (by omega)]; omega
  have e1' : 8 * (R : Int) = (m8 : Int) := by omega
  have e2 : IntKind.i64.wrap ((n : Int) + (m8 : Int)) = (s : Int) := by rw [IntWalk.i64_in _ (by omega)]; omega
  have e3 : IntKind.i64.wrap ((s : Int) - 1) = (s1 : Int) := by rw [IntWalk.i64_in _ (by omega)]; omega
  have e4 : (s1 : Int).tdiv (m8 : Int) = (q : Int) := by rw [tdiv_nat, hq]
  have e5 : IntKind.i64.wrap (q : Int) = (q : Int) := IntWalk.i64_in _ (by omega)
  have e6 : IntKind.i64.wrap (2 * (q : Int)) = (q2 : Int) := by rw [IntWalk.i64_in _ (by omega)]; omega
  have e7 : IntKind.i64.wrap ((q2 : Int) * (rv : Int)) = (p : Int) := by rw [show (q2 : Int) * (rv : Int) = (p : Int) by rw [hp]; exact (Int.natCast_mul _ _).symm]; exact IntWalk.i64_in _ (by omega)
  have e8 : IntKind.i64.wrap ((p : Int) + 2) = (t : Int) := by rw [IntWalk.i64_in _ (by omega)]; omega
  have e9 : IntKind.i64.wrap ((R : Int) * (t : Int)) = (M : Int) := by rw [show (R : Int) * (t : Int) = (M : Int) by rw [hM]; exact (Int.natCast_mul _ _).symm]; exact IntWalk.i64_in _ (by omega)
  have e10 : (M : Int).tmod (n : Int) = (r : Int) := by rw [tmod_nat, hr]
  have n1 : ¬ (m8 : Int) = 0 := by omega
  have n2 : ¬ (n : Int) = 0 := by omega
  have n3 : ¬ m8 = 0 := by omega
  have n4 : ¬ n = 0 := by omega
  clear hm8 hs hs1 hq hq2 hp ht hM hr hpb hMb hqb
  unfold wordV
  go_enter Try.func29, Try.ntmps29
  go_wp2
  obtain ⟨W, hW⟩ : ∃ W : World, W = w.alloc (.cells #[.int .i64 k, .int .i64 f, .int .i64 R, .int .i64 n] 42) := ⟨_, rfl⟩
  go_quiet (fail)
  go_wp2
  go_ret
  exact ⟨ret_int (by rw [HRes.out]), (below_alloc w _).trans ((Fr.drewN (fun _ => False) _ _).below (by simp) (fun _ _ h => h))⟩
end Go.Proofs.Ytloldjmibjkkkaa
