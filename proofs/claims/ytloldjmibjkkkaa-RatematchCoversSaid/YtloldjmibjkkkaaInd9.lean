/- userplane/subblock: the iterator over the matrix indices. -/
import Derived.Test.YtloldjmibjkkkaaSub9
namespace Go.Proofs.Ytloldjmibjkkkaa
open Go.RowKit Go.Shelf

theorem shift_call {W : World} {T : Nat → Prop} {sh : Value} {R : Nat} {s : Int} (h : ShiftOk W T sh R s) (hR : 1 ≤ R) (hR2 : R ≤ 1000) :
    ∃ f lb, sh = .func (.func f) #[] lb ∧ (∀ args w, (callFunc f args).run Try.prog w = .ok (.enter f args) w) ∧
      ∀ W', (∀ b, b < W.heap.size → T b → W'.heap[b]? = W.heap[b]?) → ∀ m : Nat, m ≤ 100000 → Calls Try.prog f (#[.int .i64 m] ++ lb) W' fun e w' => e = .returned (.int .i64 (if s = 2 then (m + 1) % (32 * R) else m : Nat)) ∧ w' = W' := by
  have h' := h
  rcases h with ⟨h, rfl⟩ | ⟨h, b, rfl, _, hc⟩
  · exact ⟨_, _, rfl, enters_of Try.func43 (by kernel_rfl) rfl, fun W' _ m _ => by rw [if_neg h]; exact shift1_any _ _⟩
  · refine ⟨_, _, rfl, enters_of Try.func44 (by kernel_rfl) rfl, fun W' hk m hm => ?_⟩
    rw [if_pos h]
    rcases h'.keep hk with ⟨h2, _⟩ | ⟨_, b', e, _, hc'⟩
    · exact absurd h h2
    · simp at e; subst e
      exact shift2_any m _ R W' hm hR hR2 hc'

set_option maxHeartbeats 2000000 in
theorem indices1_iter (R B : Nat) (s : Int) (hR1 : 1 ≤ R) (hR2 : R ≤ 1000) (T : Nat → Prop) (hTB : T B) (sh : Value) (w : World) (hc0 : w.cell? ⟨B, 0, none⟩ = some (.int .i64 R)) (hc1 : w.cell? ⟨B, 1, none⟩ = some sh) (hsh : ShiftOk w T sh R s) (hT : ∀ b, T b → b < w.heap.size) :
    IterC Try.prog 45 #[.pointer (some ⟨B, 0, none⟩)] (fun k => #[.int .i64 k, .int .i64 (Ord.idx2 R s k)]) (some (32 * R)) 2 T w := by
  intro l J Jx W hW hJ hJx hY h0 _
  have hWs := hW.size
  have HI := hid (show (Try.prog.info? 66).map (·.size) = some Cols.permA.size by kernel_rfl)
  have hc0' := (hW.cell (p := ⟨B, 0, none⟩) (hT B hTB)).trans hc0
  have hc1' := (hW.cell (p := ⟨B, 1, none⟩) (hT B hTB)).trans hc1
  have hsh' : ShiftOk W T sh R s := hsh.keep (fun b hb _ => hW.block b hb)
  have HY := hid hY
  have HJ := hid hJ
  have HJx := hid hJx
  clear hY hJ hc0 hc1 hsh hJx
  refine calls_of_wp Try.func45 rfl ?_
  simp only [Try.ntmps45, List.size_toArray, List.length_cons, List.length_nil, Nat.reduceAdd, Nat.reduceSub, Array.replicate_succ, Array.replicate_zero, List.push_toArray, List.append_toArray, List.nil_append, List.cons_append]
  go_wp2_with (first
    | (go_at_call 46; refine (columns_any _).mono ?_; rintro e w' ⟨rfl, hBc, hszc⟩; have HSZ := hid hszc; clear hszc; have hcB := (hBc.cell (p := ⟨B, 0, none⟩) (Nat.lt_of_lt_of_le (hT B hTB) hWs)).trans hc0'; have hBl : B < w'.heap.size := Nat.lt_of_lt_of_le (hT B hTB) (Nat.le_trans hWs hBc.size))
    | (refine wpList_run_skip rfl (exec_store_new 66 (.tmp 3) (.tmp 5) rfl rfl _ _ (.agg Cols.permA) rfl HI.out Cols.permA_size Cols.permA_one) ?_))
  obtain ⟨W2, hW2⟩ : ∃ W2 : World, W2 = w'.alloc (.cells (Value.agg Cols.permA).cells 66) := ⟨_, rfl⟩
  have hB2 : Below W.heap.size W W2 := by rw [hW2]; exact hBc.alloc hBc.size _
  have hs2 : W2.heap.size = W.heap.size + 2 := by rw [hW2]; simp [HSZ.out]
  have hrow : W2.heap[W.heap.size + 1]? = some (.cells Cols.permA 66 (0, 0)) := by rw [hW2, ← HSZ.out]; exact heap_alloc_new w' _
  have hJ2 : J 0 W2 := HJ.out _ _ _ h0 ((Fr.of_below hB2).mono (fun k hk h => by omega))
  rw [← show W2 = w'.alloc (.cells Cols.permA 66) from hW2]
  rw [HSZ.out]
  have hcB2 : W2.cell? ⟨B, 0, none⟩ = some (.int .i64 R) := (hB2.cell (p := ⟨B, 0, none⟩) (Nat.lt_of_lt_of_le (hT B hTB) hWs)).trans hc0'
  have hcS2 : W2.cell? ⟨B, 1, none⟩ = some sh := (hB2.cell (p := ⟨B, 1, none⟩) (Nat.lt_of_lt_of_le (hT B hTB) hWs)).trans hc1'
  have hsh2 : ShiftOk W2 T sh R s := hsh'.keep (fun b hb _ => hB2.block b hb)
  obtain ⟨f, lb, rfl, hef, hsc⟩ := shift_call hsh2 hR1 hR2
  have HSC := hid hsc
  have HR := hid hrow
  have HW2 := hid hs2
  clear hsc hrow hs2 hsh2 hsh' hc0' hc1' hcB hBc hBl hW2 h0 HI HSZ
  refine (wpIn_wide (n := 1)).1 ?_
  gi_loopw [9] (fun i wr => ∃ k : Nat, k ≤ 32 * R ∧ i = .int .i64 k ∧ J k wr ∧ KeepT (fun b => T b ∨ (W.heap.size ≤ b ∧ b < W.heap.size + 2)) W2 wr) (fun i _ => 32 * R - (intOf i).toNat)
  case atStart => exact ⟨0, Nat.zero_le _, rfl, hJ2, KeepT.refl _ _⟩
  case round =>
    clear hJ2
    obtain ⟨k, hk, rfl, hJk, hKT⟩ := hrel
    have hT2 : ∀ b, T b → b < W2.heap.size := fun b hb => by have := hT b hb; have := HW2.out; omega
    by_cases hlt : k < 32 * R
    · have hcB := hKT.cell hcB2 (.inl hTB)
      have hcS := hKT.cell hcS2 (.inl hTB)
      have hrow : wr.heap[W.heap.size + 1]? = some (.cells Cols.permA 66 (0, 0)) := (hKT.2 _ (by rw [HW2.out]; omega) (.inr (by omega))).trans HR.out
      have hq32 : k / R < 32 := Nat.div_lt_of_lt_mul (by rw [Nat.mul_comm]; exact hlt)
      have hpc : wr.cell? ⟨W.heap.size + 1, k / R, none⟩ = some (.int .i64 (Cols.perm.getD (k / R) 0)) := by
        rw [cell_of_row _ _ _ _ _ _ hrow]; exact Cols.permA_at _ hq32
      have hbd := Cols.perm_bd (k / R) hq32
      have hkr : k % R < R := Nat.mod_lt _ (by omega)
      obtain ⟨q, hq⟩ : ∃ q : Nat, q = (Cols.perm.getD (k / R) 0).toNat := ⟨_, rfl⟩
      have hqz : Cols.perm.getD (k / R) 0 = (q : Int) := by rw [hq]; omega
      rw [hqz] at hpc
      have hq31 : q < 32 := by omega
      have hid' : Ord.idx2 R s k = (if s = 2 then (q + 32 * (k % R) + 1) % (32 * R) else q + 32 * (k % R)) := by
        unfold Ord.idx2 Ord.idx; rw [← hq]
      have hY := HY.out k wr.drew (fun n hn => by cases hn; exact hlt) (HJ.out _ _ _ hJk (Fr.drew _ _))
      rw [hid'] at hY
      have hcall := HSC.out wr.drew (fun b hb hTb => hKT.2 b hb (.inl hTb)) (q + 32 * (k % R)) (by omega)
      clear hcB2 hcS2 hJk hid' hq hqz hbd hrow
      gi_wp2
      have hR0 : ¬ R = 0 := by omega
      obtain ⟨c, hc⟩ : ∃ c : Nat, c = k / R := ⟨_, rfl⟩
      obtain ⟨r, hr⟩ : ∃ r : Nat, r = k % R := ⟨_, rfl⟩
      rw [← hc] at hq32 hpc
      rw [← hr] at hkr hY hcall
      rw [show ((q + 32 * r : Nat) : Int) = (q : Int) + 32 * (r : Int) by push_cast; rfl] at hcall
      generalize (if s = 2 then (q + 32 * r + 1) % (32 * R) else q + 32 * r) = v at hcall hY
      have hw1 : (k : Int) / (R : Int) = (c : Int) := by rw [hc]; rfl
      have hw2 : (k : Int).tmod (R : Int) = (r : Int) := by rw [hr]; rfl
      clear hc hr
      have hcz : (c : Int) < 32 := by omega
      have hw3 : IntKind.i64.wrap (c : Int) = c := IntWalk.i64_in _ (by omega)
      have hw4 : IntKind.i64.wrap (r : Int) = r := IntWalk.i64_in _ (by omega)
      have hw5 : IntKind.i64.wrap (32 * (r : Int)) = 32 * r := IntWalk.i64_in _ (by omega)
      have hw6 : IntKind.i64.wrap ((q : Int) + 32 * (r : Int)) = q + 32 * r := IntWalk.i64_in _ (by omega)
      have hkt : Try.prog.follows .mixedOrders = true := by kernel_rfl
      have HK := hid hkt
      clear hkt
      refine wpIn_tail_wide 17 HK.out (by kernel_rfl) (by kernel_rfl) ?_
      simp only [List.take_succ_cons, List.take_zero, List.drop_succ_cons, List.drop_zero]
      iterate 16 still_step
      still_call hcall
      refine wpStill_nil ?_
      clear hw1 hw2 hw3 hw4 hw5 hw6 hcall hcz hef
      obtain ⟨fn, tmps, assign, body, hy, hR⟩ := hY
      gi_wp2
      refine hR.mono ?_
      rintro e W3 (⟨rfl, hJ3, hk3⟩ | ⟨rfl, hJx3⟩)
      · gi_wp2
        go_roundw
        case rel => exact ⟨k + 1, by omega, by go_num, hJ3, hKT.trans hk3⟩
        case measure => simp [intOf]; omega
      · gi_wp2
        refine bodyPost_ret (results_none rfl _ _ _) rfl ?_
        exact ⟨⟨_, rfl⟩, .inr ⟨_, hJx3⟩⟩
    · obtain rfl : k = 32 * R := by omega
      gi_wp2
      go_end0
      exact ⟨⟨_, rfl⟩, .inl ⟨_, rfl, hJk⟩⟩
end Go.Proofs.Ytloldjmibjkkkaa
