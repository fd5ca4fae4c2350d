/- userplane/subblock.Order: its contract. -/
import Derived.Test.YtloldjmibjkkkaaInd9
import Derived.Test.YtloldjmibjkkkaaRefOrd
namespace Go.Proofs.Ytloldjmibjkkkaa
open Go.RowKit Go.Shelf
attribute [local go_sem] Oper.semAt_some

theorem ShiftOk.func {W : World} {T : Nat → Prop} {sh : Value} {R : Nat} {s : Int} (h : ShiftOk W T sh R s) : ∃ f lb, sh = .func (.func f) #[] lb := by
  rcases h with ⟨_, rfl⟩ | ⟨_, b, rfl, _⟩
  · exact ⟨_, _, rfl⟩
  · exact ⟨_, _, rfl⟩

set_option maxHeartbeats 2000000 in
theorem order_ok (d R : Nat) (s : Int) (hd1 : 1 ≤ d) (hd2 : d ≤ 6148) (hR1 : d ≤ 32 * R) (hR2 : 32 * R < d + 32) (hs0 : 0 ≤ s) (hs2 : s ≤ 2) (w : World) :
    Calls Try.prog 40 #[.int .i64 d, .int .i64 s] w fun e w' => ∃ v, e = .returned (.tuple #[v, .int .i64 0]) ∧
      OwnL w' w.heap.size 3 v ((Ord.outL d R s (32 * R)).map (Value.int .i64)) ∧ Below w.heap.size w w' := by
  have HOf := hid (fun w => of_ok d R s hd1 hd2 hR1 hR2 hs0 hs2 w)
  refine calls_of_wp_marks Try.func40 rfl ?_
  simp only [Try.ntmps40, List.size_toArray, List.length_cons, List.length_nil, Nat.reduceAdd, Nat.reduceSub, Array.replicate_succ, Array.replicate_zero, List.push_toArray, List.append_toArray, List.nil_append, List.cons_append]
  go_wp2_with (first
    | (go_at_call 41; refine (HOf.out _).mono ?_; rintro e w1 ⟨sh, rfl, hsh, hB1⟩; obtain ⟨f, lb, rfl⟩ := hsh.func)
    | (at_make; refine wpList_run_value rfl (exec_make_one elem_int (.tmp 22) (.tmp 22) rfl .i64 .i64 _ _ (32 * R) (32 * R) rfl rfl (by omega) (by omega) (Nat.le_refl _) (by omega) (by omega)) ?_)
    | (go_at_call 42; refine (indices_any _ _ _).mono ?_; rintro e w2 ⟨rfl, rfl⟩))
  obtain ⟨n1, hn1⟩ : ∃ n1, n1 = w1.heap.size := ⟨_, rfl⟩
  have hsz1 := hB1.size
  simp only [World.size_alloc] at hsz1 hB1 hsh
  obtain ⟨W, hW⟩ : ∃ W : World, W = (((w1.alloc (.cells #[.int .i64 R, .func (.func f) #[] lb] 59)).alloc (.cells (Array.replicate (32 * R) (Value.int .i64 0)) 3)).alloc (.cells #[.slice (some ⟨w1.heap.size + 1, 0, none⟩) (32 * R) (32 * R)] 22)).alloc (.cells #[.int .i64 R, .func (.func f) #[] lb] 59) := ⟨_, rfl⟩
  rw [← hW, ← hn1]
  rw [← hn1] at hW hsz1
  have hWs : W.heap.size = n1 + 4 := by rw [hW]; simp [hn1]
  have hBW : Below n1 w1 W := by rw [hW]; exact ((((Below.refl _ _).alloc (by omega) _).alloc (by simp; omega) _).alloc (by simp; omega) _).alloc (by simp; omega) _
  have hwW : Below w.heap.size w W := (((Below.refl _ _).alloc (Nat.le_refl _) _).trans (hB1.mono (by omega))).trans (hBW.mono (by omega))
  have hcd : W.cell? ⟨w.heap.size, 0, none⟩ = some (.int .i64 d) := by
    rw [hBW.cell (p := ⟨w.heap.size, 0, none⟩) (by simp; omega), hB1.cell (p := ⟨w.heap.size, 0, none⟩) (by simp)]; go_simp
  have hco : W.cell? ⟨n1 + 1 + 1, 0, none⟩ = some (.slice (some ⟨n1 + 1, 0, none⟩) (32 * R) (32 * R)) := by rw [hW]; go_simp
  have hown : OwnL W w.heap.size 3 (.slice (some ⟨n1 + 1, 0, none⟩) (32 * R) (32 * R)) ((Ord.partL d R s 0).map (Value.int .i64)) := by
    rw [Ord.partL_zero, List.map_replicate, hW]
    have h1 := OwnL.zeros (w1.alloc (.cells #[.int .i64 R, .func (.func f) #[] lb] 59)) w.heap.size 3 (32 * R) (.int .i64 0) (by simp; omega) (by omega)
    rw [World.size_alloc, ← hn1] at h1
    exact (h1.alloc _).alloc _
  have hit := indices1_iter R (n1 + 1 + 1 + 1) s (by omega) (by omega) (fun b => b = n1 + 1 + 1 + 1 ∨ (w.heap.size + 1 ≤ b ∧ b < n1)) (.inl rfl) (.func (.func f) #[] lb) W (by rw [hW]; go_simp) (by rw [hW]; go_simp)
    ((hsh.mono (fun b hb => .inr (by rw [← hn1] at hb; exact hb))).keep (fun b hb _ => hBW.block b (by omega))) (by intro b hb; omega)
  have HIT := hid hit
  have HW := hid hWs
  clear hit hW hBW hsh HOf hB1 hn1 hWs
  refine (wpIn_wide (n := 1)).1 ?_
  refine wpIn_range (gf := 45) (lb := #[.pointer (some ⟨n1 + 1 + 1 + 1, 0, none⟩)]) rfl (enters_of Try.func45 (by kernel_rfl) rfl) HIT.out (Below.refl _ _) (fun _ => rfl)
    (fun k V => OwnL V w.heap.size 3 (.slice (some ⟨n1 + 1, 0, none⟩) (32 * R) (32 * R)) ((Ord.partL d R s k).map (Value.int .i64)) ∧ V.cell? ⟨w.heap.size, 0, none⟩ = some (.int .i64 d) ∧ V.cell? ⟨n1 + 1 + 1, 0, none⟩ = some (.slice (some ⟨n1 + 1, 0, none⟩) (32 * R) (32 * R)) ∧ Below w.heap.size w V)
    (fun _ _ _ => False)
    (fun k A B h hf => ⟨h.1.fr hf (fun g e => by rw [HW.out]; simp [Value.ownBlock] at e; omega), (hf.cell (World.block_lt_of_cell? A _ h.2.1) (by rw [HW.out]; dsimp only; omega)).trans h.2.1, (hf.cell (World.block_lt_of_cell? A _ h.2.2.1) (by rw [HW.out]; dsimp only; omega)).trans h.2.2.1,
      h.2.2.2.trans (hf.below h.2.2.2.size (fun k hk h' => by rw [HW.out] at h'; omega))⟩)
    (fun _ _ _ _ h _ => h) ⟨hown, hcd, hco, hwW⟩ (fun h => by cases h) ?a1 ?assign ?body ?done (fun _ _ _ _ h => h.elim)
  case assign =>
    intro l k V K hK
    gi_wp2
    exact hK
  case body =>
    rintro l k V hk ⟨hownV, hcdV, hcoV, hBV⟩ hVs
    have hlt := hk _ rfl
    obtain ⟨m, hm⟩ : ∃ m : Nat, m = Ord.idx2 R s k := ⟨_, rfl⟩
    have hmR : m < 32 * R := by rw [hm]; exact Ord.idx2_lt hlt
    have hval := Ord.max_mat (32 * R - d) m
    have hfr := hownV.free k
    have hck := hownV.at k (by simp [Ord.partL_len]; exact hlt)
    obtain ⟨u, hu⟩ : ∃ u : Value, V.cell? ⟨n1 + 1, k, none⟩ = some u := ⟨_, hck⟩
    have HM := hid hm
    have HV := hid hval
    have HO := hid hownV
    rw [← hm]
    clear hm hval hck hownV hk hown hcd hco hwW HIT
    have fin : ∀ y : Int, y = Ord.matF (32 * R - d) m → KeepT (fun b => (b = n1 + 1 + 1 + 1 ∨ (w.heap.size + 1 ≤ b ∧ b < n1)) ∨ (W.heap.size ≤ b ∧ b < W.heap.size + 2 + 2)) V (V.setCell ⟨n1 + 1, k, none⟩ (.int .i64 y)) ∧
        OwnL (V.setCell ⟨n1 + 1, k, none⟩ (.int .i64 y)) w.heap.size 3 (.slice (some ⟨n1 + 1, 0, none⟩) (32 * R) (32 * R)) ((Ord.partL d R s (k + 1)).map (Value.int .i64)) ∧ (V.setCell ⟨n1 + 1, k, none⟩ (.int .i64 y)).cell? ⟨w.heap.size, 0, none⟩ = some (.int .i64 d) ∧
        (V.setCell ⟨n1 + 1, k, none⟩ (.int .i64 y)).cell? ⟨n1 + 1 + 1, 0, none⟩ = some (.slice (some ⟨n1 + 1, 0, none⟩) (32 * R) (32 * R)) ∧ Below w.heap.size w (V.setCell ⟨n1 + 1, k, none⟩ (.int .i64 y)) := by
      intro y hy
      have hf : Fr (fun b => b = n1 + 1) V (V.setCell ⟨n1 + 1, k, none⟩ (.int .i64 y)) := Fr.setCell V _ _ rfl
      refine ⟨KeepT.of_fr hf (by intro b hb; rw [HW.out] at hb; omega), ?_, ?_, ?_, hBV.setCell (p := ⟨n1 + 1, k, none⟩) (by dsimp only; omega) _⟩
      · have h1 := HO.out.stored k (.int .i64 y)
        rw [hy, HM.out, ← Ord.ordF, ← List.map_set, Ord.partL_set] at h1
        rw [hy, HM.out, ← Ord.ordF]; exact h1
      · exact (hf.cell (World.block_lt_of_cell? V _ hcdV) (by dsimp only; omega)).trans hcdV
      · exact (hf.cell (World.block_lt_of_cell? V _ hcoV) (by dsimp only; omega)).trans hcoV
    have HF := hid fin
    clear fin
    gi_wp2
    · exact HF.out _ (by rw [← HV.out]; omega)
    · exact HF.out _ (by rw [← HV.out]; omega)
  case done =>
    rintro D n V hn ⟨hownV, _, hcoV, hBV⟩ hD hDl
    cases hn
    rw [Ord.partL_full] at hownV
    clear hown hcd hco hwW HIT
    go_wp2
    have hf : Fr (fun b => b = D) V (V.putObj D (.deferred none)) := Fr.putObj V D _ rfl
    refine bodyPostM_ret1 hD rfl (results_tmp2 rfl _ _ _) ⟨_, rfl, hownV.fr hf (fun g e => by have := HW.out; simp [Value.ownBlock] at e; omega), hBV.trans (hf.below hBV.size (fun i hi e => by have := HW.out; omega))⟩

set_option maxHeartbeats 400000 in
theorem order_err (d s : Int) (h : d < 1 ∨ 6148 < d ∨ s < 0 ∨ 2 < s) (w : World) :
    Calls Try.prog 40 #[.int .i64 d, .int .i64 s] w fun e w' => e = .returned (.tuple #[.slice none 0 0, .int .i64 2]) ∧ Below w.heap.size w w' := by
  have HOf := hid (fun w => of_err d s h w)
  refine calls_of_wp_marks Try.func40 rfl ?_
  simp only [Try.ntmps40, List.size_toArray, List.length_cons, List.length_nil, Nat.reduceAdd, Nat.reduceSub, Array.replicate_succ, Array.replicate_zero, List.push_toArray, List.append_toArray, List.nil_append, List.cons_append]
  go_wp2_with (go_at_call 41; refine (HOf.out _).mono ?_; rintro e w1 ⟨rfl, hB1⟩)
  exact bodyPostM_ret0 rfl (results_tmp2 rfl _ _ _) ⟨rfl, ((Below.refl _ _).alloc (Nat.le_refl _) _).trans (hB1.mono (by simp)) |>.trans (((Below.refl _ _).alloc (by have := hB1.size; simp at this; omega) _))⟩
end Go.Proofs.Ytloldjmibjkkkaa
