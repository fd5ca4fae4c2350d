/- userplane/dematch: a buffer in a block; stream, fresh, none, Received; slices.Clone, Values. -/
import Derived.Test.YtpnmfnjpbhjddaaDem9
import Derived.Test.YtpnmfnjpbhjddaaQ1
import Derived.Test.YtpnmfnjpbhjddaaQ2
import Derived.IntWalk
import Derived.Shelf.Abstract
import Derived.Deep.QuietTactic
import Derived.Deep.RegionHeld3
import Derived.Deep.DrawnRows
import Derived.BigQuiet
namespace Go.Proofs.Ytpnmfnjpbhjddaa
open Go.RowKit Go.Shelf
set_option linter.unusedVariables false
attribute [local go_sem] Oper.semAt_some
attribute [local go_sem ↓] Go.wp_at_zero Go.wp_at_succ
def Blk (w : World) (g : Nat) (t : TypeId) (cs : Array Value) : Prop := w.heap[g]? = some (.cells cs t (0, 0))
section
variable {w w' : World} {g : Nat} {t : TypeId} {cs : Array Value}
theorem Blk.lt (h : Blk w g t cs) : g < w.heap.size := (Array.getElem?_eq_some_iff.1 h).1
theorem Blk.cell (h : Blk w g t cs) (i : Nat) : w.cell? ⟨g, i, none⟩ = cs[i]? := cell_of_row w g i cs t (0, 0) h
theorem Blk.frozen (h : Blk w g t cs) (i : Nat) : w.frozen? ⟨g, i, none⟩ = false := by
  unfold Blk at h
  simp [World.frozen?, h]
theorem Blk.new (w : World) (t : TypeId) (cs : Array Value) : Blk (w.alloc (.cells cs t)) w.heap.size t cs := heap_alloc_new w _
theorem Blk.set_ (h : Blk w g t cs) (i : Nat) (u : Value) : Blk (w.setCell ⟨g, i, none⟩ u) g t (cs.setIfInBounds i u) := by
  unfold Blk at h ⊢
  simp [World.setCell, Array.getElem?_modify, h]
theorem Blk.fr {S : Nat → Prop} (h : Blk w g t cs) (hf : Fr S w w') (hs : ¬ S g) : Blk w' g t cs := (hf.block g h.lt hs).trans h
theorem Blk.below {B : Nat} (h : Blk w g t cs) (hb : Below B w w') (hg : g < B) : Blk w' g t cs := (hb.block g hg).trans h
end
theorem Vw.keep {T : Nat → Prop} {W W' : World} {v : Value} {vs : List Value} (h : Vw W v vs) (hk : KeepT T W W') (hT : ∀ b off n c, v = .slice (some ⟨b, off, none⟩) n c → 0 < n → T b) : Vw W' v vs := by
  obtain ⟨a, c, rfl, h⟩ := h
  refine ⟨a, c, rfl, fun i hi => ?_⟩
  obtain ⟨b, off, rfl, hc⟩ := h i hi
  exact ⟨b, off, rfl, hk.cell hc (hT b off _ c rfl (by omega))⟩
theorem Vw.lt {W : World} {v : Value} {vs : List Value} (h : Vw W v vs) : ∀ b off n c, v = .slice (some ⟨b, off, none⟩) n c → 0 < n → b < W.heap.size := by
  rintro b off n c rfl hn
  obtain ⟨a, c', e, h⟩ := h
  simp only [Value.slice.injEq] at e
  obtain ⟨rfl, rfl, rfl⟩ := e
  obtain ⟨b', off', e2, hc⟩ := h 0 hn
  simp only [Option.some.injEq, Addr.mk.injEq, and_true] at e2
  obtain ⟨rfl, rfl⟩ := e2
  exact World.block_lt_of_cell? W _ hc
theorem sclone_any (w : World) (v : Value) (A : List Int) (hv : Vw w v (A.map (Value.int .i64))) (hl : A.length ≤ 17592186044415) :
    Calls Try.prog 38 #[v] w fun e w' => (∃ v', e = .returned v' ∧ OwnL w' w.heap.size 3 v' (A.map (Value.int .i64))) ∧ Below w.heap.size w w' := by
  have HV := hid hv
  obtain ⟨a, c, rfl, hc⟩ := hv
  cases a with
  | none =>
    have h0 : A = [] := by
      cases A with
      | nil => rfl
      | cons x l => obtain ⟨b, off, h, _⟩ := hc 0 (by simp); cases h
    subst h0
    clear hc
    have hnil := fun w : World => Lib.run_eql_slice_nil (P := Try.prog) w 22 3 none 0 c 0 0 Try.underlying22
    simp only [Option.isNone_none] at hnil
    go_enter Try.func38, Try.ntmps38
    go_wp2
    go_ret
    exact ⟨⟨_, rfl, OwnL.nil _ _ _⟩, Below.refl _ _⟩
  | some a =>
    rw [List.length_map] at HV ⊢
    clear hc
    have hnil := fun w : World => Lib.run_eql_slice_nil (P := Try.prog) w 22 3 (some a) A.length c 0 0 Try.underlying22
    simp only [Option.isNone_some] at hnil
    go_enter Try.func38, Try.ntmps38
    go_wp2_with (at_builtin; refine wpList_copy_list rfl ielem_map (.tmp 5) (.tmp 6) rfl rfl _ (A.map (Value.int .i64)) rfl HV.out (one_ints _ _) (by simp; omega) (by simp; omega) ?_; intro v' w1 O1 B1)
    go_ret
    exact ⟨⟨_, rfl, O1⟩, B1⟩

theorem up_alloc {w w' : World} {o : Obj} (h : Below (w.alloc o).heap.size (w.alloc o) w') : Below w.heap.size w w' := below_then (below_alloc w o) h
theorem bal {w w' : World} (h : Below w.heap.size w w') (o : Obj) : Below w.heap.size w (w'.alloc o) := h.alloc h.size o
theorem OwnL.rebase {w : World} {base g n cap : Nat} {e : TypeId} {v : Value} {xs : List Value} (h : OwnL w base e v xs) (hv : v = .slice (some ⟨g, 0, none⟩) n cap) : OwnL w g e v xs := by
  refine ⟨h.1, ?_⟩
  rcases h.2 with hn | ⟨g', cap', cur, e1, hb, r⟩
  · exact .inl hn
  · refine .inr ⟨g', cap', cur, e1, ?_, r⟩
    rw [hv] at e1
    simp at e1
    omega
theorem OwnL.stoI {w : World} {base : Nat} {e : TypeId} {g n cap : Nat} {V : List Int} (h : OwnL w base e (.slice (some ⟨g, 0, none⟩) n cap) (V.map (Value.int .i64))) (j : Nat) (x : Int) :
    OwnL (w.setCell ⟨g, j, none⟩ (.int .i64 x)) base e (.slice (some ⟨g, 0, none⟩) n cap) ((V.set j x).map (Value.int .i64)) := by
  rw [List.map_set]
  exact h.stored j _
/-- A buffer in block g, its values in block q. -/
structure DB (W : World) (g q : Nat) (k f : Nat) (limit : Int) (V : List Int) (n : Int) : Prop where
  ne : q ≠ g
  ex : ∃ cap, Blk W g 50 #[.int .i64 k, .int .i64 f, .int .i64 limit, .slice (some ⟨q, 0, none⟩) V.length cap, .int .i64 n] ∧ OwnL W q 3 (.slice (some ⟨q, 0, none⟩) V.length cap) (V.map (Value.int .i64))
theorem DB.fr {S : Nat → Prop} {W W' : World} {g q k f : Nat} {limit n : Int} {V : List Int} (h : DB W g q k f limit V n) (hf : Fr S W W') (hg : ¬ S g) (hq : ¬ S q) : DB W' g q k f limit V n := by
  obtain ⟨h0, cap, h1, h2⟩ := h
  exact ⟨h0, cap, h1.fr hf hg, h2.fr hf (fun g' e => by simp [Value.ownBlock] at e; subst e; exact hq)⟩
theorem DB.lt {W : World} {g q k f : Nat} {limit n : Int} {V : List Int} (h : DB W g q k f limit V n) : g < W.heap.size ∧ q < W.heap.size := by
  obtain ⟨h0, cap, h1, h2⟩ := h
  exact ⟨h1.lt, (h2.block (g := q) rfl).2⟩
theorem DB.below {B : Nat} {W W' : World} {g q k f : Nat} {limit n : Int} {V : List Int} (h : DB W g q k f limit V n) (hb : Below B W W') (hg : g < B) (hq : q < B) : DB W' g q k f limit V n :=
  h.fr (Fr.of_below hb) (by omega) (by omega)
theorem DB.blw {W W' : World} {g q k f : Nat} {limit n : Int} {V : List Int} (h : DB W g q k f limit V n) (hb : Below W.heap.size W W') : DB W' g q k f limit V n :=
  h.below hb h.lt.1 h.lt.2
/-- One value stored. -/
theorem DB.sto {W : World} {g q k f : Nat} {limit n : Int} {V : List Int} (h : DB W g q k f limit V n) (j : Nat) (x : Int) :
    DB (W.setCell ⟨q, j, none⟩ (.int .i64 x)) g q k f limit (V.set j x) n ∧ Fr (fun k => k = q) W (W.setCell ⟨q, j, none⟩ (.int .i64 x)) := by
  obtain ⟨h0, cap, h1, h2⟩ := h
  have F : Fr (fun k => k = q) W (W.setCell ⟨q, j, none⟩ (.int .i64 x)) := Fr.setCell (S := fun k => k = q) _ ⟨q, j, none⟩ _ rfl
  exact ⟨⟨h0, cap, by rw [List.length_set]; exact h1.fr F (fun e => h0 e.symm), by rw [List.length_set, List.map_set]; exact h2.stored j _⟩, F⟩
/-- The count stored. -/
theorem DB.cnt {W : World} {g q k f : Nat} {limit n : Int} {V : List Int} (h : DB W g q k f limit V n) (x : Int) :
    DB (W.setCell ⟨g, 4, none⟩ (.int .i64 x)) g q k f limit V x ∧ Fr (fun k => k = g) W (W.setCell ⟨g, 4, none⟩ (.int .i64 x)) := by
  obtain ⟨h0, cap, h1, h2⟩ := h
  have F : Fr (fun k => k = g) W (W.setCell ⟨g, 4, none⟩ (.int .i64 x)) := Fr.setCell (S := fun k => k = g) _ ⟨g, 4, none⟩ _ rfl
  exact ⟨⟨h0, cap, h1.set_ 4 _, h2.fr F (fun g' e => by simp [Value.ownBlock] at e; omega)⟩, F⟩
def PV (k f : Nat) (limit : Int) : Value := .agg #[.int .i64 k, .int .i64 f, .int .i64 limit]
theorem dstream_any (k f : Nat) (limit : Int) (hk : k ≤ 6144) (w : World) : Calls Try.prog 40 #[PV k f limit] w fun e w' => e = .returned (.int .i64 ((k + 4 : Nat) : Int)) ∧ Below w.heap.size w w' := by
  unfold PV
  have h1 : IntKind.i64.wrap ((k : Int) + 4) = ((k + 4 : Nat) : Int) := IntWalk.i64_in _ (by omega)
  go_enter Try.func40, Try.ntmps40
  go_wp2
  go_ret
  exact ⟨rfl, below_alloc _ _⟩
theorem dnone_no {w : World} {g q k f : Nat} {limit n : Int} {V : List Int} (hD : DB w g q k f limit V n) : Calls Try.prog 31 #[.pointer (some ⟨g, 0, none⟩)] w fun e w' => e = .returned (.bool false) ∧ w = w' := by
  obtain ⟨hne, cap, hA, hO⟩ := hD
  have p3 : w.cell? ⟨g, 3, none⟩ = some (.slice (some ⟨q, 0, none⟩) V.length cap) := hA.cell 3
  have hnil := Lib.run_eql_slice_nil (P := Try.prog) w 22 3 (some ⟨q, 0, none⟩) V.length cap 0 0 Try.underlying22
  simp only [Option.isNone_some] at hnil
  clear hA hO
  generalize V.length = m at *
  go_enter Try.func31, Try.ntmps31
  go_wp2
  go_ret
  exact ⟨rfl, rfl⟩
theorem dreceived_any {w : World} {g q k f : Nat} {limit n : Int} {V : List Int} (hD : DB w g q k f limit V n) : Calls Try.prog 16 #[.pointer (some ⟨g, 0, none⟩)] w fun e w' => e = .returned (.int .i64 n) ∧ w = w' := by
  have HN := hid (dnone_no hD)
  obtain ⟨hne, cap, hA, hO⟩ := hD
  have p4 : w.cell? ⟨g, 4, none⟩ = some (.int .i64 n) := hA.cell 4
  clear hA hO
  go_enter Try.func16, Try.ntmps16
  go_wp2_with fail
  refine HN.out.mono ?_
  rintro r w1 ⟨rfl, rfl⟩
  go_wp2
  go_ret
  exact ⟨rfl, rfl⟩
theorem dvalues_any {w : World} {g q k f : Nat} {limit n : Int} {V : List Int} (hD : DB w g q k f limit V n) (hV : V.length ≤ 100000) : Calls Try.prog 14 #[.pointer (some ⟨g, 0, none⟩)] w fun e w' => (∃ v', e = .returned v' ∧ OwnL w' w.heap.size 3 v' (V.map (Value.int .i64))) ∧ Below w.heap.size w w' := by
  have HN := hid (dnone_no hD)
  obtain ⟨hne, cap, hA, hO⟩ := hD
  have p3 : w.cell? ⟨g, 3, none⟩ = some (.slice (some ⟨q, 0, none⟩) V.length cap) := hA.cell 3
  have HC := hid (sclone_any w _ V hO.vw (by omega))
  clear hA hO
  go_enter Try.func14, Try.ntmps14
  go_wp2_with fail
  refine HN.out.mono ?_
  rintro r w1 ⟨rfl, rfl⟩
  go_wp2_with fail
  refine HC.out.mono ?_
  rintro r w2 ⟨⟨v', rfl, hO⟩, B⟩
  obtain ⟨a2, c2, rfl⟩ := hO.is_slice
  rw [List.length_map] at hO ⊢
  have HO := hid hO
  clear hO
  go_wp2
  go_ret
  exact ⟨⟨_, rfl, HO.out⟩, B⟩
set_option maxHeartbeats 1000000 in
theorem dfresh_any (k f : Nat) (limit : Int) (hk : k ≤ 6144) (hf : f < k) (w : World) : Calls Try.prog 18 #[PV k f limit] w fun e w' => (∃ g, e = .returned (.slice (some ⟨g, 0, none⟩) (3 * (k + 4)) (3 * (k + 4))) ∧ OwnL w' w.heap.size 3 (.slice (some ⟨g, 0, none⟩) (3 * (k + 4)) (3 * (k + 4))) ((De.freshN k f).map (Value.int .i64))) ∧ Below w.heap.size w w' := by
  have HS := hid (fun W => dstream_any k f limit hk W)
  unfold PV at HS ⊢
  obtain ⟨d, hd⟩ : ∃ d : Nat, d = k + 4 := ⟨_, rfl⟩
  rw [← hd] at HS ⊢
  have hdb : d ≤ 6148 := by omega
  have hfd : f < d := by omega
  have HD := hid hd
  clear hd
  have h3 : IntKind.i64.wrap (3 * (d : Int)) = ((3 * d : Nat) : Int) := by rw [IntWalk.i64_in _ (by omega)]; omega
  go_enter Try.func18, Try.ntmps18
  go_wp2_with fail
  refine (HS.out _).mono ?_
  rintro r w1 ⟨rfl, B1⟩
  have HP1 := hid (show Blk w1 w.heap.size 48 #[.int .i64 k, .int .i64 f, .int .i64 limit] from Blk.below (Blk.new w _ _) B1 (by simp))
  have HB1 := hid (up_alloc B1)
  have hlt1 := HP1.out.lt
  clear B1
  go_wp2_with (first
    | (at_make; refine wpList_run_value rfl (exec_make_one ielem_map (.tmp 7) (.tmp 7) rfl .i64 .i64 _ _ (3 * d) (3 * d) rfl rfl (by first | rfl | exact h3) (by first | rfl | exact h3) (Nat.le_refl _) (by omega) (by omega)) ?_; generalize hW2 : World.alloc _ _ = w2; have F2 : Fr (fun _ => False) w1 w2 := (by rw [← hW2]; exact Fr.alloc _ _ _); have HO2 := hid (show OwnL w2 w.heap.size 3 (.slice (some ⟨w1.heap.size, 0, none⟩) (3 * d) (3 * d)) ((De.freshN k 0).map (Value.int .i64)) by rw [← hW2, De.freshN, List.map_replicate, ← HD.out]; exact OwnL.zeros w1 _ _ _ _ (by omega) (by omega)); have HP2 := hid (HP1.out.fr F2 (fun h => h)); have HB2 := hid (HB1.out.trans (F2.below HB1.out.size (fun _ _ h => h))); have c1 : w2.cell? ⟨w.heap.size, 1, none⟩ = some (.int .i64 f) := HP2.out.cell 1; clear hW2 F2)
    | fail)
  obtain ⟨p0, hp0⟩ : ∃ p0, p0 = w.heap.size := ⟨_, rfl⟩
  rw [← hp0] at HP2 HO2 HB2 ⊢
  obtain ⟨g0, hg0⟩ : ∃ g0, g0 = w1.heap.size := ⟨_, rfl⟩
  rw [← hg0] at HO2 hlt1 ⊢
  rw [← hp0] at hlt1
  have HP0 := hid hp0
  clear HP1 HB1 c1 hp0 hg0
  go_loopw [11] (fun i wr => ∃ m : Nat, m ≤ f ∧ i = .int .i64 m ∧ Hid (OwnL wr p0 3 (.slice (some ⟨g0, 0, none⟩) (3 * d) (3 * d)) ((De.freshN k m).map (Value.int .i64))) ∧ Hid (Blk wr p0 48 #[.int .i64 k, .int .i64 f, .int .i64 limit]) ∧ Hid (Below p0 w wr)) (fun i _ => f - (intOf i).toNat)
  case atStart => exact ⟨0, Nat.zero_le _, rfl, HO2, HP2, HB2⟩
  case round =>
    obtain ⟨m, hm, rfl, hO, hP, hB⟩ := hrel
    have c0 : wr.cell? ⟨p0, 0, none⟩ = some (.int .i64 k) := hP.out.cell 0
    have c1 : wr.cell? ⟨p0, 1, none⟩ = some (.int .i64 f) := hP.out.cell 1
    have c2 : wr.cell? ⟨p0, 2, none⟩ = some (.int .i64 limit) := hP.out.cell 2
    by_cases hlt : m < f
    · go_wp2_with fail
      refine (HS.out _).mono ?_
      rintro r w3 ⟨rfl, B3⟩
      have hgl := (hO.out.block (g := g0) rfl).2
      have hpl := hP.out.lt
      have HO3 := hid (hO.out.fr (Fr.of_below B3) (fun g' e => by simp [Value.ownBlock] at e; omega))
      have HP3 := hid (hP.out.below B3 hpl)
      have HB3 := hid (hB.out.trans (B3.mono (by omega)))
      have hsx : IntKind.i64.wrap ((d : Int) + (m : Int)) = ((d + m : Nat) : Int) := by rw [IntWalk.i64_in _ (by omega)]; omega
      have hln : ((De.freshN k m).map (Value.int .i64)).length = 3 * d := by rw [List.length_map, De.freshN_len, HD.out]
      have x1 := HO3.out.at m (by omega)
      have x2 := HO3.out.at (d + m) (by omega)
      have z1 := HO3.out.free m
      have z2 := HO3.out.free (d + m)
      have HN := hid (show De.freshN k (m + 1) = ((De.freshN k m).set m 127).set (d + m) 127 by rw [De.freshN, ← HD.out])
      generalize ((De.freshN k m).map (Value.int .i64))[m]'_ = v1 at x1
      generalize ((De.freshN k m).map (Value.int .i64))[d + m]'_ = v2 at x2
      clear hO hP hB c0 c1 c2 B3 hln
      go_wp2
      go_roundw
      case rel =>
        have F : Fr (fun j => j = g0) w3 ((w3.setCell ⟨g0, m, none⟩ (.int .i64 127)).setCell ⟨g0, d + m, none⟩ (.int .i64 127)) := (Fr.setCell (S := fun j => j = g0) _ ⟨g0, m, none⟩ _ rfl).trans (Fr.setCell (S := fun j => j = g0) _ ⟨g0, d + m, none⟩ _ rfl)
        exact ⟨m + 1, by omega, by go_num, by rw [HN.out]; exact (HO3.out.stoI m 127).stoI (d + m) 127, HP3.out.fr F (by omega), HB3.out.trans (F.below (by have := HP3.out.lt; omega) (fun j hj e => by omega))⟩
      case measure => simp [intOf]; omega
    · obtain rfl : f = m := by omega
      have HO3 := hO
      have HB3 := hB
      clear hO hB hP
      go_wp2
      go_ret
      rw [HP0.out] at HO3 HB3
      exact ⟨⟨_, rfl, HO3.out⟩, HB3.out⟩
end Go.Proofs.Ytpnmfnjpbhjddaa
