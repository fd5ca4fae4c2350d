/- userplane/soft: slices.Clone, Signs and its iterator. -/
import Derived.Test.YtmbjcpppbgapbaaLaws11a
import Derived.Test.YtmbjcpppbgapbaaIter
import Derived.Test.YtmbjcpppbgapbaaCopy
import Derived.Test.YtmbjcpppbgapbaaVwB
import Derived.Test.YtmbjcpppbgapbaaGri9c
namespace Go.Proofs.Ytmbjcpppbgapbaa
open Go.RowKit Go.Shelf
set_option linter.unusedVariables false
attribute [local go_sem] Oper.semAt_some
def Blk (w : World) (g : Nat) (t : TypeId) (cs : Array Value) : Prop := w.heap[g]? = some (.cells cs t (0, 0))
section
variable {w w' : World} {g : Nat} {t : TypeId} {cs : Array Value}
theorem Blk.lt (h : Blk w g t cs) : g < w.heap.size := (Array.getElem?_eq_some_iff.1 h).1
theorem Blk.cell (h : Blk w g t cs) (i : Nat) : w.cell? ⟨g, i, none⟩ = cs[i]? := cell_of_row w g i cs t (0, 0) h
theorem Blk.frozen (h : Blk w g t cs) (i : Nat) : w.frozen? ⟨g, i, none⟩ = false := by
  unfold Blk at h
  simp [World.frozen?, h]
theorem Blk.new (w : World) (t : TypeId) (cs : Array Value) : Blk (w.alloc (.cells cs t)) w.heap.size t cs := heap_alloc_new w _
theorem Blk.set_ (h : Blk w g t cs) (i : Nat) (u : Value) : Blk (w.setCell ⟨g, i, none⟩ u) g t (cs.setIfInBounds i u) := by
  unfold Blk at h ⊢
  simp [World.setCell, Array.getElem?_modify, h]
theorem Blk.fr {S : Nat → Prop} (h : Blk w g t cs) (hf : Fr S w w') (hs : ¬ S g) : Blk w' g t cs := (hf.block g h.lt hs).trans h
theorem Blk.below {B : Nat} (h : Blk w g t cs) (hb : Below B w w') (hg : g < B) : Blk w' g t cs := (hb.block g hg).trans h
end
theorem Vw.keep {T : Nat → Prop} {W W' : World} {v : Value} {vs : List Value} (h : Vw W v vs) (hk : KeepT T W W') (hT : ∀ b off n c, v = .slice (some ⟨b, off, none⟩) n c → 0 < n → T b) : Vw W' v vs := by
  obtain ⟨a, c, rfl, h⟩ := h
  refine ⟨a, c, rfl, fun i hi => ?_⟩
  obtain ⟨b, off, rfl, hc⟩ := h i hi
  exact ⟨b, off, rfl, hk.cell hc (hT b off _ c rfl (by omega))⟩
theorem Vw.lt {W : World} {v : Value} {vs : List Value} (h : Vw W v vs) : ∀ b off n c, v = .slice (some ⟨b, off, none⟩) n c → 0 < n → b < W.heap.size := by
  rintro b off n c rfl hn
  obtain ⟨a, c', e, h⟩ := h
  simp only [Value.slice.injEq] at e
  obtain ⟨rfl, rfl, rfl⟩ := e
  obtain ⟨b', off', e2, hc⟩ := h 0 hn
  simp only [Option.some.injEq, Addr.mk.injEq, and_true] at e2
  obtain ⟨rfl, rfl⟩ := e2
  exact World.block_lt_of_cell? W _ hc
theorem sclone_any (w : World) (v : Value) (A : List Int) (hv : Vw w v (A.map (Value.int .i64))) (hl : A.length ≤ 17592186044415) :
    Calls Try.prog 47 #[v] w fun e w' => (∃ v', e = .returned v' ∧ OwnL w' w.heap.size 3 v' (A.map (Value.int .i64))) ∧ Below w.heap.size w w' := by
  have HV := hid hv
  obtain ⟨a, c, rfl, hc⟩ := hv
  cases a with
  | none =>
    have h0 : A = [] := by
      cases A with
      | nil => rfl
      | cons x l => obtain ⟨b, off, h, _⟩ := hc 0 (by simp); cases h
    subst h0
    clear hc
    have hnil := fun w : World => Lib.run_eql_slice_nil (P := Try.prog) w 26 3 none 0 c 0 0 Try.underlying26
    simp only [Option.isNone_none] at hnil
    go_enter Try.func47, Try.ntmps47
    go_wp2
    go_ret
    exact ⟨⟨_, rfl, OwnL.nil _ _ _⟩, Below.refl _ _⟩
  | some a =>
    rw [List.length_map] at HV ⊢
    clear hc
    have hnil := fun w : World => Lib.run_eql_slice_nil (P := Try.prog) w 26 3 (some a) A.length c 0 0 Try.underlying26
    simp only [Option.isNone_some] at hnil
    go_enter Try.func47, Try.ntmps47
    go_wp2_with (at_builtin; refine wpList_copy_list rfl ielem_map (.tmp 5) (.tmp 6) rfl rfl _ (A.map (Value.int .i64)) rfl HV.out (one_ints _ _) (by simp; omega) (by simp; omega) ?_; intro v' w1 O1 B1)
    go_ret
    exact ⟨⟨_, rfl, O1⟩, B1⟩
namespace Soft
/-- What the iterator goes over. -/
def own (A : List Int) : List Int := if bad A = true then [] else A
theorem own_len (A : List Int) : (own A).length ≤ A.length := by unfold own; split <;> simp
/-- The positions of the known elements. -/
def nzp (A : List Int) (i : Nat) : Bool := A.getD i 0 != 0
def pos (A : List Int) : List Int := Gr.sel (nzp (own A)) (own A).length
end Soft
theorem signs_any (w : World) (v : Value) (A : List Int) (hv : Vw w v (A.map (Value.int .i64))) (hl : A.length ≤ 1000000) :
    Calls Try.prog 31 #[v] w fun e w' => (∃ u, e = .returned (.func (.func 48) #[] #[.pointer (some ⟨w.heap.size, 0, none⟩)]) ∧ Blk w' w.heap.size 26 #[u] ∧ VwA w' w.heap.size u ((Soft.own A).map (Value.int .i64))) ∧ Below w.heap.size w w' := by
  have hv1 := hv.below (below_alloc w (.cells #[.slice none 0 0] 26)) (Nat.le_refl _)
  have VA := hid (valid_any _ v A hv1 (by omega))
  have HV := hid hv1
  obtain ⟨a, c, rfl, hc⟩ := hv
  rw [List.length_map] at VA HV ⊢
  clear hc hv1
  cases hb : Soft.bad A with
  | true =>
    rw [show Soft.own A = [] from if_pos hb]
    rw [hb] at VA
    clear hb
    go_enter Try.func31, Try.ntmps31
    go_wp2_with fail
    refine VA.out.mono ?_
    rintro r w1 ⟨rfl, B⟩
    have HB1 := hid (show Blk w1 w.heap.size 26 #[.slice none 0 0] from Blk.below (Blk.new w _ _) B (by simp))
    have HB := hid (below_then (below_alloc w _) B)
    clear B
    go_wp2
    go_ret
    exact ⟨⟨_, rfl, HB1.out, VwA.nil _ _ _⟩, HB.out⟩
  | false =>
    rw [show Soft.own A = A from if_neg (by simp [hb])]
    rw [hb] at VA
    clear hb
    go_enter Try.func31, Try.ntmps31
    go_wp2_with fail
    refine VA.out.mono ?_
    rintro r w1 ⟨rfl, B⟩
    have HB1 := hid (show Blk w1 w.heap.size 26 #[.slice none 0 0] from Blk.below (Blk.new w _ _) B (by simp))
    have HB := hid (below_then (below_alloc w _) B)
    have HC := hid (sclone_any w1 _ A (HV.out.below B (Nat.le_refl _)) (by omega))
    clear B
    go_wp2_with fail
    refine HC.out.mono ?_
    rintro r w2 ⟨⟨v', rfl, hO⟩, B⟩
    have hlt := HB1.out.lt
    have HB2 := hid (HB1.out.below B hlt)
    have HBB := hid (below_then HB.out B)
    have c0 : w2.cell? ⟨w.heap.size, 0, none⟩ = some (.slice none 0 0) := HB2.out.cell 0
    have f0 := HB2.out.frozen 0
    have HO := hid hO
    obtain ⟨a2, c2, rfl⟩ := hO.is_slice
    rw [List.length_map] at HO
    rw [List.length_map]
    clear B hO
    go_wp2
    go_ret
    have F : Fr (fun j => j = w.heap.size) w2 (w2.setCell ⟨w.heap.size, 0, none⟩ (.slice a2 A.length c2)) := Fr.setCell (S := fun j => j = w.heap.size) _ ⟨w.heap.size, 0, none⟩ _ rfl
    exact ⟨⟨_, rfl, HB2.out.set_ 0 _, (HO.out.vwA.fr F (fun b hb e => by omega)).mono (show w.heap.size ≤ w1.heap.size by omega)⟩, HBB.out.trans (F.below HBB.out.size (fun k hk e => by omega))⟩
set_option maxHeartbeats 2000000 in
theorem signs1_iter (A : List Int) (hl : A.length ≤ 1000000) (bo : Nat) (u : Value) (T : Nat → Prop) (hTo : T bo) (hTu : ∀ b off n c, u = .slice (some ⟨b, off, none⟩) n c → 0 < n → T b) (w : World)
    (hco : w.cell? ⟨bo, 0, none⟩ = some u) (hu : Vw w u (A.map (Value.int .i64))) (hT : ∀ b, T b → b < w.heap.size) :
    IterC Try.prog 48 #[.pointer (some ⟨bo, 0, none⟩)] (fun k => #[.int .i64 ((Gr.sel (Soft.nzp A) A.length).getD k 0), .int .u8 (Soft.sgn (A.getD ((Gr.sel (Soft.nzp A) A.length).getD k 0).toNat 0))]) (some (Gr.sel (Soft.nzp A) A.length).length) 0 T w := by
  intro l J Jx W hW hJ hJx hY h0 hN
  clear hN
  have hco' := (hW.cell (p := ⟨bo, 0, none⟩) (hT bo hTo)).trans hco
  have hu' := hu.below hW (Nat.le_refl _)
  have HY := hid hY
  have HTu := hid hTu
  obtain ⟨a, c, rfl, _⟩ := hu
  have Hu := hid hu'
  rw [List.length_map] at Hu hco' HTu
  clear hY hJ hco hJx hu' hTu
  refine calls_of_wp Try.func48 rfl ?_
  simp only [Try.ntmps48, List.size_toArray, List.length_cons, List.length_nil, Nat.reduceAdd, Nat.reduceSub, Array.replicate_succ, Array.replicate_zero, List.push_toArray, List.append_toArray, List.nil_append, List.cons_append]
  go_step3
  go_wp2
  go_step3
  go_wp2
  refine (wpIn_wide (n := 1)).1 ?_
  gi_loopw [7] (fun v wr => ∃ i : Nat, i ≤ A.length ∧ v = .int .i64 i ∧ J (Gr.sel (Soft.nzp A) i).length wr ∧ Vw wr (.slice a A.length c) (A.map (Value.int .i64))) (fun v _ => A.length - (intOf v).toNat)
  case atStart => exact ⟨0, Nat.zero_le _, rfl, h0, Hu.out⟩
  case round =>
    obtain ⟨i, hi, rfl, hJi, hV⟩ := hrel
    by_cases hlt : i < A.length
    · obtain ⟨b1, o1, c1, e1, hx⟩ := vw_at hV hlt
      cases e1
      cases hp : Soft.nzp A i with
      | false =>
        have hd : (A.getD i 0 == 0) = true := by simpa [Soft.nzp] using hp
        have hd2 : (A.getD i 0 != 0) = false := hp
        have HJk := hid (show J (Gr.sel (Soft.nzp A) (i + 1)).length wr by rw [Gr.sel_no hp]; exact hJi)
        have HV := hid hV
        generalize A.getD i 0 = x at *
        obtain rfl : x = 0 := by simpa using hd
        clear hJi hV hp
        gi_wp2
        refine ⟨trivial, ?_⟩
        gi_wp2
        refine ⟨fun _ h => (by cases h), ?_⟩
        gi_wp2
        go_roundw
        case rel => exact ⟨i + 1, by omega, by go_num, HJk.out, HV.out⟩
        case measure => simp [intOf]; omega
      | true =>
        have hd : (A.getD i 0 == 0) = false := by
          have h1 : (A.getD i 0 != 0) = true := hp
          rw [beq_eq_false_iff_ne]
          simpa using h1
        have hd2 : (A.getD i 0 != 0) = true := hp
        have hsy := Gr.sel_yes hp
        have hlen : (Gr.sel (Soft.nzp A) (i + 1)).length = (Gr.sel (Soft.nzp A) i).length + 1 := by rw [hsy]; simp
        have hple := Gr.sel_pre (p := Soft.nzp A) (show i + 1 ≤ A.length by omega)
        have hk : (Gr.sel (Soft.nzp A) i).length < (Gr.sel (Soft.nzp A) A.length).length := by have := hple.1; omega
        have hget : (Gr.sel (Soft.nzp A) A.length).getD (Gr.sel (Soft.nzp A) i).length 0 = (i : Int) := by
          rw [hple.2 _ (by omega), hsy]
          simp [List.getD]
        have hY := HY.out (Gr.sel (Soft.nzp A) i).length wr (fun n hn => by cases hn; exact hk) hJi
        rw [hget, Int.toNat_natCast] at hY
        have HS := hid (sign_any (A.getD i 0))
        have HLen := hid hlen
        have HV := hid hV
        have Hlt := hid hlt
        generalize A.getD i 0 = x at *
        clear hJi hV hp hsy hlen hple hk hget
        gi_wp2
        refine ⟨trivial, callsIn_wide.2 ((HS.out _).mono ?_)⟩
        rintro r w1 ⟨rfl, rfl⟩
        obtain ⟨fn, tmps, assign, body, hy, hR⟩ := hY
        gi_wp2
        refine hR.mono ?_
        rintro r W3 (⟨rfl, hJ3, hk3⟩ | ⟨rfl, hJx3⟩)
        · have HV3 := hid (HV.out.keep hk3 (fun b off n c e h0 => .inl (HTu.out b off n c e h0)))
          have HJ3 := hid (show J (Gr.sel (Soft.nzp A) (i + 1)).length W3 by rw [HLen.out]; exact hJ3)
          clear hk3 hJ3
          gi_wp2
          go_roundw
          case rel => exact ⟨i + 1, by omega, by go_num, HJ3.out, HV3.out⟩
          case measure => simp [intOf]; omega
        · gi_wp2
          rw [Exit.noGoto_normal]
          go_end0
          exact ⟨⟨_, rfl⟩, .inr ⟨_, hJx3⟩⟩
    · obtain rfl : i = A.length := by omega
      gi_wp2
      rw [Exit.noGoto_normal]
      go_end0
      exact ⟨⟨_, rfl⟩, .inl ⟨_, rfl, hJi⟩⟩
end Go.Proofs.Ytmbjcpppbgapbaa
