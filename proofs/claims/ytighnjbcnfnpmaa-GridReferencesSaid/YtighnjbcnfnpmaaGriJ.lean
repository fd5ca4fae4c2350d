/- userplane/grid: References and its iterator. -/
import Derived.Test.YtighnjbcnfnpmaaGriW
import Derived.Test.YtighnjbcnfnpmaaIter
namespace Go.Proofs.Ytighnjbcnfnpmaa
open Go.RowKit Go.Shelf
set_option linter.unusedVariables false
attribute [local go_sem] Oper.semAt_some
theorem Vw.keep {T : Nat → Prop} {W W' : World} {v : Value} {vs : List Value} (h : Vw W v vs) (hk : KeepT T W W') (hT : ∀ b off n c, v = .slice (some ⟨b, off, none⟩) n c → 0 < n → T b) : Vw W' v vs := by
  obtain ⟨a, c, rfl, h⟩ := h
  refine ⟨a, c, rfl, fun i hi => ?_⟩
  obtain ⟨b, off, rfl, hc⟩ := h i hi
  exact ⟨b, off, rfl, hk.cell hc (hT b off _ c rfl (by omega))⟩
theorem Vw.lt {W : World} {v : Value} {vs : List Value} (h : Vw W v vs) : ∀ b off n c, v = .slice (some ⟨b, off, none⟩) n c → 0 < n → b < W.heap.size := by
  rintro b off n c rfl hn
  obtain ⟨a, c', e, h⟩ := h
  simp only [Value.slice.injEq] at e
  obtain ⟨rfl, rfl, rfl⟩ := e
  obtain ⟨b', off', e2, hc⟩ := h 0 hn
  simp only [Option.some.injEq, Addr.mk.injEq, and_true] at e2
  obtain ⟨rfl, rfl⟩ := e2
  exact World.block_lt_of_cell? W _ hc
namespace Gr
/-- What the iterator goes over. -/
def rfs (b t l : Int) : List Int := if vld b t l = true then refL b t l else []
theorem rfs_len (b t l : Int) : (rfs b t l).length ≤ 16800 := by
  unfold rfs
  split
  · rename_i h
    have := (vld_iff.1 h).b1
    have := sel_len (fun i => kd b t l i == 1) (168 * b).toNat
    unfold refL
    omega
  · simp
end Gr
theorem greferences_any (b t l : Int) (w : World) :
    Calls Try.prog 20 #[CV b t l] w fun e w' => (∃ u, e = .returned (.func (.func 42) #[] #[.pointer (some ⟨w.heap.size + 1, 0, none⟩)]) ∧ Blk w' (w.heap.size + 1) 34 #[u] ∧ VwA w' w.heap.size u ((Gr.rfs b t l).map (Value.int .i64))) ∧ Below w.heap.size w w' := by
  have HC := hid (check_any b t l)
  cases hv : Gr.vld b t l with
  | false =>
    rw [show Gr.rfs b t l = [] from if_neg (by simp [hv])]
    rw [hv, if_neg (by simp)] at HC
    clear hv
    go_enter Try.func20, Try.ntmps20
    go_wp2_with fail
    refine (HC.out _).mono ?_
    rintro r w1 ⟨rfl, B⟩
    have HB1 := hid (show Blk w1 (w.heap.size + 1) 34 #[.slice none 0 0] from Blk.below (by have := Blk.new (w.alloc (.cells #[.int .i64 b, .int .i64 t, .int .i64 l] 23)) 34 #[.slice none 0 0]; rw [World.size_alloc] at this; exact this) B (by simp))
    have HB := hid (up_alloc (up_alloc B))
    clear B
    go_wp2
    go_ret
    exact ⟨⟨_, rfl, HB1.out, VwA.nil _ _ _⟩, HB.out⟩
  | true =>
    rw [show Gr.rfs b t l = Gr.refL b t l from if_pos hv]
    rw [hv, if_pos rfl] at HC
    have HR := hid (references_any b t l (Gr.vld_iff.1 hv))
    clear hv
    go_enter Try.func20, Try.ntmps20
    go_wp2_with fail
    refine (HC.out _).mono ?_
    rintro r w1 ⟨rfl, B⟩
    have HA1 := hid (show Blk w1 w.heap.size 23 #[.int .i64 b, .int .i64 t, .int .i64 l] from Blk.below ((Blk.new w _ _).fr (Fr.alloc (fun _ => False) _ _) (fun h => h)) B (by simp; omega))
    have HB1 := hid (show Blk w1 (w.heap.size + 1) 34 #[.slice none 0 0] from Blk.below (by have := Blk.new (w.alloc (.cells #[.int .i64 b, .int .i64 t, .int .i64 l] 23)) 34 #[.slice none 0 0]; rw [World.size_alloc] at this; exact this) B (by simp))
    have HB := hid (up_alloc (up_alloc B))
    clear B
    have c0 : w1.cell? ⟨w.heap.size, 0, none⟩ = some (.int .i64 b) := HA1.out.cell 0
    have c1 : w1.cell? ⟨w.heap.size, 1, none⟩ = some (.int .i64 t) := HA1.out.cell 1
    have c2 : w1.cell? ⟨w.heap.size, 2, none⟩ = some (.int .i64 l) := HA1.out.cell 2
    go_wp2_with fail
    refine (HR.out _).mono ?_
    rintro r w2 ⟨⟨v', rfl, hO⟩, B⟩
    have hlt := HB1.out.lt
    have HB2 := hid (HB1.out.below B hlt)
    have HBB := hid (below_then HB.out B)
    have d0 : w2.cell? ⟨w.heap.size + 1, 0, none⟩ = some (.slice none 0 0) := HB2.out.cell 0
    have f0 := HB2.out.frozen 0
    obtain ⟨a2, q2, rfl, _⟩ := hO.vw
    have HO := hid hO
    rw [List.length_map] at HO ⊢
    clear B hO c0 c1 c2
    go_wp2
    go_ret
    have F : Fr (fun j => j = w.heap.size + 1) w2 (w2.setCell ⟨w.heap.size + 1, 0, none⟩ (.slice a2 (Gr.refL b t l).length q2)) := Fr.setCell (S := fun j => j = w.heap.size + 1) _ ⟨w.heap.size + 1, 0, none⟩ _ rfl
    exact ⟨⟨_, rfl, HB2.out.set_ 0 _, (HO.out.vwA.fr F (fun b hb e => by omega)).mono (show w.heap.size ≤ w1.heap.size by omega)⟩, HBB.out.trans (F.below HBB.out.size (fun k hk e => by omega))⟩
set_option maxHeartbeats 2000000 in
theorem refs1_iter (A : List Int) (hl : A.length ≤ 1000000) (bo : Nat) (u : Value) (T : Nat → Prop) (hTo : T bo) (hTu : ∀ b off n c, u = .slice (some ⟨b, off, none⟩) n c → 0 < n → T b) (w : World)
    (hco : w.cell? ⟨bo, 0, none⟩ = some u) (hu : Vw w u (A.map (Value.int .i64))) (hT : ∀ b, T b → b < w.heap.size) :
    IterC Try.prog 42 #[.pointer (some ⟨bo, 0, none⟩)] (fun k => #[.int .i64 k, .int .i64 (A.getD k 0)]) (some A.length) 0 T w := by
  intro l J Jx W hW hJ hJx hY h0 hN
  clear hN
  have hco' := (hW.cell (p := ⟨bo, 0, none⟩) (hT bo hTo)).trans hco
  have hu' := hu.below hW (Nat.le_refl _)
  have HY := hid hY
  have HTu := hid hTu
  obtain ⟨a, c, rfl, _⟩ := hu
  have Hu := hid hu'
  rw [List.length_map] at Hu hco' HTu
  clear hY hJ hco hJx hu' hTu
  refine calls_of_wp Try.func42 rfl ?_
  simp only [Try.ntmps42, List.size_toArray, List.length_cons, List.length_nil, Nat.reduceAdd, Nat.reduceSub, Array.replicate_succ, Array.replicate_zero, List.push_toArray, List.append_toArray, List.nil_append, List.cons_append]
  go_step3
  go_wp2
  go_step3
  go_wp2
  refine (wpIn_wide (n := 1)).1 ?_
  gi_loopw [7] (fun v wr => ∃ i : Nat, i ≤ A.length ∧ v = .int .i64 i ∧ J i wr ∧ Vw wr (.slice a A.length c) (A.map (Value.int .i64))) (fun v _ => A.length - (intOf v).toNat)
  case atStart => exact ⟨0, Nat.zero_le _, rfl, h0, Hu.out⟩
  case round =>
    obtain ⟨i, hi, rfl, hJi, hV⟩ := hrel
    by_cases hlt : i < A.length
    · obtain ⟨b1, o1, c1, e1, hx⟩ := vw_at17 hV hlt
      cases e1
      have hY := HY.out i wr (fun n hn => by cases hn; exact hlt) hJi
      have HV := hid hV
      generalize A.getD i 0 = x at *
      clear hJi hV
      obtain ⟨fn, tmps, assign, body, hy, hR⟩ := hY
      gi_wp2
      refine hR.mono ?_
      rintro r W3 (⟨rfl, hJ3, hk3⟩ | ⟨rfl, hJx3⟩)
      · have HV3 := hid (HV.out.keep hk3 (fun b off n c e h0 => .inl (HTu.out b off n c e h0)))
        have HJ3 := hid hJ3
        clear hk3 hJ3
        gi_wp2
        go_roundw
        case rel => exact ⟨i + 1, by omega, by go_num, HJ3.out, HV3.out⟩
        case measure => simp [intOf]; omega
      · gi_wp2
        rw [Exit.noGoto_normal]
        go_end0
        exact ⟨⟨_, rfl⟩, .inr ⟨_, hJx3⟩⟩
    · obtain rfl : i = A.length := by omega
      gi_wp2
      rw [Exit.noGoto_normal]
      go_end0
      exact ⟨⟨_, rfl⟩, .inl ⟨_, rfl, hJi⟩⟩
end Go.Proofs.Ytighnjbcnfnpmaa
