/- userplaneref10: Buffer. -/
import Derived.Test.YtloldjmibjkkkaaRef10a
import Derived.Test.YtloldjmibjkkkaaRefOrd
import Derived.Test.YtloldjmibjkkkaaStepApp
import Derived.Deep.RegionHeld3
namespace Go.Proofs.Ytloldjmibjkkkaa
open Go.RowKit Go.Shelf
set_option linter.unusedVariables false
section app
variable {P : Program}
/-- append of a literal of more elements, as a step. -/
theorem step_append_lit {ops : Array Oper} {o : Oper} {a : Act} {w : World} {K : Act → World → Prop} {Q : Exit → Act → World → Prop} {E' : Prop} (hg : o.guard = none) {t e : TypeId} {bytes : Nat} {z : Value} (E : Elem1 P t e bytes z) (s x : Operand)
    (ho : o.op = .call { callee := .builtin .append, args := #[s, x], argTypes := #[t, t] })
    (base : Nat) (v : Value) (n : Nat) (xs : List Value) (hn : xs.length = n) (hs : a.eval s = v) (hown : OwnL w base e v xs) (cs : Array Value) (m : Nat) (hm : cs.size = m) (hu : ∀ u ∈ cs.toList, u.oneCell' = true)
    (hx : a.eval x = .slice (some ⟨w.heap.size, 0, none⟩) m m) (hlen : (n + m) * bytes ≤ 140737488355328) (hmax : n + m ≤ 9223372036854775807) (hbase : base ≤ w.heap.size)
    (hK : ∀ v' w', OwnL w' base e v' (xs ++ cs.toList) → Fr (fun k => v.ownBlock = some k) w w' → K (a.put o.dst v') w') :
    if Region.wanted o (yielded ops a.tmps) = true then Oper.wp P o a (w.alloc (.cells cs e)) K Q else E' := by
  have hw : Region.wanted o (yielded ops a.tmps) = true := by simp [Region.wanted, hg]
  rw [if_pos hw]
  have hcl : cs.toList.length = m := by simp [hm]
  subst hn
  obtain ⟨v', w', hr, h1, h2⟩ := exec_append_list E s x ho base v xs hs (hown.alloc (.cells cs e)) _ cs.toList hx (Vw.lit w cs e m hm) hu (by rw [hcl]; exact hlen) (by rw [hcl]; exact hmax) (by simp; omega)
  unfold Oper.wp
  rw [hr]
  exact hK v' w' h1 ((Fr.alloc _ w _).trans h2)
end app
namespace Rm
def preL (k f R n : Nat) : List Int := (List.range n).map (fullF k f R)
theorem preL_len (k f R n : Nat) : (preL k f R n).length = n := by simp [preL]
theorem preL_succ (k f R n : Nat) : preL k f R (n + 1) = preL k f R n ++ [fullF k f R n] := by simp [preL, List.range_succ]
theorem preL_one {k f R n : Nat} (h : n < 32 * R) : preL k f R (n + 1) = preL k f R n ++ [el k f 0 (Ord.ordF (k + 4) R 0 n)] := by
  rw [preL_succ, fullF, if_pos h]
theorem preL_two {k f R n : Nat} : preL k f R (32 * R + 2 * (n + 1)) = preL k f R (32 * R + 2 * n) ++ [el k f 1 (Ord.ordF (k + 4) R 1 n), el k f 2 (Ord.ordF (k + 4) R 2 n)] := by
  rw [show 32 * R + 2 * (n + 1) = (32 * R + 2 * n + 1) + 1 by omega, preL_succ, preL_succ, List.append_assoc]
  congr 1
  have e1 : (32 * R + 2 * n - 32 * R) % 2 = 0 := by omega
  have e2 : (32 * R + 2 * n - 32 * R) / 2 = n := by omega
  have e3 : (32 * R + 2 * n + 1 - 32 * R) % 2 = 1 := by omega
  have e4 : (32 * R + 2 * n + 1 - 32 * R) / 2 = n := by omega
  rw [fullF, fullF, if_neg (by omega), if_neg (by omega), e1, e2, e3, e4]
  rfl
theorem preL_full (k f R : Nat) : preL k f R (32 * R + 2 * (32 * R)) = fullL k f R := by rw [preL, fullL, show 32 * R + 2 * (32 * R) = 96 * R by omega]
end Rm
set_option maxRecDepth 100000 in
set_option maxHeartbeats 4000000 in
theorem refBuffer_any (k f : Nat) (limit : Int) (hk1 : 40 ≤ k) (hk2 : k ≤ 6144) (hl : 1 ≤ limit) (w : World) :
    Calls Try.prog 14 #[.int .i64 k, .int .i64 f, .int .i64 limit] w fun e w' => (∃ v', e = .returned v' ∧ Vw w' v' ((Rm.buf k f (Rm.rows k) (Rm.size k limit)).map (Value.int .i64))) ∧ Below w.heap.size w w' := by
  have hr := Rm.rows_bd hk1 hk2
  obtain ⟨R, hR⟩ : ∃ R, R = Rm.rows k := ⟨_, rfl⟩
  have hsz := hid (show Rm.size k limit = min limit.toNat (96 * R) by rw [hR]; rfl)
  rw [← hR] at hr ⊢
  generalize Rm.size k limit = S at *
  obtain ⟨hr1, hr2, hr3, hr4⟩ := hr
  have HO := hid (show ∀ (s : Nat), s ≤ 2 → ∀ w, Calls Try.prog 27 #[.int .i64 ((k : Int) + 4), .int .i64 s] w fun e w' => ∃ v, e = .returned (.tuple #[v, .int .i64 0]) ∧ OwnL w' w.heap.size 3 v ((Ord.outL (k + 4) R s (32 * R)).map (Value.int .i64)) ∧ Below w.heap.size w w' from
    fun s hs w => refOrder_ok (k + 4) R s (by omega) (by omega) hr3 hr4 (by omega) (by omega) w)
  have HO0 := hid (show ∀ w, Calls Try.prog 27 #[.int .i64 ((k : Int) + 4), .int .i64 0] w _ from HO.out 0 (by omega))
  have HO1 := hid (show ∀ w, Calls Try.prog 27 #[.int .i64 ((k : Int) + 4), .int .i64 1] w _ from HO.out 1 (by omega))
  have HO2 := hid (show ∀ w, Calls Try.prog 27 #[.int .i64 ((k : Int) + 4), .int .i64 2] w _ from HO.out 2 (by omega))
  have HK := hid hk2
  have HX := hid (fun s m (h : m < 32 * R) => Rm.ordF_bd (k + 4) R s m h)
  clear hR HO
  go_enter Try.func14, Try.ntmps14
  go_wp2_with fail
  refine (HO0.out _).mono ?_
  rintro e w1 ⟨va, rfl, oa, B1⟩
  obtain ⟨ga, ca, rfl⟩ := oa.shape (32 * R) (by simp [Ord.outL_len]) (by omega)
  go_wp2_with fail
  refine (HO1.out _).mono ?_
  rintro e w2 ⟨vb, rfl, ob, B2⟩
  obtain ⟨gb, cb, rfl⟩ := ob.shape (32 * R) (by simp [Ord.outL_len]) (by omega)
  go_wp2_with fail
  refine (HO2.out _).mono ?_
  rintro e w3 ⟨vc, rfl, oc, B3⟩
  obtain ⟨gc, cc, rfl⟩ := oc.shape (32 * R) (by simp [Ord.outL_len]) (by omega)
  have ha := (oa.block (g := ga) rfl).2
  have hb := (ob.block (g := gb) rfl).2
  have hc := (oc.block (g := gc) rfl).2
  have s12 := B2.size
  have s23 := B3.size
  have HA := hid (show ∀ j, j < 32 * R → w3.cell? ⟨ga, j, none⟩ = some (.int .i64 (Ord.ordF (k + 4) R 0 j)) from fun j hj => by
    rw [B3.cell (p := ⟨ga, j, none⟩) (by dsimp only; omega), B2.cell (p := ⟨ga, j, none⟩) ha, oa.at j (by simp [Ord.outL_len]; omega)]
    simp [Ord.outL])
  have HB := hid (show ∀ j, j < 32 * R → w3.cell? ⟨gb, j, none⟩ = some (.int .i64 (Ord.ordF (k + 4) R 1 j)) from fun j hj => by
    rw [B3.cell (p := ⟨gb, j, none⟩) hb, ob.at j (by simp [Ord.outL_len]; omega)]
    simp [Ord.outL])
  have HC := hid (show ∀ j, j < 32 * R → w3.cell? ⟨gc, j, none⟩ = some (.int .i64 (Ord.ordF (k + 4) R 2 j)) from fun j hj => by
    rw [oc.at j (by simp [Ord.outL_len]; omega)]
    simp [Ord.outL])
  have BB := hid (below_then (below_then B1 B2) B3)
  have ga3 : ga < w3.heap.size := by omega
  have gb3 : gb < w3.heap.size := by omega
  clear oa ob oc B1 B2 B3 HO0 HO1 HO2 s12 s23 ha hb
  go_wp2
  go_loopw [13, 14] (fun v i wr => ∃ j : Nat, j ≤ 32 * R ∧ i = .int .i64 j ∧ OwnL wr w3.heap.size 3 v ((Rm.preL k f R j).map (Value.int .i64)) ∧ Below w3.heap.size w3 wr) (fun _ i _ => 32 * R - (intOf i).toNat)
  case atStart => exact ⟨0, Nat.zero_le _, rfl, OwnL.nil _ _ _, Below.refl _ _⟩
  case round =>
    obtain ⟨j, hj, rfl, hown, hBl⟩ := hrel
    by_cases hlt : j < 32 * R
    · have hx := (hBl.cell (p := ⟨ga, j, none⟩) ga3).trans (HA.out j hlt)
      have hbd := HX.out 0 j hlt
      have HS := hid (Rm.preL_one (k := k) (f := f) hlt)
      have HN := hid (show ((Rm.preL k f R j).map (Value.int .i64)).length = j by simp [Rm.preL_len])
      generalize Ord.ordF (k + 4) R 0 j = x at hx hbd HS
      have HE := hid (show ∀ w, Calls Try.prog 28 #[.int .i64 k, .int .i64 f, .int .i64 0, .int .i64 x] w _ from fun w => refElement_any k f 0 x HK.out (by omega) (by omega) w)
      generalize Rm.el k f 0 x = y at HE HS
      have hsz : w3.heap.size ≤ wr.heap.size := hBl.size
      have HBl := hid hBl
      clear hBl hbd
      go_wp2_with (first
        | (go_at_call 28; refine (HE.out _).mono ?_; rintro e w0 ⟨rfl, rfl⟩)
        | (at_builtin; refine wpList_append_one rfl elem_int (.tmp 40) (.tmp 48) rfl w3.heap.size _ j _ HN.out rfl hown _ rfl rfl (by omega) (by omega) hsz ?_))
      intro g cap w4 hown4 hf4
      have hB4 := HBl.out.trans (hf4.below hsz (fun i hi e => by have := (hown.block e).1; omega))
      clear hown hf4 HBl
      go_wp2
      go_roundw
      case rel => exact ⟨j + 1, by omega, by go_num, by rw [HS.out, List.map_append]; exact hown4, hB4⟩
      case measure => simp [intOf]; omega
    · obtain rfl : j = 32 * R := by omega
      have HBl := hid hBl
      clear hBl
      go_wp2
      go_loopw [13, 15] (fun v i wr => ∃ j : Nat, j ≤ 32 * R ∧ i = .int .i64 j ∧ OwnL wr w3.heap.size 3 v ((Rm.preL k f R (32 * R + 2 * j)).map (Value.int .i64)) ∧ Below w3.heap.size w3 wr) (fun _ i _ => 32 * R - (intOf i).toNat)
      case atStart => exact ⟨0, Nat.zero_le _, rfl, hown, HBl.out⟩
      case round =>
        clear hown HBl
        obtain ⟨j, hj, rfl, hown, hBl⟩ := hrel
        by_cases hlt : j < 32 * R
        · have hx := (hBl.cell (p := ⟨gb, j, none⟩) gb3).trans (HB.out j hlt)
          have hy := (hBl.cell (p := ⟨gc, j, none⟩) hc).trans (HC.out j hlt)
          have hbx := HX.out 1 j hlt
          have hby := HX.out 2 j hlt
          have HS := hid (Rm.preL_two (k := k) (f := f) (R := R) (n := j))
          have HN := hid (show ((Rm.preL k f R (32 * R + 2 * j)).map (Value.int .i64)).length = 32 * R + 2 * j by simp [Rm.preL_len])
          generalize Ord.ordF (k + 4) R 1 j = x at hx hbx HS
          generalize Ord.ordF (k + 4) R 2 j = y at hy hby HS
          have HE1 := hid (show ∀ w, Calls Try.prog 28 #[.int .i64 k, .int .i64 f, .int .i64 1, .int .i64 x] w _ from fun w => refElement_any k f 1 x HK.out (by omega) (by omega) w)
          have HE2 := hid (show ∀ w, Calls Try.prog 28 #[.int .i64 k, .int .i64 f, .int .i64 2, .int .i64 y] w _ from fun w => refElement_any k f 2 y HK.out (by omega) (by omega) w)
          generalize Rm.el k f 1 x = x1 at HE1 HS
          generalize Rm.el k f 2 y = y1 at HE2 HS
          have hown' := hown.fr (Fr.drew (fun _ => False) wr) (fun _ _ h => h)
          have hsz' : w3.heap.size ≤ wr.drew.heap.size := hBl.size
          have hxd : wr.drew.cell? ⟨gb, j, none⟩ = some (.int .i64 x) := hx
          have hyd : wr.drew.cell? ⟨gc, j, none⟩ = some (.int .i64 y) := hy
          have hbl1 : gb < wr.drew.heap.size := World.block_lt_of_cell? _ _ hxd
          have hbl2 : gc < wr.drew.heap.size := World.block_lt_of_cell? _ _ hyd
          have HBl := hid hBl
          have HFd := hid ((Fr.drew (fun _ => False) wr).below hBl.size (fun _ _ h => h))
          clear hown hBl hbx hby
          go_wp2
          go_region_held3 (fun w' => w'.cell? ⟨gb, j, none⟩ = some (.int .i64 x) ∧ w'.cell? ⟨gc, j, none⟩ = some (.int .i64 y))
            (first
              | exact ⟨hxd, hyd⟩
              | (go_split_ands; exact ⟨by assumption, by assumption⟩)
              | exact ⟨((Fr.alloc (fun _ => False) wr.drew _).cell (p := ⟨gb, j, none⟩) hbl1 (fun h => h)).trans hxd, ((Fr.alloc (fun _ => False) wr.drew _).cell (p := ⟨gc, j, none⟩) hbl2 (fun h => h)).trans hyd⟩
              | exact ⟨(hf.cell (p := ⟨gb, j, none⟩) hbl1 (fun e => by have := (hown'.block e).1; dsimp only at this; omega)).trans hxd, (hf.cell (p := ⟨gc, j, none⟩) hbl2 (fun e => by have := (hown'.block e).1; dsimp only at this; omega)).trans hyd⟩
              | go_keep)
            (first
              | (refine step_append_lit rfl elem_int (.tmp 56) (.tmp 71) rfl w3.heap.size _ (32 * R + 2 * j) _ HN.out ?_ hown' _ 2 ?_ ?_ ?_ (by omega) (by omega) hsz' ?_; rfl; rfl; (intro u hu; simp at hu; rcases hu with rfl | rfl <;> rfl); rfl; intro v5 w5 hown5 hf)
              | (go_at_call 28; with_reducible refine (HE1.out _).mono ?_; rintro e w0 ⟨rfl, rfl⟩)
              | (go_at_call 28; with_reducible refine (HE2.out _).mono ?_; rintro e w0 ⟨rfl, rfl⟩))
          all_goals (
            have hB4 := HBl.out.trans (HFd.out.trans (hf.below hsz' (fun i hi e => by have := (hown'.block e).1; omega)))
            clear hown' hf HBl HFd
            go_wp2
            go_roundw
            case rel =>
              have ho : OwnL w5 w3.heap.size 3 v5 ((Rm.preL k f R (32 * R + 2 * (j + 1))).map (Value.int .i64)) := by rw [HS.out, List.map_append]; exact hown5
              exact ⟨j + 1, by omega, by go_num, ho⟩
            case measure => simp [intOf]; omega)
        · obtain rfl : j = 32 * R := by omega
          rw [Rm.preL_full] at hown
          obtain ⟨g, cap, rfl⟩ := hown.shape (96 * R) (by simp [Rm.fullL_len]) (by omega)
          have hcap := hown.cap
          have HV := hid hown.vw
          have HBw := hid (below_then BB.out hBl)
          clear hown hBl HA HB HC
          by_cases hm : limit < 96 * (R : Int)
          · obtain ⟨m, rfl⟩ := Int.eq_ofNat_of_zero_le (show 0 ≤ limit by omega)
            have HM := hid (show S = m by rw [hsz.out]; simp; omega)
            go_wp2
            go_ret
            refine ⟨⟨_, rfl, ?_⟩, HBw.out⟩
            have := HV.out.take m cap (by simp [Rm.fullL_len]; omega)
            rw [HM.out, Rm.buf, List.map_take]
            exact this
          · have HM := hid (show S = 96 * R by rw [hsz.out]; omega)
            by_cases hme : limit ≤ 96 * (R : Int)
            · obtain rfl : limit = 96 * (R : Int) := by omega
              clear hm hme
              go_wp2
              go_ret
              refine ⟨⟨_, rfl, ?_⟩, HBw.out⟩
              have := HV.out.take (96 * R) cap (by simp [Rm.fullL_len])
              rw [HM.out, Rm.buf, List.map_take]
              exact this
            · go_wp2
              go_ret
              refine ⟨⟨_, rfl, ?_⟩, HBw.out⟩
              have := HV.out.take (96 * R) cap (by simp [Rm.fullL_len])
              rw [HM.out, Rm.buf, List.map_take]
              exact this
end Go.Proofs.Ytloldjmibjkkkaa
