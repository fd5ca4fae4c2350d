/- userplane/grid: none, Config, data, Get, Put. -/
import Derived.Test.YtighnjbcnfnpmaaGriG
namespace Go.Proofs.Ytighnjbcnfnpmaa
open Go.RowKit Go.Shelf
set_option linter.unusedVariables false
attribute [local go_sem ↓] Go.wp_at_zero Go.wp_at_succ
theorem gnone_no {w : World} {g q : Nat} {b t l : Int} {ps : List Pt} (hG : GB w g q b t l ps) (h0 : 0 < ps.length) : Calls Try.prog 44 #[.pointer (some ⟨g, 0, none⟩)] w fun e w' => e = .returned (.bool false) ∧ w = w' := by
  obtain ⟨hne, cap, hA, hO⟩ := hG
  have p3 : w.cell? ⟨g, 3, none⟩ = some (.slice (some ⟨q, 0, none⟩) ps.length cap) := hA.cell 3
  have hn : ((ps.length : Int) == 0) = false := by rw [beq_eq_false_iff_ne]; omega
  clear hA hO
  generalize ps.length = n at *
  go_enter Try.func44, Try.ntmps44
  go_wp2
  go_ret
  exact ⟨rfl, rfl⟩
theorem gnone_nil (w : World) : Calls Try.prog 44 #[.pointer none] w fun e w' => e = .returned (.bool true) ∧ w = w' := by
  go_enter Try.func44, Try.ntmps44
  go_wp2
  go_ret
  exact ⟨rfl, rfl⟩
theorem gnone_zero {w : World} {g : Nat} (hA : Blk w g 75 #[.int .i64 0, .int .i64 0, .int .i64 0, .slice none 0 0]) : Calls Try.prog 44 #[.pointer (some ⟨g, 0, none⟩)] w fun e w' => e = .returned (.bool true) ∧ w = w' := by
  have p3 : w.cell? ⟨g, 3, none⟩ = some (.slice none 0 0) := hA.cell 3
  clear hA
  go_enter Try.func44, Try.ntmps44
  go_wp2
  go_ret
  exact ⟨rfl, rfl⟩
theorem gconfig_any {w : World} {g q : Nat} {b t l : Int} {ps : List Pt} (hG : GB w g q b t l ps) (h0 : 0 < ps.length) : Calls Try.prog 32 #[.pointer (some ⟨g, 0, none⟩)] w fun e w' => e = .returned (CV b t l) ∧ Below w.heap.size w w' := by
  have hG1 := hG.blw (below_alloc w (.cells #[.int .i64 0, .int .i64 0, .int .i64 0] 23))
  have HC := hid (gnone_no hG1 h0)
  obtain ⟨hne, cap, hA, hO⟩ := hG1
  have hgl := hG.lt.1
  have c0 := hA.cell 0
  have c1 := hA.cell 1
  have c2 := hA.cell 2
  simp only [List.getElem?_toArray, List.getElem?_cons_zero, List.getElem?_cons_succ] at c0 c1 c2
  clear hG hA hO h0
  go_enter Try.func32, Try.ntmps32
  go_wp2_with fail
  refine HC.out.mono ?_
  rintro r w1 ⟨rfl, rfl⟩
  go_wp2
  exact bodyPost_ret (v := CV b t l) (by simp [results, Try.results32, go_sem]) rfl ⟨rfl, below_alloc _ _⟩
theorem wfi {x : Int} (h1 : -9223372036854775808 ≤ x) (h2 : x ≤ 9223372036854775807) : (Lit.int .i64 x).wf = true := by
  exact WalkArith.wf_i64 (by omega)
set_option maxHeartbeats 1000000 in
theorem gdata_any {w : World} {g q : Nat} {b t l : Int} {ps : List Pt} (hG : GB w g q b t l ps) (hv : Gr.vld b t l = true) (h0 : 0 < ps.length) (first blocks : Int) (wf : (Lit.int .i64 first).wf = true) (wb : (Lit.int .i64 blocks).wf = true) :
    Calls Try.prog 43 #[.pointer (some ⟨g, 0, none⟩), .int .i64 first, .int .i64 blocks] w fun e w' => (∃ v', e = .returned (.tuple #[v', .int .i64 (Gr.datE b t l first blocks)]) ∧ VwA w' w.heap.size v' ((Gr.datL b t l first blocks).map (Value.int .i64))) ∧ Below w.heap.size w w' := by
  have HC := hid (gnone_no hG h0)
  have hc := Gr.vld_iff.1 hv
  have HD := hid (data_any b t l first blocks (wfi (by have := hc.b0; omega) (by have := hc.b1; omega)) wf wb)
  obtain ⟨hne, cap, hA, hO⟩ := hG
  have c0 := hA.cell 0
  have c1 := hA.cell 1
  have c2 := hA.cell 2
  simp only [List.getElem?_toArray, List.getElem?_cons_zero, List.getElem?_cons_succ] at c0 c1 c2
  clear hA hO h0 hc hv wf wb
  go_enter Try.func43, Try.ntmps43
  go_wp2_with fail
  refine HC.out.mono ?_
  rintro r w1 ⟨rfl, rfl⟩
  go_wp2_with fail
  refine (HD.out _).mono ?_
  rintro r w1 ⟨⟨v', rfl, hV⟩, B1⟩
  have HV := hid hV
  clear hV
  go_wp2
  go_ret2
  exact ⟨⟨_, rfl, HV.out⟩, B1⟩
set_option maxHeartbeats 4000000 in
theorem gget_any {w : World} {g q : Nat} {b t l : Int} {ps : List Pt} (hG : GB w g q b t l ps) (hv : Gr.vld b t l = true) (hps : ps.length = (168 * b).toNat) (first blocks : Int) (wf : (Lit.int .i64 first).wf = true) (wb : (Lit.int .i64 blocks).wf = true) :
    Calls Try.prog 25 #[.pointer (some ⟨g, 0, none⟩), .int .i64 first, .int .i64 blocks] w fun e w' => (∃ v', e = .returned (.tuple #[v', .int .i64 (Gr.datE b t l first blocks)]) ∧ POwn w' w.heap.size 53 v' (Gr.getP ps (Gr.datL b t l first blocks))) ∧ Below w.heap.size w w' := by
  have hc := Gr.vld_iff.1 hv
  have b0 := hc.b0
  have b1 := hc.b1
  have HD := hid (gdata_any hG hv (by omega) first blocks wf wb)
  have HGt := hid (Gr.dat_get b t l first blocks)
  have HLen := hid (Gr.dat_len b t l first blocks)
  have HG := hid hG
  have hpn : ps.length ≤ 100000 := by omega
  rw [← hps] at HGt HLen
  generalize Gr.datL b t l first blocks = L at *
  generalize Gr.datE b t l first blocks = er at *
  clear hG hv hc b0 b1 hps wf wb
  go_enter Try.func25, Try.ntmps25
  go_wp2_with fail
  refine HD.out.mono ?_
  rintro r w1 ⟨⟨v', rfl, hV⟩, B1⟩
  obtain ⟨a, c, rfl, _⟩ := hV.vw
  have HV1 := hid hV
  rw [List.length_map] at HV1 ⊢
  have HG1 := hid (HG.out.blw B1)
  have HB1 := hid B1
  clear hV B1
  go_wp2
  go_loopw [10, 22] (fun o i wr => ∃ k : Nat, k ≤ L.length ∧ i = .int .i64 k ∧ POwn wr w1.heap.size 53 o (Gr.getP ps (L.take k)) ∧ Below w1.heap.size w1 wr) (fun _ i _ => L.length - (intOf i).toNat)
  case atStart => exact ⟨0, Nat.zero_le _, rfl, POwn.nil _ _ _, Below.refl _ _⟩
  case round =>
    obtain ⟨k, hk, rfl, hown, hB⟩ := hrel
    have hLb := HLen.out
    by_cases hlt : k < L.length
    · obtain ⟨j, hj, hjn⟩ := HGt.out k hlt
      have hV := HV1.out.below hB (Nat.le_refl _)
      obtain ⟨b1, o1, c1, e1, hx⟩ := vw_at17 hV.vw hlt
      rw [hj] at hx
      cases e1
      obtain ⟨hne, cap, hA, hO⟩ := HG1.out.blw hB
      have p3 : wr.cell? ⟨g, 3, none⟩ = some (.slice (some ⟨q, 0, none⟩) ps.length cap) := hA.cell 3
      obtain ⟨k0, k1⟩ := hO.cells hjn
      have HS := hid (Gr.getP_take_succ ps L k hlt)
      rw [hj, Int.toNat_natCast] at HS
      have HN := hid (show (Gr.getP ps (L.take k)).length = k by rw [Gr.getP_len, List.length_take]; omega)
      have hsz := hB.size
      have HB := hid hB
      have HO := hid hown
      generalize ps.getD j (0, 0) = p at *
      obtain ⟨px, py⟩ := p
      dsimp only at k0 k1
      clear hV hB hA hO hown
      go_wp2_with (at_builtin; refine wpList_append_one2 rfl pelem (.tmp 26) (.tmp 34) rfl w1.heap.size _ k _ HN.out rfl HO.out _ _ rfl (by omega) hsz ?_; intro g1 cap1 w3 hown3 hf)
      have HB3 := hid (HB.out.trans (hf.below hsz (fun i hi e => by have := (HO.out.block e).1; omega)))
      have HO3 := hid hown3
      clear hf hown3
      go_roundw
      case rel => exact ⟨k + 1, by omega, by go_num, by rw [HS.out]; exact HO3.out, HB3.out⟩
      case measure => simp [intOf]; omega
    · obtain rfl : k = L.length := by omega
      rw [List.take_length] at hown
      have HO := hid (hown.base_mono HB1.out.size)
      have HBr := hid (below_then HB1.out hB)
      clear hown hB
      go_wp2
      go_ret2
      exact ⟨⟨_, rfl, HO.out⟩, HBr.out⟩
theorem gput_err {w : World} {g q : Nat} {b t l : Int} {ps : List Pt} (hG : GB w g q b t l ps) (hv : Gr.vld b t l = true) (h0 : 0 < ps.length) (first blocks : Int) (wf : (Lit.int .i64 first).wf = true) (wb : (Lit.int .i64 blocks).wf = true) (v : Value) (P : List Pt) (hP : PVw w v P) (he : Gr.putE b t l first blocks P.length ≠ 0) :
    Calls Try.prog 23 #[.pointer (some ⟨g, 0, none⟩), .int .i64 first, .int .i64 blocks, v] w fun e w' => e = .returned (.int .i64 (Gr.putE b t l first blocks P.length)) ∧ Below w.heap.size w w' := by
  have HD := hid (gdata_any hG hv h0 first blocks wf wb)
  obtain ⟨pa, pc, rfl, _⟩ := hP
  cases h : Gr.datOk b t l first blocks with
  | false =>
    rw [show Gr.datE b t l first blocks = 2 from if_neg (by simp [h])] at HD
    rw [show Gr.putE b t l first blocks P.length = 2 from if_neg (by simp [h])]
    generalize Gr.datL b t l first blocks = L at *
    clear hG hv wf wb he h
    go_enter Try.func23, Try.ntmps23
    go_wp2_with fail
    refine HD.out.mono ?_
    rintro r w1 ⟨⟨v', rfl, hV⟩, B1⟩
    go_wp2
    go_ret
    exact ⟨rfl, B1⟩
  | true =>
    rw [show Gr.datE b t l first blocks = 0 from if_pos h] at HD
    have hp : Gr.putE b t l first blocks P.length = (if (Gr.datL b t l first blocks).length < P.length then 4 else 0) := if_pos h
    generalize Gr.datL b t l first blocks = L at *
    rw [hp] at he ⊢
    have hlt : L.length < P.length := by
      by_cases hh : L.length < P.length
      · exact hh
      · rw [if_neg hh] at he; exact absurd rfl he
    rw [if_pos hlt]
    have hd : decide ((L.length : Int) < (P.length : Int)) = true := decide_eq_true (by omega)
    clear hG hv wf wb he h hp hd
    go_enter Try.func23, Try.ntmps23
    go_wp2_with fail
    refine HD.out.mono ?_
    rintro r w1 ⟨⟨v', rfl, hV⟩, B1⟩
    obtain ⟨a, c, rfl, _⟩ := hV.vw
    clear hV
    rw [List.length_map]
    go_wp2
    go_ret
    exact ⟨rfl, B1⟩
set_option maxHeartbeats 4000000 in
theorem gput_ok {w : World} {g q : Nat} {b t l : Int} {ps : List Pt} (hG : GB w g q b t l ps) (hv : Gr.vld b t l = true) (hps : ps.length = (168 * b).toNat) (first blocks : Int) (wf : (Lit.int .i64 first).wf = true) (wb : (Lit.int .i64 blocks).wf = true) (v : Value) (P : List Pt) (hP : PVw w v P) (hpq : ∀ b off n c, v = .slice (some ⟨b, off, none⟩) n c → b ≠ q) (he : Gr.putE b t l first blocks P.length = 0) :
    Calls Try.prog 23 #[.pointer (some ⟨g, 0, none⟩), .int .i64 first, .int .i64 blocks, v] w fun e w' => e = .returned (.int .i64 0) ∧ GB w' g q b t l (Gr.putP b t l ps first blocks P) ∧ Fr (fun j => j = q) w w' := by
  have hc := Gr.vld_iff.1 hv
  have b0 := hc.b0
  have b1 := hc.b1
  have HD := hid (gdata_any hG hv (by omega) first blocks wf wb)
  have hok : Gr.datOk b t l first blocks = true := by
    cases h : Gr.datOk b t l first blocks
    · rw [Gr.putE, if_neg (by simp [h])] at he; simp at he
    · rfl
  rw [show Gr.datE b t l first blocks = 0 from if_pos hok] at HD
  rw [show Gr.putE b t l first blocks P.length = (if (Gr.datL b t l first blocks).length < P.length then 4 else 0) from if_pos hok] at he
  have HGt := hid (Gr.dat_get b t l first blocks)
  have HLen := hid (Gr.dat_len b t l first blocks)
  have hle : ¬ (Gr.datL b t l first blocks).length < P.length := fun h => by rw [if_pos h] at he; simp at he
  have HPu := hid (show Gr.putP b t l ps first blocks P = Gr.putN ps (Gr.datL b t l first blocks) (fun i => P.getD i (0, 0)) P.length from if_neg hle)
  rw [HPu.out]
  have HG := hid hG
  have hpn : ps.length ≤ 100000 := by omega
  have hql := hG.lt.2
  rw [← hps] at HGt HLen
  generalize Gr.datL b t l first blocks = L at *
  have hle2 : P.length ≤ L.length := by omega
  have hd : decide ((L.length : Int) < (P.length : Int)) = false := decide_eq_false (by omega)
  have HP := hid hP
  have HPQ := hid hpq
  obtain ⟨pa, pc, rfl, _⟩ := hP
  have hLb := HLen.out
  clear hG hv hc b0 b1 hps wf wb he hok HPu hle hpq
  go_enter Try.func23, Try.ntmps23
  go_wp2_with fail
  refine HD.out.mono ?_
  rintro r w1 ⟨⟨v', rfl, hV⟩, B1⟩
  obtain ⟨a, c, rfl, _⟩ := hV.vw
  have HV1 := hid hV
  rw [List.length_map] at HV1 ⊢
  have HG1 := hid (HG.out.blw B1)
  have HP1 := hid (HP.out.below B1 (Nat.le_refl _))
  have HB1 := hid B1
  have hw1 : w.heap.size ≤ w1.heap.size := B1.size
  clear hV B1
  go_wp2
  go_loopw [32] (fun i wr => ∃ k : Nat, k ≤ P.length ∧ i = .int .i64 k ∧ GB wr g q b t l (Gr.putN ps L (fun i => P.getD i (0, 0)) k) ∧ Fr (fun j => j = q) w1 wr) (fun i _ => P.length - (intOf i).toNat)
  case atStart => exact ⟨0, Nat.zero_le _, rfl, HG1.out, Fr.refl _ _⟩
  case round =>
    obtain ⟨k, hk, rfl, hG, hF⟩ := hrel
    by_cases hlt : k < P.length
    · obtain ⟨j, hj, hjn⟩ := HGt.out k (by omega)
      have hV := HV1.out.fr hF (fun j hj e => by omega)
      obtain ⟨b1, o1, c1, e1, hx⟩ := vw_at17 hV.vw (show k < L.length by omega)
      rw [hj] at hx
      cases e1
      have hb1 := hV.hi b1 o1 _ _ rfl
      have hP := HP1.out.fr hF (fun b off n c e => HPQ.out b off n c e)
      obtain ⟨b2, o2, e2, hy0, hy1⟩ := hP.at hlt
      cases e2
      have hxl : b1 < wr.heap.size := World.block_lt_of_cell? wr _ hx
      have hyl : b2 < wr.heap.size := World.block_lt_of_cell? wr _ hy0
      have HY := hid (show Gr.putN ps L (fun i => P.getD i (0, 0)) (k + 1) = (Gr.putN ps L (fun i => P.getD i (0, 0)) k).set j (P.getD k (0, 0)) by rw [Gr.putN, hj]; rfl)
      generalize P.getD k (0, 0) = p at *
      obtain ⟨px, py⟩ := p
      dsimp only at hy0 hy1
      generalize hQ : Gr.putN ps L (fun i => P.getD i (0, 0)) k = ps1 at *
      have hpl : ps1.length = ps.length := by rw [← hQ]; exact Gr.putN_len _ _ _ _
      have HGr := hid hG
      have HFr := hid hF
      clear hV hP hG hF hQ
      go_wp2
      generalize hW : World.alloc _ _ = wz
      have F : Fr (fun _ => False) wr wz := by rw [← hW]; exact Fr.alloc _ _ _
      have HPx := hid (show Blk wz wr.heap.size 53 #[.int .i64 px, .int .i64 py] by rw [← hW]; exact Blk.new wr _ _)
      have HGz := hid (HGr.out.fr F (fun h => h) (fun h => h))
      have d0 : wz.cell? ⟨wr.heap.size, 0, none⟩ = some (.int .i64 px) := HPx.out.cell 0
      have d1 : wz.cell? ⟨wr.heap.size, 1, none⟩ = some (.int .i64 py) := HPx.out.cell 1
      have hxz := (F.cell (p := ⟨b1, o1 + k, none⟩) hxl (fun h => h)).trans hx
      have hst := hid (HGz.out.sto j px py)
      obtain ⟨hne, cap, hA, hO⟩ := HGz.out
      have p3 : wz.cell? ⟨g, 3, none⟩ = some (.slice (some ⟨q, 0, none⟩) ps1.length cap) := hA.cell 3
      rw [hpl] at p3
      obtain ⟨k0, k1⟩ := hO.cells (i := j) (by rw [hpl]; exact hjn)
      have z0 := hO.free (j * 2)
      have z1 := hO.free (j * 2 + 1)
      have HFz := hid ((HFr.out.trans (F.mono (fun _ _ h => h.elim))).trans hst.out.2)
      clear hW F hx hy0 hy1 hA hO
      go_region
      all_goals
        have HG9 := hid (hst.out.1.fr (Fr.drew (fun _ => False) _) (fun h => h) (fun h => h))
        have HF9 := hid (HFz.out.trans (Fr.drew _ _))
        clear hst HFz
        generalize World.drew _ = w9 at *
        go_wp2
        go_roundw
        case rel => exact ⟨k + 1, by omega, by go_num, by rw [HY.out]; exact HG9.out, HF9.out⟩
        case measure => simp [intOf]; omega
    · obtain rfl : k = P.length := by omega
      have HGr := hid hG
      have HFr := hid ((Fr.of_below HB1.out).mono (fun k hk h => by omega) |>.trans hF)
      clear hG hF
      go_wp2
      go_ret
      exact ⟨rfl, HGr.out, HFr.out⟩
theorem gclone_any {w : World} {v : Value} {P : List Pt} (hP : PVw w v P) (hl : P.length ≤ 1000000) :
    Calls Try.prog 45 #[v] w fun e w' => (∃ v', e = .returned v' ∧ POwn w' w.heap.size 53 v' P) ∧ Below w.heap.size w w' := by
  have HV := hid hP
  obtain ⟨a, c, rfl, hc⟩ := hP
  cases a with
  | none =>
    have h0 : P = [] := by
      cases P with
      | nil => rfl
      | cons x l => obtain ⟨b, off, h, _⟩ := hc 0 (by simp); cases h
    subst h0
    clear hc
    have hnil := fun w : World => Lib.run_eql_slice_nil (P := Try.prog) w 48 53 none 0 c 0 0 Try.underlying48
    simp only [Option.isNone_none] at hnil
    go_enter Try.func45, Try.ntmps45
    go_wp2
    go_ret
    exact ⟨⟨_, rfl, POwn.nil _ _ _⟩, Below.refl _ _⟩
  | some a =>
    clear hc
    have hnil := fun w : World => Lib.run_eql_slice_nil (P := Try.prog) w 48 53 (some a) P.length c 0 0 Try.underlying48
    simp only [Option.isNone_some] at hnil
    go_enter Try.func45, Try.ntmps45
    go_wp2_with (at_builtin; refine wpList_copy_list2 rfl pelem (.tmp 5) (.tmp 6) rfl rfl _ P rfl HV.out (by omega) ?_; intro v' w1 O1 B1)
    go_ret
    exact ⟨⟨_, rfl, O1⟩, B1⟩
theorem gpoints_any {w : World} {g q : Nat} {b t l : Int} {ps : List Pt} (hG : GB w g q b t l ps) (h0 : 0 < ps.length) (hl : ps.length ≤ 1000000) :
    Calls Try.prog 24 #[.pointer (some ⟨g, 0, none⟩)] w fun e w' => (∃ v', e = .returned v' ∧ POwn w' w.heap.size 53 v' ps) ∧ Below w.heap.size w w' := by
  have HC := hid (gnone_no hG h0)
  obtain ⟨hne, cap, hA, hO⟩ := hG
  have p3 : w.cell? ⟨g, 3, none⟩ = some (.slice (some ⟨q, 0, none⟩) ps.length cap) := hA.cell 3
  have HK := hid (gclone_any hO.vw hl)
  clear hA hO h0
  go_enter Try.func24, Try.ntmps24
  go_wp2_with fail
  refine HC.out.mono ?_
  rintro r w1 ⟨rfl, rfl⟩
  go_wp2_with fail
  refine HK.out.mono ?_
  rintro r w1 ⟨⟨v', rfl, hV⟩, B1⟩
  have HV := hid hV
  clear hV
  go_wp2
  go_ret
  exact ⟨⟨_, rfl, HV.out⟩, B1⟩
theorem gload_bad {w : World} {g q : Nat} {b t l : Int} {ps : List Pt} (hG : GB w g q b t l ps) (h0 : 0 < ps.length) (v : Value) (P : List Pt) (hP : PVw w v P) (hl : P.length ≠ ps.length) :
    Calls Try.prog 31 #[.pointer (some ⟨g, 0, none⟩), v] w fun e w' => e = .returned (.int .i64 2) ∧ w = w' := by
  have HC := hid (gnone_no hG h0)
  obtain ⟨hne, cap, hA, hO⟩ := hG
  have p3 : w.cell? ⟨g, 3, none⟩ = some (.slice (some ⟨q, 0, none⟩) ps.length cap) := hA.cell 3
  obtain ⟨pa, pc, rfl, _⟩ := hP
  have hd : ((P.length : Int) != (ps.length : Int)) = true := by simp; omega
  clear hA hO h0
  go_enter Try.func31, Try.ntmps31
  go_wp2_with fail
  refine HC.out.mono ?_
  rintro r w1 ⟨rfl, rfl⟩
  go_wp2
  go_ret
  exact ⟨rfl, rfl⟩
theorem gload_ok {w : World} {g q : Nat} {b t l : Int} {ps : List Pt} (hG : GB w g q b t l ps) (h0 : 0 < ps.length) (hm : ps.length ≤ 1000000) (v : Value) (P : List Pt) (hP : PVw w v P) (hl : P.length = ps.length) :
    Calls Try.prog 31 #[.pointer (some ⟨g, 0, none⟩), v] w fun e w' => (e = .returned (.int .i64 0) ∧ ∃ q', w.heap.size ≤ q' ∧ GB w' g q' b t l P) ∧ Fr (fun j => j = g) w w' := by
  have HC := hid (gnone_no hG h0)
  have HP := hid hP
  have HK := hid (gclone_any hP (by omega))
  obtain ⟨hne, cap, hA, hO⟩ := hG
  have p3 : w.cell? ⟨g, 3, none⟩ = some (.slice (some ⟨q, 0, none⟩) ps.length cap) := hA.cell 3
  obtain ⟨pa, pc, rfl, _⟩ := hP
  have HA := hid hA
  have hgl := hA.lt
  have hd : ((P.length : Int) != (ps.length : Int)) = false := by simp; omega
  have Hl := hid hl
  clear hA hO hl
  go_enter Try.func31, Try.ntmps31
  go_wp2_with fail
  refine HC.out.mono ?_
  rintro r w1 ⟨rfl, rfl⟩
  go_wp2_with fail
  refine HK.out.mono ?_
  rintro r w1 ⟨⟨v', rfl, hV⟩, B1⟩
  obtain ⟨g2, cap2, rfl⟩ := hV.shape P.length rfl (by have := Hl.out; omega)
  have HA1 := hid (HA.out.below B1 hgl)
  have hg2 := hV.block (g := g2) rfl
  have c3 : w1.cell? ⟨g, 3, none⟩ = some (.slice (some ⟨q, 0, none⟩) ps.length cap) := HA1.out.cell 3
  have f3 := HA1.out.frozen 3
  have HV := hid hV
  have HB1 := hid B1
  clear hV B1 p3 hd
  go_wp2
  go_ret
  have F4 : Fr (fun j => j = g) w1 (w1.setCell ⟨g, 3, none⟩ (.slice (some ⟨g2, 0, none⟩) P.length cap2)) := Fr.setCell (S := fun j => j = g) _ ⟨g, 3, none⟩ _ rfl
  exact ⟨⟨rfl, g2, hg2.1, ⟨by omega, cap2, HA1.out.set_ 3 _, (HV.out.base_mono (Nat.le_refl _) |>.fr F4 (fun g' e => by simp [Value.ownBlock] at e; omega)).rebase rfl⟩⟩, ((Fr.of_below HB1.out).mono (fun k hk h => by omega)).trans F4⟩
end Go.Proofs.Ytighnjbcnfnpmaa
