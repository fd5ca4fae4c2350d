/- userplane/dematch: known (an iterator), Known. -/
import Derived.Test.YtpnmfnjpbhjddaaDemA
import Derived.Test.YtpnmfnjpbhjddaaQ2
namespace Go.Proofs.Ytpnmfnjpbhjddaa
open Go.RowKit Go.Shelf
set_option linter.unusedVariables false
attribute [local go_sem] Oper.semAt_some
attribute [local go_sem ↓] Go.wp_at_zero Go.wp_at_succ
set_option maxHeartbeats 2000000 in
theorem known_iter (V : List Int) (hl : V.length ≤ 1000000) (g q : Nat) (cap : Nat) (T : Nat → Prop) (hTg : T g) (hTq : T q) (w : World)
    (hco : w.cell? ⟨g, 3, none⟩ = some (.slice (some ⟨q, 0, none⟩) V.length cap)) (hu : Vw w (.slice (some ⟨q, 0, none⟩) V.length cap) (V.map (Value.int .i64))) (hT : ∀ b, T b → b < w.heap.size) :
    IterM Try.prog 39 #[.pointer (some ⟨g, 0, none⟩)] (fun k => #[.int .i64 ((Gr.sel (De.nz V) V.length).getD k 0), .int .i64 (V.getD ((Gr.sel (De.nz V) V.length).getD k 0).toNat 0)]) (some (Gr.sel (De.nz V) V.length).length) 0 T w := by
  intro l J Jx W hW hJ hJx hY h0 hN
  clear hN
  have hco' := (hW.cell (p := ⟨g, 3, none⟩) (hT g hTg)).trans hco
  have hu' := hu.below hW (Nat.le_refl _)
  have HY := hid hY
  have Hu := hid hu'
  clear hY hJ hco hJx hu' hu
  refine calls_of_wp Try.func39 rfl ?_
  simp only [Try.ntmps39, List.size_toArray, List.length_cons, List.length_nil, Nat.reduceAdd, Nat.reduceSub, Array.replicate_succ, Array.replicate_zero, List.push_toArray, List.append_toArray, List.nil_append, List.cons_append]
  go_step3
  go_wp2
  go_step3
  go_wp2
  refine (wpIn_wide (n := 1)).1 ?_
  gi_loopw [11] (fun v wr => ∃ i : Nat, i ≤ V.length ∧ v = .int .i64 i ∧ J (Gr.sel (De.nz V) i).length wr ∧ Vw wr (.slice (some ⟨q, 0, none⟩) V.length cap) (V.map (Value.int .i64))) (fun v _ => V.length - (intOf v).toNat)
  case atStart => exact ⟨0, Nat.zero_le _, rfl, h0, Hu.out⟩
  case round =>
    obtain ⟨i, hi, rfl, hJi, hV⟩ := hrel
    by_cases hlt : i < V.length
    · obtain ⟨b1, o1, c1, e1, hx⟩ := vw_at hV hlt
      cases e1
      rw [Nat.zero_add] at hx
      cases hp : De.nz V i with
      | false =>
        have hd : (V.getD i 0 == 0) = true := by simpa [De.nz] using hp
        have hd2 : (V.getD i 0 != 0) = false := hp
        have HJk := hid (show J (Gr.sel (De.nz V) (i + 1)).length wr by rw [Gr.sel_no hp]; exact hJi)
        have HV := hid hV
        generalize V.getD i 0 = x at *
        obtain rfl : x = 0 := by simpa using hd
        clear hJi hV hp
        gi_wp2
        refine ⟨fun _ h => (by cases h), ?_⟩
        gi_wp2
        go_roundw
        case rel => exact ⟨i + 1, by omega, by go_num, HJk.out, HV.out⟩
        case measure => simp [intOf]; omega
      | true =>
        have hd : (V.getD i 0 == 0) = false := by
          have h1 : (V.getD i 0 != 0) = true := hp
          rw [beq_eq_false_iff_ne]
          simpa using h1
        have hd2 : (V.getD i 0 != 0) = true := hp
        have hsy := Gr.sel_yes hp
        have hlen : (Gr.sel (De.nz V) (i + 1)).length = (Gr.sel (De.nz V) i).length + 1 := by rw [hsy]; simp
        have hple := Gr.sel_pre (p := De.nz V) (show i + 1 ≤ V.length by omega)
        have hk : (Gr.sel (De.nz V) i).length < (Gr.sel (De.nz V) V.length).length := by have := hple.1; omega
        have hget : (Gr.sel (De.nz V) V.length).getD (Gr.sel (De.nz V) i).length 0 = (i : Int) := by
          rw [hple.2 _ (by omega), hsy]
          simp [List.getD]
        have hY := HY.out (Gr.sel (De.nz V) i).length wr (fun n hn => by cases hn; exact hk) hJi
        rw [hget, Int.toNat_natCast] at hY
        have HLen := hid hlen
        have HV := hid hV
        have Hlt := hid hlt
        generalize V.getD i 0 = x at *
        clear hJi hV hp hsy hlen hple hk hget
        obtain ⟨fn, tmps, assign, body, hy, hR⟩ := hY
        gi_wp2
        refine hR.mono ?_
        rintro r W3 (⟨rfl, hJ3, hk3⟩ | ⟨rfl, hJx3⟩)
        · have HV3 := hid (HV.out.keep hk3 (fun b off n c e h0 => by simp only [Value.slice.injEq, Option.some.injEq, Addr.mk.injEq] at e; rw [← e.1.1]; exact .inl hTq))
          have HJ3 := hid (show J (Gr.sel (De.nz V) (i + 1)).length W3 by rw [HLen.out]; exact hJ3)
          clear hk3 hJ3
          gi_wp2
          go_roundw
          case rel => exact ⟨i + 1, by omega, by go_num, HJ3.out, HV3.out⟩
          case measure => simp [intOf]; omega
        · gi_wp2
          rw [Exit.noGoto_normal]
          go_end0
          exact ⟨⟨_, rfl⟩, .inr ⟨_, hJx3⟩⟩
    · obtain rfl : i = V.length := by omega
      gi_wp2
      rw [Exit.noGoto_normal]
      go_end0
      exact ⟨⟨_, rfl⟩, .inl ⟨_, rfl, hJi⟩⟩
set_option maxHeartbeats 1000000 in
theorem dknown_any {w : World} {g q k f : Nat} {limit n : Int} {V : List Int} (hD : DB w g q k f limit V n) (hV : V.length ≤ 100000) : Calls Try.prog 15 #[.pointer (some ⟨g, 0, none⟩)] w fun e w' => e = .returned (.int .i64 (De.known V)) ∧ Below w.heap.size w w' := by
  have HN := hid (dnone_no (hD.blw (below_alloc w (.cells #[.int .i64 0] 3))))
  refine calls_of_wp_marks Try.func15 rfl ?_
  simp only [Try.ntmps15, List.size_toArray, List.length_cons, List.length_nil, Nat.reduceAdd, Nat.reduceSub, Array.replicate_succ, Array.replicate_zero, List.push_toArray, List.append_toArray, List.nil_append, List.cons_append]
  go_wp2_with fail
  refine HN.out.mono ?_
  rintro r w1 ⟨rfl, rfl⟩
  have hg := hD.lt.1
  have hq := hD.lt.2
  have hD0 := hD.blw (below_alloc w (.cells #[.int .i64 0] 3))
  obtain ⟨hne, cap, hA, hO⟩ := hD0
  have hit := known_iter V (by omega) g q cap (fun j => j < w.heap.size) hg hq _ (hA.cell 3) hO.vw (fun j hj => by rw [World.size_alloc]; omega)
  have HN0 := hid (show Blk (w.alloc (.cells #[.int .i64 0] 3)) w.heap.size 3 #[.int .i64 (0 : Nat)] from Blk.new w _ _)
  have HB0 := hid (below_alloc w (.cells #[.int .i64 0] 3))
  have hsz : w.heap.size < (w.alloc (.cells #[.int .i64 0] 3)).heap.size := by simp
  have HL := hid (show (Gr.sel (De.nz V) V.length).length = De.known V from rfl)
  have HLb := hid (show De.known V ≤ 100000 by have := De.known_un V V.length; rw [HL.out] at this; omega)
  rw [HL.out] at hit
  generalize hm : De.known V = m at *
  have HM := hid hm
  clear hA hO hD HN hm
  go_wp2
  generalize w.alloc _ = W0 at *
  obtain ⟨fa, hfa⟩ : ∃ fa : Nat → Int, ∀ k, fa k = (Gr.sel (De.nz V) V.length).getD k 0 := ⟨_, fun _ => rfl⟩
  obtain ⟨fb, hfb⟩ : ∃ fb : Nat → Int, ∀ k, fb k = V.getD ((Gr.sel (De.nz V) V.length).getD k 0).toNat 0 := ⟨_, fun _ => rfl⟩
  rw [show (fun k : Nat => (#[.int .i64 ((Gr.sel (De.nz V) V.length).getD k 0), .int .i64 (V.getD ((Gr.sel (De.nz V) V.length).getD k 0).toNat 0)] : Array Value)) = (fun k => #[.int .i64 (fa k), .int .i64 (fb k)]) from funext fun k => by rw [hfa, hfb]] at hit
  have HIT := hid hit
  clear hit hfa hfb HL hV
  refine (wpIn_wide (n := 1)).1 ?_
  refine wpIn_rangeM (gf := 39) (lb := #[.pointer (some ⟨g, 0, none⟩)]) rfl (enters_of Try.func39 (by kernel_rfl) rfl) HIT.out (Below.refl _ _) (fun _ => rfl)
    (fun k V => Blk V w.heap.size 3 #[.int .i64 (k : Nat)] ∧ Below w.heap.size w V)
    (fun _ _ _ => False)
    (fun k A B h hf => ⟨h.1.fr hf (by omega), h.2.trans (hf.below h.2.size (fun j hj h' => by omega))⟩)
    (fun _ _ _ _ h _ => h) ⟨HN0.out, HB0.out⟩ (fun h => by cases h) ?a1 ?assign ?body ?done (fun _ _ _ _ h => h.elim)
  case assign =>
    intro l k V K hK
    gi_wp2
    exact hK
  case body =>
    rintro l k U hk ⟨hP, hB⟩ hUs
    have hlt := hk _ rfl
    have k0 : U.cell? ⟨w.heap.size, 0, none⟩ = some (.int .i64 k) := hP.cell 0
    have z0 := hP.frozen 0
    have HP := hid hP
    have HB := hid hB
    have hkb : k ≤ 100000 := by have := HLb.out; omega
    clear hP hB hk HIT HN0 HB0
    gi_wp2
    have F : Fr (fun b => b = w.heap.size) U (U.setCell ⟨w.heap.size, 0, none⟩ (.int .i64 ((k : Int) + 1))) := Fr.setCell (S := fun b => b = w.heap.size) U _ _ rfl
    exact ⟨KeepT.of_fr F (by intro b hb e; omega), HP.out.set_ 0 _, HB.out.trans (F.below HB.out.size (fun j hj e => by omega))⟩
  case done =>
    rintro D n U hn ⟨hP, hB⟩ hD hDl
    cases hn
    have k0 : U.cell? ⟨w.heap.size, 0, none⟩ = some (.int .i64 m) := hP.cell 0
    have z0 := hP.frozen 0
    have HP := hid hP
    have HB := hid hB
    clear hP hB HIT HN0 HB0
    go_wp2
    have F : Fr (fun b => b = w.heap.size) U (U.setCell ⟨w.heap.size, 0, none⟩ (.int .i64 m)) := Fr.setCell (S := fun b => b = w.heap.size) U _ _ rfl
    have F2 : Fr (fun b => b = D) (U.setCell ⟨w.heap.size, 0, none⟩ (.int .i64 m)) ((U.setCell ⟨w.heap.size, 0, none⟩ (.int .i64 m)).putObj D (.deferred none)) := Fr.putObj _ D _ rfl
    have hD2 : (U.setCell ⟨w.heap.size, 0, none⟩ (.int .i64 m)).heap[D]? = some (.deferred (some [])) := (F.block D (Array.getElem?_eq_some_iff.1 hD).1 (by omega)).trans hD
    have kE : ((U.setCell ⟨w.heap.size, 0, none⟩ (.int .i64 m)).putObj D (.deferred none)).cell? ⟨w.heap.size, 0, none⟩ = some (.int .i64 m) := ((HP.out.set_ 0 _).fr F2 (by omega)).cell 0
    exact bodyPostM_ret1 hD2 rfl (v := .int .i64 m) (by simp [results, Try.results15, go_sem, kE]) ⟨ret_int (by rw [HM.out]), (HB.out.trans (F.below HB.out.size (fun j hj e => by omega))).trans (F2.below (by have := HB.out.size; have := F.size; omega) (fun j hj e => by omega))⟩
end Go.Proofs.Ytpnmfnjpbhjddaa
