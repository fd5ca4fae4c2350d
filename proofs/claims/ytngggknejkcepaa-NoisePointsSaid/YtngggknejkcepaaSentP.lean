/- noise.sent at points: its contract; Points. -/
import Derived.Test.YtngggknejkcepaaNoiR
import Derived.Test.YtngggknejkcepaaPtA
import Derived.Test.YtngggknejkcepaaJump
namespace Go.Proofs.Ytngggknejkcepaa
open Go.RowKit Go.Shelf
set_option linter.unusedVariables false
set_option maxHeartbeats 1000000 in
theorem psent_err (w : World) (b x : Nat) (f e s : Int) (hb : NB w b x f e s) (hx : 0 < x) (v by' : Value) (er : Int) :
    Calls Try.prog 48 #[.pointer (some ⟨b, 0, none⟩), v, .bool false, .int .i64 er, by'] w fun r w' => r = .returned (.tuple #[.slice none 0 0, .int .i64 er]) ∧ w = w' := by
  have C := hid (absent_no w b x f e s hb hx)
  clear hb hx
  go_enter Try.func48, Try.ntmps48
  go_wp2
  refine wp_scope_once 0 { tmps := #[.pointer (some ⟨b, 0, none⟩), v, .bool false, .int .i64 er, by', undef, undef, undef, undef, undef, .slice none 0 0, .int .i64 0, .slice none 0 0, undef, undef, .pointer (some ⟨b, 0, none⟩), .bool false, .bool false, .bool true, undef, undef, undef, undef, undef, undef, undef, undef, undef, undef, undef, undef, undef, undef, undef, undef, undef, undef, undef, undef], defers := [] } w rfl ?first ?pass
  case first =>
    go_wp2_with fail
    refine C.out.mono ?_
    rintro r w1 ⟨rfl, rfl⟩
    go_wp2
    go_step3
    exact ⟨rfl, rfl, rfl⟩
  case pass =>
    go_wp2
    rw [Exit.noGoto_ret]
    go_ret2
    exact ⟨rfl, rfl⟩
set_option maxHeartbeats 1000000 in
theorem psent_none (w : World) (n v by' : Value) (fine : Bool) (er : Int) (hC : Calls Try.prog 36 #[n] w fun r w' => r = .returned (.bool true) ∧ w = w') :
    Calls Try.prog 48 #[n, v, .bool fine, .int .i64 er, by'] w fun r w' => r = .returned (.tuple #[.slice none 0 0, .int .i64 1]) ∧ w = w' := by
  have C := hid hC
  clear hC
  go_enter Try.func48, Try.ntmps48
  go_wp2
  refine wp_scope_once 0 { tmps := #[n, v, .bool fine, .int .i64 1, by', undef, undef, undef, undef, undef, .slice none 0 0, .int .i64 0, .slice none 0 0, undef, undef, n, .bool true, undef, undef, undef, undef, undef, undef, undef, undef, undef, undef, undef, undef, undef, undef, undef, undef, undef, undef, undef, undef, undef, undef], defers := [] } w rfl ?first ?pass
  case first =>
    go_wp2_with fail
    refine C.out.mono ?_
    rintro r w1 ⟨rfl, rfl⟩
    go_wp2
    go_step3
    exact ⟨rfl, rfl, rfl⟩
  case pass =>
    go_wp2
    rw [Exit.noGoto_ret]
    go_ret2
    exact ⟨rfl, rfl⟩
set_option maxHeartbeats 2000000 in
/-- Every element is transmitted; the state before element k is 'xs k'. -/
theorem psent_ok (w : World) (b : Nat) (f e s : Int) (v : Value) (A : List Pt) (er : Int) (hl : A.length ≤ 1000000) (hv : PVw w v A) (hvb : ∀ q off n c, v = .slice (some ⟨q, off, none⟩) n c → 0 < A.length → ¬ q = b) (F : FuncId) (xs : Nat → Nat) (g : Nat → Pt) (L : Nat → List Pt) (hL0 : L 0 = []) (hLs : ∀ k, L (k + 1) = L k ++ [g k]) (hLl : ∀ k, (L k).length = k) (hb : NB w b (xs 0) f e s) (hx : 0 < xs 0)
    (hef : ∀ args w, (callFunc F args).run Try.prog w = .ok (.enter F args) w)
    (hp : ∀ k, k < A.length → ∀ W, NB W b (xs k) f e s → Calls Try.prog F #[.pointer (some ⟨b, 0, none⟩), ptV (A.getD k (0, 0))] W fun r w' => r = .returned (ptV (g k)) ∧ NB w' b (xs (k + 1)) f e s ∧ Fr (fun j => j = b) W w') :
    Calls Try.prog 48 #[.pointer (some ⟨b, 0, none⟩), v, .bool true, .int .i64 er, .func (.func F) #[.pointer (some ⟨b, 0, none⟩)] #[]] w fun r w' =>
      (∃ v', r = .returned (.tuple #[v', .int .i64 0]) ∧ PVwA w' w.heap.size v' (L A.length)) ∧ NB w' b (xs A.length) f e s ∧ Fr (fun j => j = b) w w' := by
  have C := hid (absent_no w b (xs 0) f e s hb hx)
  have HP := hid hp
  have HBN := hid hb
  have hbl := hb.lt
  have HVw := hid hv
  obtain ⟨a, c, rfl, _⟩ := hv
  have HVb := hid hvb
  have HL0 := hid hL0
  have HLs := hid hLs
  have HLl := hid hLl
  clear hp hb hx hvb hL0 hLs hLl
  go_enter Try.func48, Try.ntmps48
  go_wp2
  go_step3
  go_wp2_with fail
  refine C.out.mono ?_
  rintro r w1 ⟨rfl, rfl⟩
  go_wp2
  go_loopw [12, 21] (fun o i wr => ∃ k : Nat, k ≤ A.length ∧ i = .int .i64 k ∧ POwn wr w.heap.size 89 o (L k) ∧ NB wr b (xs k) f e s ∧ Fr (fun j => j = b ∨ w.heap.size ≤ j) w wr) (fun _ i _ => A.length - (intOf i).toNat)
  case atStart => exact ⟨0, Nat.zero_le _, rfl, by rw [HL0.out]; exact POwn.nil _ _ _, HBN.out, Fr.refl _ _⟩
  case round =>
    obtain ⟨k, hk, rfl, hown, hB, hF⟩ := hrel
    by_cases hlt : k < A.length
    · obtain ⟨q, off, e1, hx0, hy0⟩ := HVw.out.at hlt
      cases e1
      have hqb := HVb.out q off A.length c rfl (by omega)
      have hql := World.block_lt_of_cell? _ _ hx0
      dsimp only at hql
      have hx := (hF.cell (p := ⟨q, off + k * 2, none⟩) hql (by dsimp only; omega)).trans hx0
      have hy := (hF.cell (p := ⟨q, off + k * 2 + 1, none⟩) hql (by dsimp only; omega)).trans hy0
      have hsz0 : w.heap.size ≤ wr.heap.size := hF.size
      have hbr := hB.lt
      have hcall := hid (fun W h => HP.out k hlt W h)
      have HS := hid (HLs.out k)
      have HNk := hid (HLl.out k)
      generalize A.getD k (0, 0) = p at *
      generalize g k = z at *
      obtain ⟨px, py⟩ := p
      obtain ⟨zx, zy⟩ := z
      dsimp only [ptV] at hx hy hcall
      have HFr := hid hF
      have HBr := hid hB
      have HO := hid hown
      clear hx0 hy0 hF hB hown
      go_wp2_with fail
      generalize hW : World.alloc _ _ = w2
      have F : Fr (fun _ => False) wr w2 := by rw [← hW]; exact Fr.alloc _ _ _
      have HB2 := hid (HBr.out.fr F (fun h => h))
      have HO2 := hid (HO.out.fr F (fun _ _ h => h))
      have HF2 := hid (HFr.out.trans (F.mono (fun _ _ h => h.elim)))
      clear hW F
      refine (hcall.out _ HB2.out).mono ?_
      rintro r w3 ⟨rfl, hB3, hF3⟩
      have hown3 := HO2.out.fr hF3 (fun g' e => by have := (HO2.out.block e).1; omega)
      have HF3 := hid (HF2.out.trans (hF3.mono (fun j _ h => .inl h)))
      have HB3 := hid hB3
      have hsz := HF3.out.size
      clear hF3 hB3
      go_wp2_with (at_builtin; refine wpList_append_one2 rfl pelem_n (.tmp 25) (.tmp 29) rfl w.heap.size _ k _ HNk.out rfl hown3 _ _ rfl (by omega) hsz ?_; intro g1 cap1 w4 hown4 hf)
      have hne : ∀ i, Value.ownBlock _ = some i → w.heap.size ≤ i := fun i e => (hown3.block e).1
      have HB4 := hid (HB3.out.fr hf (fun e => by have := hne _ e; omega))
      have HF4 := hid (HF3.out.trans (hf.mono (fun j _ e => .inr (hne _ e))))
      have HO4 := hid hown4
      clear hown3 hf hne hown4
      go_wp2
      go_roundw
      case rel => exact ⟨k + 1, by omega, by go_num, by rw [HS.out]; exact HO4.out, HB4.out, HF4.out⟩
      case measure => simp [intOf]; omega
    · obtain rfl : k = A.length := by omega
      have HNk := hid (HLl.out A.length)
      obtain ⟨a2, c2, rfl, hcap, hcut⟩ := hown.cut
      rw [HNk.out] at hcap hcut ⊢
      have HV := hid hcut
      have HB := hid hB
      have HF := hid hF
      clear hown hcut hB hF
      go_wp2
      first
      | go_ret2
      | (rw [Exit.noGoto_ret]; go_ret2)
      exact ⟨⟨_, rfl, HV.out⟩, HB.out, HF.out.mono (fun j h1 h2 => by omega)⟩
theorem npbad_any (w : World) (v : Value) (P : List Pt) (hv : PVw w v P) (hl : P.length ≤ 1000000) :
    Calls Try.prog 46 #[v, .func (.func 47) #[] #[]] w fun e w' => e = .returned (.bool (Noi.pbad P)) ∧ Below w.heap.size w w' := by
  have H := pcontains_any w v P hv hl 47 (enters_of Try.func47 (by kernel_rfl) rfl) (fun i => Noi.pinv (P.getD i (0, 0))) (fun i _ W _ => pts1_any _ _)
  rw [Noi.pbad_eq] at H
  exact H
set_option maxHeartbeats 1000000 in
theorem npoints_any (w : World) (b x : Nat) (f e s : Int) (v : Value) (A : List Pt) (hc : Ch f e s) (h0 : 0 < x) (hx : x < Noi.M) (hb : NB w b x f e s) (hv : PVw w v A) (hvb : ∀ q off n c, v = .slice (some ⟨q, off, none⟩) n c → 0 < A.length → ¬ q = b) (hA : A.length ≤ 1000000) :
    Calls Try.prog 27 #[.pointer (some ⟨b, 0, none⟩), v] w fun r w' => (∃ v', r = .returned (.tuple #[v', .int .i64 (Noi.ptE A)]) ∧ PVwA w' w.heap.size v' (Noi.ptL s x A)) ∧ NB w' b (Noi.ptX x A) f e s ∧ Fr (fun j => j = b) w w' := by
  have VA := hid (npbad_any w v A hv hA)
  have hbl := hb.lt
  cases h : Noi.pbad A with
  | true =>
    rw [show Noi.ptL s x A = [] from if_pos h, show Noi.ptX x A = x from if_pos h, show Noi.ptE A = 2 from if_pos h]
    rw [h] at VA
    have HB := hid hb
    clear h hb hv
    go_enter Try.func27, Try.ntmps27
    go_wp2_with fail
    refine VA.out.mono ?_
    rintro r w1 ⟨rfl, B1⟩
    go_wp2_with fail
    refine (psent_err _ b x f e s (HB.out.below B1 hbl) h0 _ _ _).mono ?_
    rintro r w2 ⟨rfl, rfl⟩
    go_wp2
    go_ret2
    exact ⟨⟨_, rfl, PVwA.nil _ _ _⟩, HB.out.below B1 hbl, (Fr.of_below B1).mono (fun k h1 h2 => by omega)⟩
  | false =>
    rw [show Noi.ptL s x A = Noi.pl s x A A.length from if_neg (by simp [h]), show Noi.ptX x A = Noi.stN x (2 * A.length) from if_neg (by simp [h]), show Noi.ptE A = 0 from if_neg (by simp [h])]
    rw [h] at VA
    have HS := hid (fun w1 (hB : Below w.heap.size w w1) => psent_ok w1 b f e s v A 2 hA (hv.below hB (Nat.le_refl _)) hvb 49 (fun k => Noi.stN x (2 * k)) (Noi.ptG s x A) (Noi.pl s x A) rfl (Noi.pl_succ s x A) (Noi.pl_len s x A) (hb.below hB hbl) h0
      (enters_of Try.func49 (by kernel_rfl) rfl)
      (fun k hk W hW => point_any W b (Noi.stN x (2 * k)) f e s (A.getD k (0, 0)) hc (Noi.stN_lt hx _) hW (Noi.pbad_at h hk)))
    clear h hb hv hvb
    go_enter Try.func27, Try.ntmps27
    go_wp2_with fail
    refine VA.out.mono ?_
    rintro r w1 ⟨rfl, B1⟩
    go_wp2_with fail
    refine (HS.out _ B1).mono ?_
    rintro r w2 ⟨⟨v', rfl, V2⟩, N2, F2⟩
    have HV2 := hid (V2.mono B1.size)
    have HN := hid N2
    clear V2 N2
    go_wp2
    go_ret2
    exact ⟨⟨_, rfl, HV2.out⟩, HN.out, ((Fr.of_below B1).mono (fun k h1 h2 => by omega)).trans F2⟩
end Go.Proofs.Ytngggknejkcepaa
