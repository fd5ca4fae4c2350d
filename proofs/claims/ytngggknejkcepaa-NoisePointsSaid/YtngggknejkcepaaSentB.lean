/- noise.sent at byte: its contract. -/
import Derived.Test.YtngggknejkcepaaVwA
import Derived.Test.YtngggknejkcepaaApp
import Derived.Test.YtngggknejkcepaaJump
namespace Go.Proofs.Ytngggknejkcepaa
open Go.RowKit Go.Shelf
set_option linter.unusedVariables false
theorem belem_sent : Elem1 Try.prog 25 5 1 (.int .u8 0) := Elem1.mk' Try.underlying25 (by kernel_rfl) rfl
set_option maxHeartbeats 1000000 in
theorem bsent_err (w : World) (b x : Nat) (f e s : Int) (hb : NB w b x f e s) (hx : 0 < x) (v by' : Value) (er : Int) :
    Calls Try.prog 33 #[.pointer (some ⟨b, 0, none⟩), v, .bool false, .int .i64 er, by'] w fun r w' => r = .returned (.tuple #[.slice none 0 0, .int .i64 er]) ∧ w = w' := by
  have C := hid (absent_no w b x f e s hb hx)
  clear hb hx
  go_enter Try.func33, Try.ntmps33
  go_wp2
  refine wp_scope_once 0 { tmps := #[.pointer (some ⟨b, 0, none⟩), v, .bool false, .int .i64 er, by', undef, undef, undef, undef, undef, .slice none 0 0, .int .i64 0, .slice none 0 0, undef, undef, .pointer (some ⟨b, 0, none⟩), .bool false, .bool false, .bool true, undef, undef, undef, undef, undef, undef, undef, undef, undef, undef, undef, undef, undef, undef, undef, undef, undef, undef, undef, undef], defers := [] } w rfl ?first ?pass
  case first =>
    go_wp2_with fail
    refine C.out.mono ?_
    rintro r w1 ⟨rfl, rfl⟩
    go_wp2
    go_step3
    exact ⟨rfl, rfl, rfl⟩
  case pass =>
    go_wp2
    rw [Exit.noGoto_ret]
    go_ret2
    exact ⟨rfl, rfl⟩
set_option maxHeartbeats 1000000 in
theorem bsent_none (w : World) (n v by' : Value) (fine : Bool) (er : Int) (hC : Calls Try.prog 36 #[n] w fun r w' => r = .returned (.bool true) ∧ w = w') :
    Calls Try.prog 33 #[n, v, .bool fine, .int .i64 er, by'] w fun r w' => r = .returned (.tuple #[.slice none 0 0, .int .i64 1]) ∧ w = w' := by
  have C := hid hC
  clear hC
  go_enter Try.func33, Try.ntmps33
  go_wp2
  refine wp_scope_once 0 { tmps := #[n, v, .bool fine, .int .i64 1, by', undef, undef, undef, undef, undef, .slice none 0 0, .int .i64 0, .slice none 0 0, undef, undef, n, .bool true, undef, undef, undef, undef, undef, undef, undef, undef, undef, undef, undef, undef, undef, undef, undef, undef, undef, undef, undef, undef, undef, undef], defers := [] } w rfl ?first ?pass
  case first =>
    go_wp2_with fail
    refine C.out.mono ?_
    rintro r w1 ⟨rfl, rfl⟩
    go_wp2
    go_step3
    exact ⟨rfl, rfl, rfl⟩
  case pass =>
    go_wp2
    rw [Exit.noGoto_ret]
    go_ret2
    exact ⟨rfl, rfl⟩
set_option maxHeartbeats 2000000 in
/-- Every element is transmitted; the state before element k is 'xs k'. -/
theorem bsent_ok (w : World) (b : Nat) (f e s : Int) (v : Value) (A : List Int) (er : Int) (hl : A.length ≤ 17592186044415) (hv : Vw w v (A.map (Value.int .u8))) (hvb : ∀ q off n c, v = .slice (some ⟨q, off, none⟩) n c → 0 < A.length → ¬ q = b) (F : FuncId) (xs : Nat → Nat) (g : Nat → Int) (hb : NB w b (xs 0) f e s) (hx : 0 < xs 0)
    (hef : ∀ args w, (callFunc F args).run Try.prog w = .ok (.enter F args) w)
    (hp : ∀ k, k < A.length → ∀ W, NB W b (xs k) f e s → Calls Try.prog F #[.pointer (some ⟨b, 0, none⟩), .int .u8 (A.getD k 0)] W fun r w' => r = .returned (.int .u8 (g k)) ∧ NB w' b (xs (k + 1)) f e s ∧ Fr (fun j => j = b) W w') :
    Calls Try.prog 33 #[.pointer (some ⟨b, 0, none⟩), v, .bool true, .int .i64 er, .func (.func F) #[.pointer (some ⟨b, 0, none⟩)] #[]] w fun r w' =>
      (∃ v', r = .returned (.tuple #[v', .int .i64 0]) ∧ VwA w' w.heap.size v' ((Soft.tab g A.length).map (Value.int .u8))) ∧ NB w' b (xs A.length) f e s ∧ Fr (fun j => j = b) w w' := by
  have C := hid (absent_no w b (xs 0) f e s hb hx)
  have HP := hid hp
  have HBN := hid hb
  have hbl := hb.lt
  have hcell : ∀ k, k < A.length → ∃ q off, (∃ c, v = .slice (some ⟨q, off, none⟩) A.length c) ∧ w.cell? ⟨q, off + k, none⟩ = some (.int .u8 (A.getD k 0)) := by
    intro k hk
    obtain ⟨a, c, rfl, hc⟩ := hv
    obtain ⟨q, off, rfl, h⟩ := hc k (by simpa using hk)
    exact ⟨q, off, ⟨c, by simp⟩, by simpa [List.getD, hk] using h⟩
  have hsh : ∃ a c, v = .slice a A.length c := by
    obtain ⟨a, c, rfl, _⟩ := hv
    exact ⟨a, c, by simp⟩
  obtain ⟨a, c, rfl⟩ := hsh
  have HCell := hid hcell
  have HVb := hid hvb
  clear hp hb hx hv hcell hvb
  go_enter Try.func33, Try.ntmps33
  go_wp2
  go_step3
  go_wp2_with fail
  refine C.out.mono ?_
  rintro r w1 ⟨rfl, rfl⟩
  go_wp2
  go_loopw [12, 21] (fun o i wr => ∃ k : Nat, k ≤ A.length ∧ i = .int .i64 k ∧ OwnL wr w.heap.size 5 o ((Soft.tab g k).map (Value.int .u8)) ∧ NB wr b (xs k) f e s ∧ Fr (fun j => j = b ∨ w.heap.size ≤ j) w wr) (fun _ i _ => A.length - (intOf i).toNat)
  case atStart => exact ⟨0, Nat.zero_le _, rfl, OwnL.nil _ _ _, HBN.out, Fr.refl _ _⟩
  case round =>
    obtain ⟨k, hk, rfl, hown, hB, hF⟩ := hrel
    by_cases hlt : k < A.length
    · obtain ⟨q, off, ⟨c', he⟩, hcell⟩ := HCell.out k hlt
      have hqb := HVb.out q off A.length c' he (by omega)
      simp only [Value.slice.injEq] at he
      obtain ⟨rfl, _, rfl⟩ := he
      have hql := World.block_lt_of_cell? _ _ hcell
      have hck := (hF.cell (p := ⟨q, off + k, none⟩) hql (by dsimp only at hql ⊢; omega)).trans hcell
      have hcall := hid (HP.out k hlt wr hB)
      obtain ⟨y, hy⟩ : ∃ y, y = A.getD k 0 := ⟨_, rfl⟩
      rw [← hy] at hck hcall
      have HS := hid (Soft.tab_succ g k)
      have HN := hid (show ((Soft.tab g k).map (Value.int .u8)).length = k by simp [Soft.tab_len])
      have HF := hid hF
      clear hcell hy hF hB
      go_wp2_with (first
        | (refine hcall.out.mono ?_; rintro r w1 ⟨rfl, hB1, hF1⟩; have hown1 := hown.fr hF1 (fun g' e => by have := (hown.block e).1; omega); have hF2 := HF.out.trans (hF1.mono (fun j _ h => .inl h)); have hsz := hF2.size; clear hown hF1)
        | (at_builtin; refine wpList_append_one rfl belem_sent (.tmp 25) (.tmp 29) rfl w.heap.size _ k _ HN.out rfl hown1 _ rfl rfl (by omega) (by omega) hsz ?_; intro g1 cap1 w2 hown2 hf))
      have hne : ∀ i, Value.ownBlock _ = some i → w.heap.size ≤ i := fun i e => (hown1.block e).1
      have hB2 := hB1.fr hf (fun e => by have := hne _ e; omega)
      have hF3 := hF2.trans (hf.mono (fun j _ e => .inr (hne _ e)))
      clear hown1 hf hF2 hne hB1
      go_wp2
      go_roundw
      case rel => exact ⟨k + 1, by omega, by go_num, by rw [HS.out, List.map_append]; exact hown2, hB2, hF3⟩
      case measure => simp [intOf]; omega
    · obtain rfl : k = A.length := by omega
      have HN := hid (show ((Soft.tab g A.length).map (Value.int .u8)).length = A.length by simp [Soft.tab_len])
      obtain ⟨a2, c2, rfl, hcap, hcut⟩ := hown.cut
      rw [HN.out] at hcap hcut ⊢
      have HV := hid hcut
      have HB := hid hB
      have HF := hid hF
      clear hown hcut hB hF
      go_wp2
      first
      | go_ret2
      | (rw [Exit.noGoto_ret]; go_ret2)
      exact ⟨⟨_, rfl, HV.out⟩, HB.out, HF.out.mono (fun j h1 h2 => by omega)⟩
end Go.Proofs.Ytngggknejkcepaa
