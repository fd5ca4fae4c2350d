/- userplanelaw18.NoiseHolds. -/
import Derived.Test.YtngggknejkcepaaLaws18a
import Derived.Test.YtngggknejkcepaaCopy
namespace Go.Proofs.Ytngggknejkcepaa
open Go.RowKit Go.Shelf
set_option linter.unusedVariables false
attribute [local go_sem ↓] Go.wp_at_zero Go.wp_at_succ
theorem Vw.drop {w : World} {b off n c : Nat} {vs : List Value} (h : Vw w (.slice (some ⟨b, off, none⟩) n c) vs) (m c' : Nat) (hm : m ≤ vs.length) : Vw w (.slice (some ⟨b, off + m, none⟩) (n - m) c') (vs.drop m) := by
  obtain ⟨a, c0, e1, hc⟩ := h
  simp only [Value.slice.injEq] at e1
  obtain ⟨rfl, rfl, _⟩ := e1
  refine ⟨_, c', by rw [List.length_drop], fun i hi => ?_⟩
  rw [List.length_drop] at hi
  obtain ⟨b', off', e2, hb⟩ := hc (m + i) (by omega)
  simp only [Option.some.injEq, Addr.mk.injEq, and_true] at e2
  obtain ⟨rfl, rfl⟩ := e2
  exact ⟨b, off + m, rfl, by rw [List.getElem_drop, Nat.add_assoc]; exact hb⟩
theorem Vw.take' {w : World} {a : Option Addr} {n c : Nat} {vs : List Value} (h : Vw w (.slice a n c) vs) (m c' : Nat) (hm : m ≤ vs.length) : Vw w (.slice a m c') (vs.take m) := by
  obtain ⟨a', c0, e1, hc⟩ := h
  simp only [Value.slice.injEq] at e1
  obtain ⟨rfl, rfl, _⟩ := e1
  have hl : (vs.take m).length = m := by simp; omega
  refine ⟨_, c', by rw [hl], fun i hi => ?_⟩
  rw [hl] at hi
  obtain ⟨b', off', e2, hb⟩ := hc i (by omega)
  exact ⟨b', off', e2, by simpa using hb⟩
theorem Vw.drop' {w : World} {a : Option Addr} {n c : Nat} {vs : List Value} (h : Vw w (.slice a n c) vs) (m c' : Nat) (hm : m ≤ vs.length) (hn : vs.length ≤ c) : Vw w (.slice (if c = m then a else a.map (·.add m)) (vs.length - m) c') (vs.drop m) := by
  by_cases hcm : c = m
  · rw [if_pos hcm, List.drop_eq_nil_of_le (by omega), show vs.length - m = 0 by omega]
    exact Vw.nil _ _ _
  · rw [if_neg hcm]
    obtain ⟨a', c0, e1, hc⟩ := h
    simp only [Value.slice.injEq] at e1
    obtain ⟨rfl, rfl, _⟩ := e1
    refine ⟨_, c', by rw [List.length_drop], fun i hi => ?_⟩
    rw [List.length_drop] at hi
    obtain ⟨b', off', rfl, hb⟩ := hc (m + i) (by omega)
    refine ⟨b', off' + m, by simp [Addr.add_lit], by rw [List.getElem_drop, Nat.add_assoc]; exact hb⟩
theorem Vw.cap {w : World} {a : Option Addr} {n c : Nat} {vs : List Value} (h : Vw w (.slice a n c) vs) (c' : Nat) : Vw w (.slice a n c') vs := by
  obtain ⟨a', c0, e1, hc⟩ := h
  simp only [Value.slice.injEq] at e1
  obtain ⟨rfl, rfl, _⟩ := e1
  exact ⟨_, _, rfl, hc⟩
theorem wp_copy_list {P : Program} {o : Oper} {a : Act} {w : World} {K : Act → World → Prop} {Q : Exit → Act → World → Prop} {t e : TypeId} {bytes : Nat} {z : Value} (E : Elem1 P t e bytes z) (s x : Operand)
    (ho : o.op = .call { callee := .builtin .append, args := #[s, x], argTypes := #[t, t] })
    (hs : a.eval s = .slice (some ⟨w.heap.size, 0, none⟩) 0 0) (vx : Value) (ys : List Value) (hx : a.eval x = vx) (hy : Vw w vx ys) (h1 : ∀ u ∈ ys, u.oneCell' = true)
    (hlen : ys.length * bytes ≤ 140737488355328) (hmax : ys.length ≤ 9223372036854775807)
    (h : ∀ v' w', OwnL w' w.heap.size e v' ys → Below w.heap.size w w' → K (a.put o.dst v') w') : Oper.wp P o a (w.alloc (.cells #[] e)) K Q := by
  obtain ⟨v', w', hr, h2, h3⟩ := exec_copy_list E s x ho hs vx ys hx hy h1 hlen hmax
  unfold Oper.wp
  rw [hr]
  exact h v' w' h2 h3
theorem wp_append_list {P : Program} {o : Oper} {a : Act} {w : World} {K : Act → World → Prop} {Q : Exit → Act → World → Prop} {t e : TypeId} {bytes : Nat} {z : Value} (E : Elem1 P t e bytes z) (s x : Operand)
    (ho : o.op = .call { callee := .builtin .append, args := #[s, x], argTypes := #[t, t] })
    (base : Nat) (v : Value) (xs : List Value) (hs : a.eval s = v) (hown : OwnL w base e v xs) (vx : Value) (ys : List Value) (hx : a.eval x = vx) (hy : Vw w vx ys) (h1 : ∀ u ∈ ys, u.oneCell' = true)
    (hlen : (xs.length + ys.length) * bytes ≤ 140737488355328) (hmax : xs.length + ys.length ≤ 9223372036854775807) (hbase : base ≤ w.heap.size)
    (h : ∀ v' w', OwnL w' base e v' (xs ++ ys) → Fr (fun k => v.ownBlock = some k) w w' → K (a.put o.dst v') w') : Oper.wp P o a w K Q := by
  obtain ⟨v', w', hr, h2, h3⟩ := exec_append_list E s x ho base v xs hs hown vx ys hx hy h1 hlen hmax hbase
  unfold Oper.wp
  rw [hr]
  exact h v' w' h2 h3
theorem hvb_of {w0 : World} {v : Value} {A : List Int} (h : Vw w0 v (A.map (Value.int .i64))) : ∀ q off n c, v = .slice (some ⟨q, off, none⟩) n c → 0 < A.length → q < w0.heap.size := by
  intro q off n c' he hp
  obtain ⟨q', off', c'', h', hcell⟩ := vw_at' h hp
  have := World.block_lt_of_cell? _ _ hcell
  rw [he] at h'
  cases h'
  exact this
theorem soft_good (w : World) (b x : Nat) (f e s : Int) (v : Value) (A : List Int) (hc : Ch f e s) (h0 : 0 < x) (hx : x < Noi.M) (hb : NB w b x f e s) (hv : Vw w v (A.map (Value.int .i64))) (hvb : ∀ q off n c, v = .slice (some ⟨q, off, none⟩) n c → 0 < A.length → ¬ q = b) (hA : A.length ≤ 1000000) (hbad : Soft.bad A = false) :
    Calls Try.prog 20 #[.pointer (some ⟨b, 0, none⟩), v] w fun r w' => (∃ v', r = .returned (.tuple #[v', .int .i64 0]) ∧ VwA w' w.heap.size v' ((Noi.sofL f e s x A).map (Value.int .i64))) ∧ NB w' b (Noi.sofX x A) f e s ∧ Fr (fun j => j = b) w w' := by
  have := soft_any w b x f e s v A hc h0 hx hb hv hvb hA
  rwa [show Noi.sofE A = 0 from if_neg (by simp [hbad])] at this
namespace Noi
theorem bad_take {A : List Int} (h : Soft.bad A = false) (k : Nat) : Soft.bad (A.take k) = false := by
  rw [Soft.bad, List.any_eq_false] at h ⊢
  exact fun x hx => h x (List.mem_of_mem_take hx)
theorem bad_drop {A : List Int} (h : Soft.bad A = false) (k : Nat) : Soft.bad (A.drop k) = false := by
  rw [Soft.bad, List.any_eq_false] at h ⊢
  exact fun x hx => h x (List.mem_of_mem_drop hx)
theorem tab_add (g : Nat → Int) (a b : Nat) : Soft.tab g (a + b) = Soft.tab g a ++ Soft.tab (fun i => g (a + i)) b := by
  induction b with
  | zero => simp [Soft.tab]
  | succ b ih => rw [← Nat.add_assoc, Soft.tab_succ, ih, Soft.tab_succ, List.append_assoc]
/-- Transmission does not depend on the division into calls. -/
theorem sof_cut {f e s : Int} {x : Nat} {A : List Int} (h : Soft.bad A = false) {k : Nat} (hk : k ≤ A.length) :
    sofL f e s x A = sofL f e s x (A.take k) ++ sofL f e s (sofX x (A.take k)) (A.drop k) ∧ sofX x A = sofX (sofX x (A.take k)) (A.drop k) := by
  obtain ⟨h1, h2, -⟩ := sofL_ok (f := f) (e := e) (s := s) (x := x) h
  obtain ⟨h3, h4, -⟩ := sofL_ok (f := f) (e := e) (s := s) (x := x) (bad_take h k)
  obtain ⟨h5, h6, -⟩ := sofL_ok (f := f) (e := e) (s := s) (x := sofX x (A.take k)) (bad_drop h k)
  have hl1 : (A.take k).length = k := by simp; omega
  have hl2 : (A.drop k).length = A.length - k := by simp
  rw [h1, h2, h3, h5, h6, h4, hl1, hl2]
  constructor
  · have e1 : A.length = k + (A.length - k) := by omega
    rw [show Soft.tab (sofG f e s x A) A.length = Soft.tab (sofG f e s x A) (k + (A.length - k)) by rw [← e1], tab_add]
    congr 1
    · refine Soft.tab_congr fun i hi => ?_
      unfold sofG
      rw [show (A.take k).getD i 0 = A.getD i 0 by simp [List.getD, List.getElem?_take, hi]]
    · refine Soft.tab_congr fun i hi => ?_
      unfold sofG
      rw [← stN_add, show 2 * k + 2 * i = 2 * (k + i) by omega, show (A.drop k).getD i 0 = A.getD (k + i) 0 by simp [List.getD, List.getElem?_drop]]
  · rw [← stN_add, show 2 * k + 2 * (A.length - k) = 2 * A.length by omega]
theorem val_lo (f e s : Int) (x : Nat) (v : Int) : -127 ≤ val f e s x v := Soft.clamp_lo _
theorem val_hi (f e s : Int) (x : Nat) (v : Int) : val f e s x v ≤ 127 := Soft.clamp_hi _
theorem clamp_near {v d s : Int} (h1 : -127 ≤ v) (h2 : v ≤ 127) (d1 : -s ≤ d) (d2 : d ≤ s) : -s ≤ Soft.clamp (v + d) - v ∧ Soft.clamp (v + d) - v ≤ s := by
  unfold Soft.clamp
  split
  · omega
  · split <;> omega
theorem val_zero {f e s : Int} {x : Nat} {v : Int} (f0 : 0 ≤ f) (e0 : 0 ≤ e) (hfe : f + e = 0) (s0 : 0 ≤ s) (h1 : -127 ≤ v) (h2 : v ≤ 127) : -s ≤ val f e s x v - v ∧ val f e s x v - v ≤ s := by
  have he : evt f e (step x) = 0 := by unfold evt; rw [if_neg (by omega), if_neg (by omega)]
  have hv : vin f e (step x) v = v := by unfold vin; rw [he]; rfl
  unfold val
  rw [hv]
  exact clamp_near h1 h2 (dis_lo s0 _) (dis_hi s0 _)
theorem val_full {f e s : Int} {x : Nat} {v : Int} (f0 : 0 ≤ f) (he : e = 1024) (hfe : f + e ≤ 1024) (s0 : 0 ≤ s) (s1 : s ≤ 127) : -s ≤ val f e s x v ∧ val f e s x v ≤ s := by
  have hev : evt f e (step x) = 2 := by
    unfold evt
    have : ((step x : Nat) : Int) % 1024 < 1024 := Int.emod_lt_of_pos _ (by decide)
    rw [if_neg (by have := Int.emod_nonneg ((step x : Nat) : Int) (show (1024 : Int) ≠ 0 by decide); omega), if_pos (by omega)]
  have hv : vin f e (step x) v = 0 := by unfold vin; rw [hev]; rfl
  unfold val
  rw [hv]
  have := clamp_near (v := 0) (by decide) (by decide) (dis_lo s0 (step (step x))) (dis_hi s0 (step (step x)))
  omega
end Noi
/-- The condition of NoiseHolds at an element: all of value a, was v. -/
def nhBad (f e s a v : Int) : Bool := decide (127 < a) || decide (a < -127) || ((f + e == 0) && (decide (s < a - v) || decide (a - v < -s))) || ((e == 1024) && (decide (s < a) || decide (a < -s)))
theorem nh_ok {f e s : Int} (hc : Ch f e s) {x : Nat} {v : Int} (h1 : -127 ≤ v) (h2 : v ≤ 127) :
    -127 ≤ Noi.val f e s x v ∧ Noi.val f e s x v ≤ 127 ∧ (f + e = 0 → -s ≤ Noi.val f e s x v - v ∧ Noi.val f e s x v - v ≤ s) ∧ (e = 1024 → -s ≤ Noi.val f e s x v ∧ Noi.val f e s x v ≤ s) :=
  ⟨Noi.val_lo _ _ _ _ _, Noi.val_hi _ _ _ _ _, fun h => Noi.val_zero hc.f0 hc.e0 h hc.s0 h1 h2, fun h => Noi.val_full hc.f0 h hc.fe hc.s0 hc.s1⟩
set_option maxRecDepth 100000 in
set_option maxHeartbeats 8000000 in
theorem holds_early (w : World) (f e s : Int) (x : Nat) (a0 : Option Addr) (c0 : Nat) (A : List Int) (cut : Int) (HV : Hid (Vw w (.slice a0 A.length c0) (A.map (Value.int .i64)))) (h : 200 < A.length ∨ (A.length ≤ 200 ∧ Soft.bad A = true)) :
    Calls Try.prog 6 #[.agg #[.int .i64 f, .int .i64 e, .int .i64 s], .int .u64 (x : Nat), .slice a0 A.length c0, .int .i64 cut] w fun e w' => e = .returned (.bool true) ∧ Below w.heap.size w w' := by
  rcases h with h | ⟨h, hb⟩
  · have hd : decide (200 < (A.length : Int)) = true := by simp; omega
    clear h
    go_enter Try.func6, Try.ntmps6
    go_wp2_with fail
    refine (works18 _).mono ?_
    rintro r w1 ⟨rfl, B1⟩
    go_wp2
    go_ret
    exact ⟨rfl, up_alloc B1⟩
  · have hd : decide (200 < (A.length : Int)) = false := by simp; omega
    have HRV := hid (fun w1 (hB : Below w.heap.size w w1) => refValid_any w1 _ A (HV.out.below hB (Nat.le_refl _)) (by omega))
    rw [hb] at HRV
    clear h hb
    go_enter Try.func6, Try.ntmps6
    go_wp2_with fail
    refine (HRV.out _ (below_alloc _ _)).mono ?_
    rintro r w1 ⟨rfl, rfl⟩
    go_wp2_with fail
    refine (works18 _).mono ?_
    rintro r w1 ⟨rfl, B1⟩
    go_wp2
    go_ret
    exact ⟨rfl, up_alloc B1⟩
set_option maxRecDepth 100000 in
set_option maxHeartbeats 8000000 in
theorem law_NoiseHolds (w : World) (f e s x : Int) (v : Value) (A : List Int) (cut : Int) (wf : (Lit.int .i64 f).wf = true) (we : (Lit.int .i64 e).wf = true) (ws : (Lit.int .i64 s).wf = true) (wx : (Lit.int .u64 x).wf = true) (w0 : IntsIn .i64 w v A) (hcap : ∀ a n c, v = .slice a n c → n ≤ c) (wc : (Lit.int .i64 cut).wf = true) :
    Calls Try.prog 6 #[.agg #[.int .i64 f, .int .i64 e, .int .i64 s], .int .u64 x, v, .int .i64 cut] w fun e w' => e = .returned (.bool true) ∧ Below w.heap.size w w' := by
  obtain ⟨x, rfl, hx⟩ := wf_u64' wx
  clear wx ws
  obtain ⟨hv, hl, -⟩ := w0
  have HV := hid hv
  have hsp := vw_split hv
  obtain ⟨a0, c0, rfl, _⟩ := hv
  have hAc : A.length ≤ c0 := by have := hcap _ _ _ rfl; simpa using this
  clear hcap
  rw [List.length_map] at HV hsp ⊢
  by_cases hbig : 200 < A.length
  · exact holds_early w f e s x a0 c0 A cut HV (.inl hbig)
  by_cases hbad : Soft.bad A = true
  · exact holds_early w f e s x a0 c0 A cut HV (.inr ⟨by omega, hbad⟩)
  have hbf : Soft.bad A = false := by simpa using hbad
  have hA : A.length ≤ 200 := by omega
  have hd : decide (200 < (A.length : Int)) = false := by simp; omega
  have HRV := hid (fun w1 (hB : Below w.heap.size w w1) => refValid_any w1 _ A (HV.out.below hB (Nat.le_refl _)) (by omega))
  rw [hbf] at HRV
  clear hbig hbad hl
  rcases ch_dec f e s with hc | hc
  · clear wf we
    have HNew := hid (fun w => new_ok w f e s x hc hx)
    have hy0 := Noi.seed0_pos x
    have hyM := hid (Noi.seed0_lt hx)
    generalize Noi.seed0 x = y at *
    have HC := hid hc
    -- the cut
    obtain ⟨q, hq⟩ : ∃ q : Int, q = (if (A.length : Int) < cut then (A.length : Int) else cut) := ⟨_, rfl⟩
    obtain ⟨k, hk⟩ : ∃ k : Nat, (k : Int) = (if 0 < q then q else 0) := ⟨(if 0 < q then q else 0).toNat, by split <;> omega⟩
    have hkA : k ≤ A.length := by split at hk <;> split at hq <;> omega
    have hkx := hk.symm
    have hqx := hq.symm
    clear hq
    have HCut := hid (Noi.sof_cut (f := f) (e := e) (s := s) (x := y) hbf hkA)
    have HBad := hid hbf
    clear hx hc hk hbf
    go_enter Try.func6, Try.ntmps6
    go_wp2_with fail
    refine (HRV.out _ (below_alloc _ _)).mono ?_
    rintro r w1 ⟨rfl, rfl⟩
    go_wp2_with fail
    refine (HNew.out _).mono ?_
    rintro r w1 ⟨⟨g, rfl, N1, hg⟩, B1⟩
    have HP1 := hid (show Blk w1 w.heap.size 23 #[.int .i64 f, .int .i64 e, .int .i64 s] from Blk.below (Blk.new w _ _) B1 (by simp))
    have hg2 : w.heap.size < g := by simp at hg; omega
    have hgl := N1.lt
    have HN1 := hid N1
    have HB1 := hid (up_alloc B1)
    clear B1 N1 hg HNew HRV
    go_wp2_with (go_at_call 16; refine (num18_any _ _).mono ?_; rintro r w' ⟨rfl, rfl⟩)
    refine (clone_any w1 g y f e s HN1.out hy0).mono ?_
    rintro r w2 ⟨rfl, N, B⟩
    have hs2 : w1.heap.size < w2.heap.size := N.lt
    have HO2 := hid N
    obtain ⟨go, hgo⟩ : ∃ go, go = w1.heap.size := ⟨_, rfl⟩
    rw [← hgo] at HO2 ⊢
    have hgo1 : w1.heap.size ≤ go := by omega
    have hgo2 : go ≤ w1.heap.size := by omega
    have HN2 := hid (HN1.out.below B HN1.out.lt)
    have HP2 := hid (HP1.out.below B HP1.out.lt)
    have HB2 := hid (below_then HB1.out B)
    clear hgo N B HN1 HP1 HB1
    have hblk := hid (show ∀ (q : Nat) off n c', Value.slice a0 A.length c0 = .slice (some ⟨q, off, none⟩) n c' → 0 < A.length → q < w.heap.size from fun q off n c' h hp => by
      obtain ⟨q', off', c'', h', hcell⟩ := vw_at' HV.out hp
      have := World.block_lt_of_cell? _ _ hcell
      cases h; cases h'; exact this)
    go_wp2_with fail
    have hbt := hid (Noi.bad_take HBad.out k)
    have hbd := hid (Noi.bad_drop HBad.out k)
    refine (soft_good w2 g y f e s _ A HC.out hy0 hyM.out HN2.out (HV.out.below HB2.out (Nat.le_refl _)) (fun q off n c' h hp => by have := hblk.out q off n c' h hp; omega) (by omega) HBad.out).mono ?_
    rintro r w3 ⟨⟨v3, rfl, V3⟩, N3, F3⟩
    have HV3 := hid V3
    have HN3 := hid N3
    have HO3 := hid (HO2.out.fr F3 (by omega))
    have HP3 := hid (HP2.out.fr F3 (by omega))
    have HB3 := hid (HB2.out.trans (F3.below HB2.out.size (fun j hj e => by omega)))
    have hs3 : w2.heap.size ≤ w3.heap.size := F3.size
    have HVl3 := hid (HV.out.below HB3.out (Nat.le_refl _))
    clear V3 N3 F3 HN2 HO2 HP2 HB2 hkx hqx
    have HTk := hid (show (A.take k).length = k by simp; omega)
    have HDr := hid (show (A.drop k).length = A.length - k by simp)
    have hkc : k ≤ c0 := by omega
    go_wp2_with fail
    refine (soft_good w3 go y f e s (.slice a0 k c0) (A.take k) HC.out hy0 hyM.out HO3.out (by rw [List.map_take]; exact HVl3.out.take' k c0 (by simpa using hkA)) (fun q off n c' h hp => by
      have h' := hblk.out q off A.length c0 (by cases h; rfl) (by rw [HTk.out] at hp; omega)
      omega) (by rw [HTk.out]; omega) hbt.out).mono ?_
    rintro r w4 ⟨⟨v4, rfl, V4⟩, N4, F4⟩
    have HV4 := hid V4
    have HO4 := hid N4
    have HN4 := hid (HN3.out.fr F4 (by omega))
    have HP4 := hid (HP3.out.fr F4 (by omega))
    have HB4 := hid (HB3.out.trans (F4.below HB3.out.size (fun j hj e => by omega)))
    have HV34 := hid (HV3.out.fr F4 (fun b hb => by omega))
    have hs4 : w3.heap.size ≤ w4.heap.size := F4.size
    have HVl4 := hid (HV.out.below HB4.out (Nat.le_refl _))
    clear V4 N4 F4 HN3 HO3 HP3 HB3 HV3 HVl3
    by_cases hck : c0 = k
    all_goals
      have Hck := hid hck
      go_wp2_with fail
      refine (soft_good w4 go _ f e s _ (A.drop k) HC.out (Noi.sofX_pos hy0 hyM.out _) (Noi.sofX_lt hyM.out _) HO4.out (by rw [List.map_drop]; have := HVl4.out.drop' k 0 (by simpa using hkA) (by simpa using hAc); rw [List.length_map] at this; first | (rw [if_pos Hck.out] at this; exact this.cap _) | (rw [if_neg Hck.out] at this; exact this.cap _)) (fun q off n c' h hp => by
        have := hvb_of (w0 := w) (A := A.drop k) (by rw [List.map_drop]; have := HV.out.drop' k 0 (by simpa using hkA) (by simpa using hAc); rw [List.length_map] at this; first | (rw [if_pos Hck.out] at this; exact this.cap _) | (rw [if_neg Hck.out] at this; exact this.cap _)) q off n c' h hp
        omega) (by rw [HDr.out]; omega) hbd.out).mono ?_
      rintro r w5 ⟨⟨v5, rfl, V5⟩, N5, F5⟩
      have hcut := HCut.out
      rw [← hcut.2] at N5
      have HV5 := hid V5
      have HO5 := hid N5
      have HN5 := hid (HN4.out.fr F5 (by omega))
      have HP5 := hid (HP4.out.fr F5 (by omega))
      have HB5 := hid (HB4.out.trans (F5.below HB4.out.size (fun j hj e => by omega)))
      have HV35 := hid (HV34.out.fr F5 (fun b hb => by omega))
      have HV45 := hid (HV4.out.fr F5 (fun b hb => by omega))
      have hs5 : w4.heap.size ≤ w5.heap.size := F5.size
      have HVl5 := hid (HV.out.below HB5.out (Nat.le_refl _))
      have HL := hid hcut.1
      have HLen := hid (show (Noi.sofL f e s y A).length = A.length by rw [(Noi.sofL_ok (f := f) (e := e) (s := s) (x := y) HBad.out).1, Soft.tab_len])
      have hla := Noi.sofL_len f e s y (A.take k)
      have hlb := Noi.sofL_len f e s (Noi.sofX y (A.take k)) (A.drop k)
      rw [HTk.out] at hla
      rw [HDr.out] at hlb
      have HEl := hid (show ∀ i, i < A.length → (Noi.sofL f e s y A).getD i 0 = Noi.val f e s (Noi.stN y (2 * i)) (A.getD i 0) from fun i hi => by rw [(Noi.sofL_ok (f := f) (e := e) (s := s) (x := y) HBad.out).1, Soft.tab_at _ hi]; rfl)
      have hX0 := Noi.sofX_pos hy0 hyM.out A
      clear V5 N5 F5 HN4 HO4 HP4 HB4 HV34 HV4 HVl4 hcut HCut
      generalize Noi.sofX y A = z at *
      generalize Noi.sofL f e s y A = L at *
      generalize Noi.sofL f e s y (A.take k) = La at *
      generalize Noi.sofL f e s (Noi.sofX y (A.take k)) (A.drop k) = Lb at *
      generalize Noi.sofX y (A.take k) = z1 at *
      obtain ⟨p3, c3, rfl, _⟩ := HV35.out.vw
      rw [List.length_map, HLen.out] at HV35 ⊢
      have hz : ((z : Int) == 0) = false := by rw [beq_eq_false_iff_ne]; omega
      have K2 := hid (fun W (h : Below w5.heap.size w5 W) => state_any W g z f e s (HN5.out.below h HN5.out.lt) hX0)
      have K3 := hid (fun W (h : Below w5.heap.size w5 W) => state_any W go z f e s (HO5.out.below h HO5.out.lt) hX0)
      go_wp2_with (first
        | (go_at_call 16; refine (num18_any _ _).mono ?_; rintro r w' ⟨rfl, rfl⟩)
        | (at_builtin; refine BigFrame.wpList_want (by first | rfl | (simp [Region.wanted, yielded])) ?_; intro K hK; (refine wp_copy_list ielem_sent (.tmp 91) (.tmp 92) rfl rfl _ (La.map (Value.int .i64)) rfl HV45.out.vw (one_ints _ _) (by simp; omega) (by simp; omega) ?_; intro va w6 O6 B6; refine hK _ _ ?_))
        | (at_builtin; refine BigFrame.wpList_want (by first | rfl | (simp [Region.wanted, yielded])) ?_; intro K hK; (refine wp_append_list ielem_sent (.tmp 93) (.tmp 94) rfl w5.heap.size _ _ rfl O6 _ (Lb.map (Value.int .i64)) rfl (HV5.out.vw.below B6 (Nat.le_refl _)) (one_ints _ _) (by simp; omega) (by simp; omega) B6.size ?_; intro vb w7 O7 F7; refine hK _ _ ?_)))
      have B7 := B6.trans (F7.below B6.size (fun i hi e => by have := (O6.block e).1; omega))
      have HVb := hid (show Vw w7 vb (L.map (Value.int .i64)) by rw [HL.out, List.map_append]; exact O7.vw)
      have HB7 := hid (below_then HB5.out B7)
      have HK7 := hid B7
      have HV37 := hid (HV35.out.below B7 (Nat.le_refl _))
      clear B6 F7 O6 O7 B7
      refine (same18_true w7 _ vb L HV37.out.vw HVb.out (by rw [HLen.out]; omega)).mono ?_
      rintro r w8 ⟨rfl, B8⟩
      have HK8 := hid (below_then HK7.out B8)
      have HB8 := hid (below_then HB7.out B8)
      have HV38 := hid (HV37.out.vw.below B8 (Nat.le_refl _))
      have HVl8 := hid (HV.out.below HB8.out (Nat.le_refl _))
      have HP8 := hid (HP5.out.below HK8.out HP5.out.lt)
      clear B8 HVb HV37 HB7 HK7
      go_wp2_with (first
        | (go_at_call 18; (with_reducible refine (K2.out _ HK8.out).mono ?_); rintro r w' ⟨rfl, rfl⟩)
        | (go_at_call 18; (with_reducible refine (K3.out _ HK8.out).mono ?_); rintro r w' ⟨rfl, rfl⟩))
      have q0 : w8.cell? ⟨w.heap.size, 0, none⟩ = some (.int .i64 f) := HP8.out.cell 0
      have q1 : w8.cell? ⟨w.heap.size, 1, none⟩ = some (.int .i64 e) := HP8.out.cell 1
      have q2 : w8.cell? ⟨w.heap.size, 2, none⟩ = some (.int .i64 s) := HP8.out.cell 2
      have Q := hid (show w8.cell? ⟨w.heap.size, 0, none⟩ = some (.int .i64 f) ∧ w8.cell? ⟨w.heap.size, 1, none⟩ = some (.int .i64 e) ∧ w8.cell? ⟨w.heap.size, 2, none⟩ = some (.int .i64 s) from ⟨q0, q1, q2⟩)
      clear q0 q1 q2 K2 K3 hz HV5 HV45 HV35 HN5 HO5 HP5 HB5 HVl5 hblk hck
      go_loopw [19] (fun i wr => ∃ j m : Nat, j ≤ A.length ∧ i = .int .i64 j ∧ wr = w8.drewN m) (fun i _ => A.length - (intOf i).toNat)
      case atStart => exact ⟨0, 0, Nat.zero_le _, rfl, rfl⟩
      case round =>
        obtain ⟨j, m, hj, rfl, rfl⟩ := hrel
        by_cases hlt : j < A.length
        · obtain ⟨qa, oa, ca, hea, hcell⟩ := vw_at' (A := L) HV38.out (by rw [HLen.out]; exact hlt)
          obtain ⟨ql, ol, cl, hel, hcell2⟩ := vw_at' HVl8.out hlt
          rw [HLen.out] at hea
          cases hea
          cases hel
          have g1 : w8.cell? ⟨qa, oa + j, none⟩ = some (.int .i64 (L.getD j 0)) := hcell
          have g2 : w8.cell? ⟨ql, ol + j, none⟩ = some (.int .i64 (A.getD j 0)) := hcell2
          have hvb := Soft.inv_false (Soft.bad_at HBad.out hlt)
          have hnh := nh_ok HC.out (x := Noi.stN y (2 * j)) hvb.1 hvb.2
          rw [← HEl.out j hlt] at hnh
          generalize L.getD j 0 = av at *
          generalize A.getD j 0 = lv at *
          obtain ⟨hv1, hv2⟩ := hvb
          obtain ⟨n1, n2, n3, n4⟩ := hnh
          have f0 := HC.out.f0
          have e0 := HC.out.e0
          have fe0 := HC.out.fe
          have s0 := HC.out.s0
          have s1 := HC.out.s1
          have k1 : decide (127 < av) = false := decide_eq_false (by omega)
          have k2 : decide (av < -127) = false := decide_eq_false (by omega)
          have x1 : IntKind.i64.wrap (av - lv) = av - lv := IntWalk.i64_in _ (by omega)
          have x2 : IntKind.i64.wrap (f + e) = f + e := IntWalk.i64_in _ (by omega)
          have x3 : IntKind.i64.wrap (-s) = -s := IntWalk.i64_in _ (by omega)
          have t1 : (decide (s < av - lv) = false ∧ decide (av - lv < -s) = false) ∨ ((f + e : Int) == 0) = false := by
            by_cases h : f + e = 0
            · have := n3 h; left; exact ⟨decide_eq_false (by omega), decide_eq_false (by omega)⟩
            · right; rw [beq_eq_false_iff_ne]; exact h
          have t2 : (decide (s < av) = false ∧ decide (av < -s) = false) ∨ ((e : Int) == 1024) = false := by
            by_cases h : e = 1024
            · have := n4 h; left; exact ⟨decide_eq_false (by omega), decide_eq_false (by omega)⟩
            · right; rw [beq_eq_false_iff_ne]; exact h
          have b1 : ((f + e : Int) == 0) = true ∨ ((f + e : Int) == 0) = false := by cases ((f + e : Int) == 0) <;> simp
          have b2 : ((e : Int) == 1024) = true ∨ ((e : Int) == 1024) = false := by cases ((e : Int) == 1024) <;> simp
          have q0 : w8.cell? ⟨w.heap.size, 0, none⟩ = some (.int .i64 f) := Q.out.1
          have q1 : w8.cell? ⟨w.heap.size, 1, none⟩ = some (.int .i64 e) := Q.out.2.1
          have q2 : w8.cell? ⟨w.heap.size, 2, none⟩ = some (.int .i64 s) := Q.out.2.2
          clear n3 n4 hcell hcell2
          have cs : (((f + e : Int) == 0) = false ∧ ((e : Int) == 1024) = false) ∨ (((f + e : Int) == 0) = true ∧ decide (s < av - lv) = false ∧ decide (av - lv < -s) = false ∧ ((e : Int) == 1024) = false) ∨
              (((f + e : Int) == 0) = false ∧ ((e : Int) == 1024) = true ∧ decide (s < av) = false ∧ decide (av < -s) = false) ∨
              (((f + e : Int) == 0) = true ∧ decide (s < av - lv) = false ∧ decide (av - lv < -s) = false ∧ ((e : Int) == 1024) = true ∧ decide (s < av) = false ∧ decide (av < -s) = false) := by
            rcases b1 with p1 | p1 <;> rcases b2 with p2 | p2 <;> rcases t1 with ⟨y1, y2⟩ | y1 <;> rcases t2 with ⟨y3, y4⟩ | y3 <;> first | (rw [p1] at y1; cases y1; done) | (rw [p2] at y3; cases y3; done) | simp_all
          clear t1 t2 b1 b2 n1 n2 fe0 hv1 hv2
          rcases cs with ⟨p1, p2⟩ | ⟨p1, y1, y2, p2⟩ | ⟨p1, p2, y3, y4⟩ | ⟨p1, y1, y2, p2, y3, y4⟩
          all_goals
            go_wp2
            go_quiet (fail)
            go_wp2
            go_quiet (fail)
            go_wp2
            go_roundw
            case rel => exact ⟨j + 1, _, by omega, by go_num, rfl⟩
            case measure => simp [intOf]; omega
        · obtain rfl : j = A.length := by omega
          go_wp2_with (go_at_call 11; refine (works18 _).mono ?_; rintro r w9 ⟨rfl, B9⟩)
          go_ret
          exact ⟨rfl, below_then HB8.out (below_then (below_drewN w8 m) B9)⟩
  · have HNew := hid (fun w => new_bad w f e s x hc wf we)
    clear hc wf we hx
    go_enter Try.func6, Try.ntmps6
    go_wp2_with fail
    refine (HRV.out _ (below_alloc _ _)).mono ?_
    rintro r w1 ⟨rfl, rfl⟩
    go_wp2_with fail
    refine (HNew.out _).mono ?_
    rintro r w1 ⟨rfl, B1⟩
    go_wp2_with (first
      | (go_at_call 16; refine (num18_any _ _).mono ?_; rintro r w' ⟨rfl, rfl⟩)
      | (go_at_call 11; refine (works18 _).mono ?_; rintro r w2 ⟨rfl, B2⟩))
    go_ret
    exact ⟨rfl, below_then (up_alloc B1) B2⟩
end Go.Proofs.Ytngggknejkcepaa
