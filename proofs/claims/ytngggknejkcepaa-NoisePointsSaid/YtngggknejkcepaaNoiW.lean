/- userplanelaw18.works: the examples of the chapter hold. -/
import Derived.Test.YtngggknejkcepaaNoiP
import Derived.Test.YtngggknejkcepaaBstr
namespace Go.Proofs.Ytngggknejkcepaa
open Go.RowKit Go.Shelf
set_option linter.unusedVariables false
attribute [local go_sem] Oper.semAt_some
theorem nlit' (w : World) (xs : List Int) (k : IntKind) (e : TypeId) (n : Nat) (cs : Array Value) (hc : cs = (xs.map (Value.int k)).toArray) (hn : xs.length = n) : VwA (w.alloc (.cells cs e)) w.heap.size (.slice (some ⟨w.heap.size, 0, none⟩) n n) (xs.map (Value.int k)) :=
  ⟨nlit w xs k e n cs hc hn, fun b off m c h => by cases h; exact Nat.le_refl _⟩
/-- Soft at a literal list. -/
theorem soft_lit (w : World) (b x : Nat) (f e s : Int) (L R : List Int) (y : Int) (n : Nat) (cs : Array Value) (hcs : cs = (L.map (Value.int .i64)).toArray) (hn : L.length = n) (hc : Ch f e s) (h0 : 0 < x) (hx : x < Noi.M) (hb : NB w b x f e s) (hL : n ≤ 1000) (hR : Noi.sofL f e s x L = R) (hE : Noi.sofE L = y) :
    Calls Try.prog 20 #[.pointer (some ⟨b, 0, none⟩), .slice (some ⟨w.heap.size, 0, none⟩) n n] (w.alloc (.cells cs 3)) fun r w' => (∃ v', r = .returned (.tuple #[v', .int .i64 y]) ∧ VwA w' w.heap.size v' (R.map (Value.int .i64))) ∧ NB w' b (Noi.sofX x L) f e s ∧ Fr (fun j => j = b) w w' := by
  have hbl := hb.lt
  have hv := nlit' w L .i64 3 n cs hcs hn
  subst hR hE
  refine (soft_any (w.alloc (.cells cs 3)) b x f e s _ L hc h0 hx (hb.fr (Fr.alloc (fun _ => False) _ _) (fun h => h)) hv.vw (fun q off n c h _ => by have := hv.hi q off n c h; omega) (by omega)).mono ?_
  rintro r w' ⟨⟨v', h1, h2⟩, h3, h4⟩
  exact ⟨⟨v', h1, h2.mono (by simp)⟩, h3, (Fr.alloc _ _ _).trans h4⟩
/-- Bits at a literal list. -/
theorem bits_lit (w : World) (b x : Nat) (f e s : Int) (L R : List Int) (y : Int) (n : Nat) (cs : Array Value) (hcs : cs = (L.map (Value.int .u8)).toArray) (hn : L.length = n) (hwf : ∀ n ∈ L, (Lit.int .u8 n).wf = true) (hc : Ch f e s) (h0 : 0 < x) (hx : x < Noi.M) (hb : NB w b x f e s) (hL : n ≤ 1000) (hR : Noi.bitL f e x L = R) (hE : Noi.bitE L = y) :
    Calls Try.prog 12 #[.pointer (some ⟨b, 0, none⟩), .slice (some ⟨w.heap.size, 0, none⟩) n n] (w.alloc (.cells cs 5)) fun r w' => (∃ v', r = .returned (.tuple #[v', .int .i64 y]) ∧ VwA w' w.heap.size v' (R.map (Value.int .u8))) ∧ NB w' b (Noi.bitX x L) f e s ∧ Fr (fun j => j = b) w w' := by
  have hbl := hb.lt
  have hv := nlit' w L .u8 5 n cs hcs hn
  subst hR hE
  refine (nbits_any (w.alloc (.cells cs 5)) b x f e s _ L hc h0 hx (hb.fr (Fr.alloc (fun _ => False) _ _) (fun h => h)) hv.vw hwf (fun q off n c h _ => by have := hv.hi q off n c h; omega) (by omega)).mono ?_
  rintro r w' ⟨⟨v', h1, h2⟩, h3, h4⟩
  exact ⟨⟨v', h1, h2.mono (by simp)⟩, h3, (Fr.alloc _ _ _).trans h4⟩
theorem same_lit (w : World) (v : Value) (L : List Int) (n : Nat) (cs : Array Value) (hcs : cs = (L.map (Value.int .i64)).toArray) (hn : L.length = n) (hv : Vw w v (L.map (Value.int .i64))) (hL : n ≤ 1000) :
    Calls Try.prog 22 #[v, .slice (some ⟨w.heap.size, 0, none⟩) n n] (w.alloc (.cells cs 3)) fun r w' => r = .returned (.bool true) ∧ Below w.heap.size w w' := by
  refine (same18_true _ v _ L (hv.below (below_alloc _ _) (Nat.le_refl _)) (nlit w L .i64 3 n cs hcs hn) (by omega)).mono ?_
  rintro r w' ⟨h1, h2⟩
  exact ⟨h1, up_alloc h2⟩
theorem ch0 : Ch 0 0 0 := ⟨by decide, by decide, by decide, by decide, by decide⟩
theorem ch1 : Ch 1024 0 0 := ⟨by decide, by decide, by decide, by decide, by decide⟩
theorem ch2 : Ch 0 1024 0 := ⟨by decide, by decide, by decide, by decide, by decide⟩
set_option maxRecDepth 100000 in
set_option maxHeartbeats 8000000 in
theorem works18 (w : World) : Calls Try.prog 11 #[] w fun e w' => e = .returned (.bool true) ∧ Below w.heap.size w w' := by
  have N1 := hid (show ∀ w, Calls Try.prog 25 #[.agg #[.int .i64 1025, .int .i64 0, .int .i64 0], .int .u64 1] w _ from fun w => new_bad w 1025 0 0 1 (fun h => absurd h.fe (by decide)) (by decide) (by decide))
  have N2 := hid (show ∀ w, Calls Try.prog 25 #[.agg #[.int .i64 0, .int .i64 0, .int .i64 0], .int .u64 0] w _ from fun w => new_ok w 0 0 0 0 ch0 (by decide))
  have N3 := hid (show ∀ w, Calls Try.prog 25 #[.agg #[.int .i64 0, .int .i64 0, .int .i64 0], .int .u64 1] w _ from fun w => new_ok w 0 0 0 1 ch0 (by decide))
  have N4 := hid (show ∀ w, Calls Try.prog 25 #[.agg #[.int .i64 1024, .int .i64 0, .int .i64 0], .int .u64 1] w _ from fun w => new_ok w 1024 0 0 1 ch1 (by decide))
  have N5 := hid (show ∀ w, Calls Try.prog 25 #[.agg #[.int .i64 0, .int .i64 1024, .int .i64 0], .int .u64 1] w _ from fun w => new_ok w 0 1024 0 1 ch2 (by decide))
  have hnil : ∀ w (p q : Value), (binOp .eql 45 (.func (.func 38) #[] #[p, q]) .nilFunc).run Try.prog w = .ok (.bool false) w := fun _ _ _ => by kernel_rfl
  refine calls_of_wp_marks Try.func11 rfl ?_
  simp only [Try.ntmps11, List.size_toArray, List.length_cons, List.length_nil, Nat.reduceAdd, Nat.reduceSub, Array.replicate_succ, Array.replicate_zero, List.push_toArray, List.append_toArray, List.nil_append, List.cons_append]
  go_wp2_with fail
  refine (N1.out _).mono ?_
  rintro r w1 ⟨rfl, B1⟩
  have HRC1 := hid (show Blk w1 w.heap.size 4 #[.bool false] from Blk.below (Blk.new w _ _) B1 (by simp))
  have HB1 := hid (up_alloc B1)
  have h1 : w.heap.size < w1.heap.size := HRC1.out.lt
  clear B1
  go_wp2_with fail
  refine (N2.out _).mono ?_
  rintro r w2 ⟨⟨ga, rfl, Pa, qa⟩, B⟩
  have HNa2 := hid Pa
  have la := Pa.lt
  have HRC2 := hid (HRC1.out.below B HRC1.out.lt)
  have HB2 := hid (below_then HB1.out B)
  clear B Pa HRC1 HB1
  go_wp2_with fail
  refine (N3.out _).mono ?_
  rintro r w3 ⟨⟨gb, rfl, Pb, qb⟩, B⟩
  have HNb3 := hid Pb
  have lb := Pb.lt
  have HRC3 := hid (HRC2.out.below B HRC2.out.lt)
  have HNa3 := hid (HNa2.out.below B HNa2.out.lt)
  have HB3 := hid (below_then HB2.out B)
  clear B Pb HRC2 HNa2 HB2
  go_wp2_with fail
  refine (N4.out _).mono ?_
  rintro r w4 ⟨⟨gc, rfl, Pc, qc⟩, B⟩
  have HNc4 := hid Pc
  have lc := Pc.lt
  have HRC4 := hid (HRC3.out.below B HRC3.out.lt)
  have HNa4 := hid (HNa3.out.below B HNa3.out.lt)
  have HNb4 := hid (HNb3.out.below B HNb3.out.lt)
  have HB4 := hid (below_then HB3.out B)
  clear B Pc HRC3 HNa3 HNb3 HB3
  go_wp2_with fail
  refine (N5.out _).mono ?_
  rintro r w5 ⟨⟨gd, rfl, Pd, qd⟩, B⟩
  have HNd5 := hid Pd
  have ld := Pd.lt
  have HRC5 := hid (HRC4.out.below B HRC4.out.lt)
  have HNa5 := hid (HNa4.out.below B HNa4.out.lt)
  have HNb5 := hid (HNb4.out.below B HNb4.out.lt)
  have HNc5 := hid (HNc4.out.below B HNc4.out.lt)
  have HB5 := hid (below_then HB4.out B)
  clear B Pd HRC4 HNa4 HNb4 HNc4 HB4
  have hlo : w.heap.size < ga := by omega
  go_wp2_with (first
    | (go_at_call 16; refine (num18_any _ _).mono ?_; rintro r w' ⟨rfl, rfl⟩)
    | (go_at_call 18; refine (state_any _ ga _ 0 0 0 HNa5.out (by decide)).mono ?_; rintro r w' ⟨rfl, rfl⟩))
  refine (outputs_any _ gb _ 0 0 0 HNb5.out (by decide) 1).mono ?_
  rintro r w6 ⟨rfl, hw6⟩
  have e1 : w6.heap.size = w5.heap.size + 2 := by rw [hw6]; simp
  have F6 : Fr (fun _ => False) w5 w6 := by rw [hw6]; exact (Fr.alloc _ _ _).trans (Fr.alloc _ _ _)
  have HIT := hid (outputs1_iter 1 1 (w5.heap.size + 1) w5.heap.size (by decide) (by decide) (by decide) (fun j => j = w5.heap.size ∨ j = w5.heap.size + 1) (.inr rfl) (.inl rfl) w6
    (by rw [hw6]; have := (Blk.new (w5.alloc (.cells #[.int .i64 1] 3)) 70 #[.int .u64 1]).cell 0; rw [World.size_alloc] at this; exact this) (by rw [hw6]; exact (Blk.fr (Blk.new w5 3 #[.int .i64 1]) (Fr.alloc (fun _ => False) _ _) (fun h => h)).cell 0) (fun j hj => by omega))
  have HRC6 := hid (HRC5.out.fr F6 (fun h => h))
  have HNa6 := hid (HNa5.out.fr F6 (fun h => h))
  have HNb6 := hid (HNb5.out.fr F6 (fun h => h))
  have HNc6 := hid (HNc5.out.fr F6 (fun h => h))
  have HNd6 := hid (HNd5.out.fr F6 (fun h => h))
  have HB6 := hid (HB5.out.trans (F6.below HB5.out.size (fun _ _ h => h)))
  clear hw6 F6 HRC5 HNa5 HNb5 HNc5 HNd5 HB5
  go_wp2_with fail
  refine (wpIn_wide (n := 1)).1 ?_
  refine wpIn_range (gf := 38) (lb := #[.pointer (some ⟨w5.heap.size + 1, 0, none⟩), .pointer (some ⟨w5.heap.size, 0, none⟩)]) rfl (enters_of Try.func38 (by kernel_rfl) rfl) HIT.out (Below.refl _ _) (fun _ => rfl)
    (fun k V => Blk V w.heap.size 4 #[.bool false] ∧ NB V gb 1 0 0 0 ∧ NB V gc 1 1024 0 0 ∧ NB V gd 1 0 1024 0 ∧ Below w.heap.size w V ∧ w6.heap.size ≤ V.heap.size)
    (fun _ _ _ => False)
    (fun k A V h hf => ⟨h.1.fr hf (by omega), h.2.1.fr hf (by omega), h.2.2.1.fr hf (by omega), h.2.2.2.1.fr hf (by omega), h.2.2.2.2.1.trans (hf.below h.2.2.2.2.1.size (fun j hj h' => by omega)), Nat.le_trans h.2.2.2.2.2 hf.size⟩)
    (fun k c A V h hf => h)
    ⟨HRC6.out, HNb6.out, HNc6.out, HNd6.out, HB6.out, Nat.le_refl _⟩ (fun h => by cases h) ?a1 ?assign ?body ?done (fun _ _ _ _ h => h.elim)
  case assign =>
    intro l k V K hK
    gi_wp2
    exact hK
  case body =>
    rintro l k V hk hI hVs
    obtain rfl : k = 0 := by have := hk 1 rfl; omega
    have hu : ((Noi.stN 1 (0 + 1) : Nat) : Int) = 1082269761 := by decide +kernel
    rw [hu]
    clear hu
    have HI := hid hI
    clear hI hk HIT
    gi_wp2
    exact ⟨KeepT.refl _ _, HI.out⟩
  case done =>
    rintro D n V - ⟨hRC, hNb, hNc, hNd, hB, hsz⟩ hD hDl
    have HRC7 := hid hRC
    have HNb7 := hid hNb
    have HNc7 := hid hNc
    have HNd7 := hid hNd
    have HB7 := hid hB
    have HD7 := hid hD
    have lb7 := hNb.lt
    clear hRC hNb hNc hNd hB hD HIT HRC6 HNa6 HNb6 HNc6 HNd6 HB6
    have hge : w6.heap.size ≤ V.heap.size := hsz
    go_wp2_with fail
    refine (soft_lit _ gb 1 0 0 0 [5, -7] [5, -7] 0 2 _ rfl rfl ch0 (by decide +kernel) (by decide +kernel) HNb7.out (by decide) (by decide +kernel) (by decide)).mono ?_
    rintro r w8 ⟨⟨v8, rfl, V⟩, N, F⟩
    have HV8_8 := hid (V.mono hge)
    clear V
    have HNb8 := hid N
    have HRC8 := hid (HRC7.out.fr F (by omega))
    have HNc8 := hid (HNc7.out.fr F (by omega))
    have HNd8 := hid (HNd7.out.fr F (by omega))
    have HB8 := hid (HB7.out.trans (F.below HB7.out.size (fun j hj e => by omega)))
    have HD8 := hid ((F.block D (Array.getElem?_eq_some_iff.1 HD7.out).1 (by omega)).trans HD7.out)
    clear HRC7 HNb7 HNc7 HNd7 HB7 HD7 N
    replace hge := Nat.le_trans hge F.size
    clear F
    go_wp2_with fail
    refine (soft_lit _ gc 1 1024 0 0 [5, -7, 0] [-5, 7, 0] 0 3 _ rfl rfl ch1 (by decide +kernel) (by decide +kernel) HNc8.out (by decide) (by decide +kernel) (by decide)).mono ?_
    rintro r w9 ⟨⟨v9, rfl, V⟩, N, F⟩
    have HV9_9 := hid (V.mono hge)
    clear V
    have HNc9 := hid N
    have HRC9 := hid (HRC8.out.fr F (by omega))
    have HNb9 := hid (HNb8.out.fr F (by omega))
    have HNd9 := hid (HNd8.out.fr F (by omega))
    have HB9 := hid (HB8.out.trans (F.below HB8.out.size (fun j hj e => by omega)))
    have HD9 := hid ((F.block D (Array.getElem?_eq_some_iff.1 HD8.out).1 (by omega)).trans HD8.out)
    have HV8_9 := hid (HV8_8.out.fr F (fun b hb => by omega))
    clear HRC8 HNb8 HNc8 HNd8 HB8 HD8 HV8_8 N
    replace hge := Nat.le_trans hge F.size
    clear F
    go_wp2_with fail
    refine (bits_lit _ gc (Noi.sofX 1 [5, -7, 0]) 1024 0 0 [0, 1] [1, 0] 0 2 _ rfl rfl (by decide) ch1 (by decide +kernel) (by decide +kernel) HNc9.out (by decide) (by decide +kernel) (by decide)).mono ?_
    rintro r w10 ⟨⟨v10, rfl, V⟩, N, F⟩
    have HV10_10 := hid (V.mono hge)
    clear V
    have HNc10 := hid N
    have HRC10 := hid (HRC9.out.fr F (by omega))
    have HNb10 := hid (HNb9.out.fr F (by omega))
    have HNd10 := hid (HNd9.out.fr F (by omega))
    have HB10 := hid (HB9.out.trans (F.below HB9.out.size (fun j hj e => by omega)))
    have HD10 := hid ((F.block D (Array.getElem?_eq_some_iff.1 HD9.out).1 (by omega)).trans HD9.out)
    have HV8_10 := hid (HV8_9.out.fr F (fun b hb => by omega))
    have HV9_10 := hid (HV9_9.out.fr F (fun b hb => by omega))
    clear HRC9 HNb9 HNc9 HNd9 HB9 HD9 HV8_9 HV9_9 N
    replace hge := Nat.le_trans hge F.size
    clear F
    go_wp2_with fail
    have hlost : (Noi.evt 1024 0 (Noi.step (Noi.bitX (Noi.sofX 1 [5, -7, 0]) [0, 1])) != 0) = true := by decide +kernel
    refine (lost_any _ gc (Noi.bitX (Noi.sofX 1 [5, -7, 0]) [0, 1]) 1024 0 0 ch1 HNc10.out (by decide +kernel) (by decide +kernel)).mono ?_
    rintro r w11 ⟨rfl, N, F⟩
    rw [hlost]
    clear hlost
    have HNc11 := hid N
    have HRC11 := hid (HRC10.out.fr F (by omega))
    have HNb11 := hid (HNb10.out.fr F (by omega))
    have HNd11 := hid (HNd10.out.fr F (by omega))
    have HB11 := hid (HB10.out.trans (F.below HB10.out.size (fun j hj e => by omega)))
    have HD11 := hid ((F.block D (Array.getElem?_eq_some_iff.1 HD10.out).1 (by omega)).trans HD10.out)
    have HV8_11 := hid (HV8_10.out.fr F (fun b hb => by omega))
    have HV9_11 := hid (HV9_10.out.fr F (fun b hb => by omega))
    have HV10_11 := hid (HV10_10.out.fr F (fun b hb => by omega))
    clear HRC10 HNb10 HNc10 HNd10 HB10 HD10 HV8_10 HV9_10 HV10_10 N
    replace hge := Nat.le_trans hge F.size
    clear F
    go_wp2_with fail
    refine (soft_lit _ gd 1 0 1024 0 [5, -7] [0, 0] 0 2 _ rfl rfl ch2 (by decide +kernel) (by decide +kernel) HNd11.out (by decide) (by decide +kernel) (by decide)).mono ?_
    rintro r w12 ⟨⟨v12, rfl, V⟩, N, F⟩
    have HV12_12 := hid (V.mono hge)
    clear V
    have HNd12 := hid N
    have HRC12 := hid (HRC11.out.fr F (by omega))
    have HNb12 := hid (HNb11.out.fr F (by omega))
    have HNc12 := hid (HNc11.out.fr F (by omega))
    have HB12 := hid (HB11.out.trans (F.below HB11.out.size (fun j hj e => by omega)))
    have HD12 := hid ((F.block D (Array.getElem?_eq_some_iff.1 HD11.out).1 (by omega)).trans HD11.out)
    have HV8_12 := hid (HV8_11.out.fr F (fun b hb => by omega))
    have HV9_12 := hid (HV9_11.out.fr F (fun b hb => by omega))
    have HV10_12 := hid (HV10_11.out.fr F (fun b hb => by omega))
    clear HRC11 HNb11 HNc11 HNd11 HB11 HD11 HV8_11 HV9_11 HV10_11 N
    replace hge := Nat.le_trans hge F.size
    clear F
    go_wp2_with fail
    refine (soft_lit _ gb (Noi.sofX 1 [5, -7]) 0 0 0 [128] [] 2 1 _ rfl rfl ch0 (by decide +kernel) (by decide +kernel) HNb12.out (by decide) (by decide +kernel) (by decide)).mono ?_
    rintro r w13 ⟨⟨v13, rfl, V⟩, N, F⟩
    clear V
    have HNb13 := hid N
    have HRC13 := hid (HRC12.out.fr F (by omega))
    have HNc13 := hid (HNc12.out.fr F (by omega))
    have HNd13 := hid (HNd12.out.fr F (by omega))
    have HB13 := hid (HB12.out.trans (F.below HB12.out.size (fun j hj e => by omega)))
    have HD13 := hid ((F.block D (Array.getElem?_eq_some_iff.1 HD12.out).1 (by omega)).trans HD12.out)
    have HV8_13 := hid (HV8_12.out.fr F (fun b hb => by omega))
    have HV9_13 := hid (HV9_12.out.fr F (fun b hb => by omega))
    have HV10_13 := hid (HV10_12.out.fr F (fun b hb => by omega))
    have HV12_13 := hid (HV12_12.out.fr F (fun b hb => by omega))
    clear HRC12 HNb12 HNc12 HNd12 HB12 HD12 HV8_12 HV9_12 HV10_12 HV12_12 N
    replace hge := Nat.le_trans hge F.size
    clear F
    go_wp2_with fail
    refine (bits_lit _ gb (Noi.sofX (Noi.sofX 1 [5, -7]) [128]) 0 0 0 [2] [] 3 1 _ rfl rfl (by decide) ch0 (by decide +kernel) (by decide +kernel) HNb13.out (by decide) (by decide +kernel) (by decide)).mono ?_
    rintro r w14 ⟨⟨v14, rfl, V⟩, N, F⟩
    clear V
    have HNb14 := hid N
    have HRC14 := hid (HRC13.out.fr F (by omega))
    have HNc14 := hid (HNc13.out.fr F (by omega))
    have HNd14 := hid (HNd13.out.fr F (by omega))
    have HB14 := hid (HB13.out.trans (F.below HB13.out.size (fun j hj e => by omega)))
    have HD14 := hid ((F.block D (Array.getElem?_eq_some_iff.1 HD13.out).1 (by omega)).trans HD13.out)
    have HV8_14 := hid (HV8_13.out.fr F (fun b hb => by omega))
    have HV9_14 := hid (HV9_13.out.fr F (fun b hb => by omega))
    have HV10_14 := hid (HV10_13.out.fr F (fun b hb => by omega))
    have HV12_14 := hid (HV12_13.out.fr F (fun b hb => by omega))
    clear HRC13 HNb13 HNc13 HNd13 HB13 HD13 HV8_13 HV9_13 HV10_13 HV12_13 N
    replace hge := Nat.le_trans hge F.size
    clear F
    go_wp2_with fail
    refine (same_lit _ _ [5, -7] 2 _ rfl rfl HV8_14.out.vw (by decide)).mono ?_
    rintro r w15 ⟨rfl, B⟩
    have HRC15 := hid (HRC14.out.below B HRC14.out.lt)
    have HNb15 := hid (HNb14.out.below B HNb14.out.lt)
    have HNc15 := hid (HNc14.out.below B HNc14.out.lt)
    have HNd15 := hid (HNd14.out.below B HNd14.out.lt)
    have HB15 := hid (below_then HB14.out B)
    have HD15 := hid ((B.block D (Array.getElem?_eq_some_iff.1 HD14.out).1).trans HD14.out)
    have HV9_15 := hid (HV9_14.out.below B (Nat.le_refl _))
    have HV10_15 := hid (HV10_14.out.below B (Nat.le_refl _))
    have HV12_15 := hid (HV12_14.out.below B (Nat.le_refl _))
    clear HRC14 HNb14 HNc14 HNd14 HB14 HD14 HV8_14 HV9_14 HV10_14 HV12_14 
    replace hge := Nat.le_trans hge B.size
    clear B
    go_wp2_with fail
    refine (same_lit _ _ [-5, 7, 0] 3 _ rfl rfl HV9_15.out.vw (by decide)).mono ?_
    rintro r w16 ⟨rfl, B⟩
    have HRC16 := hid (HRC15.out.below B HRC15.out.lt)
    have HNb16 := hid (HNb15.out.below B HNb15.out.lt)
    have HNc16 := hid (HNc15.out.below B HNc15.out.lt)
    have HNd16 := hid (HNd15.out.below B HNd15.out.lt)
    have HB16 := hid (below_then HB15.out B)
    have HD16 := hid ((B.block D (Array.getElem?_eq_some_iff.1 HD15.out).1).trans HD15.out)
    have HV10_16 := hid (HV10_15.out.below B (Nat.le_refl _))
    have HV12_16 := hid (HV12_15.out.below B (Nat.le_refl _))
    clear HRC15 HNb15 HNc15 HNd15 HB15 HD15 HV9_15 HV10_15 HV12_15 
    replace hge := Nat.le_trans hge B.size
    clear B
    have hcv := run_bstr (P := Try.prog) w16 25 9 5 Try.underlying25 Try.underlying5 Try.underlying9 v10 [1, 0] HV10_16.out.vw
    rw [show strOfNums [1, 0] = ⟨#[1, 0]⟩ from rfl] at hcv
    go_wp2_with fail
    clear hcv
    refine (same_lit _ _ [0, 0] 2 _ rfl rfl HV12_16.out.vw (by decide)).mono ?_
    rintro r w17 ⟨rfl, B⟩
    have HRC17 := hid (HRC16.out.below B HRC16.out.lt)
    have HNb17 := hid (HNb16.out.below B HNb16.out.lt)
    have HNc17 := hid (HNc16.out.below B HNc16.out.lt)
    have HNd17 := hid (HNd16.out.below B HNd16.out.lt)
    have HB17 := hid (below_then HB16.out B)
    have HD17 := hid ((B.block D (Array.getElem?_eq_some_iff.1 HD16.out).1).trans HD16.out)
    have HV10_17 := hid (HV10_16.out.below B (Nat.le_refl _))
    clear HRC16 HNb16 HNc16 HNd16 HB16 HD16 HV10_16 HV12_16 
    replace hge := Nat.le_trans hge B.size
    clear B
    have c0 : w17.cell? ⟨w.heap.size, 0, none⟩ = some (.bool false) := HRC17.out.cell 0
    have f0 : w17.frozen? ⟨w.heap.size, 0, none⟩ = false := HRC17.out.frozen 0
    go_wp2_with (go_at_call 16; refine (num18_any _ _).mono ?_; rintro r w' ⟨rfl, rfl⟩)
    generalize hWE : World.setCell _ _ _ = wE
    have F : Fr (fun k => k = w.heap.size) w17 wE := by rw [← hWE]; exact Fr.setCell (S := fun k => k = w.heap.size) _ ⟨w.heap.size, 0, none⟩ _ rfl
    have hE : Blk wE w.heap.size 4 #[.bool true] := by rw [← hWE]; exact HRC17.out.set_ 0 _
    have hDE := (F.block D (Array.getElem?_eq_some_iff.1 HD17.out).1 (by omega)).trans HD17.out
    have hBE := HB17.out.trans (F.below HB17.out.size (fun j hj e => by omega))
    have hPF : Fr (fun j => j = D) wE (wE.putObj D (.deferred none)) := Fr.putObj wE D _ rfl
    have kE := (hE.fr hPF (by omega)).cell 0
    simp only [List.getElem?_toArray, List.getElem?_cons_zero] at kE
    clear hWE c0 f0
    exact bodyPostM_ret1 hDE rfl (v := .bool true) (by simp [results, Try.results11, go_sem, kE]) ⟨rfl, hBE.trans (hPF.below hBE.size (fun j hj e => by omega))⟩
end Go.Proofs.Ytngggknejkcepaa
