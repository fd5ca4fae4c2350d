/- userplane/noise: Points$1, point. -/
import Derived.Test.YtngggknejkcepaaNoiG
import Derived.Test.YtngggknejkcepaaNoiQ
import Derived.Test.YtngggknejkcepaaContP
namespace Go.Proofs.Ytngggknejkcepaa
open Go.RowKit Go.Shelf
set_option linter.unusedVariables false
attribute [local go_sem ↓] Go.wp_at_zero Go.wp_at_succ
theorem pelem_n : Elem2 Try.prog 61 89 := Elem2.mk' Try.underlying61 (by kernel_rfl)
set_option maxHeartbeats 400000 in
theorem pts1_any (p : Pt) (w : World) : Calls Try.prog 47 #[ptV p] w fun e w' => e = .returned (.bool (Noi.pinv p)) ∧ Below w.heap.size w w' := by
  obtain ⟨x, y⟩ := p
  have HE := hid (show (!(!([x, y] : List Int).any (Noi.outB (-1073741824) 1073741824))) = Noi.pinv (x, y) by simp [Noi.pinv, Noi.outB, Bool.or_assoc])
  have hw := within_any ((w.alloc (.cells #[.int .i64 x, .int .i64 y] 89)).alloc (.cells #[.int .i64 x, .int .i64 y] 3)) (-1073741824) 1073741824 (.slice (some ⟨(w.alloc (.cells #[.int .i64 x, .int .i64 y] 89)).heap.size, 0, none⟩) 2 2) [x, y] (Vw.lit _ #[.int .i64 x, .int .i64 y] 3 2 rfl) (by simp)
  simp only [World.size_alloc] at hw
  have HW := hid hw
  clear hw
  generalize ([x, y] : List Int).any (Noi.outB (-1073741824) 1073741824) = q at *
  dsimp only [ptV]
  go_enter Try.func47, Try.ntmps47
  go_wp2_with fail
  refine HW.out.mono ?_
  rintro r w1 ⟨rfl, B1⟩
  have B := ((below_alloc w (.cells #[.int .i64 x, .int .i64 y] 89)).trans ((below_alloc _ (.cells #[.int .i64 x, .int .i64 y] 3)).mono (by simp))).trans (B1.mono (by omega))
  go_wp2
  go_ret
  exact ⟨ret_bool (by have := HE.out; simpa using this), B⟩
set_option maxHeartbeats 2000000 in
theorem point_any (w : World) (b x : Nat) (f e s : Int) (p : Pt) (hc : Ch f e s) (hx : x < Noi.M) (hb : NB w b x f e s) (hp : Noi.pinv p = false) :
    Calls Try.prog 49 #[.pointer (some ⟨b, 0, none⟩), ptV p] w fun r w' => r = .returned (ptV (Noi.pt s x p)) ∧ NB w' b (Noi.step (Noi.step x)) f e s ∧ Fr (fun j => j = b) w w' := by
  obtain ⟨px, py⟩ := p
  obtain ⟨p0, p1, p2, p3⟩ := Noi.pinv_in hp
  dsimp only at p0 p1 p2 p3
  have hbl := hb.lt
  have s0 := hc.s0
  have s1 := hc.s1
  have C1 := hid (fun W h => disturbance_any W b x f e s hc hx h)
  have C2 := hid (fun W h => disturbance_any W b (Noi.step x) f e s hc (Noi.step_lt hx) h)
  have d0 := Noi.dis_lo s0 (Noi.step x)
  have d1 := Noi.dis_hi s0 (Noi.step x)
  have d2 := Noi.dis_lo s0 (Noi.step (Noi.step x))
  have d3 := Noi.dis_hi s0 (Noi.step (Noi.step x))
  have HE := hid (show Noi.pt s x (px, py) = (px + Noi.dis s (Noi.step x), py + Noi.dis s (Noi.step (Noi.step x))) from rfl)
  rw [HE.out]
  generalize Noi.dis s (Noi.step (Noi.step x)) = y2 at *
  generalize Noi.dis s (Noi.step x) = y1 at *
  have hw1 : IntKind.i64.wrap (px + y1) = px + y1 := IntWalk.i64_in _ (by omega)
  have hw2 : IntKind.i64.wrap (py + y2) = py + y2 := IntWalk.i64_in _ (by omega)
  have HN := hid hb
  clear hb hc hp HE d0 d1 d2 d3 p0 p1 p2 p3 s0 s1
  dsimp only [ptV]
  go_enter Try.func49, Try.ntmps49
  go_wp2
  generalize hW : World.alloc _ _ = w1
  have F : Fr (fun _ => False) w w1 := by rw [← hW]; exact (Fr.alloc _ _ _).trans (Fr.alloc _ _ _)
  have HP1 := hid (show Blk w1 w.heap.size 89 #[.int .i64 px, .int .i64 py] by rw [← hW]; exact Blk.fr (Blk.new w _ _) (Fr.alloc (fun _ => False) _ _) (fun h => h))
  have HR1 := hid (show Blk w1 (w.heap.size + 1) 89 #[.int .i64 0, .int .i64 0] by rw [← hW]; have := Blk.new (w.alloc (.cells #[.int .i64 px, .int .i64 py] 89)) 89 #[.int .i64 0, .int .i64 0]; rw [World.size_alloc] at this; exact this)
  have HN1 := hid (HN.out.fr F (fun h => h))
  have HF1 := hid F
  have hs1 : w.heap.size + 1 < w1.heap.size := HR1.out.lt
  clear hW F HN
  have c0 : w1.drew.cell? ⟨w.heap.size, 0, none⟩ = some (.int .i64 px) := HP1.out.cell 0
  have K1 := hid (C1.out w1.drew (HN1.out.fr (Fr.drew (fun _ => False) _) (fun h => h)))
  go_region_law ((go_simp; refine K1.out.mono ?_; rintro r w2 ⟨rfl, N2, F2⟩; have HP2 := hid ((HP1.out.fr (Fr.drew (fun _ => False) _) (fun h => h)).fr F2 (by omega)); have e0 : w2.cell? ⟨w.heap.size, 0, none⟩ = some (.int .i64 px) := HP2.out.cell 0; have z0 : w2.frozen? ⟨w.heap.size, 0, none⟩ = false := HP2.out.frozen 0))
  all_goals
    generalize hW : World.setCell _ _ _ = w3
    have F3 : Fr (fun j => j = w.heap.size) w2 w3 := by rw [← hW]; exact Fr.setCell (S := fun j => j = w.heap.size) _ ⟨w.heap.size, 0, none⟩ _ rfl
    have HP3 := hid (show Blk w3 w.heap.size 89 #[.int .i64 (px + y1), .int .i64 py] by rw [← hW]; exact HP2.out.set_ 0 _)
    have HR3 := hid ((HR1.out.fr ((Fr.drew (fun j => j = b) _).trans F2) (by omega)).fr F3 (by omega))
    have HN3 := hid (N2.fr F3 (by omega))
    have HF3 := hid (Fr.trans (S := fun j => j = b ∨ w.heap.size ≤ j) ((HF1.out.mono (fun _ _ h => h.elim)).trans ((Fr.drew _ _).trans (F2.mono (fun _ _ e => .inl e)))) (F3.mono (fun _ _ e => .inr (by omega))))
    have hs3 : w.heap.size + 1 < w3.heap.size := HR3.out.lt
    clear hW F3 N2 F2 e0 z0 c0 K1 HP2
    have c1 : w3.drew.cell? ⟨w.heap.size, 1, none⟩ = some (.int .i64 py) := HP3.out.cell 1
    have K2 := hid (C2.out w3.drew (HN3.out.fr (Fr.drew (fun _ => False) _) (fun h => h)))
    go_wp2
    go_region_law ((go_simp; refine K2.out.mono ?_; rintro r w4 ⟨rfl, N4, F4⟩; have HP4 := hid ((HP3.out.fr (Fr.drew (fun _ => False) _) (fun h => h)).fr F4 (by omega)); have e1 : w4.cell? ⟨w.heap.size, 1, none⟩ = some (.int .i64 py) := HP4.out.cell 1; have z1 : w4.frozen? ⟨w.heap.size, 1, none⟩ = false := HP4.out.frozen 1))
    all_goals
      generalize hW : World.setCell _ _ _ = w5
      have F5 : Fr (fun j => j = w.heap.size) w4 w5 := by rw [← hW]; exact Fr.setCell (S := fun j => j = w.heap.size) _ ⟨w.heap.size, 1, none⟩ _ rfl
      have HP5 := hid (show Blk w5 w.heap.size 89 #[.int .i64 (px + y1), .int .i64 (py + y2)] by rw [← hW]; exact HP4.out.set_ 1 _)
      have HR5 := hid ((HR3.out.fr ((Fr.drew (fun j => j = b) _).trans F4) (by omega)).fr F5 (by omega))
      have HN5 := hid (N4.fr F5 (by omega))
      have HF5 := hid (HF3.out.trans (Fr.trans ((Fr.drew _ _).trans (F4.mono (fun _ _ e => .inl e))) (F5.mono (fun _ _ e => .inr (by omega)))))
      clear hW F5 N4 F4 e1 z1 c1 K2 HP4
      have k0 : w5.cell? ⟨w.heap.size, 0, none⟩ = some (.int .i64 (px + y1)) := HP5.out.cell 0
      have k1 : w5.cell? ⟨w.heap.size, 1, none⟩ = some (.int .i64 (py + y2)) := HP5.out.cell 1
      have r0 : w5.cell? ⟨w.heap.size + 1, 0, none⟩ = some (.int .i64 0) := HR5.out.cell 0
      have r1 : w5.cell? ⟨w.heap.size + 1, 1, none⟩ = some (.int .i64 0) := HR5.out.cell 1
      have g0 := HR5.out.frozen 0
      have g1 := HR5.out.frozen 1
      go_wp2
      generalize hW : World.setCell _ _ _ = w6
      have F6 : Fr (fun j => j = w.heap.size + 1) w5 w6 := by rw [← hW]; exact (Fr.setCell (S := fun j => j = w.heap.size + 1) _ ⟨w.heap.size + 1, 0, none⟩ _ rfl).trans (Fr.setCell (S := fun j => j = w.heap.size + 1) _ ⟨w.heap.size + 1, 1, none⟩ _ rfl)
      have hR6 : Blk w6 (w.heap.size + 1) 89 #[.int .i64 (px + y1), .int .i64 (py + y2)] := by rw [← hW]; exact (HR5.out.set_ 0 _).set_ 1 _
      have q0 : w6.cell? ⟨w.heap.size + 1, 0, none⟩ = some (.int .i64 (px + y1)) := hR6.cell 0
      have q1 : w6.cell? ⟨w.heap.size + 1, 1, none⟩ = some (.int .i64 (py + y2)) := hR6.cell 1
      have HF6 := hid ((HF5.out.trans (F6.mono (fun _ _ e => .inr (by omega)))).mono (T := fun j => j = b) (fun j hj h => by rcases h with h | h; exact h; omega))
      have HN6 := hid (HN5.out.fr F6 (by omega))
      clear hW F6 hR6 k0 k1 r0 r1 g0 g1
      exact bodyPost_ret (v := .agg #[.int .i64 (px + y1), .int .i64 (py + y2)]) (by simp [results, Try.results49, go_sem, q0, q1]) rfl ⟨rfl, HN6.out, HF6.out⟩
end Go.Proofs.Ytngggknejkcepaa
