/- A slice of bytes as a string. -/
import Derived.Test.YtngggknejkcepaaLib
import Derived.Laws.BytesArg
namespace Go.Proofs.Ytngggknejkcepaa
open Go.RowKit
theorem run_bstr {P : Program} (w : World) (src dst e : TypeId) (hs : P.underlying src = some (.slice e)) (he : P.underlying e = some (.int .u8)) (hd : P.underlying dst = some .string) (v : Value) (B : List Int) (hv : Vw w v (B.map (Value.int .u8))) :
    (convert src dst v).run P w = .ok (.string (strOfNums B)) w := by
  rcases hv.split with ⟨a, c, rfl, h0⟩ | ⟨b, off, c, rfl, hp, hc⟩
  · obtain rfl : B = [] := by simpa using h0
    cases a with
    | none => exact run_convert_bytes_nil w src e hs he 0 c dst hd
    | some ad =>
      rw [run_convert_bytes_string w src dst e _ 0 c hs he hd, run_bytesToString w ad 0 c [] (by simp [loadCells, loadCellsFrom, Sem.run_pure])]
      rfl
  · have hc' : ∀ i, i < B.length → w.cell? ⟨b, off + i, none⟩ = some (.int .u8 (B.getD i 0)) := fun i hi => by
      have := hc i (by simpa using hi)
      rw [this]
      simp [List.getD, hi]
    rw [List.length_map]
    exact run_convert_bytes_arg w src e hs he b off B.length c B rfl hc' dst hd
theorem exec_bstr {P : Program} {o : Oper} {a : Act} {w : World} (src dst e : TypeId) (x : Operand) (hop : o.op = Op.convert src dst x) (hs : P.underlying src = some (.slice e)) (he : P.underlying e = some (.int .u8)) (hd : P.underlying dst = some .string)
    (v : Value) (hx : a.eval x = v) (B : List Int) (hv : Vw w v (B.map (Value.int .u8))) : (execOp a.eval o).run P w = .ok (.value (.string (strOfNums B))) w := by
  have hr := run_bstr (P := P) w src dst e hs he hd v B hv
  unfold execOp
  simp only [hop, hx, Sem.run_bind, hr, Result.andThen_ok, Sem.run_pure]
theorem strOfNums_inj {A B : List Int} (hA : ∀ n ∈ A, 0 ≤ n ∧ n < 256) (hB : ∀ n ∈ B, 0 ≤ n ∧ n < 256) (h : strOfNums A = strOfNums B) : A = B := by
  have h1 := congrArg (fun s => s.data.toList) h
  simp only [strOfNums_data] at h1
  apply List.ext_getElem
  · simpa using congrArg List.length h1
  · intro i h2 h3
    have h4 := congrArg (fun l => l[i]?) h1
    simp only [List.getElem?_map, List.getElem?_eq_getElem h2, List.getElem?_eq_getElem h3, Option.map_some, Option.some.injEq] at h4
    have a1 := hA A[i] (List.getElem_mem h2)
    have b1 := hB B[i] (List.getElem_mem h3)
    have h5 := congrArg UInt8.toNat h4
    simp only [UInt8.toNat_ofNat'] at h5
    omega
end Go.Proofs.Ytngggknejkcepaa
