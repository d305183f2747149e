/- A pair that came in: opened. -/
import Derived.Test.YtgjibnfdaigpkaaGreatDoorKit
import Derived.Lib.SmallJoins
import Derived.Carry
namespace Go.Proofs.YtgjibnfdaigpkaaGreatDoor
set_option linter.unusedVariables false
open Go Go.Proofs Go.ChangeShapes Go.WideShapes Go.RowKit Go.Joins

set_option maxRecDepth 100000 in
theorem pair_open {H : Type} {enc : TypeId × Value → H} {W : World} {r : Reach} {b0 : Nat} {v : Value} {d : DataW H} {p : List MemPlace} (hv : Value.okWide Tryz.prog W r b0 62 v) (h : DataW.Trod enc Tryz.prog W 0 (fun _ => true) true 62 v d p) :
    ∃ a b c d : Int, v = .agg #[.int .i64 a, .int .i64 b, .int .i64 c, .int .i64 d] := by
  obtain ⟨cs, rfl, hsz⟩ := okWide_struct Tryz.underlying62 hv
  rw [show Tryz.prog.cellsOf 62 = 4 by kernel_rfl] at hsz
  obtain ⟨c0, c1, c2, c3, rfl⟩ := array4 hsz
  obtain ⟨fuel, hf⟩ := h
  have eS : Tryz.prog.cellsOf 60 = 2 := by kernel_rfl
  have eI : Tryz.prog.cellsOf 3 = 1 := by kernel_rfl
  obtain ⟨y0, y1, n, hx, _, h0, h1⟩ := trod_struct2 Tryz.underlying62 hf
  have h0' : DataW.trod enc Tryz.prog W 0 (fun _ => true) true n 60 [c0, c1] = some y0 := by simpa [Value.cells, eS] using h0
  have h1' : DataW.trod enc Tryz.prog W 0 (fun _ => true) true n 60 [c2, c3] = some y1 := by simpa [Value.cells, eS] using h1
  obtain ⟨z0, z1, m, _, _, g0, g1⟩ := trod_struct2 Tryz.underlying60 h0'
  obtain ⟨z2, z3, m', _, _, g2, g3⟩ := trod_struct2 Tryz.underlying60 h1'
  have g0' : DataW.trod enc Tryz.prog W 0 (fun _ => true) true m 3 [c0] = some z0 := by simpa [eI] using g0
  have g1' : DataW.trod enc Tryz.prog W 0 (fun _ => true) true m 3 [c1] = some z1 := by simpa [eI] using g1
  have g2' : DataW.trod enc Tryz.prog W 0 (fun _ => true) true m' 3 [c2] = some z2 := by simpa [eI] using g2
  have g3' : DataW.trod enc Tryz.prog W 0 (fun _ => true) true m' 3 [c3] = some z3 := by simpa [eI] using g3
  obtain ⟨a, ha, _, _⟩ := DataW.trod_int Tryz.underlying3 g0'
  obtain ⟨b, hb, _, _⟩ := DataW.trod_int Tryz.underlying3 g1'
  obtain ⟨c, hc, _, _⟩ := DataW.trod_int Tryz.underlying3 g2'
  obtain ⟨e, he, _, _⟩ := DataW.trod_int Tryz.underlying3 g3'
  obtain rfl : c0 = .int .i64 a := by simpa using ha
  obtain rfl : c1 = .int .i64 b := by simpa using hb
  obtain rfl : c2 = .int .i64 c := by simpa using hc
  obtain rfl : c3 = .int .i64 e := by simpa using he
  exact ⟨a, b, c, e, rfl⟩
end Go.Proofs.YtgjibnfdaigpkaaGreatDoor
