/- Cells of the last of two or three new blocks; cells below a bound. -/
import Derived.Test.YtgjibnfdaigpkaaGreatDoorKit
namespace Go.Proofs.YtgjibnfdaigpkaaGreatDoor
set_option linter.unusedVariables false
open Go Go.Proofs Go.RowKit

theorem cell_two (w : World) (o : Obj) (c : Array Value) (t : TypeId) (i : Nat) : ((w.alloc o).alloc (.cells c t)).cell? ⟨w.heap.size + 1, i, none⟩ = c[i]? := by
  have := cell_new (w.alloc o) c t i
  rwa [World.size_alloc] at this
theorem cell_three (w : World) (o o' : Obj) (c : Array Value) (t : TypeId) (i : Nat) : (((w.alloc o).alloc o').alloc (.cells c t)).cell? ⟨w.heap.size + 1 + 1, i, none⟩ = c[i]? := by
  have := cell_two (w.alloc o) o' c t i
  rwa [World.size_alloc] at this
theorem froz_two (w : World) (o : Obj) (c : Array Value) (t : TypeId) (i : Nat) : ((w.alloc o).alloc (.cells c t)).frozen? ⟨w.heap.size + 1, i, none⟩ = false := by
  have := World.frozen?_alloc_new (w.alloc o) c t i
  rwa [World.size_alloc] at this

theorem cell_belB {w w' : World} {B0 b o : Nat} {v : Value} (h : w.cell? ⟨b, o, none⟩ = some v) (hb : Below B0 w w') (hlt : b < B0) : w'.cell? ⟨b, o, none⟩ = some v := (hb.cell (p := ⟨b, o, none⟩) hlt).trans h
theorem froz_belB {w w' : World} {B0 b o : Nat} (hf : w.frozen? ⟨b, o, none⟩ = false) (hb : Below B0 w w') (hlt : b < B0) : w'.frozen? ⟨b, o, none⟩ = false := (hb.frozen (p := ⟨b, o, none⟩) hlt).trans hf
end Go.Proofs.YtgjibnfdaigpkaaGreatDoor
