/- Parse: its world. -/
import Derived.Test.YtgjibnfdaigpkaaGreatDoorInZb
import Derived.Test.YtgjibnfdaigpkaaGreatDoorForget
namespace Go.Proofs.YtgjibnfdaigpkaaGreatDoor
set_option linter.unusedVariables false
open Go Go.Proofs Go.RowKit

/-- What the library's variables hold, MaxLen too. -/
structure EnvM (w : World) : Prop where
  env : Env w
  mx : ∃ m, w.cell? ⟨3, 0, none⟩ = some (.int .i64 m)
theorem EnvM.on {w w' : World} (h : EnvM w) (hb : Below w.heap.size w w') : EnvM w' := by
  obtain ⟨m, hm⟩ := h.mx
  exact ⟨h.env.on hb, m, cell_bel hm hb⟩

/-- The pieces of a string. -/
theorem pieces_any (s : ByteArray) (hs : s.size < 4294967281) (w : World) (hE : EnvM w) :
    Calls Tryz.prog 48 #[.string s, .string ⟨#[32]⟩] w fun e w' => e = .returned (.slice (some ⟨w.heap.size, 0, none⟩) (piecesF s).length (piecesF s).length) ∧ w' = w.alloc (.cells ((piecesF s).map Value.string).toArray 9) := by
  obtain ⟨m, hm⟩ := hE.mx
  refine (Tryz.strings_Split s ⟨#[32]⟩ m w hs hm (by show 1 ≤ 1; omega)).mono ?_
  rintro e w' ⟨rfl, rfl⟩
  exact ⟨by rw [pieces_length], rfl⟩

theorem wds_new (L : List ByteArray) (w : World) (t t' : TypeId) : Wds (w.heap.size + 1) w.heap.size L ((w.alloc (.cells (L.map Value.string).toArray t)).alloc (.cells #[.slice (some ⟨w.heap.size, 0, none⟩) L.length L.length] t')) := by
  refine ⟨cell_two w _ _ t' 0, fun j x hj => ?_⟩
  refine cell_al ((cell_new w _ t j).trans ?_) _
  simp [hj]

/-- Parse's world: its results, its words. -/
structure PaW (w0 : World) (op : Int) (st : Int × Int × Int × Int) (L : List ByteArray) (w : World) : Prop where
  ins : PaI w0 op st w
  wds : Wds (w0.heap.size + 1 + 1 + 1) (w0.heap.size + 1 + 1) L w
theorem PaW.more {w0 : World} {op : Int} {s : Int × Int × Int × Int} {L : List ByteArray} {w w' : World} (h : PaW w0 op s L w) (hb : Below w.heap.size w w') : PaW w0 op s L w' := ⟨h.ins.more hb, h.wds.bel hb⟩
theorem PaW.touch {w0 : World} {op : Int} {s : Int × Int × Int × Int} {L : List ByteArray} {w w' : World} {T : Nat → Prop} (h : PaW w0 op s L w) (ht : Touch T w w') (hb : Below w0.heap.size w w') (hT : ∀ b, T b → w0.heap.size + 1 + 1 + 1 < b) : PaW w0 op s L w' :=
  ⟨h.ins.touch ht hb (fun b hb => by have := hT b hb; omega), h.wds.touch ht (fun h => by have := hT _ h; omega) (fun h => by have := hT _ h; omega)⟩

theorem paW_start (w : World) (L : List ByteArray) : PaW w 0 (0, 0, 0, 0) L ((((w.alloc (.cells #[.int .i64 0, .int .i64 0, .int .i64 0, .int .i64 0, .int .u32 0] 25)).alloc (.cells #[.int .i64 0] 28)).alloc (.cells (L.map Value.string).toArray 9)).alloc (.cells #[.slice (some ⟨w.heap.size + 1 + 1, 0, none⟩) L.length L.length] 103)) := by
  refine ⟨(paI_start w).more (belA (bel1 _) _), ?_⟩
  have := wds_new L ((w.alloc (.cells #[.int .i64 0, .int .i64 0, .int .i64 0, .int .i64 0, .int .u32 0] 25)).alloc (.cells #[.int .i64 0] 28)) 9 103
  simpa only [World.size_alloc] using this
theorem PaW.set {w0 : World} {op : Int} {s : Int × Int × Int × Int} {L : List ByteArray} {w : World} (h : PaW w0 op s L w) (op' a b c m : Int) :
    PaW w0 op' (a, b, c, m) L (((((w.setCell ⟨w0.heap.size, 0, none⟩ (.int .i64 op')).setCell ⟨w0.heap.size, 1, none⟩ (.int .i64 a)).setCell ⟨w0.heap.size, 2, none⟩ (.int .i64 b)).setCell ⟨w0.heap.size, 3, none⟩ (.int .i64 c)).setCell ⟨w0.heap.size, 4, none⟩ (.int .u32 m)) :=
  ⟨h.ins.set op' a b c m, h.wds.touch (touch_set5 w0.heap.size w (.int .i64 op') (.int .i64 a) (.int .i64 b) (.int .i64 c) (.int .u32 m) (T := fun b => b = w0.heap.size) rfl) (by omega) (by omega)⟩
theorem PaW.put {w0 : World} {op op' : Int} {s s' : Int × Int × Int × Int} {L : List ByteArray} {w : World} {o : Nat} {v : Value} (h : PaW w0 op s L w) (hb : Bare w0.heap.size op' s' (w.setCell ⟨w0.heap.size, o, none⟩ v)) : PaW w0 op' s' L (w.setCell ⟨w0.heap.size, o, none⟩ v) :=
  ⟨h.ins.put hb, h.wds.touch (T := fun b => b = w0.heap.size) (Touch.setCell _ _ _ rfl) (by omega) (by omega)⟩
end Go.Proofs.YtgjibnfdaigpkaaGreatDoor
