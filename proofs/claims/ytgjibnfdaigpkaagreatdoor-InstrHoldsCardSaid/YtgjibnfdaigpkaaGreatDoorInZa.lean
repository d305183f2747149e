/- Parse: its results' blocks; its endings; plain laws of texts. -/
import Derived.Test.YtgjibnfdaigpkaaGreatDoorInR
import Derived.Test.YtgjibnfdaigpkaaGreatDoorInX
import Derived.Test.YtgjibnfdaigpkaaGreatDoorInY
namespace Go.Proofs.YtgjibnfdaigpkaaGreatDoor
set_option linter.unusedVariables false
open Go Go.Proofs Go.RowKit

structure PaI (w0 : World) (op : Int) (s : Int × Int × Int × Int) (w : World) : Prop where
  ins : Bare w0.heap.size op s w
  f0 : w.frozen? ⟨w0.heap.size, 0, none⟩ = false
  c1 : w.cell? ⟨w0.heap.size + 1, 0, none⟩ = some (.int .i64 0)
  f1 : w.frozen? ⟨w0.heap.size + 1, 0, none⟩ = false
  bel : Below w0.heap.size w0 w

theorem PaI.more {w0 : World} {op : Int} {s : Int × Int × Int × Int} {w w' : World} (h : PaI w0 op s w) (hb : Below w.heap.size w w') : PaI w0 op s w' :=
  ⟨h.ins.bel hb, froz_bel h.ins.c0 h.f0 hb, cell_bel h.c1 hb, froz_bel h.c1 h.f1 hb, h.bel.trans (hb.mono h.bel.size)⟩
theorem PaI.touch {w0 : World} {op : Int} {s : Int × Int × Int × Int} {w w' : World} {T : Nat → Prop} (h : PaI w0 op s w) (ht : Touch T w w') (hb : Below w0.heap.size w w') (hT : ∀ b, T b → w0.heap.size + 1 < b) : PaI w0 op s w' :=
  have n0 : ¬ T w0.heap.size := fun h => by have := hT _ h; omega
  have n1 : ¬ T (w0.heap.size + 1) := fun h => by have := hT _ h; omega
  ⟨h.ins.touch ht n0, froz_touch h.ins.c0 h.f0 ht n0, cell_touch h.c1 ht n1, froz_touch h.c1 h.f1 ht n1, h.bel.trans hb⟩
theorem PaI.put {w0 : World} {op op' : Int} {s s' : Int × Int × Int × Int} {w : World} {o : Nat} {v : Value} (h : PaI w0 op s w) (hb : Bare w0.heap.size op' s' (w.setCell ⟨w0.heap.size, o, none⟩ v)) : PaI w0 op' s' (w.setCell ⟨w0.heap.size, o, none⟩ v) :=
  ⟨hb, (World.frozen?_setCell ..).trans h.f0, (World.cell?_setCell_other _ _ _ _ (by simp)).trans h.c1, (World.frozen?_setCell ..).trans h.f1, h.bel.setCell (by simp) _⟩
/-- Behind a store of the whole instruction. -/
theorem PaI.set {w0 : World} {op : Int} {s : Int × Int × Int × Int} {w : World} (h : PaI w0 op s w) (op' a b c m : Int) :
    PaI w0 op' (a, b, c, m) (((((w.setCell ⟨w0.heap.size, 0, none⟩ (.int .i64 op')).setCell ⟨w0.heap.size, 1, none⟩ (.int .i64 a)).setCell ⟨w0.heap.size, 2, none⟩ (.int .i64 b)).setCell ⟨w0.heap.size, 3, none⟩ (.int .i64 c)).setCell ⟨w0.heap.size, 4, none⟩ (.int .u32 m)) := by
  have ht := touch_set5 w0.heap.size w (.int .i64 op') (.int .i64 a) (.int .i64 b) (.int .i64 c) (.int .u32 m) (T := fun b => b = w0.heap.size) rfl
  refine ⟨h.ins.set op' a b c m, by simp only [World.frozen?_setCell]; exact h.f0, cell_touch h.c1 ht (by omega), froz_touch h.c1 h.f1 ht (by omega), ?_⟩
  exact ((((h.bel.setCell (p := ⟨w0.heap.size, 0, none⟩) (Nat.le_refl _) _).setCell (p := ⟨w0.heap.size, 1, none⟩) (Nat.le_refl _) _).setCell (p := ⟨w0.heap.size, 2, none⟩) (Nat.le_refl _) _).setCell (p := ⟨w0.heap.size, 3, none⟩) (Nat.le_refl _) _).setCell (p := ⟨w0.heap.size, 4, none⟩) (Nat.le_refl _) _

theorem paI_start (w : World) : PaI w 0 (0, 0, 0, 0) ((w.alloc (.cells #[.int .i64 0, .int .i64 0, .int .i64 0, .int .i64 0, .int .u32 0] 25)).alloc (.cells #[.int .i64 0] 28)) := by
  have b1 := Bare.new 0 0 0 0 0 w 25
  refine ⟨b1.bel (bel1 _), froz_bel b1.c0 (World.frozen?_alloc_new _ _ _ _) (bel1 _), cell_two w _ #[.int .i64 0] 28 0, froz_two w _ _ _ _, belA (bel1 _) _⟩

/-- The closure that clears what Parse tells. -/
theorem parseClear_any (B : Nat) (op : Int) (s : Int × Int × Int × Int) (w : World) (h : Bare B op s w) (hf0 : w.frozen? ⟨B, 0, none⟩ = false) :
    Calls Tryz.prog 47 #[.pointer (some ⟨B, 0, none⟩)] w fun e w' => e = .returned (.tuple #[]) ∧ w' = (((((w.setCell ⟨B, 0, none⟩ (.int .i64 0)).setCell ⟨B, 1, none⟩ (.int .i64 0)).setCell ⟨B, 2, none⟩ (.int .i64 0)).setCell ⟨B, 3, none⟩ (.int .i64 0)).setCell ⟨B, 4, none⟩ (.int .u32 0)) := by
  obtain ⟨c0, c1, c2, c3, c4, f1, f2, f3, f4⟩ := h
  go_enter Tryz.func47, Tryz.ntmps47
  go_wp2
  go_end0
  exact ⟨rfl, rfl⟩

/-- What Parse tells. -/
def parseV (op a b c m e : Int) : Value := .tuple #[insV op a b c m, .int .i64 e]

set_option maxRecDepth 100000 in
set_option maxHeartbeats 4000000 in
theorem parse_panics (w0 : World) (op : Int) (s : Int × Int × Int × Int) (w : World) (h : PaI w0 op s w) (n : Int) (t : Array Value)
    (h2 : t[2]? = some (.pointer (some ⟨w0.heap.size, 0, none⟩))) (h3 : t[3]? = some (.pointer (some ⟨w0.heap.size + 1, 0, none⟩))) (R : Ending → World → Prop) (hR : ∀ w', Below w0.heap.size w0 w' → R (.returned (parseV 0 0 0 0 0 n)) w') :
    bodyPostD Tryz.prog Tryz.f17 R (Exit.panic [{ v := .iface 28 (.int .i64 n), recovered := false }])
      { tmps := t, defers := [{ target := Target.fn (Fn.func 34) #[], args := #[.pointer (some ⟨w0.heap.size + 1, 0, none⟩), .func (.func 47) #[] #[.pointer (some ⟨w0.heap.size, 0, none⟩)]] }] } w := by
  refine leaves_cons (f := 34) (args := #[.pointer (some ⟨w0.heap.size + 1, 0, none⟩), .func (.func 47) #[] #[.pointer (some ⟨w0.heap.size, 0, none⟩)]]) (by simp) (by simp [go_sem]) ?_
  refine (caught_yes ⟨w0.heap.size + 1, 0, none⟩ n 47 _ [] w (fun w' => PaI w0 0 (0, 0, 0, 0) w')
    (enters_of Tryz.func47 (by kernel_rfl) rfl) ?_ ?_).mono ?_
  · refine (parseClear_any w0.heap.size op s w h.ins h.f0).mono ?_
    rintro e w' ⟨rfl, rfl⟩
    exact ⟨rfl, h.set 0 0 0 0 0⟩
  · exact fun w' h' => ⟨_, h'.c1, h'.f1⟩
  rintro e u' w'' ⟨rfl, rfl, w1, h', rfl⟩
  obtain ⟨e0, e1, e2, e3, e4, _, _, _, _⟩ := h'.ins.far (B' := w0.heap.size + 1) (o := 0) (v := .int .i64 n) (by omega)
  have q3 := World.cell?_setCell_same w1 ⟨w0.heap.size + 1, 0, none⟩ (.int .i64 n) h'.c1
  have hB := hR _ (h'.bel.setCell (p := ⟨w0.heap.size + 1, 0, none⟩) (by simp) (.int .i64 n))
  clear h' h
  generalize w1.setCell _ _ = w2 at *
  unfold parseV insV at hB
  simp [Leaves, settle, results, Tryz.results17, go_sem, h2, h3, e0, e1, e2, e3, e4, q3]
  exact hB

set_option maxRecDepth 100000 in
set_option maxHeartbeats 4000000 in
theorem parse_returns (w0 : World) (op : Int) (s : Int × Int × Int × Int) (w : World) (h : PaI w0 op s w) (t : Array Value)
    (h2 : t[2]? = some (.pointer (some ⟨w0.heap.size, 0, none⟩))) (h3 : t[3]? = some (.pointer (some ⟨w0.heap.size + 1, 0, none⟩))) (R : Ending → World → Prop) (hR : R (.returned (parseV op s.1 s.2.1 s.2.2.1 s.2.2.2 0)) w) :
    bodyPostD Tryz.prog Tryz.f17 R Exit.ret
      { tmps := t, defers := [{ target := Target.fn (Fn.func 34) #[], args := #[.pointer (some ⟨w0.heap.size + 1, 0, none⟩), .func (.func 47) #[] #[.pointer (some ⟨w0.heap.size, 0, none⟩)]] }] } w := by
  obtain ⟨e0, e1, e2, e3, e4, _, _, _, _⟩ := h.ins
  have q3 := h.c1
  clear h
  unfold parseV insV at hR
  refine leaves_cons (f := 34) (args := #[.pointer (some ⟨w0.heap.size + 1, 0, none⟩), .func (.func 47) #[] #[.pointer (some ⟨w0.heap.size, 0, none⟩)]]) (by simp) (by simp [go_sem]) ?_
  refine (caught_idle _ _ w).mono ?_
  rintro e u' w'' ⟨rfl, rfl, rfl⟩
  simp [Leaves, settle, results, Tryz.results17, go_sem, h2, h3, e0, e1, e2, e3, e4, q3]
  exact hR
end Go.Proofs.YtgjibnfdaigpkaaGreatDoor
