/- Walks of package site: Order; every argument. -/
import Derived.Test.YtgjibnfdaigpkaaGreatDoorSiA
import Derived.StillTailTactics
namespace Go.Proofs.YtgjibnfdaigpkaaGreatDoor
set_option linter.unusedVariables false
open Go Go.Proofs Go.RowKit

theorem cmp_still (a b : Int) (w : World) : Calls Tryz.prog 171 #[.int .i64 a, .int .i64 b] w fun e w' => e = .returned (.int .i64 (cmpF a b)) ∧ w' = w :=
  (cmp_any a b w).mono fun _ _ ⟨h1, h2⟩ => ⟨h1, h2.symm⟩

set_option maxRecDepth 100000 in
set_option maxHeartbeats 200000 in
theorem order_in (f p f' p' : Int) (w : World) :
    Calls Tryz.prog 147 #[.agg #[.int .i64 f, .int .i64 p], .agg #[.int .i64 f', .int .i64 p']] w fun e w' => e = .returned (.int .i64 (ordF f p f' p')) ∧ Below w.heap.size w w' := by
  go_enter Tryz.func147, Tryz.ntmps147
  go_wp2
  have d0 : (((w.alloc (.cells #[.int .i64 f, .int .i64 p] 209)).alloc (.cells #[.int .i64 f', .int .i64 p'] 209)).drew).cell? ⟨w.heap.size, 0, none⟩ = some (.int .i64 f) := cell_al (cell_new w _ _ 0) _
  have d1 : (((w.alloc (.cells #[.int .i64 f, .int .i64 p] 209)).alloc (.cells #[.int .i64 f', .int .i64 p'] 209)).drew).cell? ⟨w.heap.size, 1, none⟩ = some (.int .i64 p) := cell_al (cell_new w _ _ 1) _
  have d2 : (((w.alloc (.cells #[.int .i64 f, .int .i64 p] 209)).alloc (.cells #[.int .i64 f', .int .i64 p'] 209)).drew).cell? ⟨w.heap.size + 1, 0, none⟩ = some (.int .i64 f') := (World.cell?_alloc_at _ _ _ _ (by simp)).trans rfl
  have d3 : (((w.alloc (.cells #[.int .i64 f, .int .i64 p] 209)).alloc (.cells #[.int .i64 f', .int .i64 p'] 209)).drew).cell? ⟨w.heap.size + 1, 1, none⟩ = some (.int .i64 p') := (World.cell?_alloc_at _ _ _ _ (by simp)).trans rfl
  have hB := (belA (bel1 (W := w) (.cells #[.int .i64 f, .int .i64 p] 209)) (.cells #[.int .i64 f', .int .i64 p'] 209)).drew
  refine wp_region_tail 10 (by kernel_rfl) (by kernel_rfl) ?_
  intro W2 hW
  rw [hW] at d0 d1 d2 d3 hB
  clear hW
  simp only [List.take_succ_cons, List.take_zero, List.drop_succ_cons, List.drop_zero]
  repeat still_step
  still_call (cmp_still f f' _)
  repeat still_step
  still_call (cmp_still p p' _)
  refine wpStill_nil ?_
  go_wp2_with fail
  refine (or_any (cmpF f f') (cmpF p p') _ _ (cell_new _ _ _ 0) (cell_new _ _ _ 1)).mono ?_
  rintro e w2 ⟨rfl, hb⟩
  go_wp2
  go_ret
  exact ⟨rfl, belT (belA hB _) hb⟩

set_option maxRecDepth 100000 in
set_option maxHeartbeats 200000 in
theorem order_any (f p f' p' : Int) (w : World) :
    Calls Tryz.prog 108 #[.agg #[.int .i64 f, .int .i64 p], .agg #[.int .i64 f', .int .i64 p']] w fun e w' => e = .returned (.int .i64 (ordF f p f' p')) ∧ Below w.heap.size w w' := by
  go_enter Tryz.func108, Tryz.ntmps108
  go_wp2_with fail
  refine (order_in f p f' p' _).mono ?_
  rintro e w1 ⟨rfl, hb⟩
  go_wp2
  go_ret
  exact ⟨rfl, belT (belA (bel1 _) _) hb⟩
end Go.Proofs.YtgjibnfdaigpkaaGreatDoor
