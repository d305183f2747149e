/- Walks of the reference of layer 1: right, Fixed, ReadFixed, at two bytes. -/
import Derived.Test.YtgjibnfdaigpkaaDoorOct
import Derived.Deep.OwnRows
namespace Go.Proofs.YtgjibnfdaigpkaaDoor
set_option linter.unusedVariables false
open Go Go.Proofs Go.RowKit

theorem rOct_two (w : World) : Calls Tryd.prog 48 #[.int .i64 2] w fun e w' => e = .returned (.bool true) ∧ w = w' := by
  go_enter Tryd.func48, Tryd.ntmps48
  go_wp2
  go_ret
  exact ⟨rfl, rfl⟩

theorem make_two (w : World) : (Instr.makeSlice 43 (.int .i64 2) (.int .i64 2)).run Tryd.prog w = .ok (.slice (some ⟨w.heap.size, 0, none⟩) 2 2) (w.alloc (.cells #[.int .u8 0, .int .u8 0] 5)) := by
  have := run_make_row' (P := Tryd.prog) 43 5 (.int .u8 0) 1 Tryd.underlying43 info_octet rfl .i64 .i64 2 (by omega) (by omega) w
  rw [show madeCells #[Value.int .u8 0] 2 = #[.int .u8 0, .int .u8 0] by kernel_rfl] at this
  exact this

set_option maxRecDepth 100000 in
set_option maxHeartbeats 1000000 in
theorem rFixed_two (n : Nat) (hn : n < 65536) (w : World) :
    Calls Tryd.prog 36 #[.int .u64 n, .int .i64 2] w fun e w' => e = .returned (.tuple #[.slice (some ⟨w.heap.size, 0, none⟩) 2 2, .int .i64 0]) ∧
      w' = w.alloc (.cells #[.int .u8 ((n : Int) % 256), .int .u8 ((n : Int) / 256 % 256)] 5) := by
  have h0 : (n : Int) / 256 / 256 = 0 := by omega
  have hmk := make_two
  go_enter Tryd.func36, Tryd.ntmps36
  go_wp2_with (go_at_call 48; refine (rOct_two _).mono ?_; rintro e w1 ⟨rfl, rfl⟩)
  refine wp_loop_rounds 3 ?_
  rw [rounds_succ]
  go_wp2
  rw [rounds_succ]
  go_wp2
  rw [rounds_succ]
  go_wp2
  go_ret2
  exact ⟨rfl, rfl⟩

set_option maxRecDepth 100000 in
set_option maxHeartbeats 1000000 in
theorem rRead_two (b o m c y z : Nat) (hm : 2 ≤ m) (hy : y < 256) (hz : z < 256) (w : World) (h0 : w.cell? ⟨b, o, none⟩ = some (.int .u8 y)) (h1 : w.cell? ⟨b, o + 1, none⟩ = some (.int .u8 z)) :
    Calls Tryd.prog 35 #[.slice (some ⟨b, o, none⟩) m c, .int .i64 2] w fun e w' => e = .returned (.tuple #[.int .u64 (y + z * 256 : Nat), .int .i64 0]) ∧ w = w' := by
  have hm1 : ¬ (m : Int) < 2 := by omega
  go_enter Tryd.func35, Tryd.ntmps35
  go_wp2_with (go_at_call 48; refine (rOct_two _).mono ?_; rintro e w1 ⟨rfl, rfl⟩)
  refine wp_loop_rounds 3 ?_
  rw [rounds_succ]
  go_wp2
  rw [rounds_succ]
  go_wp2
  rw [rounds_succ]
  go_wp2
  go_ret2
  refine ⟨?_, rfl⟩
  rw [show ((y + z * 256 : Nat) : Int) = 256 * (z : Int) + y by omega]
  rfl
end Go.Proofs.YtgjibnfdaigpkaaDoor
