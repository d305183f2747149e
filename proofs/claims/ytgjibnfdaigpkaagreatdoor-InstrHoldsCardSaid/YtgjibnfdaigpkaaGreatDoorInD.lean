/- A part's two functions. -/
import Derived.Test.YtgjibnfdaigpkaaGreatDoorInC
namespace Go.Proofs.YtgjibnfdaigpkaaGreatDoor
set_option linter.unusedVariables false
open Go Go.Proofs Go.RowKit

def insV (op a b c m : Int) : Value := .agg #[.int .i64 op, .int .i64 a, .int .i64 b, .int .i64 c, .int .u32 m]

theorem getA (op a b c m : Int) (hx : 0 ≤ a ∧ a < 4294967296) (w : World) : Calls Tryz.prog 115 #[insV op a b c m] w fun e w' => e = .returned (.int .u64 a) ∧ ∃ o, w' = w.alloc o := by
  unfold insV
  go_enter Tryz.func115, Tryz.ntmps115
  go_wp2
  refine bodyPost_ret (v := .int .u64 a) ?_ rfl ⟨rfl, _, rfl⟩
  simp [results, Tryz.results115, go_sem]
theorem getB (op a b c m : Int) (hx : 0 ≤ b ∧ b < 4294967296) (w : World) : Calls Tryz.prog 117 #[insV op a b c m] w fun e w' => e = .returned (.int .u64 b) ∧ ∃ o, w' = w.alloc o := by
  unfold insV
  go_enter Tryz.func117, Tryz.ntmps117
  go_wp2
  refine bodyPost_ret (v := .int .u64 b) ?_ rfl ⟨rfl, _, rfl⟩
  simp [results, Tryz.results117, go_sem]
theorem getC (op a b c m : Int) (hx : 0 ≤ c ∧ c < 4294967296) (w : World) : Calls Tryz.prog 121 #[insV op a b c m] w fun e w' => e = .returned (.int .u64 c) ∧ ∃ o, w' = w.alloc o := by
  unfold insV
  go_enter Tryz.func121, Tryz.ntmps121
  go_wp2
  refine bodyPost_ret (v := .int .u64 c) ?_ rfl ⟨rfl, _, rfl⟩
  simp [results, Tryz.results121, go_sem]
theorem getI (op a b c m : Int) (hx : 0 ≤ m ∧ m < 4294967296) (w : World) : Calls Tryz.prog 119 #[insV op a b c m] w fun e w' => e = .returned (.int .u64 m) ∧ ∃ o, w' = w.alloc o := by
  unfold insV
  go_enter Tryz.func119, Tryz.ntmps119
  go_wp2
  refine bodyPost_ret (v := .int .u64 m) ?_ rfl ⟨rfl, _, rfl⟩
  simp [results, Tryz.results119, go_sem]

theorem putA (bk : Nat) (x : Value) (n : Int) (hx : 0 ≤ n ∧ n < 4294967296) (w : World) (hc : w.cell? ⟨bk, 1, none⟩ = some x) (hf : w.frozen? ⟨bk, 1, none⟩ = false) : Calls Tryz.prog 116 #[.pointer (some ⟨bk, 0, none⟩), .int .u64 n] w fun e w' => e = .returned (.tuple #[]) ∧ w' = w.setCell ⟨bk, 1, none⟩ (.int .i64 n) := by
  go_enter Tryz.func116, Tryz.ntmps116
  go_wp2
  exact bodyPost_end (v := .tuple #[]) (by simp [results, Tryz.results116]) rfl ⟨rfl, rfl⟩
theorem putB (bk : Nat) (x : Value) (n : Int) (hx : 0 ≤ n ∧ n < 4294967296) (w : World) (hc : w.cell? ⟨bk, 2, none⟩ = some x) (hf : w.frozen? ⟨bk, 2, none⟩ = false) : Calls Tryz.prog 118 #[.pointer (some ⟨bk, 0, none⟩), .int .u64 n] w fun e w' => e = .returned (.tuple #[]) ∧ w' = w.setCell ⟨bk, 2, none⟩ (.int .i64 n) := by
  go_enter Tryz.func118, Tryz.ntmps118
  go_wp2
  exact bodyPost_end (v := .tuple #[]) (by simp [results, Tryz.results118]) rfl ⟨rfl, rfl⟩
theorem putC (bk : Nat) (x : Value) (n : Int) (hx : 0 ≤ n ∧ n < 4294967296) (w : World) (hc : w.cell? ⟨bk, 3, none⟩ = some x) (hf : w.frozen? ⟨bk, 3, none⟩ = false) : Calls Tryz.prog 122 #[.pointer (some ⟨bk, 0, none⟩), .int .u64 n] w fun e w' => e = .returned (.tuple #[]) ∧ w' = w.setCell ⟨bk, 3, none⟩ (.int .i64 n) := by
  go_enter Tryz.func122, Tryz.ntmps122
  go_wp2
  exact bodyPost_end (v := .tuple #[]) (by simp [results, Tryz.results122]) rfl ⟨rfl, rfl⟩
theorem putI (bk : Nat) (x : Value) (n : Int) (hx : 0 ≤ n ∧ n < 4294967296) (w : World) (hc : w.cell? ⟨bk, 4, none⟩ = some x) (hf : w.frozen? ⟨bk, 4, none⟩ = false) : Calls Tryz.prog 120 #[.pointer (some ⟨bk, 0, none⟩), .int .u64 n] w fun e w' => e = .returned (.tuple #[]) ∧ w' = w.setCell ⟨bk, 4, none⟩ (.int .u32 n) := by
  go_enter Tryz.func120, Tryz.ntmps120
  go_wp2
  exact bodyPost_end (v := .tuple #[]) (by simp [results, Tryz.results120]) rfl ⟨rfl, rfl⟩
theorem is_any (op : Int) (w : World) : Calls Tryz.prog 38 #[.int .i64 op] w fun e w' => e = .returned (.bool (decide (1 ≤ op ∧ op ≤ 19))) ∧ w' = w := by
  go_enter Tryz.func38, Tryz.ntmps38
  go_wp2
  · exact bodyPost_ret (v := .bool (decide (op ≤ 19))) (by simp [results, Tryz.results38, go_sem]) rfl ⟨ret_bool (by simp [*]), rfl⟩
  · exact bodyPost_ret (v := .bool false) (by simp [results, Tryz.results38, go_sem]) rfl ⟨ret_bool (by
      have h : decide (1 ≤ op) = false := by simp; omega
      rw [h]; rfl), rfl⟩
end Go.Proofs.YtgjibnfdaigpkaaGreatDoor
