/- Walks of package instr: the parts. -/
import Derived.Test.YtgjibnfdaigpkaaGreatDoorKit
namespace Go.Proofs.YtgjibnfdaigpkaaGreatDoor
set_option linter.unusedVariables false
open Go Go.Proofs Go.RowKit

/-- A part: how wide, its mark, its two functions. -/
def partV (wide : Int) (mark : ByteArray) (g p : Nat) : Value := .agg #[.int .i64 wide, .string mark, .func (.func g) #[] #[], .func (.func p) #[] #[]]
def partC (wide : Int) (mark : ByteArray) (g p : Nat) : Obj := .cells #[.int .i64 wide, .string mark, .func (.func g) #[] #[], .func (.func p) #[] #[]] 83

theorem first_any (w : World) : Calls Tryz.prog 79 #[] w fun e w' => e = .returned (partV 1 ⟨#[114]⟩ 115 116) ∧ ∃ o, w' = w.alloc o := by
  go_enter Tryz.func79, Tryz.ntmps79
  go_wp2
  exact bodyPost_ret (v := partV 1 ⟨#[114]⟩ 115 116) (by simp [results, Tryz.results79, go_sem, partV]) rfl ⟨rfl, _, rfl⟩
theorem second_any (w : World) : Calls Tryz.prog 80 #[] w fun e w' => e = .returned (partV 1 ⟨#[114]⟩ 117 118) ∧ ∃ o, w' = w.alloc o := by
  go_enter Tryz.func80, Tryz.ntmps80
  go_wp2
  exact bodyPost_ret (v := partV 1 ⟨#[114]⟩ 117 118) (by simp [results, Tryz.results80, go_sem, partV]) rfl ⟨rfl, _, rfl⟩
theorem third_any (w : World) : Calls Tryz.prog 82 #[] w fun e w' => e = .returned (partV 1 ⟨#[114]⟩ 121 122) ∧ ∃ o, w' = w.alloc o := by
  go_enter Tryz.func82, Tryz.ntmps82
  go_wp2
  exact bodyPost_ret (v := partV 1 ⟨#[114]⟩ 121 122) (by simp [results, Tryz.results82, go_sem, partV]) rfl ⟨rfl, _, rfl⟩
theorem imm_any (m : ByteArray) (w : World) : Calls Tryz.prog 81 #[.string m] w fun e w' => e = .returned (partV 4 m 119 120) ∧ ∃ o, w' = w.alloc o := by
  go_enter Tryz.func81, Tryz.ntmps81
  go_wp2
  exact bodyPost_ret (v := partV 4 m 119 120) (by simp [results, Tryz.results81, go_sem, partV]) rfl ⟨rfl, _, rfl⟩
theorem many_any (w : World) : Calls Tryz.prog 83 #[] w fun e w' => e = .returned (partV 1 ⟨#[]⟩ 121 122) ∧ ∃ o1 o2 o3, w' = ((w.alloc o1).alloc o2).alloc o3 := by
  go_enter Tryz.func83, Tryz.ntmps83
  go_wp2_with (go_at_call 82; refine (third_any _).mono ?_; rintro e w1 ⟨rfl, o, rfl⟩; simp only [partV])
  exact bodyPost_ret (v := partV 1 ⟨#[]⟩ 121 122) (by simp [results, Tryz.results83, go_sem, partV]) rfl ⟨rfl, _, _, _, rfl⟩
end Go.Proofs.YtgjibnfdaigpkaaGreatDoor
