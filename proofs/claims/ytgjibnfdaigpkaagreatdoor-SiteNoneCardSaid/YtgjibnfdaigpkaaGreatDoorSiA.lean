/- Walks of package site: Check, Order; every argument. -/
import Derived.Test.YtgjibnfdaigpkaaGreatDoorKit
namespace Go.Proofs.YtgjibnfdaigpkaaGreatDoor
set_option linter.unusedVariables false
open Go Go.Proofs Go.RowKit

theorem si_fn (f p : Int) (w : World) : Calls Tryz.prog 168 #[.agg #[.int .i64 f, .int .i64 p]] w fun e w' => e = .returned (.int .i64 f) ∧ Below w.heap.size w w' := by
  go_enter Tryz.func168, Tryz.ntmps168
  go_wp2
  go_ret
  exact ⟨rfl, bel1 _⟩

theorem si_pc (f p : Int) (w : World) : Calls Tryz.prog 169 #[.agg #[.int .i64 f, .int .i64 p]] w fun e w' => e = .returned (.int .i64 p) ∧ Below w.heap.size w w' := by
  go_enter Tryz.func169, Tryz.ntmps169
  go_wp2
  go_ret
  exact ⟨rfl, bel1 _⟩

theorem si_bounds (w : World) : Calls Tryz.prog 144 #[] w fun e w' => e = .returned (.agg #[.func (.func 168) #[] #[], .int .i64 32, .func (.func 169) #[] #[], .int .i64 512]) ∧ Below w.heap.size w w' := by
  go_enter Tryz.func144, Tryz.ntmps144
  go_wp2
  exact bodyPost_ret (v := .agg #[.func (.func 168) #[] #[], .int .i64 32, .func (.func 169) #[] #[], .int .i64 512]) (by simp [results, Tryz.results144, go_sem]) rfl ⟨rfl, bel1 _⟩

theorem idxB0 (a b c d : Value) (w : World) : (Instr.index 205 (.agg #[a, b, c, d]) (.int .i64 0)).run Tryz.prog w = .ok (.agg #[a, b]) w := by kernel_rfl
theorem idxB1 (a b c d : Value) (w : World) : (Instr.index 205 (.agg #[a, b, c, d]) (.int .i64 1)).run Tryz.prog w = .ok (.agg #[c, d]) w := by kernel_rfl

/-- Check, as a function. -/
def chkF (f p : Int) : Int := if 0 ≤ f ∧ f < 32 ∧ 0 ≤ p ∧ p < 512 then 0 else 2

set_option maxRecDepth 100000 in
set_option maxHeartbeats 400000 in
theorem check_any (f p : Int) (w : World) :
    Calls Tryz.prog 104 #[.agg #[.int .i64 f, .int .i64 p]] w fun e w' => e = .returned (.int .i64 (chkF f p)) ∧ Below w.heap.size w w' := by
  have i0 := idxB0
  have i1 := idxB1
  go_enter Tryz.func104, Tryz.ntmps104
  go_wp2_with (go_at_call 144; refine (si_bounds _).mono ?_; rintro e w1 ⟨rfl, hb1⟩)
  have k0 := cell_bel (cell_new w #[.int .i64 f, .int .i64 p] 60 0) hb1
  have k1 := cell_bel (cell_new w #[.int .i64 f, .int .i64 p] 60 1) hb1
  have hz1 := lt_of_cell k0
  have hB1 := belT (bel1 _) hb1
  clear hb1
  refine wp_loop_rounds 3 ?_
  rw [rounds_succ]
  go_wp2_with (go_at_call 168; refine (si_fn _ _ _).mono ?_; rintro e w2 ⟨rfl, hb2⟩; have m0 := cell_bel (cell_al k0 _) hb2; have m1 := cell_bel (cell_al k1 _) hb2; have n1 := cell_bel (cell_new w1 #[.func (.func 168) #[] #[], .int .i64 32] 204 1) hb2; have hz2 := lt_of_cell m0; have hB2 := belT (belA hB1 _) hb2)
  · have h : f < 0 ∨ 32 ≤ f := by assumption
    go_ret
    exact ⟨ret_int (by unfold chkF; rw [if_neg (by omega)]), hB2⟩
  · have h : 0 ≤ f ∧ f < 32 := by assumption
    rw [rounds_succ]
    go_wp2_with (go_at_call 169; refine (si_pc _ _ _).mono ?_; rintro e w3 ⟨rfl, hb3⟩; have n2 := cell_bel (cell_new w2 #[.func (.func 169) #[] #[], .int .i64 512] 204 1) hb3; have hB3 := belT (belA hB2 _) hb3)
    · have h3 : p < 0 ∨ 512 ≤ p := by assumption
      go_ret
      exact ⟨ret_int (by unfold chkF; rw [if_neg (by omega)]), hB3⟩
    · have h3 : 0 ≤ p ∧ p < 512 := by assumption
      rw [rounds_succ]
      go_wp2
      go_ret
      exact ⟨ret_int (by unfold chkF; rw [if_pos (by omega)]), hB3⟩
    · have h3 : p < 0 := by assumption
      go_ret
      exact ⟨ret_int (by unfold chkF; rw [if_neg (by omega)]), hB3⟩
  · have h : f < 0 := by assumption
    go_ret
    exact ⟨ret_int (by unfold chkF; rw [if_neg (by omega)]), hB2⟩

/-- cmp.Compare at int. -/
def cmpF (a b : Int) : Int := if a < b then -1 else if b < a then 1 else 0

theorem cmp_any (a b : Int) (w : World) : Calls Tryz.prog 171 #[.int .i64 a, .int .i64 b] w fun e w' => e = .returned (.int .i64 (cmpF a b)) ∧ w = w' := by
  unfold cmpF
  by_cases h1 : a < b
  · rw [if_pos h1]
    go_enter Tryz.func171, Tryz.ntmps171
    go_wp2
    go_ret
    exact ⟨rfl, rfl⟩
  · rw [if_neg h1]
    by_cases h2 : b < a
    · rw [if_pos h2]
      go_enter Tryz.func171, Tryz.ntmps171
      go_wp2
      go_ret
      exact ⟨rfl, rfl⟩
    · rw [if_neg h2]
      go_enter Tryz.func171, Tryz.ntmps171
      go_wp2
      go_ret
      exact ⟨rfl, rfl⟩

/-- cmp.Or at two ints. -/
def orF (a b : Int) : Int := if a = 0 then b else a

set_option maxRecDepth 100000 in
set_option maxHeartbeats 400000 in
theorem or_any (a b : Int) (B : Nat) (w : World) (c0 : w.cell? ⟨B, 0, none⟩ = some (.int .i64 a)) (c1 : w.cell? ⟨B, 1, none⟩ = some (.int .i64 b)) :
    Calls Tryz.prog 113 #[.slice (some ⟨B, 0, none⟩) 2 2] w fun e w' => e = .returned (.int .i64 (orF a b)) ∧ Below w.heap.size w w' := by
  unfold orF
  by_cases ha : a = 0
  · rw [if_pos ha]
    have e1 : (a == 0) = true := by simpa using ha
    clear ha
    by_cases hb : b = 0
    · subst hb
      go_enter Tryz.func113, Tryz.ntmps113
      go_wp2
      refine wp_loop_rounds 4 ?_
      repeat (rw [rounds_succ]; go_wp2)
      go_ret
      exact ⟨rfl, Below.refl _ _⟩
    · have e2 : (b == 0) = false := by simpa using hb
      clear hb
      go_enter Tryz.func113, Tryz.ntmps113
      go_wp2
      refine wp_loop_rounds 4 ?_
      repeat (rw [rounds_succ]; go_wp2)
      go_ret
      exact ⟨rfl, Below.refl _ _⟩
  · rw [if_neg ha]
    have e1 : (a == 0) = false := by simpa using ha
    clear ha
    go_enter Tryz.func113, Tryz.ntmps113
    go_wp2
    refine wp_loop_rounds 4 ?_
    repeat (rw [rounds_succ]; go_wp2)
    go_ret
    exact ⟨rfl, Below.refl _ _⟩

/-- Order, as a function. -/
def ordF (f p f' p' : Int) : Int := orF (cmpF f f') (cmpF p p')

end Go.Proofs.YtgjibnfdaigpkaaGreatDoor
