/- Walks of package site: right; read of a pair; Of. -/
import Derived.Test.YtgjibnfdaigpkaaGreatDoorSiC
namespace Go.Proofs.YtgjibnfdaigpkaaGreatDoor
set_option linter.unusedVariables false
open Go Go.Proofs Go.RowKit

theorem chk_two (f p : Int) : chkF f p = 0 ∨ chkF f p = 2 := by
  unfold chkF
  split
  · exact Or.inl rfl
  · exact Or.inr rfl

/-- Whether a pair may be. -/
def rightF (f p f' p' : Int) : Bool := chkF f p == 0 && (chkF f' p' == 0 && decide (ordF f p f' p' ≤ 0))

set_option maxRecDepth 100000 in
set_option maxHeartbeats 400000 in
theorem right_any (f p f' p' : Int) (w : World) :
    Calls Tryz.prog 73 #[.agg #[.int .i64 f, .int .i64 p, .int .i64 f', .int .i64 p']] w fun e w' => e = .returned (.bool (rightF f p f' p')) ∧ Below w.heap.size w w' := by
  unfold rightF
  have c1 := check_any f p
  have c2 := check_any f' p'
  have c3 := order_any f p f' p'
  generalize ordF f p f' p' = o at c3
  have k0 := cell_new w #[.int .i64 f, .int .i64 p, .int .i64 f', .int .i64 p'] 62 0
  have k1 := cell_new w #[.int .i64 f, .int .i64 p, .int .i64 f', .int .i64 p'] 62 1
  have k2 := cell_new w #[.int .i64 f, .int .i64 p, .int .i64 f', .int .i64 p'] 62 2
  have k3 := cell_new w #[.int .i64 f, .int .i64 p, .int .i64 f', .int .i64 p'] 62 3
  rcases chk_two f p with h1 | h1
  · rcases chk_two f' p' with h2 | h2
    · rw [h1] at c1 ⊢
      rw [h2] at c2 ⊢
      have C1 := Lib.hid c1
      have C2 := Lib.hid c2
      have C3 := Lib.hid c3
      clear c1 c2 c3 h1 h2
      go_enter Tryz.func73, Tryz.ntmps73
      go_wp2_with fail
      refine (C1.out _).mono ?_
      rintro e w1 ⟨rfl, hb1⟩
      have m0 := cell_bel k0 hb1
      have m1 := cell_bel k1 hb1
      have m2 := cell_bel k2 hb1
      have m3 := cell_bel k3 hb1
      have hB1 := belT (bel1 _) hb1
      clear k0 k1 k2 k3 hb1
      go_wp2_with fail
      refine (C2.out _).mono ?_
      rintro e w2 ⟨rfl, hb2⟩
      have n0 := cell_bel m0 hb2
      have n1 := cell_bel m1 hb2
      have n2 := cell_bel m2 hb2
      have n3 := cell_bel m3 hb2
      have hB2 := belT hB1 hb2
      clear m0 m1 m2 m3 hb2
      go_wp2_with fail
      refine (C3.out _).mono ?_
      rintro e w3 ⟨rfl, hb3⟩
      go_wp2
      go_ret
      exact ⟨by simp, belT hB2 hb3⟩
    · rw [h1] at c1 ⊢
      rw [h2] at c2 ⊢
      have C1 := Lib.hid c1
      have C2 := Lib.hid c2
      clear c1 c2 c3 h1 h2
      go_enter Tryz.func73, Tryz.ntmps73
      go_wp2_with fail
      refine (C1.out _).mono ?_
      rintro e w1 ⟨rfl, hb1⟩
      have m0 := cell_bel k0 hb1
      have m1 := cell_bel k1 hb1
      have m2 := cell_bel k2 hb1
      have m3 := cell_bel k3 hb1
      have hB1 := belT (bel1 _) hb1
      clear k0 k1 k2 k3 hb1
      go_wp2_with fail
      refine (C2.out _).mono ?_
      rintro e w2 ⟨rfl, hb2⟩
      go_wp2
      go_ret
      exact ⟨by simp, belT hB1 hb2⟩
  · rw [h1] at c1 ⊢
    have C1 := Lib.hid c1
    clear c1 c2 c3 h1
    go_enter Tryz.func73, Tryz.ntmps73
    go_wp2_with fail
    refine (C1.out _).mono ?_
    rintro e w1 ⟨rfl, hb1⟩
    go_wp2
    go_ret
    exact ⟨by simp, belT (bel1 _) hb1⟩

set_option maxRecDepth 100000 in
set_option maxHeartbeats 400000 in
theorem readP_yes (f p f' p' k : Int) (w : World) : Calls Tryz.prog 109 #[.agg #[.int .i64 f, .int .i64 p, .int .i64 f', .int .i64 p'], .bool true, .int .i64 k] w fun e w' => e = .returned (.tuple #[.agg #[.int .i64 f, .int .i64 p, .int .i64 f', .int .i64 p'], .int .i64 0]) ∧ Below w.heap.size w w' := by
  go_enter Tryz.func109, Tryz.ntmps109
  go_wp2
  exact bodyPost_ret (v := .tuple #[.agg #[.int .i64 f, .int .i64 p, .int .i64 f', .int .i64 p'], .int .i64 0]) (by simp [results, Tryz.results109, go_sem]) rfl ⟨rfl, belA (bel1 _) _⟩

set_option maxHeartbeats 400000 in
theorem readP_no (f p f' p' k : Int) (w : World) : Calls Tryz.prog 109 #[.agg #[.int .i64 f, .int .i64 p, .int .i64 f', .int .i64 p'], .bool false, .int .i64 k] w fun e w' => e = .returned (.tuple #[.agg #[.int .i64 0, .int .i64 0, .int .i64 0, .int .i64 0], .int .i64 k]) ∧ Below w.heap.size w w' := by
  go_enter Tryz.func109, Tryz.ntmps109
  go_wp2
  exact bodyPost_ret (v := .tuple #[.agg #[.int .i64 0, .int .i64 0, .int .i64 0, .int .i64 0], .int .i64 k]) (by simp [results, Tryz.results109, go_sem]) rfl ⟨rfl, belA (belA (bel1 _) _) _⟩
end Go.Proofs.YtgjibnfdaigpkaaGreatDoor
