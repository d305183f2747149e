/- Plain laws of the sites' order and of pairs. -/
import Derived.Test.YtgjibnfdaigpkaaDoorSiF
namespace Go.Proofs.YtgjibnfdaigpkaaDoor
set_option linter.unusedVariables false
open Go Go.Proofs Go.RowKit

theorem ord_neg (f p f' p' : Int) : ordF f' p' f p = -ordF f p f' p' := by
  rcases Int.lt_trichotomy f f' with h | h | h <;> rcases Int.lt_trichotomy p p' with h' | h' | h' <;> simp only [ordF, orF, cmpF] <;> (repeat' split) <;> omega

theorem ord_zero (f p f' p' : Int) : ordF f p f' p' = 0 ↔ f = f' ∧ p = p' := by
  rcases Int.lt_trichotomy f f' with h | h | h <;> rcases Int.lt_trichotomy p p' with h' | h' | h' <;> simp only [ordF, orF, cmpF] <;> (repeat' split) <;> omega

theorem ord_trans (f p f' p' f'' p'' : Int) (h1 : ordF f p f' p' ≤ 0) (h2 : ordF f' p' f'' p'' ≤ 0) : ordF f p f'' p'' ≤ 0 := by
  have key : ∀ a b c d : Int, ordF a b c d ≤ 0 ↔ a < c ∨ (a = c ∧ b ≤ d) := by
    intro a b c d
    rcases Int.lt_trichotomy a c with h | h | h <;> rcases Int.lt_trichotomy b d with h' | h' | h' <;> simp only [ordF, orF, cmpF] <;> (repeat' split) <;> omega
  rw [key] at *
  omega

theorem ord_three (f p f' p' : Int) : ordF f p f' p' = -1 ∨ ordF f p f' p' = 0 ∨ ordF f p f' p' = 1 := by
  rcases Int.lt_trichotomy f f' with h | h | h <;> rcases Int.lt_trichotomy p p' with h' | h' | h' <;> simp only [ordF, orF, cmpF] <;> (repeat' split) <;> omega

theorem of_sym (a b c d : Int) : ofF c d a b = ofF a b c d := by
  unfold ofF
  rw [ord_neg a b c d]
  rcases ord_three a b c d with h | h | h
  · rw [h, if_pos (by decide), if_neg (by decide)]
  · obtain ⟨rfl, rfl⟩ := (ord_zero a b c d).1 h
    rw [h]
    simp
  · rw [h, if_neg (by decide), if_pos (by decide)]

/-- What Of tells of two sites, either way round. -/
theorem of_facts (a b c d : Int) : ∃ p0 p1 p2 p3 er : Int, ofF a b c d = .tuple #[.agg #[.int .i64 p0, .int .i64 p1, .int .i64 p2, .int .i64 p3], .int .i64 er] ∧
    ((er = 0 ∧ chkF a b = 0 ∧ chkF c d = 0 ∧ ordF p0 p1 p2 p3 ≤ 0 ∧ ((p0 = a ∧ p1 = b ∧ p2 = c ∧ p3 = d) ∨ (p0 = c ∧ p1 = d ∧ p2 = a ∧ p3 = b))) ∨ (er = 2 ∧ ¬ (chkF a b = 0 ∧ chkF c d = 0))) := by
  have key : ∀ x y z t : Int, ordF x y z t ≤ 0 → ∃ p0 p1 p2 p3 er : Int, ofV x y z t = .tuple #[.agg #[.int .i64 p0, .int .i64 p1, .int .i64 p2, .int .i64 p3], .int .i64 er] ∧
      ((er = 0 ∧ chkF x y = 0 ∧ chkF z t = 0 ∧ p0 = x ∧ p1 = y ∧ p2 = z ∧ p3 = t) ∨ (er = 2 ∧ ¬ (chkF x y = 0 ∧ chkF z t = 0))) := by
    intro x y z t ho
    cases hr : rightF x y z t with
    | true =>
      refine ⟨x, y, z, t, 0, by unfold ofV; rw [hr]; rfl, Or.inl ⟨rfl, ?_⟩⟩
      unfold rightF at hr
      simp only [Bool.and_eq_true, beq_iff_eq, decide_eq_true_eq] at hr
      exact ⟨hr.1, hr.2.1, rfl, rfl, rfl, rfl⟩
    | false =>
      refine ⟨0, 0, 0, 0, 2, by unfold ofV; rw [hr]; rfl, Or.inr ⟨rfl, ?_⟩⟩
      rintro ⟨h1, h2⟩
      unfold rightF at hr
      simp [h1, h2, ho] at hr
  unfold ofF
  split
  · rename_i h
    have h2 : ordF c d a b ≤ 0 := by rw [ord_neg a b c d]; omega
    obtain ⟨p0, p1, p2, p3, er, h3, h4⟩ := key c d a b h2
    refine ⟨p0, p1, p2, p3, er, h3, ?_⟩
    rcases h4 with ⟨h5, h6, h7, rfl, rfl, rfl, rfl⟩ | ⟨h5, h6⟩
    · exact Or.inl ⟨h5, h7, h6, h2, Or.inr ⟨rfl, rfl, rfl, rfl⟩⟩
    · exact Or.inr ⟨h5, fun h => h6 ⟨h.2, h.1⟩⟩
  · rename_i h
    have h2 : ordF a b c d ≤ 0 := by omega
    obtain ⟨p0, p1, p2, p3, er, h3, h4⟩ := key a b c d h2
    refine ⟨p0, p1, p2, p3, er, h3, ?_⟩
    rcases h4 with ⟨h5, h6, h7, rfl, rfl, rfl, rfl⟩ | ⟨h5, h6⟩
    · exact Or.inl ⟨h5, h6, h7, h2, Or.inl ⟨rfl, rfl, rfl, rfl⟩⟩
    · exact Or.inr ⟨h5, h6⟩
end Go.Proofs.YtgjibnfdaigpkaaDoor
