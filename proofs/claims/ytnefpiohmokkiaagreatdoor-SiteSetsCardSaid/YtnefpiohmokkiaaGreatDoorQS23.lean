/- Joined texts: A set's pairs in order, plain: put in one by one they are what the sort gives. -/
import Derived.Test.YtnefpiohmokkiaaGreatDoorQS22
/- A set's pairs in order, plain: put in one by one they are what the sort gives. -/
namespace Go.Proofs.YtnefpiohmokkiaaGreatDoor
set_option linter.unusedVariables false
set_option linter.unusedSimpArgs false
open Go Go.Proofs Go.RowKit Go.Sort

theorem ltP_cmp (x y : PaM) : ltP x y = ltOf cmpP x y := by
  rw [lt_cmp]
  obtain ⟨a, b, c, d⟩ := x
  obtain ⟨a', b', c', d'⟩ := y
  unfold ltP ordF orF cmpF
  dsimp only
  by_cases h1 : a < a'
  · simp [h1]
  by_cases h2 : a' < a
  · have h9 : ¬ a = a' := by omega
    simp [h1, h2, h9]
  obtain rfl : a = a' := by omega
  by_cases h3 : b < b'
  · simp [h3]
  by_cases h4 : b' < b
  · have h9 : ¬ b = b' := by omega
    simp [h3, h4, h9]
  obtain rfl : b = b' := by omega
  by_cases h5 : c < c'
  · simp [h5]
  by_cases h6 : c' < c
  · have h9 : ¬ c = c' := by omega
    simp [h5, h6, h9]
  obtain rfl : c = c' := by omega
  by_cases h7 : d < d'
  · simp [h7]
  by_cases h8 : d' < d
  · simp [h7, h8]
  · simp [h7, h8]
theorem ltP_irrefl (x : PaM) : ltP x x = false := by rw [ltP_cmp]; exact swo_cmp.irrefl x
theorem ltP_trans {x y z : PaM} (h1 : ltP x y = true) (h2 : ltP y z = true) : ltP x z = true := by rw [ltP_cmp] at *; exact swo_cmp.trans x y z h1 h2
theorem ltP_tot {x y : PaM} (h1 : ltP x y = false) (h2 : x ≠ y) : ltP y x = true := by
  cases h : ltP y x with
  | true => rfl
  | false => rw [ltP_cmp] at *; exact absurd (tot_cmp x y h1 h) h2
/-- Pairs, each less than those behind. -/
def Rise (K : List PaM) : Prop := K.Pairwise fun x y => ltP x y = true
theorem Rise.nodup {K : List PaM} (h : Rise K) : K.Nodup := h.imp fun {x y} hl e => by
  subst e
  rw [ltP_irrefl] at hl
  cases hl
theorem rise_cut (p : PaM) : ∀ {K : List PaM}, Rise K → p ∉ K → ∃ A B, K = A ++ B ∧ atP K p = A.length ∧ (∀ q ∈ A, ltP q p = true) ∧ ∀ q ∈ B, ltP p q = true
  | [], _, _ => ⟨[], [], rfl, rfl, by simp, by simp⟩
  | q :: K, h, hp => by
    obtain ⟨h1, h2⟩ := List.pairwise_cons.1 h
    simp only [List.mem_cons, not_or] at hp
    cases hl : ltP q p with
    | true =>
      obtain ⟨A, B, rfl, h3, h4, h5⟩ := rise_cut p h2 hp.2
      refine ⟨q :: A, B, rfl, ?_, ?_, h5⟩
      · unfold atP at h3 ⊢
        rw [List.takeWhile_cons_of_pos (p := fun q => ltP q p) hl, List.length_cons, List.length_cons, h3]
      · intro r hr
        rcases List.mem_cons.1 hr with rfl | hr
        · exact hl
        · exact h4 r hr
    | false =>
      have h3 := ltP_tot hl (Ne.symm hp.1)
      refine ⟨[], q :: K, rfl, ?_, by simp, ?_⟩
      · unfold atP
        rw [List.takeWhile_cons_of_neg (p := fun q => ltP q p) (by rw [hl]; decide)]
      · intro r hr
        rcases List.mem_cons.1 hr with rfl | hr
        · exact h3
        · exact ltP_trans h3 (h1 r hr)
theorem insP_cut {K : List PaM} {p : PaM} (h : Rise K) (hp : p ∉ K) : ∃ A B, K = A ++ B ∧ insP K p = A ++ [p] ++ B ∧ (∀ q ∈ A, ltP q p = true) ∧ ∀ q ∈ B, ltP p q = true := by
  obtain ⟨A, B, rfl, h1, h2, h3⟩ := rise_cut p h hp
  refine ⟨A, B, rfl, ?_, h2, h3⟩
  unfold insP
  rw [if_neg hp, h1]
  simp
theorem insP_rise {K : List PaM} {p : PaM} (h : Rise K) : Rise (insP K p) := by
  by_cases hp : p ∈ K
  · unfold insP
    rw [if_pos hp]
    exact h
  · obtain ⟨A, B, rfl, h1, h2, h3⟩ := insP_cut h hp
    rw [h1]
    unfold Rise at h ⊢
    rw [List.pairwise_append] at h
    rw [List.append_assoc, List.pairwise_append]
    refine ⟨h.1, ?_, fun a ha b hb => ?_⟩
    · rw [List.singleton_append, List.pairwise_cons]
      exact ⟨h3, h.2.1⟩
    · rw [List.singleton_append, List.mem_cons] at hb
      rcases hb with rfl | hb
      · exact h2 a ha
      · exact h.2.2 a ha b hb
theorem insP_mem {K : List PaM} {p q : PaM} (h : Rise K) : q ∈ insP K p ↔ q ∈ K ∨ q = p := by
  by_cases hp : p ∈ K
  · unfold insP
    rw [if_pos hp]
    exact ⟨Or.inl, fun h => h.elim id (fun e => e ▸ hp)⟩
  · obtain ⟨A, B, rfl, h1, h2, h3⟩ := insP_cut h hp
    rw [h1]
    simp only [List.mem_append, List.mem_singleton]
    constructor
    · rintro ((h | h) | h)
      · exact Or.inl (Or.inl h)
      · exact Or.inr h
      · exact Or.inl (Or.inr h)
    · rintro ((h | h) | h)
      · exact Or.inl (Or.inl h)
      · exact Or.inr h
      · exact Or.inl (Or.inr h)
theorem insP_length {K : List PaM} {p : PaM} : (insP K p).length ≤ K.length + 1 := by
  unfold insP
  split
  · omega
  · simp only [List.length_append, List.length_take, List.length_drop, List.length_singleton]
    omega
theorem addK_mem {K : List PaM} {p q : PaM} : q ∈ addK K p ↔ q ∈ K ∨ q = p := by
  unfold addK
  split
  · rename_i hp
    exact ⟨Or.inl, fun h => h.elim id (fun e => e ▸ hp)⟩
  · simp
/-- What the sort gives is what was put in one by one. -/
theorem rise_eq {K keys xs : List PaM} (hK : Rise K) (hn : keys.Nodup) (hm : ∀ q, q ∈ K ↔ q ∈ keys) (hx : xs.Perm keys) : riseP xs = K := by
  have hp : K.Perm xs := ((List.perm_ext_iff_of_nodup hK.nodup hn).2 hm).trans hx.symm
  have h1 : (riseP xs).Pairwise fun x y => (!(ltOf cmpP) y x) = true := List.pairwise_mergeSort (fun a b c h1 h2 => by
    rw [Bool.not_eq_true'] at *
    exact swo_cmp.ntrans _ _ _ h2 h1) (fun a b => by
    cases h1 : ltOf cmpP b a with
    | false => rfl
    | true =>
      cases h2 : ltOf cmpP a b with
      | false => rfl
      | true =>
        have := swo_cmp.trans _ _ _ h1 h2
        rw [swo_cmp.irrefl] at this
        cases this) xs
  have h2 : K.Pairwise fun x y => (!(ltOf cmpP) y x) = true := hK.imp fun {x y} hl => by
    rw [Bool.not_eq_true', ← ltP_cmp]
    cases h : ltP y x with
    | false => rfl
    | true =>
      have := ltP_trans hl h
      rw [ltP_irrefl] at this
      cases this
  refine List.Perm.eq_of_pairwise (fun a b _ _ ha hb => ?_) h1 h2 ((List.mergeSort_perm _ _).trans hp.symm)
  rw [Bool.not_eq_true'] at ha hb
  exact tot_cmp a b hb ha
end Go.Proofs.YtnefpiohmokkiaaGreatDoor
