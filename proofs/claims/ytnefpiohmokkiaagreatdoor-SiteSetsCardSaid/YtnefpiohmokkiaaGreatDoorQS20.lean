/- Joined texts: Rows that a call owns and may store into: append tells the block; a cell is stored. -/
import Derived.Test.YtnefpiohmokkiaaGreatDoorQS16
/- Rows that a call owns and may store into: append tells the block; a cell is stored. -/
namespace Go.Proofs.YtnefpiohmokkiaaGreatDoor
set_option linter.unusedVariables false
set_option linter.unusedSimpArgs false
open Go Go.Proofs Go.RowKit

def OwnU {α : Type} (e : TypeId) (size : Nat) (enc : α → List Value) (base : Nat) (v : Value) (L : List α) (w : World) : Prop := w.ownsRow base e size v L.length (L.flatMap enc)

section
variable {α : Type} {t e : TypeId} {size bytes : Nat} {zero : Value} {enc : α → List Value} {base : Nat} {v : Value} {L : List α} {w w' : World}
theorem OwnU.own (h : OwnU e size enc base v L w) : OwnW e size enc base v L w := World.ownsRowF_of h
theorem OwnU.nil : OwnU e size enc base (.slice none 0 0) [] w := World.ownsRow_nil _ _ _ _
theorem OwnU.touch {T : Nat → Prop} (h : OwnU e size enc base v L w) (ht : Touch T w w') (hn : ∀ g, v.ownBlock = some g → ¬ T g) : OwnU e size enc base v L w' := by
  refine ⟨h.1, ?_⟩
  rcases h.2 with h0 | ⟨g, cap, cur, rfl, hbg, hg, rest⟩
  · exact .inl h0
  · refine .inr ⟨g, cap, cur, rfl, hbg, ?_, rest⟩
    rw [ht.same g (Array.getElem?_eq_some_iff.1 hg).1 (hn g rfl)]
    exact hg
theorem OwnU.bel (h : OwnU e size enc base v L w) (hb : Below w.heap.size w w') : OwnU e size enc base v L w' := by
  refine ⟨h.1, ?_⟩
  rcases h.2 with h0 | ⟨g, cap, cur, rfl, hbg, hg, rest⟩
  · exact .inl h0
  · refine .inr ⟨g, cap, cur, rfl, hbg, ?_, rest⟩
    rw [hb.block g (Array.getElem?_eq_some_iff.1 hg).1]
    exact hg
theorem OwnU.froz {g cap n : Nat} (h : OwnU e size enc base (.slice (some ⟨g, 0, none⟩) n cap) L w) (j : Nat) : w.frozen? ⟨g, j, none⟩ = false := by
  rcases h.2 with ⟨h0, _⟩ | ⟨g', cap', cur, h0, _, hg, _⟩
  · cases h0
  · simp only [Value.slice.injEq, Option.some.injEq, Addr.mk.injEq] at h0
    obtain ⟨⟨rfl, _⟩, _⟩ := h0
    exact Lib.frozen_of_heap hg j
/-- One is appended: where its block lies. -/
theorem append_U_run (R : RowTy t e size bytes zero enc) (ty : TypeId) (h : OwnU e size enc base v L w) (g c : Nat) (x : α) (hx : ∀ j u, (enc x)[j]? = some u → w.cell? ⟨g, j, none⟩ = some u) (hn : L.length ≤ 1000000) (hbase : base ≤ w.heap.size) :
    ∃ v' w', (Builtin.append_ #[t, t] ty #[v, .slice (some ⟨g, 0, none⟩) 1 c]).run Tryz.prog w = .ok v' w' ∧ OwnU e size enc base v' (L ++ [x]) w' ∧ w.grownBy w' v.ownBlock ∧ (v'.ownBlock = v.ownBlock ∨ v'.ownBlock = some w.heap.size) := by
  obtain ⟨i0, hi0, hz0, hz1, hz2⟩ := info_of R.hi
  have hnews : ∀ j u, (enc x)[j]? = some u → w.cell? ((⟨g, 0, none⟩ : Addr).add j) = some u := by
    intro j u hj
    rw [WideShapes.add_plain, Nat.zero_add]
    exact hx j u hj
  have hl : (enc x).length = 1 * size := by rw [R.len, Nat.one_mul]
  have hby : (L.length + 1) * bytes ≤ 140737488355328 := by have := R.hby; have h1 : (L.length + 1) * bytes ≤ 1000001 * 100000 := Nat.mul_le_mul (by omega) this; omega
  obtain ⟨v', w', r1, r2, r3, _⟩ := run_append_own (P := Tryz.prog) w base t ty e i0 zero size bytes R.ht hi0 hz0 hz1 hz2 R.hzs R.hsz v L.length (L.flatMap enc) h ⟨g, 0, none⟩ 1 c (enc x) hl hnews (R.one x) (by unfold maxLen; omega) hby hbase
  refine ⟨v', w', r1, ?_, r3, ?_⟩
  · unfold OwnU
    rw [List.length_append, List.flatMap_append]
    simpa using r2
  · rcases h.2 with ⟨rfl, h0⟩ | ⟨g1, cap, cur, rfl, hbg, hg, hnc, hcm, hcs, htake⟩
    · have hr := run_append_nil (P := Tryz.prog) w t ty e i0 zero R.ht hi0 hz0 ⟨g, 0, none⟩ 1 c (enc x) (by rw [hl, hz1]) hnews (by omega) (by omega) (by rw [hz2]; have := R.hby; omega)
      rw [hr] at r1
      injection r1 with r1 _
      subst r1
      exact Or.inr rfl
    · by_cases hroom : L.length + 1 ≤ cap
      · have hfit : L.length * i0.size + (enc x).length ≤ cur.size := by rw [hl, hcs, hz1, ← Nat.add_mul]; exact Nat.mul_le_mul_right _ hroom
        have hr := run_append_room (P := Tryz.prog) w t ty e i0 R.ht hi0 g1 L.length cap cur hg ⟨g, 0, none⟩ 1 c (enc x) (by rw [hl, hz1]) hnews (R.one x) hroom hfit
        rw [hr] at r1
        injection r1 with r1 _
        subst r1
        exact Or.inl rfl
      · have holds : ∀ j u, (L.flatMap enc)[j]? = some u → w.cell? ((⟨g1, 0, none⟩ : Addr).add j) = some u := World.ownsRow.cells (g := g1) h rfl
        have hr := run_append_grow (P := Tryz.prog) w t ty e i0 zero R.ht hi0 hz0 ⟨g1, 0, none⟩ L.length cap (L.flatMap enc) (by rw [h.1, hz1]) holds ⟨g, 0, none⟩ 1 c (enc x) (by rw [hl, hz1]) hnews (by omega) (by omega) (growslice_fits (by omega) (by rw [hz2]; exact hby))
        rw [hr] at r1
        injection r1 with r1 _
        subst r1
        exact Or.inr rfl

/-- A cell of one is stored into. -/
theorem OwnU.set {g cap n : Nat} (hl : ∀ x, (enc x).length = size) (h : OwnU e size enc base (.slice (some ⟨g, 0, none⟩) n cap) L w) (k j : Nat) (x x' : α) (u' : Value) (hk : L[k]? = some x) (hj : j < size) (hx : enc x' = (enc x).set j u') :
    OwnU e size enc base (.slice (some ⟨g, 0, none⟩) n cap) (L.set k x') (w.setCell ⟨g, k * size + j, none⟩ u') := by
  have hlen : (L.set k x').flatMap enc = (L.flatMap enc).set (k * size + j) u' := by
    clear h
    induction L generalizing k with
    | nil => simp at hk
    | cons y L ih =>
      cases k with
      | zero =>
        simp only [List.getElem?_cons_zero, Option.some.injEq] at hk
        subst hk
        rw [List.set_cons_zero, List.flatMap_cons, List.flatMap_cons, hx, Nat.zero_mul, Nat.zero_add, List.set_append_left _ _ (by rw [hl]; exact hj)]
      | succ k =>
        rw [List.set_cons_succ, List.flatMap_cons, List.flatMap_cons, ih k (by simpa using hk), List.set_append_right _ _ (by rw [hl, Nat.succ_mul]; omega), hl]
        congr 2
        rw [Nat.succ_mul]
        omega
  unfold OwnU at h ⊢
  refine ⟨by rw [hlen, List.length_set, List.length_set]; exact h.1, ?_⟩
  rw [hlen, List.length_set]
  rcases h.2 with ⟨h0, _⟩ | ⟨g', cap', cur, h0, hbg, hg, hnc, hcm, hcs, htake⟩
  · cases h0
  · have hv := h0
    simp only [Value.slice.injEq, Option.some.injEq, Addr.mk.injEq] at h0
    obtain ⟨⟨rfl, _⟩, _⟩ := h0
    refine .inr ⟨g, cap', cur.setIfInBounds (k * size + j) u', hv, hbg, heap_setCell_same w g _ cur e u' hg, hnc, hcm, by rw [Array.size_setIfInBounds]; exact hcs, ?_⟩
    rw [Array.toList_setIfInBounds, List.take_set, htake]
end
end Go.Proofs.YtnefpiohmokkiaaGreatDoor
