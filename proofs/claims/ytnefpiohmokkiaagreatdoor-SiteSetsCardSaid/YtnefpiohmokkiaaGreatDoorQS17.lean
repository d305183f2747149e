/- Joined texts: Rows of things: what came in, or lies anywhere, is appended.; Rows of pairs: cut, put together; pairs in order, plain. -/
import Derived.Test.YtnefpiohmokkiaaGreatDoorQS16
/- Rows of things: what came in, or lies anywhere, is appended. -/
namespace Go.Proofs.YtnefpiohmokkiaaGreatDoor
set_option linter.unusedVariables false
set_option linter.unusedSimpArgs false
open Go Go.Proofs Go.RowKit

section
variable {α : Type} {t e : TypeId} {size bytes : Nat} {zero : Value} {enc : α → List Value} {base : Nat} {v : Value} {L : List α} {w w' : World}
theorem append_S_run (R : RowTy t e size bytes zero enc) (ty : TypeId) (h : OwnW e size enc base v L w) (ad : Addr) (c : Nat) (M : List α) (hx : ∀ j u, (M.flatMap enc)[j]? = some u → w.cell? (ad.add j) = some u) (hn : L.length + M.length ≤ 1000000) (hbase : base ≤ w.heap.size) :
    ∃ v' w', (Builtin.append_ #[t, t] ty #[v, .slice (some ad) M.length c]).run Tryz.prog w = .ok v' w' ∧ OwnW e size enc base v' (L ++ M) w' ∧ w.grownBy w' v.ownBlock ∧ Below base w w' := by
  obtain ⟨i0, hi0, hz0, hz1, hz2⟩ := info_of R.hi
  obtain ⟨v', w', r1, r2, r3, _⟩ := run_append_ownF (P := Tryz.prog) w base t ty e i0 zero size bytes R.ht hi0 hz0 hz1 hz2 R.hzs R.hsz v L.length (L.flatMap enc) h ad M.length c (M.flatMap enc) (flatMap_len R.len M) hx (by
    intro u hu
    obtain ⟨x, _, hx⟩ := List.mem_flatMap.1 hu
    exact R.one x u hx) (by unfold maxLen; omega) (by have := R.hby; have h1 : (L.length + M.length) * bytes ≤ 1000001 * 100000 := Nat.mul_le_mul (by omega) this; omega) hbase
  refine ⟨v', w', r1, ?_, r3, (Below.refl base w).grown r3 hbase (fun k hk => (h.lt k hk).1)⟩
  unfold OwnW
  rw [List.length_append, List.flatMap_append]
  exact r2
theorem append_nil_run (R : RowTy t e size bytes zero enc) (ty : TypeId) (hs : ∀ a, Tryz.prog.underlying t ≠ some (.int a)) (h : OwnW e size enc base v L w) : (Builtin.append_ #[t, t] ty #[v, .slice none 0 0]).run Tryz.prog w = .ok v w := by
  obtain ⟨i0, hi0, hz0, hz1, hz2⟩ := info_of R.hi
  rcases h.2 with ⟨rfl, h0⟩ | ⟨g, cap, cur, fz, rfl, hb, hg, _, hc, hm, _⟩
  · simp [Builtin.append_, run_underlying R.ht, sizeOf, typeInfo, hi0, Builtin.lenOf, Builtin.firstCells, Result.andThen]
  · simp [Builtin.append_, run_underlying R.ht, sizeOf, typeInfo, hi0, Builtin.lenOf, Builtin.firstCells, Result.andThen, hc, storeCells]
end
end Go.Proofs.YtnefpiohmokkiaaGreatDoor

/- Rows of pairs: cut, put together; pairs in order, plain. -/
namespace Go.Proofs.YtnefpiohmokkiaaGreatDoor
set_option linter.unusedVariables false
set_option linter.unusedSimpArgs false
open Go Go.Proofs Go.RowKit Go.Sort

theorem rowPa : RowTy 22 32 4 32 (.agg #[.int .i64 0, .int .i64 0, .int .i64 0, .int .i64 0]) encPa :=
  ⟨Tryz.underlying22, by kernel_rfl, rfl, by decide, by decide, fun _ => rfl, fun x u hu => by
    simp only [encPa, List.mem_cons, List.not_mem_nil, or_false] at hu
    rcases hu with rfl | rfl | rfl | rfl <;> rfl⟩
theorem pair_no_int : ∀ a, Tryz.prog.underlying 22 ≠ some (.int a) := fun a h => by rw [Tryz.underlying22] at h; cases h

/-- What came in, or was cut, is appended. -/
theorem append_pairs {base : Nat} {v x : Value} {L M : List PaM} {w : World} (ty : TypeId) (h : OwnW 32 4 encPa base v L w) (hx : ArgW 4 encPa w x M) (hn : L.length + M.length ≤ 1000000) (hbase : base ≤ w.heap.size) :
    ∃ v' w', (Builtin.append_ #[22, 22] ty #[v, x]).run Tryz.prog w = .ok v' w' ∧ OwnW 32 4 encPa base v' (L ++ M) w' ∧ Touch (fun b => some b = v.ownBlock) w w' ∧ Below base w w' := by
  rcases hx with ⟨rfl, rfl⟩ | ⟨ad, c, rfl, h1, h2, h3⟩
  · exact ⟨v, w, append_nil_run rowPa ty pair_no_int h, by rw [List.append_nil]; exact h, Touch.refl _ _, Below.refl _ _⟩
  · obtain ⟨v', w', r1, r2, r3, r4⟩ := append_S_run rowPa ty h ad c M (fun j u hj => by
      by_cases hM : M = []
      · subst hM; simp at hj
      · obtain ⟨b, o, rfl, hH⟩ := h3 hM
        have hlt := (List.getElem?_eq_some_iff.1 hj).1
        rw [flatMap_len rowPa.len] at hlt
        obtain ⟨m, r, hjr, hr⟩ : ∃ m r, j = m * 4 + r ∧ r < 4 := ⟨j / 4, j % 4, by omega, Nat.mod_lt _ (by omega)⟩
        subst hjr
        have hm : m < M.length := by omega
        have hk : M[m]? = some M[m] := List.getElem?_eq_getElem hm
        rw [flatMap_at rowPa.len M m r M[m] hk hr] at hj
        have := hH m r M[m] u hk hj
        rw [WideShapes.add_plain]
        rw [← Nat.add_assoc]
        exact this) hn hbase
    exact ⟨v', w', r1, r2, ⟨r3.size, fun k hk hne => r3.block k hk hne⟩, r4⟩
theorem pairs_upto {w : World} {v : Value} {K : List PaM} (h : ArgW 4 encPa w v K) (k : Nat) (hk : k ≤ K.length) : ∃ v', (∀ W, (Instr.slice 22 v none (some (.int .i64 k)) none).run Tryz.prog W = .ok v' W) ∧ ArgW 4 encPa w v' (K.take k) := by
  obtain ⟨i0, hi0, hz0, hz1, hz2⟩ := info_of rowPa.hi
  rcases h with ⟨rfl, rfl⟩ | ⟨ad, c, rfl, h1, h2, h3⟩
  · have : k = 0 := by simpa using hk
    subst this
    exact ⟨.slice none 0 0, fun W => by kernel_rfl, Or.inl ⟨rfl, rfl⟩⟩
  · refine ⟨.slice (some ad) (K.take k).length c, fun W => ?_, Or.inr ⟨ad, c, rfl, by rw [List.length_take]; omega, h2, fun hne => ?_⟩⟩
    · have hl : (K.take k).length = k := by rw [List.length_take]; omega
      have h5 : k ≤ c := by omega
      rw [hl]
      simp [Instr.slice, run_underlying Tryz.underlying22, Instr.sliceBounds, Instr.sliceBound, asIntOf, sizeOf, typeInfo, hi0, h5, Addr.add]
    · have hK : K ≠ [] := fun e => hne (by rw [e]; simp)
      obtain ⟨b, o, rfl, hH⟩ := h3 hK
      refine ⟨b, o, rfl, fun i j x u hi hj => hH i j x u ?_ hj⟩
      rw [List.getElem?_take] at hi
      split at hi
      · exact hi
      · cases hi
theorem pairs_from {w : World} {v : Value} {K : List PaM} (h : ArgW 4 encPa w v K) (k : Nat) (hk : k ≤ K.length) : ∃ v', (∀ W, (Instr.slice 22 v (some (.int .i64 k)) none none).run Tryz.prog W = .ok v' W) ∧ ArgW 4 encPa w v' (K.drop k) := by
  obtain ⟨i0, hi0, hz0, hz1, hz2⟩ := info_of rowPa.hi
  rcases h with ⟨rfl, rfl⟩ | ⟨ad, c, rfl, h1, h2, h3⟩
  · have : k = 0 := by simpa using hk
    subst this
    exact ⟨.slice none 0 0, fun W => by kernel_rfl, Or.inl ⟨rfl, rfl⟩⟩
  · have hl : (K.drop k).length = K.length - k := List.length_drop
    by_cases hc : k < c
    · refine ⟨.slice (some (ad.add (k * 4))) (K.drop k).length (c - k), fun W => ?_, Or.inr ⟨_, c - k, rfl, by omega, by omega, fun hne => ?_⟩⟩
      · have h4 : ¬ c = k := by omega
        have h5 : (k : Int) ≤ (K.length : Int) := by omega
        rw [hl]
        simp [Instr.slice, run_underlying Tryz.underlying22, Instr.sliceBounds, Instr.sliceBound, asIntOf, sizeOf, typeInfo, hi0, hz1, h4, hk, Addr.add]
      · have hK : K ≠ [] := fun e => hne (by rw [e]; simp)
        obtain ⟨b, o, rfl, hH⟩ := h3 hK
        refine ⟨b, o + k * 4, by simp [Addr.add], fun i j x u hi hj => ?_⟩
        rw [List.getElem?_drop] at hi
        have := hH (k + i) j x u hi hj
        rw [Nat.add_mul, ← Nat.add_assoc] at this
        exact this
    · have hck : c = k := by omega
      have hKk : K.length = k := by omega
      refine ⟨.slice (some ad) 0 0, fun W => ?_, Or.inr ⟨ad, 0, by rw [hl, hKk, Nat.sub_self], by omega, by omega, fun hne => absurd (List.drop_eq_nil_of_le (by omega)) hne⟩⟩
      subst hck
      simp [Instr.slice, run_underlying Tryz.underlying22, Instr.sliceBounds, Instr.sliceBound, asIntOf, sizeOf, typeInfo, hi0, hz1, hKk, Addr.add]

/-- Which of two pairs is first. -/
def ltP (q p : PaM) : Bool := decide (ordF q.a q.b p.a p.b < 0) || ((decide (q.a = p.a) && decide (q.b = p.b)) && decide (ordF q.c q.d p.c p.d < 0))
/-- Where a pair comes in. -/
def atP (K : List PaM) (p : PaM) : Nat := (K.takeWhile fun q => ltP q p).length
/-- Pairs, rising, with one more. -/
def insP (K : List PaM) (p : PaM) : List PaM := if p ∈ K then K else K.take (atP K p) ++ [p] ++ K.drop (atP K p)
end Go.Proofs.YtnefpiohmokkiaaGreatDoor
