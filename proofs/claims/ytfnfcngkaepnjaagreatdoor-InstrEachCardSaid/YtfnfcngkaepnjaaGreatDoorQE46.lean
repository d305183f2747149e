/- Joined texts: Rows of things of whatever kind that a call owns; append of one. -/
import Derived.Test.YtfnfcngkaepnjaaGreatDoorQE12
import Derived.Test.YtfnfcngkaepnjaaGreatDoorQE45
/- Rows of things of whatever kind that a call owns; append of one. -/
namespace Go.Proofs.YtfnfcngkaepnjaaGreatDoor
set_option linter.unusedVariables false
open Go Go.Proofs Go.RowKit

/-- A kind of rows: the slice's type, the element's, how many cells and bytes one has, its zero; its cells. -/
structure RowTy {α : Type} (t e : TypeId) (size bytes : Nat) (zero : Value) (enc : α → List Value) : Prop where
  ht : Tryz.prog.underlying t = some (.slice e)
  hi : (Tryz.prog.info? e).map (fun i => (i.zero, i.size, i.bytes)) = some (some zero, size, bytes)
  hzs : zero.cells.size = size
  hsz : 0 < size
  hby : bytes ≤ 100000
  len : ∀ x, (enc x).length = size
  one : ∀ x, ∀ u ∈ enc x, u.oneCell' = true

/-- A slice that the call owns, from block base on. -/
def OwnW {α : Type} (e : TypeId) (size : Nat) (enc : α → List Value) (base : Nat) (v : Value) (L : List α) (w : World) : Prop := w.ownsRowF base e size v L.length (L.flatMap enc)

section
variable {α : Type} {t e : TypeId} {size bytes : Nat} {zero : Value} {enc : α → List Value} {base : Nat} {v : Value} {L : List α} {w w' : World}

theorem OwnW.bel (h : OwnW e size enc base v L w) (hb : Below w.heap.size w w') : OwnW e size enc base v L w' := own_below h hb
theorem OwnW.base_le {base' : Nat} (h : OwnW e size enc base v L w) (hb : base' ≤ base) : OwnW e size enc base' v L w := own_base h hb
theorem OwnW.nil : OwnW e size enc base (.slice none 0 0) [] w := World.ownsRowF_nil _ _ _ _
theorem OwnW.slice (h : OwnW e size enc base v L w) (hn : 0 < L.length) : ∃ g cap, v = .slice (some ⟨g, 0, none⟩) L.length cap ∧ base ≤ g ∧ L.length ≤ cap ∧ cap ≤ maxLen ∧ g < w.heap.size := own_slice h hn
theorem OwnW.form (h : OwnW e size enc base v L w) : ∃ a c, v = .slice a L.length c := by
  rcases h.2 with ⟨rfl, hn⟩ | ⟨g, cap, cur, fz, rfl, _⟩
  · exact ⟨none, 0, by rw [hn]⟩
  · exact ⟨_, _, rfl⟩
theorem OwnW.lt (h : OwnW e size enc base v L w) (k : Nat) (hk : v.ownBlock = some k) : base ≤ k ∧ k < w.heap.size := by
  have := World.ownsRowF.lt h k hk
  exact this

theorem flatMap_at (hl : ∀ x, (enc x).length = size) : ∀ (L : List α) (k j : Nat) (x : α), L[k]? = some x → j < size → (L.flatMap enc)[k * size + j]? = (enc x)[j]?
  | [], k, j, x, h, _ => by simp at h
  | y :: L, 0, j, x, h, hj => by
    simp at h
    subst h
    rw [List.flatMap_cons, List.getElem?_append_left (by rw [hl]; omega)]
    simp
  | y :: L, k + 1, j, x, h, hj => by
    have h1 := flatMap_at hl L k j x (by simpa using h) hj
    rw [List.flatMap_cons, List.getElem?_append_right (by rw [hl, Nat.succ_mul]; omega), hl, show (k + 1) * size + j - size = k * size + j by rw [Nat.succ_mul]; omega]
    exact h1
theorem OwnW.cell {g cap n : Nat} (hl : ∀ x, (enc x).length = size) (h : OwnW e size enc base (.slice (some ⟨g, 0, none⟩) n cap) L w) (k j : Nat) (x : α) (u : Value) (hk : L[k]? = some x) (hj : (enc x)[j]? = some u) : w.cell? ⟨g, k * size + j, none⟩ = some u := by
  have hjs : j < size := by
    have := (List.getElem?_eq_some_iff.1 hj).1
    rwa [hl] at this
  have := h.cells (g := g) rfl (k * size + j) u (by rw [flatMap_at hl L k j x hk hjs]; exact hj)
  rwa [WideShapes.add_plain, Nat.zero_add] at this

theorem append_W_run (R : RowTy t e size bytes zero enc) (ty : TypeId) (h : OwnW e size enc base v L w) (g c : Nat) (x : α) (hx : ∀ j u, (enc x)[j]? = some u → w.cell? ⟨g, j, none⟩ = some u) (hn : L.length ≤ 1000000) (hbase : base ≤ w.heap.size) :
    ∃ v' w', (Builtin.append_ #[t, t] ty #[v, .slice (some ⟨g, 0, none⟩) 1 c]).run Tryz.prog w = .ok v' w' ∧ OwnW e size enc base v' (L ++ [x]) w' ∧ w.grownBy w' v.ownBlock := by
  obtain ⟨i0, hi0, hz0, hz1, hz2⟩ := info_of R.hi
  obtain ⟨v', w', r1, r2, r3, _⟩ := run_append_ownF (P := Tryz.prog) w base t ty e i0 zero size bytes R.ht hi0 hz0 hz1 hz2 R.hzs R.hsz v L.length (L.flatMap enc) h ⟨g, 0, none⟩ 1 c (enc x) (by rw [R.len, Nat.one_mul]) (by
    intro j u hj
    rw [WideShapes.add_plain, Nat.zero_add]
    exact hx j u hj) (R.one x) (by unfold maxLen; omega) (by have := R.hby; have h1 : (L.length + 1) * bytes ≤ 1000001 * 100000 := Nat.mul_le_mul (by omega) this; omega) hbase
  refine ⟨v', w', r1, ?_, r3⟩
  unfold OwnW
  rw [List.length_append, List.flatMap_append]
  simpa using r2

/-- Append of one, at a step of a region that draws its order. -/
theorem step_append_W (R : RowTy t e size bytes zero enc) {ops : Array Oper} {o : Oper} {a : Act} {K : Act → World → Prop} {Q : Exit → Act → World → Prop} {E : Prop} (hgd : o.guard = none) (s x : Operand)
    (ho : o.op = .call { callee := .builtin .append, args := #[s, x], argTypes := #[t, t] })
    (hs : a.eval s = v) (hown : OwnW e size enc base v L w) (g c : Nat) (y : α) (hx : a.eval x = .slice (some ⟨g, 0, none⟩) 1 c) (hy : ∀ j u, (enc y)[j]? = some u → w.cell? ⟨g, j, none⟩ = some u)
    (hn : L.length ≤ 1000000) (hbase : base ≤ w.heap.size)
    (h : ∀ v' w', OwnW e size enc base v' (L ++ [y]) w' → w.grownBy w' v.ownBlock → Below base w w' → K (a.put o.dst v') w') : if Region.wanted o (yielded ops a.tmps) = true then Oper.wp Tryz.prog o a w K Q else E := by
  have hw : Region.wanted o (yielded ops a.tmps) = true := by simp [Region.wanted, hgd]
  rw [if_pos hw]
  obtain ⟨v', w', r1, r2, r3⟩ := append_W_run R o.type hown g c y hy hn hbase
  unfold Oper.wp
  simp [execOp, ho, resolve, invoke, builtin, hs, hx, r1, Result.andThen]
  exact h v' w' r2 r3 ((Below.refl base w).grown r3 hbase (fun k hk => (hown.lt k hk).1))
theorem append_W (R : RowTy t e size bytes zero enc) {ops : Array Oper} {rest : List Oper} {o : Oper} {a : Act} {Q : Exit → Act → World → Prop} (hgd : o.guard = none) (s x : Operand)
    (ho : o.op = .call { callee := .builtin .append, args := #[s, x], argTypes := #[t, t] })
    (hs : a.eval s = v) (hown : OwnW e size enc base v L w) (g c : Nat) (y : α) (hx : a.eval x = .slice (some ⟨g, 0, none⟩) 1 c) (hy : ∀ j u, (enc y)[j]? = some u → w.cell? ⟨g, j, none⟩ = some u)
    (hn : L.length ≤ 1000000) (hbase : base ≤ w.heap.size)
    (h : ∀ v' w', OwnW e size enc base v' (L ++ [y]) w' → w.grownBy w' v.ownBlock → Below base w w' → wpList Tryz.prog ops Q rest (a.put o.dst v') w') : wpList Tryz.prog ops Q (o :: rest) a w := by
  refine wpList_plain hgd fun K hK => ?_
  obtain ⟨v', w', r1, r2, r3⟩ := append_W_run R o.type hown g c y hy hn hbase
  unfold Oper.wp
  simp [execOp, ho, resolve, invoke, builtin, hs, hx, r1, Result.andThen]
  exact hK _ _ (h v' w' r2 r3 ((Below.refl base w).grown r3 hbase (fun k hk => (hown.lt k hk).1)))

theorem OwnW.touch {T : Nat → Prop} (h : OwnW e size enc base v L w) (ht : Touch T w w') (hn : ∀ g, v.ownBlock = some g → ¬ T g) : OwnW e size enc base v L w' := by
  refine ⟨h.1, ?_⟩
  rcases h.2 with h0 | ⟨g, cap, cur, fz, rfl, hbg, hg, rest⟩
  · exact .inl h0
  · refine .inr ⟨g, cap, cur, fz, rfl, hbg, ?_, rest⟩
    rw [ht.same g (Array.getElem?_eq_some_iff.1 hg).1 (hn g rfl)]
    exact hg
/-- Rows of things of two kinds share no block. -/
theorem OwnW.apart {β : Type} {e2 : TypeId} {size2 base2 : Nat} {enc2 : β → List Value} {v2 : Value} {L2 : List β} (h : OwnW e size enc base v L w) (h2 : OwnW e2 size2 enc2 base2 v2 L2 w) (hne : e ≠ e2) : ∀ g, v.ownBlock = some g → ¬ v2.ownBlock = some g := by
  intro g hg hg2
  rcases h.2 with ⟨rfl, _⟩ | ⟨g1, cap, cur, fz, rfl, _, hh, _⟩
  · cases hg
  · rcases h2.2 with ⟨rfl, _⟩ | ⟨g2, cap2, cur2, fz2, rfl, _, hh2, _⟩
    · cases hg2
    · simp only [Value.ownBlock, Option.some.injEq] at hg hg2
      subst hg
      subst hg2
      rw [hh] at hh2
      simp only [Option.some.injEq, Obj.cells.injEq] at hh2
      exact hne hh2.2.1
end
end Go.Proofs.YtfnfcngkaepnjaaGreatDoor
