/- Joined texts: The reference of layer 11: Parse: what its walk needs. -/
import Derived.Test.YtfnfcngkaepnjaaGreatDoorQZ36
import Derived.Test.YtfnfcngkaepnjaaGreatDoorQZ38
import Derived.Test.YtfnfcngkaepnjaaGreatDoorQZ40
import Derived.Test.YtfnfcngkaepnjaaGreatDoorQZ42
/- The reference of layer 11: Parse: what its walk needs. -/
namespace Go.Proofs.YtfnfcngkaepnjaaGreatDoor
set_option linter.unusedVariables false
set_option linter.unusedSimpArgs false
open Go Go.Proofs Go.RowKit Go.Sort

theorem append_run {t : TypeId} {v u v' : Value} {w w' : World} {ops : Array Oper} {rest : List Oper} {o : Oper} {a : Act} {Q : Exit → Act → World → Prop} (hgd : o.guard = none) (s x : Operand)
    (ho : o.op = .call { callee := .builtin .append, args := #[s, x], argTypes := #[t, t] })
    (hs : a.eval s = v) (hx : a.eval x = u) (hr : (Builtin.append_ #[t, t] o.type #[v, u]).run Tryz.prog w = .ok v' w') (h : wpList Tryz.prog ops Q rest (a.put o.dst v') w') : wpList Tryz.prog ops Q (o :: rest) a w := by
  refine wpList_plain hgd fun K hK => ?_
  unfold Oper.wp
  simp [execOp, ho, resolve, invoke, builtin, hs, hx, hr, Result.andThen]
  exact hK _ _ h

/-- A program's block, whose cells may be stored into. -/
structure ZrB (D : Nat) (vf : Value) (mu rw gr : Int) (w : World) : Prop where
  c0 : w.cell? ⟨D, 0, none⟩ = some vf
  c1 : w.cell? ⟨D, 1, none⟩ = some (.int .i64 mu)
  c2 : w.cell? ⟨D, 2, none⟩ = some (.int .i64 rw)
  c3 : w.cell? ⟨D, 3, none⟩ = some (.int .i64 gr)
  f0 : w.frozen? ⟨D, 0, none⟩ = false
  f1 : w.frozen? ⟨D, 1, none⟩ = false
  f2 : w.frozen? ⟨D, 2, none⟩ = false
  f3 : w.frozen? ⟨D, 3, none⟩ = false
theorem ZrB.below {D B : Nat} {vf : Value} {mu rw gr : Int} {w w' : World} (h : ZrB D vf mu rw gr w) (hb : Below B w w') (hB : D < B) : ZrB D vf mu rw gr w' :=
  ⟨(cell_below hb hB).trans h.c0, (cell_below hb hB).trans h.c1, (cell_below hb hB).trans h.c2, (cell_below hb hB).trans h.c3, (froz_below hb hB).trans h.f0, (froz_below hb hB).trans h.f1, (froz_below hb hB).trans h.f2, (froz_below hb hB).trans h.f3⟩
theorem ZrB.bel {D : Nat} {vf : Value} {mu rw gr : Int} {w w' : World} (h : ZrB D vf mu rw gr w) (hb : Below w.heap.size w w') : ZrB D vf mu rw gr w' := h.below hb (lt_of_cell h.c0)
theorem ZrB.set {D : Nat} {vf : Value} {mu rw gr : Int} {w : World} (h : ZrB D vf mu rw gr w) (vf' : Value) (mu' rw' gr' : Int) : ZrB D vf' mu' rw' gr' (setP D vf' mu' rw' gr' w) := by
  obtain ⟨c0, c1, c2, c3, f0, f1, f2, f3⟩ := h
  have o : ∀ (v : World) (p q : Addr) (x : Value), p ≠ q → (v.setCell p x).cell? q = v.cell? q := fun v p q x h => World.cell?_setCell_other _ _ _ _ h
  refine ⟨?_, ?_, ?_, ?_, ?_, ?_, ?_, ?_⟩
  · rw [o _ _ _ _ (by simp), o _ _ _ _ (by simp), o _ _ _ _ (by simp)]
    exact World.cell?_setCell_same _ _ _ c0
  · rw [o _ _ _ _ (by simp), o _ _ _ _ (by simp)]
    exact World.cell?_setCell_same _ _ _ ((o _ _ _ _ (by simp)).trans c1)
  · rw [o _ _ _ _ (by simp)]
    exact World.cell?_setCell_same _ _ _ ((o _ _ _ _ (by simp)).trans ((o _ _ _ _ (by simp)).trans c2))
  · exact World.cell?_setCell_same _ _ _ ((o _ _ _ _ (by simp)).trans ((o _ _ _ _ (by simp)).trans ((o _ _ _ _ (by simp)).trans c3)))
  · simp only [World.frozen?_setCell]; exact f0
  · simp only [World.frozen?_setCell]; exact f1
  · simp only [World.frozen?_setCell]; exact f2
  · simp only [World.frozen?_setCell]; exact f3
theorem setP_bel {D B : Nat} {w w' : World} (h : Below B w w') (hD : B ≤ D) (vf : Value) (mu rw gr : Int) : Below B w (setP D vf mu rw gr w') :=
  (((h.setCell (p := ⟨D, 0, none⟩) hD _).setCell (p := ⟨D, 1, none⟩) hD _).setCell (p := ⟨D, 2, none⟩) hD _).setCell (p := ⟨D, 3, none⟩) hD _
theorem touch_setP (D : Nat) (vf : Value) (mu rw gr : Int) (w : World) {T : Nat → Prop} (h : T D) : Touch T w (setP D vf mu rw gr w) :=
  (((Touch.setCell _ _ _ h).trans (Touch.setCell _ _ _ h)).trans (Touch.setCell _ _ _ h)).trans (Touch.setCell _ _ _ h)
theorem ZrB.new (w : World) (t : TypeId) : ZrB w.heap.size (.slice none 0 0) 0 0 0 (w.alloc (.cells #[.slice none 0 0, .int .i64 0, .int .i64 0, .int .i64 0] t)) :=
  ⟨cell_new w _ t 0, cell_new w _ t 1, cell_new w _ t 2, cell_new w _ t 3, World.frozen?_alloc_new _ _ _ _, World.frozen?_alloc_new _ _ _ _, World.frozen?_alloc_new _ _ _ _, World.frozen?_alloc_new _ _ _ _⟩

theorem numO_bd {word s : ByteArray} {n : Int} (h : numO word s = some n) : 0 ≤ n ∧ n ≤ 999 := by
  unfold numO at h
  split at h
  · rename_i hex
    have h2 := hex.choose_spec
    rw [Option.some.inj h] at h2
    exact ⟨h2.1, h2.2.1⟩
  · cases h
theorem stepO_three (k : Nat) (hk : 3 ≤ k) (s : ByteArray) (P : ProgM) : stepO k s P = if isFn s then (numO wFn s).map fun n => { P with funcs := P.funcs ++ [⟨n, []⟩] } else if P.funcs.length = 0 then none else (insO s).map fun x => { P with funcs := pushF P.funcs x } := by
  match k, hk with
  | k + 3, _ => rfl
/-- What begins a function: of a line of more than 5 bytes; of one of no more. -/
theorem isFn_ext (s : ByteArray) (h5 : 5 < s.size) : ((s.extract 0 5).toList == [102, 117, 110, 99, 32]) = isFn s := by
  have h1 : (s.extract 0 5).data.toList = s.data.toList.take 5 := by rw [ext_list, List.drop_zero]
  rw [toList_data, h1]
  unfold isFn Lib.hasPrefix
  have h2 : 5 ≤ s.data.toList.length := by rw [← Lib.size_eq]; omega
  generalize s.data.toList = l at h2
  match l, h2 with
  | a :: b :: c :: d :: e :: l, _ =>
    simp only [wFn, List.take_succ_cons, List.take_zero, List.cons_append, List.nil_append, List.isPrefixOf_cons_cons, List.isPrefixOf_nil_left, Bool.and_true]
    rw [Bool.eq_iff_iff]
    simp
    constructor <;> (rintro ⟨rfl, rfl, rfl, rfl, rfl⟩; simp)
theorem isFn_short {s : ByteArray} (h : isFn s = true) (h5 : s.size ≤ 5) : numO wFn s = none ∧ insO s = none := by
  have hl : s.data.toList = [102, 117, 110, 99, 32] := by
    unfold isFn Lib.hasPrefix at h
    obtain ⟨t, ht⟩ := List.isPrefixOf_iff_prefix.1 h
    have h2 : s.data.toList.length ≤ 5 := by rw [← Lib.size_eq]; exact h5
    rw [← ht] at h2 ⊢
    simp [wFn] at h2 ⊢
    first | exact h2 | exact List.eq_nil_of_length_eq_zero (by omega)
  constructor
  · cases hn : numO wFn s with
    | none => rfl
    | some n =>
      exfalso
      have h1 := numO_text hn
      have h3 : (lineF wFn n).data.toList = [102, 117, 110, 99, 32] ++ Lib.itoa n := by
        unfold lineF
        simp [ByteArray.data_append, wFn]
      rw [← h1, hl] at h3
      have h4 : Lib.itoa n = [] := by simpa using h3.symm
      have h5 := numO_bd hn
      rw [itoa_nat h5.1] at h4
      exact dec_ne _ h4
  · cases hn : insO s with
    | none => rfl
    | some x =>
      exfalso
      have h1 := insO_text hn
      rw [h1, isFn_ins] at h
      cases h
end Go.Proofs.YtfnfcngkaepnjaaGreatDoor
