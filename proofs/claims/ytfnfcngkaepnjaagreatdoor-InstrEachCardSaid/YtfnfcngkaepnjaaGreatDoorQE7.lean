/- Joined texts: Are two instructions the same?; Parts, instructions that lie in a block. -/
import Derived.Test.YtfnfcngkaepnjaaGreatDoorQE4
import Derived.Test.YtfnfcngkaepnjaaGreatDoorQE6
/- Are two instructions the same? -/
namespace Go.Proofs.YtfnfcngkaepnjaaGreatDoor
set_option linter.unusedVariables false
open Go Go.Proofs Go.RowKit

theorem ins_ne (op a b c m op' a' b' c' m' : Int) (w : World) : (binOp .neq 29 (.agg #[.int .i64 op, .int .i64 a, .int .i64 b, .int .i64 c, .int .u32 m]) (.agg #[.int .i64 op', .int .i64 a', .int .i64 b', .int .i64 c', .int .u32 m'])).run Tryz.prog w =
    .ok (.bool (!(decide (op = op') && decide (a = a') && decide (b = b') && decide (c = c') && decide (m = m')))) w := by
  by_cases h1 : op = op' <;> by_cases h2 : a = a' <;> by_cases h3 : b = b' <;> by_cases h4 : c = c' <;> by_cases h5 : m = m' <;> simp [go_sem, h1, h2, h3, h4, h5]
theorem ins_eq (op a b c m op' a' b' c' m' : Int) (w : World) : (binOp .eql 29 (.agg #[.int .i64 op, .int .i64 a, .int .i64 b, .int .i64 c, .int .u32 m]) (.agg #[.int .i64 op', .int .i64 a', .int .i64 b', .int .i64 c', .int .u32 m'])).run Tryz.prog w =
    .ok (.bool (decide (op = op') && decide (a = a') && decide (b = b') && decide (c = c') && decide (m = m'))) w := by
  by_cases h1 : op = op' <;> by_cases h2 : a = a' <;> by_cases h3 : b = b' <;> by_cases h4 : c = c' <;> by_cases h5 : m = m' <;> simp [go_sem, h1, h2, h3, h4, h5]
end Go.Proofs.YtfnfcngkaepnjaaGreatDoor

/- Parts, instructions that lie in a block. -/
namespace Go.Proofs.YtfnfcngkaepnjaaGreatDoor
set_option linter.unusedVariables false
open Go Go.Proofs Go.RowKit

/-- What a part puts: of what, into what. -/
def putF (p : Part) (i s : Int × Int × Int × Int) : Int × Int × Int × Int :=
  if p.g = 188 then (i.1, s.2) else if p.g = 190 then (s.1, i.2.1, s.2.2) else if p.g = 194 then (s.1, s.2.1, i.2.2.1, s.2.2.2) else (s.1, s.2.1, s.2.2.1, i.2.2.2)
/-- What all have put. -/
def putsF (i : Int × Int × Int × Int) (ps : List Part) : Int × Int × Int × Int := ps.foldl (fun s p => putF p i s) (0, 0, 0, 0)

theorem putsF_take (i : Int × Int × Int × Int) (ps : List Part) (k : Nat) (hk : k < ps.length) : putsF i (ps.take (k + 1)) = putF ps[k] i (putsF i (ps.take k)) := by
  unfold putsF
  rw [← List.take_append_getElem hk, List.foldl_append]
  rfl

/-- The parts that there are. -/
def isPart (p : Part) : Prop := p = pA ∨ p = pB ∨ p = pC ∨ p = pM ∨ ∃ m, p = pI m

theorem named_parts (n : Int) : ∀ p ∈ (namedL.lookup n).getD [], isPart p := by
  have h : ∀ q ∈ namedL, ∀ p ∈ q.2, isPart p := by
    have hI : ∀ m, isPart (pI m) := fun m => Or.inr (Or.inr (Or.inr (Or.inr ⟨m, rfl⟩)))
    have hA : isPart pA := Or.inl rfl
    have hB : isPart pB := Or.inr (Or.inl rfl)
    have hC : isPart pC := Or.inr (Or.inr (Or.inl rfl))
    have hM : isPart pM := Or.inr (Or.inr (Or.inr (Or.inl rfl)))
    simp [namedL, hI, hA, hB, hC, hM]
  intro p hp
  cases hl : namedL.lookup n with
  | none => rw [hl] at hp; cases hp
  | some ps =>
    rw [hl] at hp
    have : (n, ps) ∈ namedL := by
      generalize namedL = l at hl
      clear h
      induction l with
      | nil => simp at hl
      | cons x xs ih =>
        by_cases hx : (n == x.1) = true
        · have : n = x.1 := by simpa using hx
          simp [List.lookup, hx] at hl
          subst hl this
          exact .head _
        · simp [List.lookup, hx] at hl
          exact .tail _ (ih hl)
    exact h _ this p hp

theorem named_short (n : Int) : ((namedL.lookup n).getD []).length ≤ 4 := by
  have h : ∀ q ∈ namedL, q.2.length ≤ 4 := by simp [namedL]
  cases hl : namedL.lookup n with
  | none => simp
  | some ps =>
    have : (n, ps) ∈ namedL := by
      generalize namedL = l at hl
      clear h
      induction l with
      | nil => simp at hl
      | cons x xs ih =>
        by_cases hx : (n == x.1) = true
        · have : n = x.1 := by simpa using hx
          simp [List.lookup, hx] at hl
          subst hl this
          exact .head _
        · simp [List.lookup, hx] at hl
          exact .tail _ (ih hl)
    exact h _ this

theorem flat_at : ∀ (ps : List Part) (k j : Nat) (hk : k < ps.length), j < 4 → (ps.flatMap Part.cells)[k * 4 + j]? = ps[k].cells[j]?
  | [], k, j, hk, _ => absurd hk (Nat.not_lt_zero _)
  | p :: ps, 0, j, hk, hj => by
    rw [List.flatMap_cons, List.getElem?_append_left (by simp [Part.cells]; omega)]
    simp
  | p :: ps, k + 1, j, hk, hj => by
    rw [List.flatMap_cons, List.getElem?_append_right (by simp [Part.cells]; omega)]
    have := flat_at ps k j (by simpa using hk) hj
    simp only [Part.cells, List.length_cons, List.length_nil] at this ⊢
    rw [show (k + 1) * 4 + j - (0 + 1 + 1 + 1 + 1) = k * 4 + j by omega]
    exact this

/-- A list of parts, cell by cell. -/
theorem Parts.cells {n : Nat} {w : World} {v : Value} {ps : List Part} (h : Parts n w v ps) : ∃ ao, v = .slice ao ps.length ps.length ∧ ∀ k (hk : k < ps.length), ∃ r, ao = some ⟨r, 0, none⟩ ∧ w.cell? ⟨r, k * 4, none⟩ = some (.int .i64 ps[k].wide) ∧
    w.cell? ⟨r, k * 4 + 1, none⟩ = some (.string ps[k].mark) ∧ w.cell? ⟨r, k * 4 + 2, none⟩ = some (.func (.func ps[k].g) #[] #[]) ∧ w.cell? ⟨r, k * 4 + 3, none⟩ = some (.func (.func ps[k].p) #[] #[]) := by
  rcases h with ⟨rfl, rfl⟩ | ⟨r, t, rfl, h, _⟩
  · exact ⟨none, rfl, fun k hk => absurd hk (Nat.not_lt_zero _)⟩
  · refine ⟨_, rfl, fun k hk => ⟨r, rfl, ?_, ?_, ?_, ?_⟩⟩
    · have := flat_at ps k 0 hk (by omega)
      simpa [World.cell?, h, Part.cells] using this
    · have := flat_at ps k 1 hk (by omega)
      simpa [World.cell?, h, Part.cells] using this
    · have := flat_at ps k 2 hk (by omega)
      simpa [World.cell?, h, Part.cells] using this
    · have := flat_at ps k 3 hk (by omega)
      simpa [World.cell?, h, Part.cells] using this

/-- An instruction that lies in a block. -/
structure Bare (B : Nat) (op : Int) (s : Int × Int × Int × Int) (w : World) : Prop where
  c0 : w.cell? ⟨B, 0, none⟩ = some (.int .i64 op)
  c1 : w.cell? ⟨B, 1, none⟩ = some (.int .i64 s.1)
  c2 : w.cell? ⟨B, 2, none⟩ = some (.int .i64 s.2.1)
  c3 : w.cell? ⟨B, 3, none⟩ = some (.int .i64 s.2.2.1)
  c4 : w.cell? ⟨B, 4, none⟩ = some (.int .u32 s.2.2.2)
  f1 : w.frozen? ⟨B, 1, none⟩ = false
  f2 : w.frozen? ⟨B, 2, none⟩ = false
  f3 : w.frozen? ⟨B, 3, none⟩ = false
  f4 : w.frozen? ⟨B, 4, none⟩ = false
theorem Bare.bel {B : Nat} {op : Int} {s : Int × Int × Int × Int} {w w' : World} (h : Bare B op s w) (hb : Below w.heap.size w w') : Bare B op s w' :=
  ⟨cell_bel h.c0 hb, cell_bel h.c1 hb, cell_bel h.c2 hb, cell_bel h.c3 hb, cell_bel h.c4 hb, froz_bel h.c1 h.f1 hb, froz_bel h.c2 h.f2 hb, froz_bel h.c3 h.f3 hb, froz_bel h.c4 h.f4 hb⟩
theorem Bare.new (op a b c m : Int) (w : World) (t : TypeId) : Bare w.heap.size op (a, b, c, m) (w.alloc (.cells #[.int .i64 op, .int .i64 a, .int .i64 b, .int .i64 c, .int .u32 m] t)) :=
  ⟨cell_new w _ t 0, cell_new w _ t 1, cell_new w _ t 2, cell_new w _ t 3, cell_new w _ t 4, World.frozen?_alloc_new _ _ _ _, World.frozen?_alloc_new _ _ _ _, World.frozen?_alloc_new _ _ _ _, World.frozen?_alloc_new _ _ _ _⟩

theorem Bare.drew {B : Nat} {op : Int} {s : Int × Int × Int × Int} {w : World} (h : Bare B op s w) : Bare B op s w.drew := ⟨h.c0, h.c1, h.c2, h.c3, h.c4, h.f1, h.f2, h.f3, h.f4⟩
theorem Touch.drew (T : Nat → Prop) (W : World) : Touch T W W.drew := ⟨Nat.le_refl _, fun _ _ _ => rfl⟩
theorem Bare.far {B B' o : Nat} {op : Int} {s : Int × Int × Int × Int} {w : World} {v : Value} (h : Bare B op s w) (hn : B' ≠ B) : Bare B op s (w.setCell ⟨B', o, none⟩ v) := by
  have hc : ∀ j, (w.setCell ⟨B', o, none⟩ v).cell? ⟨B, j, none⟩ = w.cell? ⟨B, j, none⟩ := fun j => World.cell?_setCell_other _ _ _ _ (fun e => hn (by have := congrArg Addr.block e; simpa [eq_comm] using this))
  have hf : ∀ j, (w.setCell ⟨B', o, none⟩ v).frozen? ⟨B, j, none⟩ = w.frozen? ⟨B, j, none⟩ := fun j => World.frozen?_setCell ..
  exact ⟨(hc _).trans h.c0, (hc _).trans h.c1, (hc _).trans h.c2, (hc _).trans h.c3, (hc _).trans h.c4, (hf _).trans h.f1, (hf _).trans h.f2, (hf _).trans h.f3, (hf _).trans h.f4⟩
theorem Bare.put1 {B : Nat} {op : Int} {s : Int × Int × Int × Int} {w : World} {v : Int} (h : Bare B op s w) : Bare B op (v, s.2) (w.setCell ⟨B, 1, none⟩ (.int .i64 v)) := by
  have hc : ∀ j, j ≠ 1 → (w.setCell ⟨B, 1, none⟩ (.int .i64 v)).cell? ⟨B, j, none⟩ = w.cell? ⟨B, j, none⟩ := fun j hj => World.cell?_setCell_other _ _ _ _ (fun e => hj (by have := congrArg Addr.off e; simpa using this.symm))
  have hf : ∀ j, (w.setCell ⟨B, 1, none⟩ (.int .i64 v)).frozen? ⟨B, j, none⟩ = w.frozen? ⟨B, j, none⟩ := fun j => World.frozen?_setCell ..
  exact ⟨(hc _ (by decide)).trans h.c0, (World.cell?_setCell_same _ _ _ h.c1), ((hc _ (by decide)).trans h.c2), ((hc _ (by decide)).trans h.c3), ((hc _ (by decide)).trans h.c4), (hf _).trans h.f1, (hf _).trans h.f2, (hf _).trans h.f3, (hf _).trans h.f4⟩
theorem Bare.put2 {B : Nat} {op : Int} {s : Int × Int × Int × Int} {w : World} {v : Int} (h : Bare B op s w) : Bare B op (s.1, v, s.2.2) (w.setCell ⟨B, 2, none⟩ (.int .i64 v)) := by
  have hc : ∀ j, j ≠ 2 → (w.setCell ⟨B, 2, none⟩ (.int .i64 v)).cell? ⟨B, j, none⟩ = w.cell? ⟨B, j, none⟩ := fun j hj => World.cell?_setCell_other _ _ _ _ (fun e => hj (by have := congrArg Addr.off e; simpa using this.symm))
  have hf : ∀ j, (w.setCell ⟨B, 2, none⟩ (.int .i64 v)).frozen? ⟨B, j, none⟩ = w.frozen? ⟨B, j, none⟩ := fun j => World.frozen?_setCell ..
  exact ⟨(hc _ (by decide)).trans h.c0, ((hc _ (by decide)).trans h.c1), (World.cell?_setCell_same _ _ _ h.c2), ((hc _ (by decide)).trans h.c3), ((hc _ (by decide)).trans h.c4), (hf _).trans h.f1, (hf _).trans h.f2, (hf _).trans h.f3, (hf _).trans h.f4⟩
theorem Bare.put3 {B : Nat} {op : Int} {s : Int × Int × Int × Int} {w : World} {v : Int} (h : Bare B op s w) : Bare B op (s.1, s.2.1, v, s.2.2.2) (w.setCell ⟨B, 3, none⟩ (.int .i64 v)) := by
  have hc : ∀ j, j ≠ 3 → (w.setCell ⟨B, 3, none⟩ (.int .i64 v)).cell? ⟨B, j, none⟩ = w.cell? ⟨B, j, none⟩ := fun j hj => World.cell?_setCell_other _ _ _ _ (fun e => hj (by have := congrArg Addr.off e; simpa using this.symm))
  have hf : ∀ j, (w.setCell ⟨B, 3, none⟩ (.int .i64 v)).frozen? ⟨B, j, none⟩ = w.frozen? ⟨B, j, none⟩ := fun j => World.frozen?_setCell ..
  exact ⟨(hc _ (by decide)).trans h.c0, ((hc _ (by decide)).trans h.c1), ((hc _ (by decide)).trans h.c2), (World.cell?_setCell_same _ _ _ h.c3), ((hc _ (by decide)).trans h.c4), (hf _).trans h.f1, (hf _).trans h.f2, (hf _).trans h.f3, (hf _).trans h.f4⟩
theorem Bare.put4 {B : Nat} {op : Int} {s : Int × Int × Int × Int} {w : World} {v : Int} (h : Bare B op s w) : Bare B op (s.1, s.2.1, s.2.2.1, v) (w.setCell ⟨B, 4, none⟩ (.int .u32 v)) := by
  have hc : ∀ j, j ≠ 4 → (w.setCell ⟨B, 4, none⟩ (.int .u32 v)).cell? ⟨B, j, none⟩ = w.cell? ⟨B, j, none⟩ := fun j hj => World.cell?_setCell_other _ _ _ _ (fun e => hj (by have := congrArg Addr.off e; simpa using this.symm))
  have hf : ∀ j, (w.setCell ⟨B, 4, none⟩ (.int .u32 v)).frozen? ⟨B, j, none⟩ = w.frozen? ⟨B, j, none⟩ := fun j => World.frozen?_setCell ..
  exact ⟨(hc _ (by decide)).trans h.c0, ((hc _ (by decide)).trans h.c1), ((hc _ (by decide)).trans h.c2), ((hc _ (by decide)).trans h.c3), (World.cell?_setCell_same _ _ _ h.c4), (hf _).trans h.f1, (hf _).trans h.f2, (hf _).trans h.f3, (hf _).trans h.f4⟩
/-- The rest of what must hold, by the Op. -/
def restF (op b c m : Int) : Bool :=
  if op = 8 ∨ op = 10 then decide (b + c ≤ 16) && decide (m < 32) else if op = 4 ∨ op = 5 then decide (m < 512) else if op = 3 then decide (1 ≤ m ∧ m ≤ 12) && decide (c < 16) else true
/-- May it be? -/
def rightF (op a b c m : Int) : Bool :=
  decide (1 ≤ op ∧ op ≤ 19) && decide (0 ≤ a ∧ a < 16) && decide (0 ≤ b ∧ b < 16) && decide (0 ≤ c ∧ c ≤ 16) && (decide (putsF (a, b, c, m) ((namedL.lookup op).getD []) = (a, b, c, m)) && restF op b c m)
theorem rightF_in (op a b c m : Int) (h1 : 1 ≤ op ∧ op ≤ 19) (ha : 0 ≤ a ∧ a < 16) (hb : 0 ≤ b ∧ b < 16) (hc : 0 ≤ c ∧ c ≤ 16) : rightF op a b c m = (decide (putsF (a, b, c, m) ((namedL.lookup op).getD []) = (a, b, c, m)) && restF op b c m) := by
  simp [rightF, h1, ha, hb, hc]
end Go.Proofs.YtfnfcngkaepnjaaGreatDoor
