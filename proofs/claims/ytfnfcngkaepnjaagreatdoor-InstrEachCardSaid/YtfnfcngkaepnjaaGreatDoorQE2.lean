/- Joined texts: A table: a map literal of lists of parts. -/
import Derived.Test.YtfnfcngkaepnjaaGreatDoorQE1
import Derived.MapKept
/- A table: a map literal of lists of parts. -/
namespace Go.Proofs.YtfnfcngkaepnjaaGreatDoor
set_option linter.unusedVariables false
open Go Go.Proofs Go.RowKit

/-- A part, in plain Lean: how wide, its mark, its functions. -/
structure Part where
  wide : Int
  mark : ByteArray
  g : Nat
  p : Nat
def Part.cells (x : Part) : List Value := [.int .i64 x.wide, .string x.mark, .func (.func x.g) #[] #[], .func (.func x.p) #[] #[]]

/-- A list of parts, in a block from n on. -/
def Parts (n : Nat) (w : World) (v : Value) (ps : List Part) : Prop :=
  (v = .slice none 0 0 ∧ ps = []) ∨ ∃ r t, v = .slice (some ⟨r, 0, none⟩) ps.length ps.length ∧ w.heap[r]? = some (.cells (ps.flatMap Part.cells).toArray t) ∧ n ≤ r

theorem Parts.at {n : Nat} {w w' : World} {v : Value} {ps : List Part} (h : Parts n w v ps) (hk : ∀ (r : Nat) c t, w.heap[r]? = some (Obj.cells c t) → w'.heap[r]? = some (Obj.cells c t)) : Parts n w' v ps := by
  rcases h with h | ⟨r, t, h1, h2, h3⟩
  · exact Or.inl h
  · exact Or.inr ⟨r, t, h1, hk _ _ _ h2, h3⟩
theorem lt_of_heap {w : World} {r : Nat} {o : Obj} (h : w.heap[r]? = some o) : r < w.heap.size := (Array.getElem?_eq_some_iff.1 h).1
theorem Parts.below {n : Nat} {w w' : World} {v : Value} {ps : List Part} (h : Parts n w v ps) (hb : Below w.heap.size w w') : Parts n w' v ps :=
  h.at fun r c t h1 => (hb.block _ (lt_of_heap h1)).trans h1
theorem Parts.made (m : Nat) (w : World) (ps : List Part) (n : Nat) (c : Array Value) (t : TypeId) (hn : n = ps.length) (hc : c = (ps.flatMap Part.cells).toArray) (hm : m ≤ w.heap.size) : Parts m (w.alloc (.cells c t)) (.slice (some ⟨w.heap.size, 0, none⟩) n n) ps := by
  subst hn hc
  exact Or.inr ⟨_, t, rfl, (MapKept.heap_alloc w _).1, hm⟩

/-- A table's rows. -/
inductive Rows (m : Nat) (kd : IntKind) (w : World) : List MapEntry → List (Int × List Part) → Prop
  | nil : Rows m kd w [] []
  | cons {e : MapEntry} {p : Int × List Part} {es : List MapEntry} {l : List (Int × List Part)} (h : e.key = .int kd p.1 ∧ Parts m w e.val p.2) (hs : Rows m kd w es l) : Rows m kd w (e :: es) (p :: l)
theorem Rows.at {m : Nat} {kd : IntKind} {w w' : World} (hk : ∀ (r : Nat) c t, w.heap[r]? = some (Obj.cells c t) → w'.heap[r]? = some (Obj.cells c t)) : ∀ {es : List MapEntry} {l : List (Int × List Part)}, Rows m kd w es l → Rows m kd w' es l
  | _, _, .nil => .nil
  | _, _, .cons h hs => .cons ⟨h.1, h.2.at hk⟩ (Rows.at hk hs)
theorem Rows.push {m : Nat} {kd : IntKind} {w : World} {e : MapEntry} {p : Int × List Part} (h : e.key = .int kd p.1 ∧ Parts m w e.val p.2) : ∀ {es : List MapEntry} {l : List (Int × List Part)}, Rows m kd w es l → Rows m kd w (es ++ [e]) (l ++ [p])
  | _, _, .nil => .cons h .nil
  | _, _, .cons h' hs => .cons h' (Rows.push h hs)

/-- A table that is being filled. -/
def Tab (n : Nat) (kd : IntKind) (w : World) (m : Nat) (l : List (Int × List Part)) : Prop :=
  ∃ es clock, w.heap[m]? = some (.map es clock) ∧ Rows n kd w es.toList l

theorem Tab.at {n : Nat} {kd : IntKind} {w w' : World} {m : Nat} {l : List (Int × List Part)} (h : Tab n kd w m l) (hm : w'.heap[m]? = w.heap[m]?) (hk : ∀ (r : Nat) c t, w.heap[r]? = some (Obj.cells c t) → w'.heap[r]? = some (Obj.cells c t)) : Tab n kd w' m l := by
  obtain ⟨es, clock, h1, h2⟩ := h
  exact ⟨es, clock, hm.trans h1, Rows.at hk h2⟩
theorem Tab.below {n : Nat} {kd : IntKind} {w w' : World} {m : Nat} {l : List (Int × List Part)} (h : Tab n kd w m l) (hb : Below w.heap.size w w') : Tab n kd w' m l := by
  obtain ⟨es, clock, h1, h2⟩ := h
  exact Tab.at ⟨es, clock, h1, h2⟩ (hb.block _ (lt_of_heap h1)) fun r c t h3 => (hb.block _ (lt_of_heap h3)).trans h3
theorem Tab.made (n : Nat) (kd : IntKind) (w : World) : Tab n kd (w.alloc (.map #[] 0)) w.heap.size [] := ⟨#[], 0, (MapKept.heap_alloc w _).1, .nil⟩

theorem findNow_fresh {m : Nat} (kd : IntKind) (n : Int) : ∀ (es : List MapEntry) (l : List (Int × List Part)) (w : World) (i : Nat), Rows m kd w es l → (∀ p ∈ l, p.1 ≠ n) →
    Instr.findNow (.int kd) (.int kd n) es i = some none
  | [], _, _, _, _, _ => rfl
  | e :: es, _, w, i, .cons (p := p) (l := l) h hs, hn => by
    have h1 : n ≠ p.1 := fun q => hn p (.head _) q.symm
    have ih := findNow_fresh kd n es l w (i + 1) hs (fun q hq => hn q (.tail _ hq))
    have h2 : (n == p.1) = false := by simpa using h1
    simp [Instr.findNow, Instr.sameNow, h.1, h2, ih]
theorem findNow_there {m : Nat} (kd : IntKind) (n : Int) : ∀ (es : List MapEntry) (l : List (Int × List Part)) (w : World) (i : Nat), Rows m kd w es l → ∀ ps, l.lookup n = some ps →
    ∃ j v, Instr.findNow (.int kd) (.int kd n) es i = some (some (j, v)) ∧ Parts m w v ps
  | [], _, _, _, .nil, _, h => by simp at h
  | e :: es, _, w, i, .cons (p := p) (l := l) h hs, ps, hl => by
    obtain ⟨k, qs⟩ := p
    by_cases hk : n = k
    · subst hk
      simp [List.lookup] at hl
      subst hl
      exact ⟨i, e.val, by simp [Instr.findNow, Instr.sameNow, h.1], h.2⟩
    · have h2 : (n == k) = false := by simpa using hk
      have hl' : l.lookup n = some ps := by simpa [List.lookup, h2] using hl
      obtain ⟨j, v, h1, h3⟩ := findNow_there kd n es l w (i + 1) hs ps hl'
      exact ⟨j, v, by simp [Instr.findNow, Instr.sameNow, h.1, h2, h1], h3⟩
theorem findNow_none {m : Nat} (kd : IntKind) (n : Int) (es : List MapEntry) (l : List (Int × List Part)) (w : World) (i : Nat) (h : Rows m kd w es l) (hl : l.lookup n = none) :
    Instr.findNow (.int kd) (.int kd n) es i = some none := by
  refine findNow_fresh kd n es l w i h fun p hp q => ?_
  rw [List.lookup_eq_none_iff] at hl
  have := hl p hp
  simp [q] at this

theorem bel_al {w0 w : World} {o : Obj} (h : Below w0.heap.size w0 w) : Below w0.heap.size w0 (w.alloc o) := h.alloc h.size o
theorem Parts.al {n : Nat} {w : World} {v : Value} {ps : List Part} {o : Obj} (h : Parts n w v ps) : Parts n (w.alloc o) v ps := h.below (bel_al (Below.refl _ _))
theorem Parts.new {m : Nat} {w : World} {r : Nat} {ps : List Part} {n : Nat} {c : Array Value} {t : TypeId} (hr : r = w.heap.size) (hn : n = ps.length) (hc : c = (ps.flatMap Part.cells).toArray) (hm : m ≤ r) : Parts m (w.alloc (.cells c t)) (.slice (some ⟨r, 0, none⟩) n n) ps := by
  subst hr
  exact Parts.made m w ps n c t hn hc hm

/-- How it stands between two entries: W, the world at the call; one and two, lists that are named more than once. -/
structure Filled (W : World) (kd : IntKind) (one two : Value) (ps1 ps2 : List Part) (w : World) (b : Nat) (l : List (Int × List Part)) : Prop where
  tab : Tab W.heap.size kd w b l
  bel : Below W.heap.size W w
  new : W.heap.size ≤ b
  one : Parts W.heap.size w one ps1
  two : Parts W.heap.size w two ps2

theorem wpList_makeMap {P : Program} (W w : World) {ops : Array Oper} {rest : List Oper} {o : Oper} {a : Act} {Q : Exit → Act → World → Prop}
    (hg : o.guard = none) (t : TypeId) (hop : o.op = Op.makeMap t none) (kd : IntKind) (one two : Value) (ps1 ps2 : List Part) (h1 : Parts W.heap.size w one ps1) (h2 : Parts W.heap.size w two ps2) (hW : Below W.heap.size W w)
    (hK : ∀ b w', Filled W kd one two ps1 ps2 w' b [] → wpList P ops Q rest (a.put o.dst (.map (some b))) w') :
    wpList P ops Q (o :: rest) a w := by
  refine wpList_plain hg fun K' hK' => ?_
  have hrun := run_makeMap (P := P) t w
  unfold Oper.wp
  simp [execOp, hop, hrun, Result.andThen]
  exact hK' _ _ (hK _ _ ⟨Tab.made _ kd w, hW.alloc hW.size _, hW.size, h1.al, h2.al⟩)

theorem wpList_insert {P : Program} {W w0 w : World} {ops : Array Oper} {rest : List Oper} {o : Oper} {a : Act} {Q : Exit → Act → World → Prop}
    {kd : IntKind} {one two : Value} {ps1 ps2 : List Part} {b : Nat} {l : List (Int × List Part)} (hF : Filled W kd one two ps1 ps2 w0 b l) (hbel : Below w0.heap.size w0 w)
    (hg : o.guard = none) (m x v : Operand) (t : TypeId) (hop : o.op = Op.insert t m x v)
    (k e : TypeId) (ht : P.underlying t = some (.map k e)) (hd : P.underlying k = some (.int kd)) (hm : a.eval m = .map (some b))
    (n : Int) (hx : a.eval x = .int kd n) (ps : List Part) (hval : Parts W.heap.size w (a.eval v) ps) (hnew : l.lookup n = none)
    (hK : ∀ w', Filled W kd one two ps1 ps2 w' b (l ++ [(n, ps)]) → wpList P ops Q rest (a.put o.dst undef) w') :
    wpList P ops Q (o :: rest) a w := by
  refine wpList_plain hg fun K' hK' => ?_
  have hbW := hF.bel.trans (hbel.mono hF.bel.size)
  have hone := hF.one.below hbel
  have htwo := hF.two.below hbel
  have hbn := hF.new
  obtain ⟨es, clock, hb, hes⟩ := hF.tab.below hbel
  generalize hv : a.eval v = val at hval
  have hf := findNow_none kd n _ _ _ 0 hes hnew
  have hkey : MapKept.IsKey (.int kd) (.int kd n) := rfl
  have hrun : (Instr.mapUpdate t (.map (some b)) (.int kd n) val).run P w = .ok () { w with heap := w.heap.setIfInBounds b (.map (es.push ⟨.int kd n, val, clock⟩) (clock + 1)) } := by
    simp [Instr.mapUpdate, run_underlying ht, MapKept.run_getObj_map hb, MapKept.run_checkKey hd hkey, MapKept.run_findKey hd hf, MapKept.run_setObj_map _ hb, Result.andThen]
  have hcell : ∀ (r : Nat) c t, w.heap[r]? = some (Obj.cells c t) → ({ w with heap := w.heap.setIfInBounds b (.map (es.push ⟨.int kd n, val, clock⟩) (clock + 1)) } : World).heap[r]? = some (Obj.cells c t) := by
    intro r c t h
    rw [(MapKept.heap_set hb).2 r (by rintro rfl; rw [hb] at h; cases h)]
    exact h
  unfold Oper.wp
  simp [execOp, hop, hm, hx, hv, hrun, Result.andThen]
  refine hK' _ _ (hK _ ⟨⟨_, _, (MapKept.heap_set hb).1, ?_⟩, hbW.trans ⟨rfl, rfl, rfl, by simp, fun j hj => (MapKept.heap_set hb).2 j (by omega)⟩, hbn, hone.at hcell, htwo.at hcell⟩)
  simp only [Array.toList_push]
  exact Rows.push ⟨rfl, hval.at hcell⟩ (Rows.at hcell hes)

theorem wpList_lookup {P : Program} {W w0 w : World} {ops : Array Oper} {rest : List Oper} {o : Oper} {a : Act} {Q : Exit → Act → World → Prop}
    {kd : IntKind} {one two : Value} {ps1 ps2 : List Part} {b : Nat} {l : List (Int × List Part)} (hF : Filled W kd one two ps1 ps2 w0 b l) (hbel : Below w0.heap.size w0 w)
    (hg : o.guard = none) (m x : Operand) (t : TypeId) (hop : o.op = Op.lookup t m x false)
    (k e : TypeId) (ht : P.underlying t = some (.map k e)) (hd : P.underlying k = some (.int kd)) (hm : a.eval m = .map (some b))
    (n : Int) (hx : a.eval x = .int kd n) (hz : ∀ w, (zeroValue e).run P w = .ok (.slice none 0 0) w)
    (hK : ∀ v, Parts W.heap.size w v ((l.lookup n).getD []) → Below W.heap.size W w → wpList P ops Q rest (a.put o.dst v) w) :
    wpList P ops Q (o :: rest) a w := by
  refine wpList_plain hg fun K' hK' => ?_
  have hbW := hF.bel.trans (hbel.mono hF.bel.size)
  obtain ⟨es, clock, hb, hes⟩ := hF.tab.below hbel
  have hkey : MapKept.IsKey (.int kd) (.int kd n) := rfl
  unfold Oper.wp
  cases hl : l.lookup n with
  | none =>
    have hf := findNow_none kd n _ _ _ 0 hes hl
    have hrun : (Instr.lookup t (.map (some b)) (.int kd n) false).run P w = .ok (.slice none 0 0) w := by
      simp [Instr.lookup, run_underlying ht, MapKept.run_getObj_map hb, MapKept.run_checkKey hd hkey, MapKept.run_findKey hd hf, hz, Result.andThen]
    simp [execOp, hop, hm, hx, hrun, Result.andThen]
    exact hK' _ _ (hK _ (Or.inl ⟨rfl, by simp [hl]⟩) hbW)
  | some ps =>
    obtain ⟨j, v, hf, hv⟩ := findNow_there kd n _ _ _ 0 hes ps hl
    have hrun : (Instr.lookup t (.map (some b)) (.int kd n) false).run P w = .ok v w := by
      simp [Instr.lookup, run_underlying ht, MapKept.run_getObj_map hb, MapKept.run_checkKey hd hkey, MapKept.run_findKey hd hf, Result.andThen]
    simp [execOp, hop, hm, hx, hrun, Result.andThen]
    exact hK' _ _ (hK _ (by simpa [hl] using hv) hbW)
end Go.Proofs.YtfnfcngkaepnjaaGreatDoor
