/- Joined texts: Small laws of the walk: a scope in which one jumps forward to one label; endings; what a call keeps.; Walks of package instr: the parts.; A table: a map literal of lists of parts. -/
import Derived.Test.YtfnfcngkaepnjaaGreatDoorChecked
import Derived.WalkKit
import Derived.Lib.Hide
import Derived.RowKit
import Derived.KernelRfl
import Derived.Deep.QuietTactic
import Derived.BigQuiet
import Derived.StillTailTactics
import Derived.Lib.QuietBelow
import Derived.Laws.EntriesVeiled
import Derived.WalkLawsBesides
import Derived.WalkSpells
import Derived.Deep.RegionWith
import Derived.Deep.LoopGhost
import Derived.MapKept
/- Small laws of the walk: a scope in which one jumps forward to one label; endings; what a call keeps. -/
namespace Go.Proofs.YtfnfcngkaepnjaaGreatDoor
set_option linter.unusedVariables false
open Go Go.Proofs Go.RowKit

/-- As Q; by a goto to label l: what stands behind the label is walked, without a jump. -/
def fwd (P : Program) (l : Nat) (rest : Code) (Q : Exit → Act → World → Prop) : Exit → Act → World → Prop
  | .goto l', a, w => l' = l ∧ rest.wp P (Exit.noGoto Q) a w
  | e, a, w => Q e a w

theorem wp_scope_fwd {P : Program} {a : Act} {w : World} {Q : Exit → Act → World → Prop} {c rest : Code} (l : Nat) (hf : findLabel c l = some rest)
    (h : c.wp P (fwd P l rest Q) a w) : (Code.scope c).wp P Q a w := by
  refine wp_scope_jumps l (fun a w => rest.wp P (Exit.noGoto Q) a w) (fun _ _ => 0) hf (Code.wp_mono ?_ h) ?_
  · intro e a w h
    cases e <;> exact h
  · intro a w hJ
    refine Code.wp_mono ?_ hJ
    intro e a w h
    cases e <;> first | exact h | exact h.elim

theorem fwd_ret {P : Program} {l : Nat} {rest : Code} {Q : Exit → Act → World → Prop} {a : Act} {w : World} : fwd P l rest Q .ret a w = Q .ret a w := rfl

theorem ret_bool {a b : Bool} (h : a = b) : Ending.returned (.bool a) = .returned (.bool b) := by rw [h]
theorem ret_int {k : IntKind} {a b : Int} (h : a = b) : Ending.returned (.int k a) = .returned (.int k b) := by rw [h]

theorem bcell {W w1 : World} (hb : Below W.heap.size W w1) : (∀ b o, b < W.heap.size → w1.cell? ⟨b, o, none⟩ = W.cell? ⟨b, o, none⟩) ∧ (∀ b o, b < W.heap.size → w1.frozen? ⟨b, o, none⟩ = W.frozen? ⟨b, o, none⟩) :=
  ⟨fun b o h => hb.cell (p := ⟨b, o, none⟩) h, fun b o h => hb.frozen (p := ⟨b, o, none⟩) h⟩

theorem lt_of_cell {w : World} {b o : Nat} {v : Value} (h : w.cell? ⟨b, o, none⟩ = some v) : b < w.heap.size := by
  rcases Nat.lt_or_ge b w.heap.size with h' | h'
  · exact h'
  · simp [World.cell?, Array.getElem?_eq_none h'] at h

/-- A cell, behind a call that keeps what was there; behind a new block; of a new block. -/
theorem cell_bel {w w' : World} {b o : Nat} {v : Value} (h : w.cell? ⟨b, o, none⟩ = some v) (hb : Below w.heap.size w w') : w'.cell? ⟨b, o, none⟩ = some v := ((bcell hb).1 _ _ (lt_of_cell h)).trans h
theorem cell_al {w : World} {b o : Nat} {v : Value} (h : w.cell? ⟨b, o, none⟩ = some v) (x : Obj) : (w.alloc x).cell? ⟨b, o, none⟩ = some v := (World.cell?_alloc_past x b o (lt_of_cell h)).trans h
theorem cell_new (w : World) (c : Array Value) (t : TypeId) (i : Nat) : (w.alloc (.cells c t)).cell? ⟨w.heap.size, i, none⟩ = c[i]? := World.cell?_alloc_at c t _ i rfl
theorem froz_bel {w w' : World} {b o : Nat} {v : Value} (h : w.cell? ⟨b, o, none⟩ = some v) (hf : w.frozen? ⟨b, o, none⟩ = false) (hb : Below w.heap.size w w') : w'.frozen? ⟨b, o, none⟩ = false := ((bcell hb).2 _ _ (lt_of_cell h)).trans hf

/-- A region that draws its order: n operations that read or call quietly, then a tail in one order: from the drawn world on, under a name. -/
theorem wp_region_tail {P : Program} {id : Nat} {Q : Exit → Act → World → Prop} {a : Act} {w : World} {l : List Oper} (n : Nat) (hm : P.follows .mixedOrders = true) (hB : Region.lexTailB .any l.toArray n = true)
    (h : ∀ W, w.drew = W → wpStill P l.toArray W (fun a' => wpList P l.toArray Q (l.drop n) a' W) (l.take n) a) : (Code.region id l.toArray true).wp P Q a w :=
  wp_region_still_tail n hm hB (h _ rfl)

/-- Behind one step from below. -/
theorem bel1 {W : World} (o : Obj) : Below W.heap.size W (W.alloc o) := (Below.refl _ _).alloc (Nat.le_refl _) _
theorem belT {W w1 w2 : World} (h : Below W.heap.size W w1) (k : Below w1.heap.size w1 w2) : Below W.heap.size W w2 := h.trans (k.mono h.size)
theorem belA {W w1 : World} (h : Below W.heap.size W w1) (o : Obj) : Below W.heap.size W (w1.alloc o) := h.alloc h.size o
end Go.Proofs.YtfnfcngkaepnjaaGreatDoor

/- Walks of package instr: the parts. -/
namespace Go.Proofs.YtfnfcngkaepnjaaGreatDoor
set_option linter.unusedVariables false
open Go Go.Proofs Go.RowKit

/-- A part: how wide, its mark, its two functions. -/
def partV (wide : Int) (mark : ByteArray) (g p : Nat) : Value := .agg #[.int .i64 wide, .string mark, .func (.func g) #[] #[], .func (.func p) #[] #[]]
theorem first_any (w : World) : Calls Tryz.prog 143 #[] w fun e w' => e = .returned (partV 1 ⟨#[114]⟩ 188 189) ∧ ∃ o, w' = w.alloc o := by
  go_enter Tryz.func143, Tryz.ntmps143
  go_wp2
  exact bodyPost_ret (v := partV 1 ⟨#[114]⟩ 188 189) (by simp [results, Tryz.results143, go_sem, partV]) rfl ⟨rfl, _, rfl⟩
theorem second_any (w : World) : Calls Tryz.prog 144 #[] w fun e w' => e = .returned (partV 1 ⟨#[114]⟩ 190 191) ∧ ∃ o, w' = w.alloc o := by
  go_enter Tryz.func144, Tryz.ntmps144
  go_wp2
  exact bodyPost_ret (v := partV 1 ⟨#[114]⟩ 190 191) (by simp [results, Tryz.results144, go_sem, partV]) rfl ⟨rfl, _, rfl⟩
theorem third_any (w : World) : Calls Tryz.prog 146 #[] w fun e w' => e = .returned (partV 1 ⟨#[114]⟩ 194 195) ∧ ∃ o, w' = w.alloc o := by
  go_enter Tryz.func146, Tryz.ntmps146
  go_wp2
  exact bodyPost_ret (v := partV 1 ⟨#[114]⟩ 194 195) (by simp [results, Tryz.results146, go_sem, partV]) rfl ⟨rfl, _, rfl⟩
theorem imm_any (m : ByteArray) (w : World) : Calls Tryz.prog 145 #[.string m] w fun e w' => e = .returned (partV 4 m 192 193) ∧ ∃ o, w' = w.alloc o := by
  go_enter Tryz.func145, Tryz.ntmps145
  go_wp2
  exact bodyPost_ret (v := partV 4 m 192 193) (by simp [results, Tryz.results145, go_sem, partV]) rfl ⟨rfl, _, rfl⟩
theorem many_any (w : World) : Calls Tryz.prog 147 #[] w fun e w' => e = .returned (partV 1 ⟨#[]⟩ 194 195) ∧ ∃ o1 o2 o3, w' = ((w.alloc o1).alloc o2).alloc o3 := by
  go_enter Tryz.func147, Tryz.ntmps147
  go_wp2_with (go_at_call 146; refine (third_any _).mono ?_; rintro e w1 ⟨rfl, o, rfl⟩; simp only [partV])
  exact bodyPost_ret (v := partV 1 ⟨#[]⟩ 194 195) (by simp [results, Tryz.results147, go_sem, partV]) rfl ⟨rfl, _, _, _, rfl⟩
end Go.Proofs.YtfnfcngkaepnjaaGreatDoor

/- A table: a map literal of lists of parts. -/
namespace Go.Proofs.YtfnfcngkaepnjaaGreatDoor
set_option linter.unusedVariables false
open Go Go.Proofs Go.RowKit

/-- A part, in plain Lean: how wide, its mark, its functions. -/
structure Part where
  wide : Int
  mark : ByteArray
  g : Nat
  p : Nat
def Part.cells (x : Part) : List Value := [.int .i64 x.wide, .string x.mark, .func (.func x.g) #[] #[], .func (.func x.p) #[] #[]]

/-- A list of parts, in a block from n on. -/
def Parts (n : Nat) (w : World) (v : Value) (ps : List Part) : Prop :=
  (v = .slice none 0 0 ∧ ps = []) ∨ ∃ r t, v = .slice (some ⟨r, 0, none⟩) ps.length ps.length ∧ w.heap[r]? = some (.cells (ps.flatMap Part.cells).toArray t) ∧ n ≤ r

theorem Parts.at {n : Nat} {w w' : World} {v : Value} {ps : List Part} (h : Parts n w v ps) (hk : ∀ (r : Nat) c t, w.heap[r]? = some (Obj.cells c t) → w'.heap[r]? = some (Obj.cells c t)) : Parts n w' v ps := by
  rcases h with h | ⟨r, t, h1, h2, h3⟩
  · exact Or.inl h
  · exact Or.inr ⟨r, t, h1, hk _ _ _ h2, h3⟩
theorem lt_of_heap {w : World} {r : Nat} {o : Obj} (h : w.heap[r]? = some o) : r < w.heap.size := (Array.getElem?_eq_some_iff.1 h).1
theorem Parts.below {n : Nat} {w w' : World} {v : Value} {ps : List Part} (h : Parts n w v ps) (hb : Below w.heap.size w w') : Parts n w' v ps :=
  h.at fun r c t h1 => (hb.block _ (lt_of_heap h1)).trans h1
theorem Parts.made (m : Nat) (w : World) (ps : List Part) (n : Nat) (c : Array Value) (t : TypeId) (hn : n = ps.length) (hc : c = (ps.flatMap Part.cells).toArray) (hm : m ≤ w.heap.size) : Parts m (w.alloc (.cells c t)) (.slice (some ⟨w.heap.size, 0, none⟩) n n) ps := by
  subst hn hc
  exact Or.inr ⟨_, t, rfl, (MapKept.heap_alloc w _).1, hm⟩

/-- A table's rows. -/
inductive Rows (m : Nat) (kd : IntKind) (w : World) : List MapEntry → List (Int × List Part) → Prop
  | nil : Rows m kd w [] []
  | cons {e : MapEntry} {p : Int × List Part} {es : List MapEntry} {l : List (Int × List Part)} (h : e.key = .int kd p.1 ∧ Parts m w e.val p.2) (hs : Rows m kd w es l) : Rows m kd w (e :: es) (p :: l)
theorem Rows.at {m : Nat} {kd : IntKind} {w w' : World} (hk : ∀ (r : Nat) c t, w.heap[r]? = some (Obj.cells c t) → w'.heap[r]? = some (Obj.cells c t)) : ∀ {es : List MapEntry} {l : List (Int × List Part)}, Rows m kd w es l → Rows m kd w' es l
  | _, _, .nil => .nil
  | _, _, .cons h hs => .cons ⟨h.1, h.2.at hk⟩ (Rows.at hk hs)
theorem Rows.push {m : Nat} {kd : IntKind} {w : World} {e : MapEntry} {p : Int × List Part} (h : e.key = .int kd p.1 ∧ Parts m w e.val p.2) : ∀ {es : List MapEntry} {l : List (Int × List Part)}, Rows m kd w es l → Rows m kd w (es ++ [e]) (l ++ [p])
  | _, _, .nil => .cons h .nil
  | _, _, .cons h' hs => .cons h' (Rows.push h hs)

/-- A table that is being filled. -/
def Tab (n : Nat) (kd : IntKind) (w : World) (m : Nat) (l : List (Int × List Part)) : Prop :=
  ∃ es clock, w.heap[m]? = some (.map es clock) ∧ Rows n kd w es.toList l

theorem Tab.at {n : Nat} {kd : IntKind} {w w' : World} {m : Nat} {l : List (Int × List Part)} (h : Tab n kd w m l) (hm : w'.heap[m]? = w.heap[m]?) (hk : ∀ (r : Nat) c t, w.heap[r]? = some (Obj.cells c t) → w'.heap[r]? = some (Obj.cells c t)) : Tab n kd w' m l := by
  obtain ⟨es, clock, h1, h2⟩ := h
  exact ⟨es, clock, hm.trans h1, Rows.at hk h2⟩
theorem Tab.below {n : Nat} {kd : IntKind} {w w' : World} {m : Nat} {l : List (Int × List Part)} (h : Tab n kd w m l) (hb : Below w.heap.size w w') : Tab n kd w' m l := by
  obtain ⟨es, clock, h1, h2⟩ := h
  exact Tab.at ⟨es, clock, h1, h2⟩ (hb.block _ (lt_of_heap h1)) fun r c t h3 => (hb.block _ (lt_of_heap h3)).trans h3
theorem Tab.made (n : Nat) (kd : IntKind) (w : World) : Tab n kd (w.alloc (.map #[] 0)) w.heap.size [] := ⟨#[], 0, (MapKept.heap_alloc w _).1, .nil⟩

theorem findNow_fresh {m : Nat} (kd : IntKind) (n : Int) : ∀ (es : List MapEntry) (l : List (Int × List Part)) (w : World) (i : Nat), Rows m kd w es l → (∀ p ∈ l, p.1 ≠ n) →
    Instr.findNow (.int kd) (.int kd n) es i = some none
  | [], _, _, _, _, _ => rfl
  | e :: es, _, w, i, .cons (p := p) (l := l) h hs, hn => by
    have h1 : n ≠ p.1 := fun q => hn p (.head _) q.symm
    have ih := findNow_fresh kd n es l w (i + 1) hs (fun q hq => hn q (.tail _ hq))
    have h2 : (n == p.1) = false := by simpa using h1
    simp [Instr.findNow, Instr.sameNow, h.1, h2, ih]
theorem findNow_there {m : Nat} (kd : IntKind) (n : Int) : ∀ (es : List MapEntry) (l : List (Int × List Part)) (w : World) (i : Nat), Rows m kd w es l → ∀ ps, l.lookup n = some ps →
    ∃ j v, Instr.findNow (.int kd) (.int kd n) es i = some (some (j, v)) ∧ Parts m w v ps
  | [], _, _, _, .nil, _, h => by simp at h
  | e :: es, _, w, i, .cons (p := p) (l := l) h hs, ps, hl => by
    obtain ⟨k, qs⟩ := p
    by_cases hk : n = k
    · subst hk
      simp [List.lookup] at hl
      subst hl
      exact ⟨i, e.val, by simp [Instr.findNow, Instr.sameNow, h.1], h.2⟩
    · have h2 : (n == k) = false := by simpa using hk
      have hl' : l.lookup n = some ps := by simpa [List.lookup, h2] using hl
      obtain ⟨j, v, h1, h3⟩ := findNow_there kd n es l w (i + 1) hs ps hl'
      exact ⟨j, v, by simp [Instr.findNow, Instr.sameNow, h.1, h2, h1], h3⟩
theorem findNow_none {m : Nat} (kd : IntKind) (n : Int) (es : List MapEntry) (l : List (Int × List Part)) (w : World) (i : Nat) (h : Rows m kd w es l) (hl : l.lookup n = none) :
    Instr.findNow (.int kd) (.int kd n) es i = some none := by
  refine findNow_fresh kd n es l w i h fun p hp q => ?_
  rw [List.lookup_eq_none_iff] at hl
  have := hl p hp
  simp [q] at this

theorem bel_al {w0 w : World} {o : Obj} (h : Below w0.heap.size w0 w) : Below w0.heap.size w0 (w.alloc o) := h.alloc h.size o
theorem Parts.al {n : Nat} {w : World} {v : Value} {ps : List Part} {o : Obj} (h : Parts n w v ps) : Parts n (w.alloc o) v ps := h.below (bel_al (Below.refl _ _))
theorem Parts.new {m : Nat} {w : World} {r : Nat} {ps : List Part} {n : Nat} {c : Array Value} {t : TypeId} (hr : r = w.heap.size) (hn : n = ps.length) (hc : c = (ps.flatMap Part.cells).toArray) (hm : m ≤ r) : Parts m (w.alloc (.cells c t)) (.slice (some ⟨r, 0, none⟩) n n) ps := by
  subst hr
  exact Parts.made m w ps n c t hn hc hm

/-- How it stands between two entries: W, the world at the call; one and two, lists that are named more than once. -/
structure Filled (W : World) (kd : IntKind) (one two : Value) (ps1 ps2 : List Part) (w : World) (b : Nat) (l : List (Int × List Part)) : Prop where
  tab : Tab W.heap.size kd w b l
  bel : Below W.heap.size W w
  new : W.heap.size ≤ b
  one : Parts W.heap.size w one ps1
  two : Parts W.heap.size w two ps2

theorem wpList_makeMap {P : Program} (W w : World) {ops : Array Oper} {rest : List Oper} {o : Oper} {a : Act} {Q : Exit → Act → World → Prop}
    (hg : o.guard = none) (t : TypeId) (hop : o.op = Op.makeMap t none) (kd : IntKind) (one two : Value) (ps1 ps2 : List Part) (h1 : Parts W.heap.size w one ps1) (h2 : Parts W.heap.size w two ps2) (hW : Below W.heap.size W w)
    (hK : ∀ b w', Filled W kd one two ps1 ps2 w' b [] → wpList P ops Q rest (a.put o.dst (.map (some b))) w') :
    wpList P ops Q (o :: rest) a w := by
  refine wpList_plain hg fun K' hK' => ?_
  have hrun := run_makeMap (P := P) t w
  unfold Oper.wp
  simp [execOp, hop, hrun, Result.andThen]
  exact hK' _ _ (hK _ _ ⟨Tab.made _ kd w, hW.alloc hW.size _, hW.size, h1.al, h2.al⟩)

theorem wpList_insert {P : Program} {W w0 w : World} {ops : Array Oper} {rest : List Oper} {o : Oper} {a : Act} {Q : Exit → Act → World → Prop}
    {kd : IntKind} {one two : Value} {ps1 ps2 : List Part} {b : Nat} {l : List (Int × List Part)} (hF : Filled W kd one two ps1 ps2 w0 b l) (hbel : Below w0.heap.size w0 w)
    (hg : o.guard = none) (m x v : Operand) (t : TypeId) (hop : o.op = Op.insert t m x v)
    (k e : TypeId) (ht : P.underlying t = some (.map k e)) (hd : P.underlying k = some (.int kd)) (hm : a.eval m = .map (some b))
    (n : Int) (hx : a.eval x = .int kd n) (ps : List Part) (hval : Parts W.heap.size w (a.eval v) ps) (hnew : l.lookup n = none)
    (hK : ∀ w', Filled W kd one two ps1 ps2 w' b (l ++ [(n, ps)]) → wpList P ops Q rest (a.put o.dst undef) w') :
    wpList P ops Q (o :: rest) a w := by
  refine wpList_plain hg fun K' hK' => ?_
  have hbW := hF.bel.trans (hbel.mono hF.bel.size)
  have hone := hF.one.below hbel
  have htwo := hF.two.below hbel
  have hbn := hF.new
  obtain ⟨es, clock, hb, hes⟩ := hF.tab.below hbel
  generalize hv : a.eval v = val at hval
  have hf := findNow_none kd n _ _ _ 0 hes hnew
  have hkey : MapKept.IsKey (.int kd) (.int kd n) := rfl
  have hrun : (Instr.mapUpdate t (.map (some b)) (.int kd n) val).run P w = .ok () { w with heap := w.heap.setIfInBounds b (.map (es.push ⟨.int kd n, val, clock⟩) (clock + 1)) } := by
    simp [Instr.mapUpdate, run_underlying ht, MapKept.run_getObj_map hb, MapKept.run_checkKey hd hkey, MapKept.run_findKey hd hf, MapKept.run_setObj_map _ hb, Result.andThen]
  have hcell : ∀ (r : Nat) c t, w.heap[r]? = some (Obj.cells c t) → ({ w with heap := w.heap.setIfInBounds b (.map (es.push ⟨.int kd n, val, clock⟩) (clock + 1)) } : World).heap[r]? = some (Obj.cells c t) := by
    intro r c t h
    rw [(MapKept.heap_set hb).2 r (by rintro rfl; rw [hb] at h; cases h)]
    exact h
  unfold Oper.wp
  simp [execOp, hop, hm, hx, hv, hrun, Result.andThen]
  refine hK' _ _ (hK _ ⟨⟨_, _, (MapKept.heap_set hb).1, ?_⟩, hbW.trans ⟨rfl, rfl, rfl, by simp, fun j hj => (MapKept.heap_set hb).2 j (by omega)⟩, hbn, hone.at hcell, htwo.at hcell⟩)
  simp only [Array.toList_push]
  exact Rows.push ⟨rfl, hval.at hcell⟩ (Rows.at hcell hes)

theorem wpList_lookup {P : Program} {W w0 w : World} {ops : Array Oper} {rest : List Oper} {o : Oper} {a : Act} {Q : Exit → Act → World → Prop}
    {kd : IntKind} {one two : Value} {ps1 ps2 : List Part} {b : Nat} {l : List (Int × List Part)} (hF : Filled W kd one two ps1 ps2 w0 b l) (hbel : Below w0.heap.size w0 w)
    (hg : o.guard = none) (m x : Operand) (t : TypeId) (hop : o.op = Op.lookup t m x false)
    (k e : TypeId) (ht : P.underlying t = some (.map k e)) (hd : P.underlying k = some (.int kd)) (hm : a.eval m = .map (some b))
    (n : Int) (hx : a.eval x = .int kd n) (hz : ∀ w, (zeroValue e).run P w = .ok (.slice none 0 0) w)
    (hK : ∀ v, Parts W.heap.size w v ((l.lookup n).getD []) → Below W.heap.size W w → wpList P ops Q rest (a.put o.dst v) w) :
    wpList P ops Q (o :: rest) a w := by
  refine wpList_plain hg fun K' hK' => ?_
  have hbW := hF.bel.trans (hbel.mono hF.bel.size)
  obtain ⟨es, clock, hb, hes⟩ := hF.tab.below hbel
  have hkey : MapKept.IsKey (.int kd) (.int kd n) := rfl
  unfold Oper.wp
  cases hl : l.lookup n with
  | none =>
    have hf := findNow_none kd n _ _ _ 0 hes hl
    have hrun : (Instr.lookup t (.map (some b)) (.int kd n) false).run P w = .ok (.slice none 0 0) w := by
      simp [Instr.lookup, run_underlying ht, MapKept.run_getObj_map hb, MapKept.run_checkKey hd hkey, MapKept.run_findKey hd hf, hz, Result.andThen]
    simp [execOp, hop, hm, hx, hrun, Result.andThen]
    exact hK' _ _ (hK _ (Or.inl ⟨rfl, by simp [hl]⟩) hbW)
  | some ps =>
    obtain ⟨j, v, hf, hv⟩ := findNow_there kd n _ _ _ 0 hes ps hl
    have hrun : (Instr.lookup t (.map (some b)) (.int kd n) false).run P w = .ok v w := by
      simp [Instr.lookup, run_underlying ht, MapKept.run_getObj_map hb, MapKept.run_checkKey hd hkey, MapKept.run_findKey hd hf, Result.andThen]
    simp [execOp, hop, hm, hx, hrun, Result.andThen]
    exact hK' _ _ (hK _ (by simpa [hl] using hv) hbW)
end Go.Proofs.YtfnfcngkaepnjaaGreatDoor
