/- Joined texts: Walks of package octet: the widths.; Walks of package octet: ReadFixed.; Rows of bytes: those that a call owns, those that it was handed; append; cells that are kept.; Bytes.; Law: a region that draws: its first n operations read or call quietly, in whatever order; what stands behind them waits for one of its own.; must; a reader's next number.; What was given up with is caught.; Read.; A cut behind a piece of code: of what it has written, only what is named is carried on.; Read, of any bytes. -/
import Derived.Test.YtfnfcngkaepnjaaGreatDoorQL1
import Derived.Test.YtfnfcngkaepnjaaGreatDoorQL6
import Derived.Lib.FrozenHead2
import Derived.Lib.FrozenHead
import Derived.Laws.BitsAllLaws
import Derived.Test.YtfnfcngkaepnjaaGreatDoorQL3
import Derived.Laws.AppendOwnNone
import Derived.Test.YtfnfcngkaepnjaaGreatDoorQL5
import Derived.RegionDies
import Derived.Defers
import Derived.Recover
import Derived.LoopTactic
/- Walks of package octet: the widths. -/
namespace Go.Proofs.YtfnfcngkaepnjaaGreatDoor
set_option linter.unusedVariables false
open Go Go.Proofs Go.RowKit

theorem info_of {P : Program} {e : TypeId} {z : Value} {s b : Nat} (h : (P.info? e).map (fun i => (i.zero, i.size, i.bytes)) = some (some z, s, b)) : ∃ i, P.info? e = some i ∧ i.zero = some z ∧ i.size = s ∧ i.bytes = b := by
  cases h' : P.info? e with
  | none => simp [h'] at h
  | some i =>
    rw [h'] at h
    simp only [Option.map_some, Option.some.injEq, Prod.mk.injEq] at h
    exact ⟨i, rfl, h.1, h.2.1, h.2.2⟩

end Go.Proofs.YtfnfcngkaepnjaaGreatDoor

/- Walks of package octet: ReadFixed. -/
namespace Go.Proofs.YtfnfcngkaepnjaaGreatDoor
set_option linter.unusedVariables false
open Go Go.Proofs Go.RowKit

/-- The slice holds these bytes. -/
def HasB (w : World) (b o : Nat) (l : List Nat) : Prop := (∀ x ∈ l, x < 256) ∧ ∀ j, j < l.length → w.cell? ⟨b, o + j, none⟩ = some (.int .u8 (l.getD j 0 : Nat))

end Go.Proofs.YtfnfcngkaepnjaaGreatDoor

/- Rows of bytes: those that a call owns, those that it was handed; append; cells that are kept. -/
namespace Go.Proofs.YtfnfcngkaepnjaaGreatDoor
set_option linter.unusedVariables false
open Go Go.Proofs Go.RowKit

def byteVs (L : List Nat) : List Value := L.map fun (x : Nat) => .int .u8 x
theorem byteVs_length (L : List Nat) : (byteVs L).length = L.length := by simp [byteVs]

/-- A slice of bytes, readable: nil, or some. -/
def ArgB (w : World) (v : Value) (l : List Nat) : Prop :=
  (v = .slice none 0 0 ∧ l = []) ∨ ∃ ad c, v = .slice (some ad) l.length c ∧ l.length ≤ c ∧ c ≤ 9223372036854775807 ∧ (l ≠ [] → ∃ b o, ad = ⟨b, o, none⟩ ∧ HasB w b o l)

theorem HasB.bel {w w' : World} {b o : Nat} {l : List Nat} (h : HasB w b o l) (hb : Below w.heap.size w w') : HasB w' b o l := ⟨h.1, fun j hj => cell_bel (h.2 j hj) hb⟩
theorem HasB.touch {w w' : World} {b o : Nat} {l : List Nat} {T : Nat → Prop} (h : HasB w b o l) (hb : Touch T w w') (hn : ¬ T b) : HasB w' b o l := ⟨h.1, fun j hj => cell_touch (h.2 j hj) hb hn⟩
theorem HasB.drop {w : World} {b o : Nat} {l : List Nat} (h : HasB w b o l) (n : Nat) : HasB w b (o + n) (l.drop n) :=
  ⟨fun x hx => h.1 x (List.mem_of_mem_drop hx), fun j hj => by
    rw [List.length_drop] at hj
    have := h.2 (n + j) (by omega)
    rw [show o + (n + j) = o + n + j by omega] at this
    rw [this]
    simp [List.getD]⟩

theorem ArgB.bel {w w' : World} {v : Value} {l : List Nat} (h : ArgB w v l) (hb : Below w.heap.size w w') : ArgB w' v l := by
  rcases h with ⟨rfl, rfl⟩ | ⟨ad, c, rfl, hc, hm, hh⟩
  · exact Or.inl ⟨rfl, rfl⟩
  · exact Or.inr ⟨ad, c, rfl, hc, hm, fun h => by obtain ⟨b, o, e, hB⟩ := hh h; exact ⟨b, o, e, hB.bel hb⟩⟩
theorem ArgB.form {w : World} {v : Value} {l : List Nat} (h : ArgB w v l) : ∃ a c, v = .slice a l.length c := by
  rcases h with ⟨rfl, rfl⟩ | ⟨ad, c, rfl, _⟩
  · exact ⟨none, 0, rfl⟩
  · exact ⟨some ad, c, rfl⟩
theorem ArgB.lt {w : World} {v : Value} {l : List Nat} (h : ArgB w v l) : ∀ x ∈ l, x < 256 := by
  intro x hx
  rcases h with ⟨_, rfl⟩ | ⟨ad, c, _, _, _, hh⟩
  · cases hx
  · obtain ⟨_, _, _, hB⟩ := hh (by intro e; rw [e] at hx; cases hx)
    exact hB.1 x hx

theorem own_below {w w' : World} {base : Nat} {e : TypeId} {s : Nat} {v : Value} {n : Nat} {xs : List Value} (h : w.ownsRowF base e s v n xs) (hb : Below w.heap.size w w') : w'.ownsRowF base e s v n xs := by
  refine ⟨h.1, ?_⟩
  rcases h.2 with hn | ⟨g, cap, cur, fz, rfl, hbg, hg, rest⟩
  · exact .inl hn
  · refine .inr ⟨g, cap, cur, fz, rfl, hbg, ?_, rest⟩
    rw [hb.block g (Array.getElem?_eq_some_iff.1 hg).1]
    exact hg
theorem own_base {w : World} {base base' : Nat} {e : TypeId} {s : Nat} {v : Value} {n : Nat} {xs : List Value} (h : w.ownsRowF base e s v n xs) (hb : base' ≤ base) : w.ownsRowF base' e s v n xs := by
  refine ⟨h.1, ?_⟩
  rcases h.2 with hn | ⟨g, cap, cur, fz, rfl, hbg, rest⟩
  · exact .inl hn
  · exact .inr ⟨g, cap, cur, fz, rfl, Nat.le_trans hb hbg, rest⟩
theorem own_slice {w : World} {base : Nat} {e : TypeId} {s : Nat} {v : Value} {n : Nat} {xs : List Value} (h : w.ownsRowF base e s v n xs) (hn : 0 < n) : ∃ g cap, v = .slice (some ⟨g, 0, none⟩) n cap ∧ base ≤ g ∧ n ≤ cap ∧ cap ≤ maxLen ∧ g < w.heap.size := by
  rcases h.2 with ⟨_, h0⟩ | ⟨g, cap, cur, fz, hv, hbg, hg, _, hc, hm, _⟩
  · omega
  · exact ⟨g, cap, hv, hbg, hc, hm, (Array.getElem?_eq_some_iff.1 hg).1⟩

/-- A slice of bytes that the call owns, from block base on. -/
structure OwnB (base : Nat) (v : Value) (L : List Nat) (w : World) : Prop where
  own : w.ownsRowF base 5 1 v L.length (byteVs L)
  lt : ∀ x ∈ L, x < 256

theorem OwnB.bel {base : Nat} {v : Value} {L : List Nat} {w w' : World} (h : OwnB base v L w) (hb : Below w.heap.size w w') : OwnB base v L w' := ⟨own_below h.own hb, h.lt⟩
theorem OwnB.base {base base' : Nat} {v : Value} {L : List Nat} {w : World} (h : OwnB base v L w) (hb : base' ≤ base) : OwnB base' v L w := ⟨own_base h.own hb, h.lt⟩
theorem OwnB.nil (base : Nat) (w : World) : OwnB base (.slice none 0 0) [] w := ⟨World.ownsRowF_nil _ _ _ _, fun _ h => by cases h⟩
theorem OwnB.drew {base : Nat} {v : Value} {L : List Nat} {w : World} (h : OwnB base v L w) : OwnB base v L w.drew := ⟨h.own, h.lt⟩
theorem OwnB.made (w : World) (cs : Array Value) (L : List Nat) (n : Nat) (hn : n = L.length) (hc : cs.toList = byteVs L) (hl : ∀ x ∈ L, x < 256) (h0 : L.length ≤ 1000000) : OwnB w.heap.size (.slice (some ⟨w.heap.size, 0, none⟩) n n) L (w.alloc (.cells cs 5)) := by
  subst hn
  have hs : cs.size = L.length := by rw [← Array.length_toList, hc, byteVs_length]
  refine ⟨⟨by rw [byteVs_length, Nat.mul_one], Or.inr ⟨w.heap.size, L.length, cs, (0, 0), rfl, Nat.le_refl _, heap_alloc_new w _, Nat.zero_le _, Nat.le_refl _, by unfold maxLen; omega, by omega, ?_⟩⟩, hl⟩
  rw [hc, Nat.mul_one, List.take_of_length_le (by rw [byteVs_length]; exact Nat.le_refl _)]
theorem OwnB.arg {base : Nat} {v : Value} {L : List Nat} {w : World} (h : OwnB base v L w) : ArgB w v L := by
  rcases h.own.2 with ⟨rfl, h0⟩ | ⟨g, cap, cur, fz, rfl, hb, hg, _, hc, hm, _⟩
  · exact Or.inl ⟨rfl, List.eq_nil_of_length_eq_zero h0⟩
  · refine Or.inr ⟨_, cap, rfl, hc, by unfold maxLen at hm; omega, fun _ => ⟨g, 0, rfl, h.lt, fun j hj => ?_⟩⟩
    have := h.own.cells (g := g) rfl j (.int .u8 (L.getD j 0 : Nat)) (by simp [byteVs, List.getD, hj])
    rwa [WideShapes.add_plain] at this
theorem OwnB.slice {base : Nat} {v : Value} {L : List Nat} {w : World} (h : OwnB base v L w) (hn : 0 < L.length) : ∃ g cap, v = .slice (some ⟨g, 0, .none⟩) L.length cap ∧ base ≤ g ∧ L.length ≤ cap ∧ cap ≤ maxLen ∧ g < w.heap.size := own_slice h.own hn
theorem OwnB.form {base : Nat} {v : Value} {L : List Nat} {w : World} (h : OwnB base v L w) : ∃ ao cap, v = .slice ao L.length cap := h.arg.form
theorem OwnB.fresh {base : Nat} {v : Value} {L : List Nat} {w : World} (h : OwnB base v L w) (b : Nat) (hb : b < base) : v.ownBlock ≠ some b := by
  intro e
  have := (h.own.lt b e).1
  omega

/-- What append leaves: only the row appended to has turned. -/
theorem Touch.grown {w w' : World} {v : Value} (h : w.grownBy w' v.ownBlock) : Touch (fun b => v.ownBlock = some b) w w' :=
  ⟨h.size, fun k hk hn => h.block k hk (fun e => hn e.symm)⟩

/-- Cells that are known, and may be written. -/
def Kept (w : World) : List (Nat × Nat × Value) → Prop
  | [] => True
  | (b, o, v) :: l => (w.cell? ⟨b, o, none⟩ = some v ∧ w.frozen? ⟨b, o, none⟩ = false) ∧ Kept w l
theorem Kept.bel {w w' : World} : ∀ {l : List (Nat × Nat × Value)}, Kept w l → Below w.heap.size w w' → Kept w' l
  | [], _, _ => trivial
  | (_, _, _) :: _, ⟨⟨h, hf⟩, hl⟩, hb => ⟨⟨cell_bel h hb, froz_bel h hf hb⟩, Kept.bel hl hb⟩
theorem Kept.al {w : World} {l : List (Nat × Nat × Value)} (h : Kept w l) (o : Obj) : Kept (w.alloc o) l := h.bel (bel1 o)
theorem Kept.drew {w : World} : ∀ {l : List (Nat × Nat × Value)}, Kept w l → Kept w.drew l
  | [], _ => trivial
  | (_, _, _) :: _, ⟨⟨h, hf⟩, hl⟩ => ⟨⟨h, hf⟩, Kept.drew hl⟩
end Go.Proofs.YtfnfcngkaepnjaaGreatDoor

/- Bytes. -/
namespace Go.Proofs.YtfnfcngkaepnjaaGreatDoor
set_option linter.unusedVariables false
open Go Go.Proofs Go.RowKit

/-- The parts' cells. -/
def PartsC (w : World) (ao : Option Addr) (ps : List Part) : Prop :=
  ∀ k (hk : k < ps.length), ∃ r, ao = some ⟨r, 0, none⟩ ∧ w.cell? ⟨r, k * 4, none⟩ = some (.int .i64 ps[k].wide) ∧
    w.cell? ⟨r, k * 4 + 1, none⟩ = some (.string ps[k].mark) ∧ w.cell? ⟨r, k * 4 + 2, none⟩ = some (.func (.func ps[k].g) #[] #[]) ∧ w.cell? ⟨r, k * 4 + 3, none⟩ = some (.func (.func ps[k].p) #[] #[])
theorem PartsC.bel {w w' : World} {ao : Option Addr} {ps : List Part} (h : PartsC w ao ps) (hb : Below w.heap.size w w') : PartsC w' ao ps := fun k hk => by
  obtain ⟨r, h1, h2, h3, h4, h5⟩ := h k hk
  exact ⟨r, h1, cell_bel h2 hb, cell_bel h3 hb, cell_bel h4 hb, cell_bel h5 hb⟩
theorem PartsC.touch {w w' : World} {ao : Option Addr} {ps : List Part} {T : Nat → Prop} (h : PartsC w ao ps) (hb : Touch T w w') (hn : ∀ r, ao = some ⟨r, 0, none⟩ → 0 < ps.length → ¬ T r) : PartsC w' ao ps := fun k hk => by
  obtain ⟨r, h1, h2, h3, h4, h5⟩ := h k hk
  have hr := hn r h1 (by omega)
  exact ⟨r, h1, cell_touch h2 hb hr, cell_touch h3 hb hr, cell_touch h4 hb hr, cell_touch h5 hb hr⟩
theorem PartsC.drew {w : World} {ao : Option Addr} {ps : List Part} (h : PartsC w ao ps) : PartsC w.drew ao ps := h
end Go.Proofs.YtfnfcngkaepnjaaGreatDoor

/- Law: a region that draws: its first n operations read or call quietly, in whatever order; what stands behind them waits for one of its own. -/
namespace Go.Proofs.YtfnfcngkaepnjaaGreatDoor
set_option linter.unusedVariables false
open Go Go.Proofs Go.RowKit

section
variable {P : Program} {ops : Array Oper} {md : Region.Mode} {w : World}

/-- What stands behind n waits for one that stands at n or behind it. -/
def lateB (md : Region.Mode) (ops : Array Oper) (n : Nat) : Bool :=
  (List.range ops.size).all fun t => decide (t ≤ n) || (List.range t).any fun i => decide (n ≤ i) && Region.waitsFor md ops t i

theorem late_waits {n : Nat} {listed : Array Bool} (hs : Region.sinkB md ops n = true) (hc : lateB md ops n = true) (hn : n < ops.size) (inv : HeadInv md ops n listed) :
    ∀ (d i : Nat), n - i = d → i < n → listed.getD i true = false → ∀ t, n ≤ t → t ∉ Region.ready md ops listed := by
  intro d
  induction d using Nat.strongRecOn with
  | _ d ih =>
    intro i hd hi hun t ht hr
    obtain ⟨_, ot, hot, hall⟩ := mem_ready.1 hr
    have htlt : t < ops.size := (Array.getElem?_eq_some_iff.1 hot).1
    by_cases htn : t = n
    · subst htn
      have h1 := List.all_eq_true.1 hs i (List.mem_range.2 hi)
      obtain ⟨j, hj, hj2⟩ := List.any_eq_true.1 h1
      simp only [Bool.and_eq_true, decide_eq_true_eq] at hj2
      obtain ⟨oj, hoj, e, he, hb, hon⟩ := Region.waitsFor_spec hj2.2
      have hjle : j ≤ t := by have := List.mem_range.1 hj; omega
      by_cases hjt : j = t
      · subst hjt
        have : oj = ot := Option.some.inj (hoj.symm.trans hot)
        subst this
        have h2 := hall e he hb
        rw [hon, getD_both hun] at h2
        cases h2
      · cases hl : listed.getD j false with
        | true =>
          have h2 := inv.closed j oj hoj hl e he hb
          rw [hon, getD_both hun] at h2
          cases h2
        | false =>
          have hjs : j < listed.size := by rw [inv.size]; omega
          exact ih (t - j) (by omega) j rfl (by omega) (getD_in hjs hl) t (Nat.le_refl _) hr
    · have h1 := List.all_eq_true.1 hc t (List.mem_range.2 htlt)
      simp only [Bool.or_eq_true, decide_eq_true_eq] at h1
      rcases h1 with h1 | h1
      · omega
      · obtain ⟨j, hj, hj2⟩ := List.any_eq_true.1 h1
        simp only [Bool.and_eq_true, decide_eq_true_eq] at hj2
        have hjt : j < t := List.mem_range.1 hj
        obtain ⟨o', ho', e, he, hb, hon⟩ := Region.waitsFor_spec hj2.2
        have : o' = ot := Option.some.inj (ho'.symm.trans hot)
        subst this
        have h2 := hall e he hb
        rw [hon, getD_both (inv.tail j hj2.1 (by omega))] at h2
        cases h2

end

end Go.Proofs.YtfnfcngkaepnjaaGreatDoor

/- must; a reader's next number. -/
namespace Go.Proofs.YtfnfcngkaepnjaaGreatDoor
set_option linter.unusedVariables false
open Go Go.Proofs Go.RowKit

theorem must_yes (n : Int) (w : World) : Calls Tryz.prog 94 #[.bool true, .int .i64 n] w fun e w' => e = .returned (.tuple #[]) ∧ w = w' := by
  go_enter Tryz.func94, Tryz.ntmps94
  go_wp2
  go_end0
  exact ⟨rfl, rfl⟩

/-- What is given up with. -/
abbrev gaveUp (n : Int) : Ending := .panicked [{ v := .iface 38 (.int .i64 n), recovered := false }]
theorem must_no (n : Int) (w : World) : Calls Tryz.prog 94 #[.bool false, .int .i64 n] w fun e w' => e = gaveUp n ∧ w = w' := by
  go_enter Tryz.func94, Tryz.ntmps94
  go_wp2
  exact ⟨rfl, rfl, rfl⟩

/-- A reader that lies in a block: its bytes, and how many were read. -/
structure Rdr (R : Nat) (l : List Nat) (at_ : Nat) (w : World) : Prop where
  c0 : ∃ a c, w.cell? ⟨R, 0, none⟩ = some (.slice a l.length c) ∧ ArgB w (.slice a l.length c) l
  c1 : w.cell? ⟨R, 1, none⟩ = some (.int .i64 at_)
  f1 : w.frozen? ⟨R, 1, none⟩ = false
theorem Rdr.bel {R : Nat} {l : List Nat} {i : Nat} {w w' : World} (h : Rdr R l i w) (hb : Below w.heap.size w w') : Rdr R l i w' := by
  obtain ⟨a, c, h1, h2⟩ := h.c0
  exact ⟨⟨a, c, cell_bel h1 hb, h2.bel hb⟩, cell_bel h.c1 hb, froz_bel h.c1 h.f1 hb⟩
theorem Rdr.drew {R : Nat} {l : List Nat} {i : Nat} {w : World} (h : Rdr R l i w) : Rdr R l i w.drew := h.bel (Below.refl _ _).drew

end Go.Proofs.YtfnfcngkaepnjaaGreatDoor

/- What was given up with is caught. -/
namespace Go.Proofs.YtfnfcngkaepnjaaGreatDoor
set_option linter.unusedVariables false
open Go Go.Proofs Go.RowKit

theorem Bare.touch {B : Nat} {op : Int} {s : Int × Int × Int × Int} {w w' : World} {T : Nat → Prop} (h : Bare B op s w) (ht : Touch T w w') (hn : ¬ T B) : Bare B op s w' := by
  have e := ht.same B (lt_of_cell h.c0) hn
  have hf : ∀ j, w'.frozen? ⟨B, j, none⟩ = w.frozen? ⟨B, j, none⟩ := fun j => World.frozen?_of_block e
  have hc : ∀ j, w'.cell? ⟨B, j, none⟩ = w.cell? ⟨B, j, none⟩ := fun j => World.cell?_of_block e
  exact ⟨(hc _).trans h.c0, (hc _).trans h.c1, (hc _).trans h.c2, (hc _).trans h.c3, (hc _).trans h.c4, (hf _).trans h.f1, (hf _).trans h.f2, (hf _).trans h.f3, (hf _).trans h.f4⟩

/-- An instruction's five cells, stored. -/
theorem Bare.set {B : Nat} {op : Int} {s : Int × Int × Int × Int} {w : World} (h : Bare B op s w) (op' a b c m : Int) :
    Bare B op' (a, b, c, m) (((((w.setCell ⟨B, 0, none⟩ (.int .i64 op')).setCell ⟨B, 1, none⟩ (.int .i64 a)).setCell ⟨B, 2, none⟩ (.int .i64 b)).setCell ⟨B, 3, none⟩ (.int .i64 c)).setCell ⟨B, 4, none⟩ (.int .u32 m)) := by
  have e : ∀ (v : World) (i j : Nat) (x : Value), i ≠ j → (v.setCell ⟨B, i, none⟩ x).cell? ⟨B, j, none⟩ = v.cell? ⟨B, j, none⟩ := fun v i j x h => World.cell?_setCell_other _ _ _ _ (by simp)
  obtain ⟨c0, c1, c2, c3, c4, f1, f2, f3, f4⟩ := h
  refine ⟨?_, ?_, ?_, ?_, ?_, ?_, ?_, ?_, ?_⟩
  · rw [e _ 4 0 _ (by decide), e _ 3 0 _ (by decide), e _ 2 0 _ (by decide), e _ 1 0 _ (by decide)]
    exact World.cell?_setCell_same _ _ _ c0
  · rw [e _ 4 1 _ (by decide), e _ 3 1 _ (by decide), e _ 2 1 _ (by decide)]
    exact World.cell?_setCell_same _ _ _ ((e _ 0 1 _ (by decide)).trans c1)
  · rw [e _ 4 2 _ (by decide), e _ 3 2 _ (by decide)]
    exact World.cell?_setCell_same _ _ _ ((e _ 1 2 _ (by decide)).trans ((e _ 0 2 _ (by decide)).trans c2))
  · rw [e _ 4 3 _ (by decide)]
    exact World.cell?_setCell_same _ _ _ ((e _ 2 3 _ (by decide)).trans ((e _ 1 3 _ (by decide)).trans ((e _ 0 3 _ (by decide)).trans c3)))
  · exact World.cell?_setCell_same _ _ _ ((e _ 3 4 _ (by decide)).trans ((e _ 2 4 _ (by decide)).trans ((e _ 1 4 _ (by decide)).trans ((e _ 0 4 _ (by decide)).trans c4))))
  · simp only [World.frozen?_setCell]; exact f1
  · simp only [World.frozen?_setCell]; exact f2
  · simp only [World.frozen?_setCell]; exact f3
  · simp only [World.frozen?_setCell]; exact f4
theorem touch_set5 (B : Nat) (w : World) (v0 v1 v2 v3 v4 : Value) {T : Nat → Prop} (hT : T B) : Touch T w (((((w.setCell ⟨B, 0, none⟩ v0).setCell ⟨B, 1, none⟩ v1).setCell ⟨B, 2, none⟩ v2).setCell ⟨B, 3, none⟩ v3).setCell ⟨B, 4, none⟩ v4) :=
  ((((Touch.setCell _ _ _ hT).trans (Touch.setCell _ _ _ hT)).trans (Touch.setCell _ _ _ hT)).trans (Touch.setCell _ _ _ hT)).trans (Touch.setCell _ _ _ hT)

theorem caught_idle (p : Addr) (f : Value) (w : World) :
    CallsD Tryz.prog 87 #[.pointer (some p), f] .returning w fun e u' w' => e = .returned (.tuple #[]) ∧ u' = .returning ∧ w' = w := by
  have hn : ∀ w, (binOp .neq 20 .nilIface .nilIface).run Tryz.prog w = .ok (.bool false) w := fun _ => by kernel_rfl
  refine callsD_of_wpS Tryz.func87 rfl fun c₀ cs hu => ?_
  simp only [Tryz.ntmps87, List.size_toArray, List.length_cons, List.length_nil, Nat.reduceAdd, Nat.reduceSub, Array.replicate_succ, Array.replicate_zero, List.push_toArray, List.append_toArray, List.nil_append, List.cons_append]
  apply wpS_seq
  apply wpS_region
  simp [wpOpsS, go_sem, recoverD, hu, Exit.thenS]
  refine wpS_of_wp ?_
  go_wp2
  cases c₀
  simp_all [bodyPostS, results, Tryz.results87]

set_option maxRecDepth 100000 in
/-- Caught with a number: what the closure does, then the number is stored. -/
theorem caught_yes (E : Addr) (n : Int) (fc : Nat) (cap : Array Value) (older : List PanicEntry) (w : World) (R : World → Prop)
    (eg : ∀ args w, (callFunc fc args).run Tryz.prog w = .ok (.enter fc args) w) (hcl : Calls Tryz.prog fc cap w fun e w' => e = .returned (.tuple #[]) ∧ R w') (hE : ∀ w', R w' → ∃ y, w'.cell? E = some y ∧ w'.frozen? E = false) :
    CallsD Tryz.prog 87 #[.pointer (some E), .func (.func fc) #[] cap] (.panicking ({ v := .iface 38 (.int .i64 n), recovered := false } :: older)) w fun e u' w' =>
      e = .returned (.tuple #[]) ∧ u' = .panicking ({ v := .iface 38 (.int .i64 n), recovered := true } :: older) ∧ ∃ w1, R w1 ∧ w' = w1.setCell E (.int .i64 n) := by
  have hn : ∀ w, (binOp .neq 20 (.iface 38 (.int .i64 n)) .nilIface).run Tryz.prog w = .ok (.bool true) w := fun _ => by kernel_rfl
  have ht : ∀ w, (Instr.typeAssert (.iface 38 (.int .i64 n)) 20 38 true).run Tryz.prog w = .ok (.tuple #[.int .i64 n, .bool true]) w := fun _ => by kernel_rfl
  have HC := Lib.hid hcl
  have HE := Lib.hid hE
  clear hcl hE
  refine callsD_of_wpS Tryz.func87 rfl fun c₀ cs hu => ?_
  simp only [Tryz.ntmps87, List.size_toArray, List.length_cons, List.length_nil, Nat.reduceAdd, Nat.reduceSub, Array.replicate_succ, Array.replicate_zero, List.push_toArray, List.append_toArray, List.nil_append, List.cons_append]
  apply wpS_seq
  apply wpS_region
  simp [wpOpsS, go_sem, recoverD, hu, Exit.thenS]
  refine wpS_of_wp ?_
  go_wp2_with fail
  refine HC.out.mono ?_
  rintro e w1 ⟨rfl, hR⟩
  obtain ⟨y, hy, hf⟩ := HE.out w1 hR
  go_wp2_with fail
  cases c₀
  simp_all [bodyPostS, results, Tryz.results87]
  exact ⟨w1, hR, rfl⟩

end Go.Proofs.YtfnfcngkaepnjaaGreatDoor

/- Read. -/
namespace Go.Proofs.YtfnfcngkaepnjaaGreatDoor
set_option linter.unusedVariables false
open Go Go.Proofs Go.RowKit

/-- The three results' blocks, as they stand within the call. -/
structure RdI (w0 : World) (op : Int) (s : Int × Int × Int × Int) (w : World) : Prop where
  ins : Bare w0.heap.size op s w
  f0 : w.frozen? ⟨w0.heap.size, 0, none⟩ = false
  c1 : w.cell? ⟨w0.heap.size + 1, 0, none⟩ = some (.int .i64 0)
  f1 : w.frozen? ⟨w0.heap.size + 1, 0, none⟩ = false
  c2 : w.cell? ⟨w0.heap.size + 1 + 1, 0, none⟩ = some (.int .i64 0)
  f2 : w.frozen? ⟨w0.heap.size + 1 + 1, 0, none⟩ = false
  bel : Below w0.heap.size w0 w

theorem RdI.more {w0 : World} {op : Int} {s : Int × Int × Int × Int} {w w' : World} (h : RdI w0 op s w) (hb : Below w.heap.size w w') : RdI w0 op s w' :=
  ⟨h.ins.bel hb, froz_bel h.ins.c0 h.f0 hb, cell_bel h.c1 hb, froz_bel h.c1 h.f1 hb, cell_bel h.c2 hb, froz_bel h.c2 h.f2 hb, h.bel.trans (hb.mono h.bel.size)⟩

end Go.Proofs.YtfnfcngkaepnjaaGreatDoor

/- A cut behind a piece of code: of what it has written, only what is named is carried on. -/
namespace Go.Proofs.YtfnfcngkaepnjaaGreatDoor
set_option linter.unusedVariables false
open Go Go.Proofs Go.RowKit

end Go.Proofs.YtfnfcngkaepnjaaGreatDoor

/- Read, of any bytes. -/
namespace Go.Proofs.YtfnfcngkaepnjaaGreatDoor
set_option linter.unusedVariables false
open Go Go.Proofs Go.RowKit

theorem froz_touch {w w' : World} {b o : Nat} {v : Value} {T : Nat → Prop} (h : w.cell? ⟨b, o, none⟩ = some v) (hf : w.frozen? ⟨b, o, none⟩ = false) (ht : Touch T w w') (hn : ¬ T b) : w'.frozen? ⟨b, o, none⟩ = false :=
  (World.frozen?_of_block (ht.same b (lt_of_cell h) hn)).trans hf

theorem RdI.touch {w0 : World} {op : Int} {s : Int × Int × Int × Int} {w w' : World} {T : Nat → Prop} (h : RdI w0 op s w) (ht : Touch T w w') (hb : Below w0.heap.size w w') (hT : ∀ b, T b → w0.heap.size + 1 + 1 < b) : RdI w0 op s w' :=
  have n0 : ¬ T w0.heap.size := fun h => by have := hT _ h; omega
  have n1 : ¬ T (w0.heap.size + 1) := fun h => by have := hT _ h; omega
  have n2 : ¬ T (w0.heap.size + 1 + 1) := fun h => by have := hT _ h; omega
  ⟨h.ins.touch ht n0, froz_touch h.ins.c0 h.f0 ht n0, cell_touch h.c1 ht n1, froz_touch h.c1 h.f1 ht n1, cell_touch h.c2 ht n2, froz_touch h.c2 h.f2 ht n2, h.bel.trans hb⟩

/-- Behind a store into the instruction's block. -/
theorem RdI.put {w0 : World} {op op' : Int} {s s' : Int × Int × Int × Int} {w : World} {o : Nat} {v : Value} (h : RdI w0 op s w) (hb : Bare w0.heap.size op' s' (w.setCell ⟨w0.heap.size, o, none⟩ v)) : RdI w0 op' s' (w.setCell ⟨w0.heap.size, o, none⟩ v) :=
  ⟨hb, (World.frozen?_setCell ..).trans h.f0, (World.cell?_setCell_other _ _ _ _ (by simp)).trans h.c1, (World.frozen?_setCell ..).trans h.f1, (World.cell?_setCell_other _ _ _ _ (by simp)).trans h.c2, (World.frozen?_setCell ..).trans h.f2, h.bel.setCell (by simp) _⟩

theorem Rdr.far {R : Nat} {l : List Nat} {i : Nat} {w : World} {b o : Nat} {v : Value} (h : Rdr R l i w) (hb : b ≠ R) (hc : ∃ x, w.cell? ⟨b, o, none⟩ = some x ∧ ∀ n, x ≠ .int .u8 n) : Rdr R l i (w.setCell ⟨b, o, none⟩ v) := by
  have e : ∀ j, (w.setCell ⟨b, o, none⟩ v).cell? ⟨R, j, none⟩ = w.cell? ⟨R, j, none⟩ := fun j => World.cell?_setCell_other _ _ _ _ (fun e => hb (congrArg Addr.block e))
  obtain ⟨a, c, c0, hA⟩ := h.c0
  obtain ⟨x, hx, hx8⟩ := hc
  refine ⟨⟨a, c, (e _).trans c0, ?_⟩, (e _).trans h.c1, (World.frozen?_setCell ..).trans h.f1⟩
  rcases hA with hA | ⟨ad, c', e1, e2, e3, e4⟩
  · exact Or.inl hA
  · refine Or.inr ⟨ad, c', e1, e2, e3, fun hne => ?_⟩
    obtain ⟨b', o', e5, hB⟩ := e4 hne
    refine ⟨b', o', e5, hB.1, fun j hj => ?_⟩
    have hj' := hB.2 j hj
    by_cases he : (⟨b', o' + j, none⟩ : Addr) = ⟨b, o, none⟩
    · rw [he, hx] at hj'; exact absurd (Option.some.inj hj') (hx8 _)
    · exact (World.cell?_setCell_other _ _ _ _ (fun e => he e.symm)).trans hj'

theorem PartsC.ne_bare {w : World} {ao : Option Addr} {ps : List Part} {B : Nat} {op : Int} {s : Int × Int × Int × Int} (h : PartsC w ao ps) (ho : Bare B op s w) : ∀ r, ao = some ⟨r, 0, none⟩ → 0 < ps.length → r ≠ B := by
  rintro r hr hp rfl
  obtain ⟨r', h1, _, h2, _⟩ := h 0 hp
  rw [hr] at h1
  cases h1
  have := ho.c1
  simp only [Nat.zero_mul, Nat.zero_add] at h2
  rw [this] at h2
  cases h2

end Go.Proofs.YtfnfcngkaepnjaaGreatDoor
