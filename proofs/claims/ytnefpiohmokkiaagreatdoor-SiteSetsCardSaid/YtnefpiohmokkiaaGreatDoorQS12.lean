/- Joined texts: Rows of bytes: those that a call owns, those that it was handed; append; cells that are kept. -/
import Derived.Test.YtnefpiohmokkiaaGreatDoorQS11
import Derived.Test.YtnefpiohmokkiaaGreatDoorQS4
import Derived.Lib.FrozenHead2
import Derived.Laws.AppendOwnNone
/- Rows of bytes: those that a call owns, those that it was handed; append; cells that are kept. -/
namespace Go.Proofs.YtnefpiohmokkiaaGreatDoor
set_option linter.unusedVariables false
open Go Go.Proofs Go.RowKit

def byteVs (L : List Nat) : List Value := L.map fun (x : Nat) => .int .u8 x
theorem byteVs_length (L : List Nat) : (byteVs L).length = L.length := by simp [byteVs]

/-- A slice of bytes, readable: nil, or some. -/
def ArgB (w : World) (v : Value) (l : List Nat) : Prop :=
  (v = .slice none 0 0 ∧ l = []) ∨ ∃ ad c, v = .slice (some ad) l.length c ∧ l.length ≤ c ∧ c ≤ 9223372036854775807 ∧ (l ≠ [] → ∃ b o, ad = ⟨b, o, none⟩ ∧ HasB w b o l)

theorem HasB.bel {w w' : World} {b o : Nat} {l : List Nat} (h : HasB w b o l) (hb : Below w.heap.size w w') : HasB w' b o l := ⟨h.1, fun j hj => cell_bel (h.2 j hj) hb⟩
theorem HasB.touch {w w' : World} {b o : Nat} {l : List Nat} {T : Nat → Prop} (h : HasB w b o l) (hb : Touch T w w') (hn : ¬ T b) : HasB w' b o l := ⟨h.1, fun j hj => cell_touch (h.2 j hj) hb hn⟩
theorem HasB.drop {w : World} {b o : Nat} {l : List Nat} (h : HasB w b o l) (n : Nat) : HasB w b (o + n) (l.drop n) :=
  ⟨fun x hx => h.1 x (List.mem_of_mem_drop hx), fun j hj => by
    rw [List.length_drop] at hj
    have := h.2 (n + j) (by omega)
    rw [show o + (n + j) = o + n + j by omega] at this
    rw [this]
    simp [List.getD]⟩

theorem ArgB.bel {w w' : World} {v : Value} {l : List Nat} (h : ArgB w v l) (hb : Below w.heap.size w w') : ArgB w' v l := by
  rcases h with ⟨rfl, rfl⟩ | ⟨ad, c, rfl, hc, hm, hh⟩
  · exact Or.inl ⟨rfl, rfl⟩
  · exact Or.inr ⟨ad, c, rfl, hc, hm, fun h => by obtain ⟨b, o, e, hB⟩ := hh h; exact ⟨b, o, e, hB.bel hb⟩⟩
theorem ArgB.form {w : World} {v : Value} {l : List Nat} (h : ArgB w v l) : ∃ a c, v = .slice a l.length c := by
  rcases h with ⟨rfl, rfl⟩ | ⟨ad, c, rfl, _⟩
  · exact ⟨none, 0, rfl⟩
  · exact ⟨some ad, c, rfl⟩
theorem ArgB.lt {w : World} {v : Value} {l : List Nat} (h : ArgB w v l) : ∀ x ∈ l, x < 256 := by
  intro x hx
  rcases h with ⟨_, rfl⟩ | ⟨ad, c, _, _, _, hh⟩
  · cases hx
  · obtain ⟨_, _, _, hB⟩ := hh (by intro e; rw [e] at hx; cases hx)
    exact hB.1 x hx

theorem own_below {w w' : World} {base : Nat} {e : TypeId} {s : Nat} {v : Value} {n : Nat} {xs : List Value} (h : w.ownsRowF base e s v n xs) (hb : Below w.heap.size w w') : w'.ownsRowF base e s v n xs := by
  refine ⟨h.1, ?_⟩
  rcases h.2 with hn | ⟨g, cap, cur, fz, rfl, hbg, hg, rest⟩
  · exact .inl hn
  · refine .inr ⟨g, cap, cur, fz, rfl, hbg, ?_, rest⟩
    rw [hb.block g (Array.getElem?_eq_some_iff.1 hg).1]
    exact hg
theorem own_base {w : World} {base base' : Nat} {e : TypeId} {s : Nat} {v : Value} {n : Nat} {xs : List Value} (h : w.ownsRowF base e s v n xs) (hb : base' ≤ base) : w.ownsRowF base' e s v n xs := by
  refine ⟨h.1, ?_⟩
  rcases h.2 with hn | ⟨g, cap, cur, fz, rfl, hbg, rest⟩
  · exact .inl hn
  · exact .inr ⟨g, cap, cur, fz, rfl, Nat.le_trans hb hbg, rest⟩
theorem own_slice {w : World} {base : Nat} {e : TypeId} {s : Nat} {v : Value} {n : Nat} {xs : List Value} (h : w.ownsRowF base e s v n xs) (hn : 0 < n) : ∃ g cap, v = .slice (some ⟨g, 0, none⟩) n cap ∧ base ≤ g ∧ n ≤ cap ∧ cap ≤ maxLen ∧ g < w.heap.size := by
  rcases h.2 with ⟨_, h0⟩ | ⟨g, cap, cur, fz, hv, hbg, hg, _, hc, hm, _⟩
  · omega
  · exact ⟨g, cap, hv, hbg, hc, hm, (Array.getElem?_eq_some_iff.1 hg).1⟩

/-- A slice of bytes that the call owns, from block base on. -/
structure OwnB (base : Nat) (v : Value) (L : List Nat) (w : World) : Prop where
  own : w.ownsRowF base 5 1 v L.length (byteVs L)
  lt : ∀ x ∈ L, x < 256

theorem OwnB.bel {base : Nat} {v : Value} {L : List Nat} {w w' : World} (h : OwnB base v L w) (hb : Below w.heap.size w w') : OwnB base v L w' := ⟨own_below h.own hb, h.lt⟩
theorem OwnB.base {base base' : Nat} {v : Value} {L : List Nat} {w : World} (h : OwnB base v L w) (hb : base' ≤ base) : OwnB base' v L w := ⟨own_base h.own hb, h.lt⟩
theorem OwnB.nil (base : Nat) (w : World) : OwnB base (.slice none 0 0) [] w := ⟨World.ownsRowF_nil _ _ _ _, fun _ h => by cases h⟩
theorem OwnB.drew {base : Nat} {v : Value} {L : List Nat} {w : World} (h : OwnB base v L w) : OwnB base v L w.drew := ⟨h.own, h.lt⟩
theorem OwnB.made (w : World) (cs : Array Value) (L : List Nat) (n : Nat) (hn : n = L.length) (hc : cs.toList = byteVs L) (hl : ∀ x ∈ L, x < 256) (h0 : L.length ≤ 1000000) : OwnB w.heap.size (.slice (some ⟨w.heap.size, 0, none⟩) n n) L (w.alloc (.cells cs 5)) := by
  subst hn
  have hs : cs.size = L.length := by rw [← Array.length_toList, hc, byteVs_length]
  refine ⟨⟨by rw [byteVs_length, Nat.mul_one], Or.inr ⟨w.heap.size, L.length, cs, (0, 0), rfl, Nat.le_refl _, heap_alloc_new w _, Nat.zero_le _, Nat.le_refl _, by unfold maxLen; omega, by omega, ?_⟩⟩, hl⟩
  rw [hc, Nat.mul_one, List.take_of_length_le (by rw [byteVs_length]; exact Nat.le_refl _)]
theorem OwnB.arg {base : Nat} {v : Value} {L : List Nat} {w : World} (h : OwnB base v L w) : ArgB w v L := by
  rcases h.own.2 with ⟨rfl, h0⟩ | ⟨g, cap, cur, fz, rfl, hb, hg, _, hc, hm, _⟩
  · exact Or.inl ⟨rfl, List.eq_nil_of_length_eq_zero h0⟩
  · refine Or.inr ⟨_, cap, rfl, hc, by unfold maxLen at hm; omega, fun _ => ⟨g, 0, rfl, h.lt, fun j hj => ?_⟩⟩
    have := h.own.cells (g := g) rfl j (.int .u8 (L.getD j 0 : Nat)) (by simp [byteVs, List.getD, hj])
    rwa [WideShapes.add_plain] at this
theorem OwnB.slice {base : Nat} {v : Value} {L : List Nat} {w : World} (h : OwnB base v L w) (hn : 0 < L.length) : ∃ g cap, v = .slice (some ⟨g, 0, .none⟩) L.length cap ∧ base ≤ g ∧ L.length ≤ cap ∧ cap ≤ maxLen ∧ g < w.heap.size := own_slice h.own hn
theorem OwnB.form {base : Nat} {v : Value} {L : List Nat} {w : World} (h : OwnB base v L w) : ∃ ao cap, v = .slice ao L.length cap := h.arg.form
/-- What append leaves: only the row appended to has turned. -/
theorem Touch.grown {w w' : World} {v : Value} (h : w.grownBy w' v.ownBlock) : Touch (fun b => v.ownBlock = some b) w w' :=
  ⟨h.size, fun k hk hn => h.block k hk (fun e => hn e.symm)⟩

/-- Cells that are known, and may be written. -/
def Kept (w : World) : List (Nat × Nat × Value) → Prop
  | [] => True
  | (b, o, v) :: l => (w.cell? ⟨b, o, none⟩ = some v ∧ w.frozen? ⟨b, o, none⟩ = false) ∧ Kept w l
theorem Kept.bel {w w' : World} : ∀ {l : List (Nat × Nat × Value)}, Kept w l → Below w.heap.size w w' → Kept w' l
  | [], _, _ => trivial
  | (_, _, _) :: _, ⟨⟨h, hf⟩, hl⟩, hb => ⟨⟨cell_bel h hb, froz_bel h hf hb⟩, Kept.bel hl hb⟩
theorem Kept.al {w : World} {l : List (Nat × Nat × Value)} (h : Kept w l) (o : Obj) : Kept (w.alloc o) l := h.bel (bel1 o)
theorem Kept.drew {w : World} : ∀ {l : List (Nat × Nat × Value)}, Kept w l → Kept w.drew l
  | [], _ => trivial
  | (_, _, _) :: _, ⟨⟨h, hf⟩, hl⟩ => ⟨⟨h, hf⟩, Kept.drew hl⟩
end Go.Proofs.YtnefpiohmokkiaaGreatDoor
