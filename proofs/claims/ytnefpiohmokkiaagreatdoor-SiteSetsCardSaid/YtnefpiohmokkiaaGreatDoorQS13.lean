/- Joined texts: Law: a region that draws: its first n operations come ahead of all others; behind each of them S is shown anew, behind the others it is not.; Rows of things of whatever kind that a call owns; append of one. -/
import Derived.Test.YtnefpiohmokkiaaGreatDoorQS7
import Derived.Deep.RegionHeld3
import Derived.Test.YtnefpiohmokkiaaGreatDoorQS12
/- Law: a region that draws: its first n operations come ahead of all others; behind each of them S is shown anew, behind the others it is not. -/
namespace Go.Proofs.YtnefpiohmokkiaaGreatDoor
set_option linter.unusedVariables false
open Go Go.Proofs Go.RowKit

section
variable {P : Program} {ops : Array Oper} {md : Region.Mode} {Q : Exit → Act → World → Prop} {S : World → Prop} {n g : Nat}

def wpAnyR (P : Program) (md : Region.Mode) (ops : Array Oper) (Q : Exit → Act → World → Prop) (S : World → Prop) (n g : Nat) : Nat → Array Bool → Act → World → Prop
  | 0, listed, a, w => (∀ j ∈ Region.ready md ops listed, n ≤ j) ∧ wpAny P md ops Q g listed a w
  | f + 1, listed, a, w => Region.ready md ops listed ≠ [] ∧ ∀ i ∈ Region.ready md ops listed, i < n ∧ wpOp P ops Q i (fun a' w' => S w' ∧ wpAnyR P md ops Q S n g f (listed.setIfInBounds i true) a' w') a w

theorem wpAny_of_R : ∀ (f : Nat) (listed : Array Bool) (a : Act) (w : World), wpAnyR P md ops Q S n g f listed a w → wpAny P md ops Q (g + f) listed a w
  | 0, _, _, _, h => h.2
  | f + 1, _, _, _, h => ⟨fun h0 => absurd h0 h.1, fun i hi => wpOp_mono (fun a' w' h' => wpAny_of_R f _ a' w' h'.2) (h.2 i hi).2⟩

theorem anyR_first {i : Nat} {oi : Oper} {v : Value} (hi : ops[i]? = some oi) (hsel : ∀ (j : Nat) (o : Oper) cs b, ops[j]? = some o → o.op ≠ .select cs b)
    (hQ : ∀ c a w, Q (.panic c) (a.put oi.dst v) w → Q (.panic c) a w) (hs : Region.sinkB md ops n = true) (hc : lateB md ops n = true) (hn : n < ops.size) (hin : i < n) :
    ∀ (f : Nat) (listed : Array Bool) (a : Act) (w : World), HeadInv md ops n listed →
      (∀ j oj, ops[j]? = some oj → j ≠ i → listed.getD j true = false → (∀ e ∈ oj.after, Region.binds md e = true → e.on ≠ i) → oi.apart ops oj = true) →
      i ∈ Region.ready md ops listed → YieldsIf P ops S oi v a → S w →
      wpAnyR P md ops Q S n g f (listed.setIfInBounds i true) (a.put oi.dst v) w → wpAnyR P md ops Q S n g (f + 1) listed a w := by
  intro f
  induction f with
  | zero =>
    intro listed a w inv _ hr hy hS H
    have hun := (mem_ready.1 hr).1
    refine ⟨fun h => (by rw [h] at hr; cases hr), fun j hj => ?_⟩
    have hjn : j < n := by
      rcases Nat.lt_or_ge j n with h | h
      · exact h
      · exact absurd hj (late_waits hs hc hn inv _ i rfl hin hun j h)
    refine ⟨hjn, ?_⟩
    by_cases hji : j = i
    · subst hji; exact hy.wpOp hi hS ⟨hS, H⟩
    · have := H.1 j (ready_mono hj hji)
      omega
  | succ f ih =>
    intro listed a w inv hfree hr hy hS H
    have hun := (mem_ready.1 hr).1
    refine ⟨fun h => (by rw [h] at hr; cases hr), fun j hj => ?_⟩
    have hjn : j < n := by
      rcases Nat.lt_or_ge j n with h | h
      · exact h
      · exact absurd hj (late_waits hs hc hn inv _ i rfl hin hun j h)
    refine ⟨hjn, ?_⟩
    by_cases hji : j = i
    · subst hji; exact hy.wpOp hi hS ⟨hS, H⟩
    · have h1 := (H.2 j (ready_mono hj hji)).2
      obtain ⟨hjun, oj, hoj, hall⟩ := mem_ready.1 hj
      have hnot : ∀ e ∈ oj.after, Region.binds md e = true → e.on ≠ i := fun e he hb heq => by
        have h2 := hall e he hb
        rw [heq, getD_both hun] at h2
        cases h2
      have h2 := wpOp_putIf hoj (hfree j oj hoj hji hjun hnot) (fun cs b => hsel i oi cs b hi) (fun cs b => hsel j oj cs b hoj) hQ hy h1
      refine wpOp_mono (fun a' w' h3 => ⟨h3.2.1, ih (listed.setIfInBounds j true) a' w' (inv.set hj hjn) (fun k ok hk hki hun hno => ?_) (ready_mono hr (Ne.symm hji)) h3.1 h3.2.1 ?_⟩) h2
      · refine hfree k ok hk hki ?_ hno
        by_cases hjk : j = k
        · subst hjk; exact hjun
        · rw [getD_set_ne true hjk] at hun; exact hun
      · rw [Array.setIfInBounds_comm _ _ hji]
        exact h3.2.2

/-- The side conditions, as one Bool. -/
def headB (md : Region.Mode) (ops : Array Oper) (n : Nat) (listed : Array Bool) (i : Nat) : Bool :=
  Region.noSelect ops && Region.sinkB md ops n && lateB md ops n && decide (n < ops.size) && decide (i < n) && decide (listed.size = ops.size) &&
    ((List.range ops.size).all fun j => !(listed.getD j false) || ((ops[j]?.map (·.after)).getD #[]).all fun e => !(Region.binds md e) || listed.getD e.on false) &&
    ((List.range ops.size).all fun t => decide (t < n) || !(listed.getD t true))

theorem anyR_take {i : Nat} {oi : Oper} {v : Value} {f : Nat} {listed : Array Bool} {a : Act} {w : World} (hi : ops[i]? = some oi) (hB : headB md ops n listed i = true)
    (hf : Region.free md ops listed i = true) (hr : (Region.ready md ops listed).contains i = true)
    (hQ : ∀ c a w, Q (.panic c) (a.put oi.dst v) w → Q (.panic c) a w) (hy : YieldsIf P ops S oi v a) (hS : S w)
    (h : wpAnyR P md ops Q S n g f (listed.setIfInBounds i true) (a.put oi.dst v) w) : wpAnyR P md ops Q S n g (f + 1) listed a w := by
  simp only [headB, Bool.and_eq_true, decide_eq_true_eq] at hB
  obtain ⟨⟨⟨⟨⟨⟨⟨h1, h2⟩, h3⟩, h4⟩, h5⟩, h6⟩, h7⟩, h8⟩ := hB
  refine anyR_first hi (Region.noSelect_spec h1) hQ h2 h3 h4 h5 f listed a w ⟨h6, fun j oj hj hl e he hb => ?_, fun t ht hts => ?_⟩ (Region.free_spec hi hf) (by simpa using hr) hy hS h
  · have hlt : j < ops.size := (Array.getElem?_eq_some_iff.1 hj).1
    have := List.all_eq_true.1 h7 j (List.mem_range.2 hlt)
    rw [hl, hj] at this
    simp only [Bool.not_true, Bool.false_or, Option.map_some, Option.getD_some] at this
    have := Array.all_eq_true_iff_forall_mem.1 this e he
    rw [hb] at this
    simpa using this
  · have := List.all_eq_true.1 h8 t (List.mem_range.2 hts)
    rw [decide_eq_false (by omega), Bool.false_or] at this
    simpa using this

/-- All that may come up next, one by one. -/
def AllReadyR (P : Program) (md : Region.Mode) (ops : Array Oper) (Q : Exit → Act → World → Prop) (S : World → Prop) (n g f : Nat) (listed : Array Bool) (a : Act) (w : World) (rs : List Nat) : Prop :=
  ∀ i ∈ rs, wpOp P ops Q i (fun a' w' => S w' ∧ wpAnyR P md ops Q S n g f (listed.setIfInBounds i true) a' w') a w
theorem AllReadyR.nil {f : Nat} {listed : Array Bool} {a : Act} {w : World} : AllReadyR P md ops Q S n g f listed a w [] := fun _ h => by cases h
theorem AllReadyR.cons {f : Nat} {listed : Array Bool} {a : Act} {w : World} {i : Nat} {o : Oper} {rs : List Nat} (ho : ops[i]? = some o)
    (h : ∀ K' : Act → World → Prop, Hid (∀ a w, S w → (S w → wpAnyR P md ops Q S n g f (listed.setIfInBounds i true) a w) → K' a w) → if Region.wanted o (yielded ops a.tmps) = true then Oper.wp P o a w K' Q else K' (a.put o.dst undef) w)
    (hs : AllReadyR P md ops Q S n g f listed a w rs) : AllReadyR P md ops Q S n g f listed a w (i :: rs) := fun j hj => by
  rcases List.mem_cons.1 hj with rfl | hj
  · exact wpOp_step ho (fun K' hK => h K' (Lib.hid (fun a w hS hW => hK a w ⟨hS, hW hS⟩)))
  · exact hs j hj
theorem anyR_ready {rs : List Nat} {f : Nat} {listed : Array Bool} {a : Act} {w : World} (hr : Region.ready md ops listed = rs) (hne : rs ≠ []) (hlt : ∀ i ∈ rs, i < n)
    (h : AllReadyR P md ops Q S n g f listed a w rs) : wpAnyR P md ops Q S n g (f + 1) listed a w :=
  ⟨fun h0 => hne (hr.symm.trans h0), fun i hi => by rw [hr] at hi; exact ⟨hlt i hi, h i hi⟩⟩
theorem anyR_end {listed : Array Bool} {a : Act} {w : World} (hr : ((Region.ready md ops listed).all fun j => decide (n ≤ j)) = true) (h : wpAny P md ops Q g listed a w) : wpAnyR P md ops Q S n g 0 listed a w :=
  ⟨fun j hj => of_decide_eq_true (List.all_eq_true.1 hr j hj), h⟩
theorem wp_region_R {id : Nat} {a : Act} {w : World} (n : Nat) (hm : P.follows .mixedOrders = true) (hn : n ≤ ops.size) (hS : S w.drew)
    (h : S w.drew → wpAnyR P .any ops Q S n (ops.size - n) n (Array.replicate ops.size false) a w.drew) : (Code.region id ops true).wp P Q a w := by
  refine wp_region_any hm ?_
  have := wpAny_of_R _ _ _ _ (h hS)
  rwa [show ops.size - n + n = ops.size by omega] at this
end
end Go.Proofs.YtnefpiohmokkiaaGreatDoor

/- Rows of things of whatever kind that a call owns; append of one. -/
namespace Go.Proofs.YtnefpiohmokkiaaGreatDoor
set_option linter.unusedVariables false
open Go Go.Proofs Go.RowKit

/-- A kind of rows: the slice's type, the element's, how many cells and bytes one has, its zero; its cells. -/
structure RowTy {α : Type} (t e : TypeId) (size bytes : Nat) (zero : Value) (enc : α → List Value) : Prop where
  ht : Tryz.prog.underlying t = some (.slice e)
  hi : (Tryz.prog.info? e).map (fun i => (i.zero, i.size, i.bytes)) = some (some zero, size, bytes)
  hzs : zero.cells.size = size
  hsz : 0 < size
  hby : bytes ≤ 100000
  len : ∀ x, (enc x).length = size
  one : ∀ x, ∀ u ∈ enc x, u.oneCell' = true

/-- A slice that the call owns, from block base on. -/
def OwnW {α : Type} (e : TypeId) (size : Nat) (enc : α → List Value) (base : Nat) (v : Value) (L : List α) (w : World) : Prop := w.ownsRowF base e size v L.length (L.flatMap enc)

section
variable {α : Type} {t e : TypeId} {size bytes : Nat} {zero : Value} {enc : α → List Value} {base : Nat} {v : Value} {L : List α} {w w' : World}

theorem OwnW.bel (h : OwnW e size enc base v L w) (hb : Below w.heap.size w w') : OwnW e size enc base v L w' := own_below h hb
theorem OwnW.base_le {base' : Nat} (h : OwnW e size enc base v L w) (hb : base' ≤ base) : OwnW e size enc base' v L w := own_base h hb
theorem OwnW.nil : OwnW e size enc base (.slice none 0 0) [] w := World.ownsRowF_nil _ _ _ _
theorem OwnW.slice (h : OwnW e size enc base v L w) (hn : 0 < L.length) : ∃ g cap, v = .slice (some ⟨g, 0, none⟩) L.length cap ∧ base ≤ g ∧ L.length ≤ cap ∧ cap ≤ maxLen ∧ g < w.heap.size := own_slice h hn
theorem OwnW.form (h : OwnW e size enc base v L w) : ∃ a c, v = .slice a L.length c := by
  rcases h.2 with ⟨rfl, hn⟩ | ⟨g, cap, cur, fz, rfl, _⟩
  · exact ⟨none, 0, by rw [hn]⟩
  · exact ⟨_, _, rfl⟩
theorem OwnW.lt (h : OwnW e size enc base v L w) (k : Nat) (hk : v.ownBlock = some k) : base ≤ k ∧ k < w.heap.size := by
  have := World.ownsRowF.lt h k hk
  exact this

theorem flatMap_at (hl : ∀ x, (enc x).length = size) : ∀ (L : List α) (k j : Nat) (x : α), L[k]? = some x → j < size → (L.flatMap enc)[k * size + j]? = (enc x)[j]?
  | [], k, j, x, h, _ => by simp at h
  | y :: L, 0, j, x, h, hj => by
    simp at h
    subst h
    rw [List.flatMap_cons, List.getElem?_append_left (by rw [hl]; omega)]
    simp
  | y :: L, k + 1, j, x, h, hj => by
    have h1 := flatMap_at hl L k j x (by simpa using h) hj
    rw [List.flatMap_cons, List.getElem?_append_right (by rw [hl, Nat.succ_mul]; omega), hl, show (k + 1) * size + j - size = k * size + j by rw [Nat.succ_mul]; omega]
    exact h1
theorem OwnW.cell {g cap n : Nat} (hl : ∀ x, (enc x).length = size) (h : OwnW e size enc base (.slice (some ⟨g, 0, none⟩) n cap) L w) (k j : Nat) (x : α) (u : Value) (hk : L[k]? = some x) (hj : (enc x)[j]? = some u) : w.cell? ⟨g, k * size + j, none⟩ = some u := by
  have hjs : j < size := by
    have := (List.getElem?_eq_some_iff.1 hj).1
    rwa [hl] at this
  have := h.cells (g := g) rfl (k * size + j) u (by rw [flatMap_at hl L k j x hk hjs]; exact hj)
  rwa [WideShapes.add_plain, Nat.zero_add] at this

theorem OwnW.touch {T : Nat → Prop} (h : OwnW e size enc base v L w) (ht : Touch T w w') (hn : ∀ g, v.ownBlock = some g → ¬ T g) : OwnW e size enc base v L w' := by
  refine ⟨h.1, ?_⟩
  rcases h.2 with h0 | ⟨g, cap, cur, fz, rfl, hbg, hg, rest⟩
  · exact .inl h0
  · refine .inr ⟨g, cap, cur, fz, rfl, hbg, ?_, rest⟩
    rw [ht.same g (Array.getElem?_eq_some_iff.1 hg).1 (hn g rfl)]
    exact hg
/-- Rows of things of two kinds share no block. -/
theorem OwnW.apart {β : Type} {e2 : TypeId} {size2 base2 : Nat} {enc2 : β → List Value} {v2 : Value} {L2 : List β} (h : OwnW e size enc base v L w) (h2 : OwnW e2 size2 enc2 base2 v2 L2 w) (hne : e ≠ e2) : ∀ g, v.ownBlock = some g → ¬ v2.ownBlock = some g := by
  intro g hg hg2
  rcases h.2 with ⟨rfl, _⟩ | ⟨g1, cap, cur, fz, rfl, _, hh, _⟩
  · cases hg
  · rcases h2.2 with ⟨rfl, _⟩ | ⟨g2, cap2, cur2, fz2, rfl, _, hh2, _⟩
    · cases hg2
    · simp only [Value.ownBlock, Option.some.injEq] at hg hg2
      subst hg
      subst hg2
      rw [hh] at hh2
      simp only [Option.some.injEq, Obj.cells.injEq] at hh2
      exact hne hh2.2.1
end
end Go.Proofs.YtnefpiohmokkiaaGreatDoor
