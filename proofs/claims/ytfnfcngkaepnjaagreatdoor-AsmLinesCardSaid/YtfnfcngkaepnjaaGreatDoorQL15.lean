/- Joined texts: Law: a region that draws: its first n operations come ahead of all others; behind each of them S is shown anew, behind the others it is not.; Rows of things of whatever kind that a call owns; append of one.; Programs, plain; programs that lie in memory; rows of things that are read. -/
import Derived.Test.YtfnfcngkaepnjaaGreatDoorQL7
import Derived.Deep.RegionHeld3
import Derived.Test.YtfnfcngkaepnjaaGreatDoorQL5
/- Law: a region that draws: its first n operations come ahead of all others; behind each of them S is shown anew, behind the others it is not. -/
namespace Go.Proofs.YtfnfcngkaepnjaaGreatDoor
set_option linter.unusedVariables false
open Go Go.Proofs Go.RowKit

section
variable {P : Program} {ops : Array Oper} {md : Region.Mode} {Q : Exit → Act → World → Prop} {S : World → Prop} {n g : Nat}

def wpAnyR (P : Program) (md : Region.Mode) (ops : Array Oper) (Q : Exit → Act → World → Prop) (S : World → Prop) (n g : Nat) : Nat → Array Bool → Act → World → Prop
  | 0, listed, a, w => (∀ j ∈ Region.ready md ops listed, n ≤ j) ∧ wpAny P md ops Q g listed a w
  | f + 1, listed, a, w => Region.ready md ops listed ≠ [] ∧ ∀ i ∈ Region.ready md ops listed, i < n ∧ wpOp P ops Q i (fun a' w' => S w' ∧ wpAnyR P md ops Q S n g f (listed.setIfInBounds i true) a' w') a w

theorem wpAny_of_R : ∀ (f : Nat) (listed : Array Bool) (a : Act) (w : World), wpAnyR P md ops Q S n g f listed a w → wpAny P md ops Q (g + f) listed a w
  | 0, _, _, _, h => h.2
  | f + 1, _, _, _, h => ⟨fun h0 => absurd h0 h.1, fun i hi => wpOp_mono (fun a' w' h' => wpAny_of_R f _ a' w' h'.2) (h.2 i hi).2⟩

theorem anyR_first {i : Nat} {oi : Oper} {v : Value} (hi : ops[i]? = some oi) (hsel : ∀ (j : Nat) (o : Oper) cs b, ops[j]? = some o → o.op ≠ .select cs b)
    (hQ : ∀ c a w, Q (.panic c) (a.put oi.dst v) w → Q (.panic c) a w) (hs : Region.sinkB md ops n = true) (hc : lateB md ops n = true) (hn : n < ops.size) (hin : i < n) :
    ∀ (f : Nat) (listed : Array Bool) (a : Act) (w : World), HeadInv md ops n listed →
      (∀ j oj, ops[j]? = some oj → j ≠ i → listed.getD j true = false → (∀ e ∈ oj.after, Region.binds md e = true → e.on ≠ i) → oi.apart ops oj = true) →
      i ∈ Region.ready md ops listed → YieldsIf P ops S oi v a → S w →
      wpAnyR P md ops Q S n g f (listed.setIfInBounds i true) (a.put oi.dst v) w → wpAnyR P md ops Q S n g (f + 1) listed a w := by
  intro f
  induction f with
  | zero =>
    intro listed a w inv _ hr hy hS H
    have hun := (mem_ready.1 hr).1
    refine ⟨fun h => (by rw [h] at hr; cases hr), fun j hj => ?_⟩
    have hjn : j < n := by
      rcases Nat.lt_or_ge j n with h | h
      · exact h
      · exact absurd hj (late_waits hs hc hn inv _ i rfl hin hun j h)
    refine ⟨hjn, ?_⟩
    by_cases hji : j = i
    · subst hji; exact hy.wpOp hi hS ⟨hS, H⟩
    · have := H.1 j (ready_mono hj hji)
      omega
  | succ f ih =>
    intro listed a w inv hfree hr hy hS H
    have hun := (mem_ready.1 hr).1
    refine ⟨fun h => (by rw [h] at hr; cases hr), fun j hj => ?_⟩
    have hjn : j < n := by
      rcases Nat.lt_or_ge j n with h | h
      · exact h
      · exact absurd hj (late_waits hs hc hn inv _ i rfl hin hun j h)
    refine ⟨hjn, ?_⟩
    by_cases hji : j = i
    · subst hji; exact hy.wpOp hi hS ⟨hS, H⟩
    · have h1 := (H.2 j (ready_mono hj hji)).2
      obtain ⟨hjun, oj, hoj, hall⟩ := mem_ready.1 hj
      have hnot : ∀ e ∈ oj.after, Region.binds md e = true → e.on ≠ i := fun e he hb heq => by
        have h2 := hall e he hb
        rw [heq, getD_both hun] at h2
        cases h2
      have h2 := wpOp_putIf hoj (hfree j oj hoj hji hjun hnot) (fun cs b => hsel i oi cs b hi) (fun cs b => hsel j oj cs b hoj) hQ hy h1
      refine wpOp_mono (fun a' w' h3 => ⟨h3.2.1, ih (listed.setIfInBounds j true) a' w' (inv.set hj hjn) (fun k ok hk hki hun hno => ?_) (ready_mono hr (Ne.symm hji)) h3.1 h3.2.1 ?_⟩) h2
      · refine hfree k ok hk hki ?_ hno
        by_cases hjk : j = k
        · subst hjk; exact hjun
        · rw [getD_set_ne true hjk] at hun; exact hun
      · rw [Array.setIfInBounds_comm _ _ hji]
        exact h3.2.2

/-- The side conditions, as one Bool. -/
def headB (md : Region.Mode) (ops : Array Oper) (n : Nat) (listed : Array Bool) (i : Nat) : Bool :=
  Region.noSelect ops && Region.sinkB md ops n && lateB md ops n && decide (n < ops.size) && decide (i < n) && decide (listed.size = ops.size) &&
    ((List.range ops.size).all fun j => !(listed.getD j false) || ((ops[j]?.map (·.after)).getD #[]).all fun e => !(Region.binds md e) || listed.getD e.on false) &&
    ((List.range ops.size).all fun t => decide (t < n) || !(listed.getD t true))

theorem anyR_take {i : Nat} {oi : Oper} {v : Value} {f : Nat} {listed : Array Bool} {a : Act} {w : World} (hi : ops[i]? = some oi) (hB : headB md ops n listed i = true)
    (hf : Region.free md ops listed i = true) (hr : (Region.ready md ops listed).contains i = true)
    (hQ : ∀ c a w, Q (.panic c) (a.put oi.dst v) w → Q (.panic c) a w) (hy : YieldsIf P ops S oi v a) (hS : S w)
    (h : wpAnyR P md ops Q S n g f (listed.setIfInBounds i true) (a.put oi.dst v) w) : wpAnyR P md ops Q S n g (f + 1) listed a w := by
  simp only [headB, Bool.and_eq_true, decide_eq_true_eq] at hB
  obtain ⟨⟨⟨⟨⟨⟨⟨h1, h2⟩, h3⟩, h4⟩, h5⟩, h6⟩, h7⟩, h8⟩ := hB
  refine anyR_first hi (Region.noSelect_spec h1) hQ h2 h3 h4 h5 f listed a w ⟨h6, fun j oj hj hl e he hb => ?_, fun t ht hts => ?_⟩ (Region.free_spec hi hf) (by simpa using hr) hy hS h
  · have hlt : j < ops.size := (Array.getElem?_eq_some_iff.1 hj).1
    have := List.all_eq_true.1 h7 j (List.mem_range.2 hlt)
    rw [hl, hj] at this
    simp only [Bool.not_true, Bool.false_or, Option.map_some, Option.getD_some] at this
    have := Array.all_eq_true_iff_forall_mem.1 this e he
    rw [hb] at this
    simpa using this
  · have := List.all_eq_true.1 h8 t (List.mem_range.2 hts)
    rw [decide_eq_false (by omega), Bool.false_or] at this
    simpa using this

/-- All that may come up next, one by one. -/
def AllReadyR (P : Program) (md : Region.Mode) (ops : Array Oper) (Q : Exit → Act → World → Prop) (S : World → Prop) (n g f : Nat) (listed : Array Bool) (a : Act) (w : World) (rs : List Nat) : Prop :=
  ∀ i ∈ rs, wpOp P ops Q i (fun a' w' => S w' ∧ wpAnyR P md ops Q S n g f (listed.setIfInBounds i true) a' w') a w
theorem AllReadyR.nil {f : Nat} {listed : Array Bool} {a : Act} {w : World} : AllReadyR P md ops Q S n g f listed a w [] := fun _ h => by cases h
theorem AllReadyR.cons {f : Nat} {listed : Array Bool} {a : Act} {w : World} {i : Nat} {o : Oper} {rs : List Nat} (ho : ops[i]? = some o)
    (h : ∀ K' : Act → World → Prop, Hid (∀ a w, S w → (S w → wpAnyR P md ops Q S n g f (listed.setIfInBounds i true) a w) → K' a w) → if Region.wanted o (yielded ops a.tmps) = true then Oper.wp P o a w K' Q else K' (a.put o.dst undef) w)
    (hs : AllReadyR P md ops Q S n g f listed a w rs) : AllReadyR P md ops Q S n g f listed a w (i :: rs) := fun j hj => by
  rcases List.mem_cons.1 hj with rfl | hj
  · exact wpOp_step ho (fun K' hK => h K' (Lib.hid (fun a w hS hW => hK a w ⟨hS, hW hS⟩)))
  · exact hs j hj
theorem anyR_ready {rs : List Nat} {f : Nat} {listed : Array Bool} {a : Act} {w : World} (hr : Region.ready md ops listed = rs) (hne : rs ≠ []) (hlt : ∀ i ∈ rs, i < n)
    (h : AllReadyR P md ops Q S n g f listed a w rs) : wpAnyR P md ops Q S n g (f + 1) listed a w :=
  ⟨fun h0 => hne (hr.symm.trans h0), fun i hi => by rw [hr] at hi; exact ⟨hlt i hi, h i hi⟩⟩
theorem anyR_end {listed : Array Bool} {a : Act} {w : World} (hr : ((Region.ready md ops listed).all fun j => decide (n ≤ j)) = true) (h : wpAny P md ops Q g listed a w) : wpAnyR P md ops Q S n g 0 listed a w :=
  ⟨fun j hj => of_decide_eq_true (List.all_eq_true.1 hr j hj), h⟩
theorem wp_region_R {id : Nat} {a : Act} {w : World} (n : Nat) (hm : P.follows .mixedOrders = true) (hn : n ≤ ops.size) (hS : S w.drew)
    (h : S w.drew → wpAnyR P .any ops Q S n (ops.size - n) n (Array.replicate ops.size false) a w.drew) : (Code.region id ops true).wp P Q a w := by
  refine wp_region_any hm ?_
  have := wpAny_of_R _ _ _ _ (h hS)
  rwa [show ops.size - n + n = ops.size by omega] at this
end
end Go.Proofs.YtfnfcngkaepnjaaGreatDoor

/- Rows of things of whatever kind that a call owns; append of one. -/
namespace Go.Proofs.YtfnfcngkaepnjaaGreatDoor
set_option linter.unusedVariables false
open Go Go.Proofs Go.RowKit

/-- A kind of rows: the slice's type, the element's, how many cells and bytes one has, its zero; its cells. -/
structure RowTy {α : Type} (t e : TypeId) (size bytes : Nat) (zero : Value) (enc : α → List Value) : Prop where
  ht : Tryz.prog.underlying t = some (.slice e)
  hi : (Tryz.prog.info? e).map (fun i => (i.zero, i.size, i.bytes)) = some (some zero, size, bytes)
  hzs : zero.cells.size = size
  hsz : 0 < size
  hby : bytes ≤ 100000
  len : ∀ x, (enc x).length = size
  one : ∀ x, ∀ u ∈ enc x, u.oneCell' = true

/-- A slice that the call owns, from block base on. -/
def OwnW {α : Type} (e : TypeId) (size : Nat) (enc : α → List Value) (base : Nat) (v : Value) (L : List α) (w : World) : Prop := w.ownsRowF base e size v L.length (L.flatMap enc)

section
variable {α : Type} {t e : TypeId} {size bytes : Nat} {zero : Value} {enc : α → List Value} {base : Nat} {v : Value} {L : List α} {w w' : World}

theorem OwnW.bel (h : OwnW e size enc base v L w) (hb : Below w.heap.size w w') : OwnW e size enc base v L w' := own_below h hb
theorem OwnW.base_le {base' : Nat} (h : OwnW e size enc base v L w) (hb : base' ≤ base) : OwnW e size enc base' v L w := own_base h hb
theorem OwnW.nil : OwnW e size enc base (.slice none 0 0) [] w := World.ownsRowF_nil _ _ _ _
theorem OwnW.slice (h : OwnW e size enc base v L w) (hn : 0 < L.length) : ∃ g cap, v = .slice (some ⟨g, 0, none⟩) L.length cap ∧ base ≤ g ∧ L.length ≤ cap ∧ cap ≤ maxLen ∧ g < w.heap.size := own_slice h hn
theorem OwnW.form (h : OwnW e size enc base v L w) : ∃ a c, v = .slice a L.length c := by
  rcases h.2 with ⟨rfl, hn⟩ | ⟨g, cap, cur, fz, rfl, _⟩
  · exact ⟨none, 0, by rw [hn]⟩
  · exact ⟨_, _, rfl⟩
theorem OwnW.lt (h : OwnW e size enc base v L w) (k : Nat) (hk : v.ownBlock = some k) : base ≤ k ∧ k < w.heap.size := by
  have := World.ownsRowF.lt h k hk
  exact this

theorem flatMap_at (hl : ∀ x, (enc x).length = size) : ∀ (L : List α) (k j : Nat) (x : α), L[k]? = some x → j < size → (L.flatMap enc)[k * size + j]? = (enc x)[j]?
  | [], k, j, x, h, _ => by simp at h
  | y :: L, 0, j, x, h, hj => by
    simp at h
    subst h
    rw [List.flatMap_cons, List.getElem?_append_left (by rw [hl]; omega)]
    simp
  | y :: L, k + 1, j, x, h, hj => by
    have h1 := flatMap_at hl L k j x (by simpa using h) hj
    rw [List.flatMap_cons, List.getElem?_append_right (by rw [hl, Nat.succ_mul]; omega), hl, show (k + 1) * size + j - size = k * size + j by rw [Nat.succ_mul]; omega]
    exact h1
theorem OwnW.cell {g cap n : Nat} (hl : ∀ x, (enc x).length = size) (h : OwnW e size enc base (.slice (some ⟨g, 0, none⟩) n cap) L w) (k j : Nat) (x : α) (u : Value) (hk : L[k]? = some x) (hj : (enc x)[j]? = some u) : w.cell? ⟨g, k * size + j, none⟩ = some u := by
  have hjs : j < size := by
    have := (List.getElem?_eq_some_iff.1 hj).1
    rwa [hl] at this
  have := h.cells (g := g) rfl (k * size + j) u (by rw [flatMap_at hl L k j x hk hjs]; exact hj)
  rwa [WideShapes.add_plain, Nat.zero_add] at this

theorem append_W_run (R : RowTy t e size bytes zero enc) (ty : TypeId) (h : OwnW e size enc base v L w) (g c : Nat) (x : α) (hx : ∀ j u, (enc x)[j]? = some u → w.cell? ⟨g, j, none⟩ = some u) (hn : L.length ≤ 1000000) (hbase : base ≤ w.heap.size) :
    ∃ v' w', (Builtin.append_ #[t, t] ty #[v, .slice (some ⟨g, 0, none⟩) 1 c]).run Tryz.prog w = .ok v' w' ∧ OwnW e size enc base v' (L ++ [x]) w' ∧ w.grownBy w' v.ownBlock := by
  obtain ⟨i0, hi0, hz0, hz1, hz2⟩ := info_of R.hi
  obtain ⟨v', w', r1, r2, r3, _⟩ := run_append_ownF (P := Tryz.prog) w base t ty e i0 zero size bytes R.ht hi0 hz0 hz1 hz2 R.hzs R.hsz v L.length (L.flatMap enc) h ⟨g, 0, none⟩ 1 c (enc x) (by rw [R.len, Nat.one_mul]) (by
    intro j u hj
    rw [WideShapes.add_plain, Nat.zero_add]
    exact hx j u hj) (R.one x) (by unfold maxLen; omega) (by have := R.hby; have h1 : (L.length + 1) * bytes ≤ 1000001 * 100000 := Nat.mul_le_mul (by omega) this; omega) hbase
  refine ⟨v', w', r1, ?_, r3⟩
  unfold OwnW
  rw [List.length_append, List.flatMap_append]
  simpa using r2

/-- Append of one, at a step of a region that draws its order. -/
theorem step_append_W (R : RowTy t e size bytes zero enc) {ops : Array Oper} {o : Oper} {a : Act} {K : Act → World → Prop} {Q : Exit → Act → World → Prop} {E : Prop} (hgd : o.guard = none) (s x : Operand)
    (ho : o.op = .call { callee := .builtin .append, args := #[s, x], argTypes := #[t, t] })
    (hs : a.eval s = v) (hown : OwnW e size enc base v L w) (g c : Nat) (y : α) (hx : a.eval x = .slice (some ⟨g, 0, none⟩) 1 c) (hy : ∀ j u, (enc y)[j]? = some u → w.cell? ⟨g, j, none⟩ = some u)
    (hn : L.length ≤ 1000000) (hbase : base ≤ w.heap.size)
    (h : ∀ v' w', OwnW e size enc base v' (L ++ [y]) w' → w.grownBy w' v.ownBlock → Below base w w' → K (a.put o.dst v') w') : if Region.wanted o (yielded ops a.tmps) = true then Oper.wp Tryz.prog o a w K Q else E := by
  have hw : Region.wanted o (yielded ops a.tmps) = true := by simp [Region.wanted, hgd]
  rw [if_pos hw]
  obtain ⟨v', w', r1, r2, r3⟩ := append_W_run R o.type hown g c y hy hn hbase
  unfold Oper.wp
  simp [execOp, ho, resolve, invoke, builtin, hs, hx, r1, Result.andThen]
  exact h v' w' r2 r3 ((Below.refl base w).grown r3 hbase (fun k hk => (hown.lt k hk).1))
theorem append_W (R : RowTy t e size bytes zero enc) {ops : Array Oper} {rest : List Oper} {o : Oper} {a : Act} {Q : Exit → Act → World → Prop} (hgd : o.guard = none) (s x : Operand)
    (ho : o.op = .call { callee := .builtin .append, args := #[s, x], argTypes := #[t, t] })
    (hs : a.eval s = v) (hown : OwnW e size enc base v L w) (g c : Nat) (y : α) (hx : a.eval x = .slice (some ⟨g, 0, none⟩) 1 c) (hy : ∀ j u, (enc y)[j]? = some u → w.cell? ⟨g, j, none⟩ = some u)
    (hn : L.length ≤ 1000000) (hbase : base ≤ w.heap.size)
    (h : ∀ v' w', OwnW e size enc base v' (L ++ [y]) w' → w.grownBy w' v.ownBlock → Below base w w' → wpList Tryz.prog ops Q rest (a.put o.dst v') w') : wpList Tryz.prog ops Q (o :: rest) a w := by
  refine wpList_plain hgd fun K hK => ?_
  obtain ⟨v', w', r1, r2, r3⟩ := append_W_run R o.type hown g c y hy hn hbase
  unfold Oper.wp
  simp [execOp, ho, resolve, invoke, builtin, hs, hx, r1, Result.andThen]
  exact hK _ _ (h v' w' r2 r3 ((Below.refl base w).grown r3 hbase (fun k hk => (hown.lt k hk).1)))

theorem OwnW.touch {T : Nat → Prop} (h : OwnW e size enc base v L w) (ht : Touch T w w') (hn : ∀ g, v.ownBlock = some g → ¬ T g) : OwnW e size enc base v L w' := by
  refine ⟨h.1, ?_⟩
  rcases h.2 with h0 | ⟨g, cap, cur, fz, rfl, hbg, hg, rest⟩
  · exact .inl h0
  · refine .inr ⟨g, cap, cur, fz, rfl, hbg, ?_, rest⟩
    rw [ht.same g (Array.getElem?_eq_some_iff.1 hg).1 (hn g rfl)]
    exact hg
/-- Rows of things of two kinds share no block. -/
theorem OwnW.apart {β : Type} {e2 : TypeId} {size2 base2 : Nat} {enc2 : β → List Value} {v2 : Value} {L2 : List β} (h : OwnW e size enc base v L w) (h2 : OwnW e2 size2 enc2 base2 v2 L2 w) (hne : e ≠ e2) : ∀ g, v.ownBlock = some g → ¬ v2.ownBlock = some g := by
  intro g hg hg2
  rcases h.2 with ⟨rfl, _⟩ | ⟨g1, cap, cur, fz, rfl, _, hh, _⟩
  · cases hg
  · rcases h2.2 with ⟨rfl, _⟩ | ⟨g2, cap2, cur2, fz2, rfl, _, hh2, _⟩
    · cases hg2
    · simp only [Value.ownBlock, Option.some.injEq] at hg hg2
      subst hg
      subst hg2
      rw [hh] at hh2
      simp only [Option.some.injEq, Obj.cells.injEq] at hh2
      exact hne hh2.2.1
end
end Go.Proofs.YtfnfcngkaepnjaaGreatDoor

/- Programs, plain; programs that lie in memory; rows of things that are read. -/
namespace Go.Proofs.YtfnfcngkaepnjaaGreatDoor
set_option linter.unusedVariables false
set_option linter.unusedSimpArgs false
open Go Go.Proofs Go.RowKit

/-- An instruction, a function, a program. -/
structure InsM where
  op : Int
  a : Int
  b : Int
  c : Int
  m : Int
deriving DecidableEq
structure FnM where
  regs : Int
  code : List InsM
deriving DecidableEq
structure ProgM where
  funcs : List FnM
  mu : Int
  rw : Int
  gr : Int
deriving DecidableEq

section
variable {α : Type} {size : Nat} {enc : α → List Value} {w w' : World} {v : Value} {L : List α}
/-- Things that lie one behind the other. -/
def HasW (size : Nat) (enc : α → List Value) (w : World) (b o : Nat) (L : List α) : Prop := ∀ k j x u, L[k]? = some x → (enc x)[j]? = some u → w.cell? ⟨b, o + k * size + j, none⟩ = some u
/-- A slice of things, readable: nil, or some. -/
def ArgW (size : Nat) (enc : α → List Value) (w : World) (v : Value) (L : List α) : Prop :=
  (v = .slice none 0 0 ∧ L = []) ∨ ∃ ad c, v = .slice (some ad) L.length c ∧ L.length ≤ c ∧ c ≤ 9223372036854775807 ∧ (L ≠ [] → ∃ b o, ad = ⟨b, o, none⟩ ∧ HasW size enc w b o L)
theorem HasW.bel {b o : Nat} (h : HasW size enc w b o L) (hb : Below w.heap.size w w') : HasW size enc w' b o L := fun k j x u hk hj => cell_bel (h k j x u hk hj) hb
theorem HasW.touch {b o : Nat} {T : Nat → Prop} (h : HasW size enc w b o L) (hb : Touch T w w') (hn : ¬ T b) : HasW size enc w' b o L := fun k j x u hk hj => cell_touch (h k j x u hk hj) hb hn
theorem ArgW.bel (h : ArgW size enc w v L) (hb : Below w.heap.size w w') : ArgW size enc w' v L := by
  rcases h with h | ⟨ad, c, h1, h2, h3, h4⟩
  · exact Or.inl h
  · exact Or.inr ⟨ad, c, h1, h2, h3, fun hn => by obtain ⟨b, o, e, hB⟩ := h4 hn; exact ⟨b, o, e, hB.bel hb⟩⟩
theorem ArgW.form (h : ArgW size enc w v L) : ∃ a c, v = .slice a L.length c := by
  rcases h with ⟨rfl, rfl⟩ | ⟨ad, c, rfl, _⟩
  · exact ⟨none, 0, rfl⟩
  · exact ⟨some ad, c, rfl⟩
theorem ArgW.len (h : ArgW size enc w v L) : L.length ≤ 9223372036854775807 := by
  rcases h with ⟨_, rfl⟩ | ⟨ad, c, _, h1, h2, _⟩
  · simp
  · omega
/-- Where one of them lies. -/
theorem ArgW.at_ (h : ArgW size enc w v L) {k : Nat} {x : α} (hk : L[k]? = some x) : ∃ b o c, v = .slice (some ⟨b, o, none⟩) L.length c ∧ L.length ≤ c ∧ HasW size enc w b o L := by
  rcases h with ⟨rfl, rfl⟩ | ⟨ad, c, rfl, h1, h2, h3⟩
  · simp at hk
  · obtain ⟨b, o, rfl, hH⟩ := h3 (by rintro rfl; simp at hk)
    exact ⟨b, o, c, rfl, h1, hH⟩
theorem OwnW.arg {e : TypeId} {base : Nat} (hl : ∀ x, (enc x).length = size) (h : OwnW e size enc base v L w) : ArgW size enc w v L := by
  rcases h.2 with ⟨rfl, h0⟩ | ⟨g, cap, cur, fz, rfl, hb, hg, _, hc, hm, _⟩
  · exact Or.inl ⟨rfl, List.eq_nil_of_length_eq_zero h0⟩
  · refine Or.inr ⟨_, cap, rfl, hc, by unfold maxLen at hm; omega, fun _ => ⟨g, 0, rfl, fun k j x u hk hj => ?_⟩⟩
    rw [Nat.zero_add]
    exact OwnW.cell hl h k j x u hk hj
end

abbrev encN (x : InsM) : List Value := [.int .i64 x.op, .int .i64 x.a, .int .i64 x.b, .int .i64 x.c, .int .u32 x.m]
/-- A function's cells: its registers, its code's slice. -/
abbrev encF (x : Int × Value) : List Value := [.int .i64 x.1, x.2]
/-- Functions that lie in memory; R: their cells. -/
structure FnsR (w : World) (R : List (Int × Value)) (F : List FnM) : Prop where
  len : R.length = F.length
  fn : ∀ (k : Nat) r f, R[k]? = some r → F[k]? = some f → r.1 = f.regs ∧ ArgW 5 encN w r.2 f.code
theorem FnsR.bel {w w' : World} {R : List (Int × Value)} {F : List FnM} (h : FnsR w R F) (hb : Below w.heap.size w w') : FnsR w' R F :=
  ⟨h.len, fun k r f hr hf => ⟨(h.fn k r f hr hf).1, (h.fn k r f hr hf).2.bel hb⟩⟩
theorem FnsR.at_ {w : World} {R : List (Int × Value)} {F : List FnM} (h : FnsR w R F) {k : Nat} {f : FnM} (hf : F[k]? = some f) : ∃ vc, R[k]? = some (f.regs, vc) ∧ ArgW 5 encN w vc f.code := by
  have hk : k < R.length := by rw [h.len]; exact (List.getElem?_eq_some_iff.1 hf).1
  obtain ⟨h1, h2⟩ := h.fn k _ f (List.getElem?_eq_getElem hk) hf
  exact ⟨R[k].2, by rw [List.getElem?_eq_getElem hk, ← h1], h2⟩
/-- A slice of functions. -/
def ArgF (w : World) (v : Value) (F : List FnM) : Prop := ∃ R, ArgW 2 encF w v R ∧ FnsR w R F
theorem ArgF.bel {w w' : World} {v : Value} {F : List FnM} (h : ArgF w v F) (hb : Below w.heap.size w w') : ArgF w' v F := by
  obtain ⟨R, h1, h2⟩ := h
  exact ⟨R, h1.bel hb, h2.bel hb⟩
theorem ArgF.form {w : World} {v : Value} {F : List FnM} (h : ArgF w v F) : ∃ a c, v = .slice a F.length c := by
  obtain ⟨R, h1, h2⟩ := h
  rw [← h2.len]
  exact h1.form
theorem ArgF.len {w : World} {v : Value} {F : List FnM} (h : ArgF w v F) : F.length ≤ 9223372036854775807 := by
  obtain ⟨R, h1, h2⟩ := h
  rw [← h2.len]
  exact h1.len
/-- What one function's cells hold. -/
theorem ArgF.at_ {w : World} {v : Value} {F : List FnM} (h : ArgF w v F) {k : Nat} {f : FnM} (hf : F[k]? = some f) :
    ∃ b o c vc, v = .slice (some ⟨b, o, none⟩) F.length c ∧ F.length ≤ c ∧ w.cell? ⟨b, o + k * 2, none⟩ = some (.int .i64 f.regs) ∧ w.cell? ⟨b, o + k * 2 + 1, none⟩ = some vc ∧ ArgW 5 encN w vc f.code := by
  obtain ⟨R, h1, h2⟩ := h
  obtain ⟨vc, hr, hc⟩ := h2.at_ hf
  obtain ⟨b, o, c, rfl, h3, hH⟩ := h1.at_ hr
  exact ⟨b, o, c, vc, by rw [h2.len], by rw [← h2.len]; exact h3, hH k 0 _ _ hr rfl, hH k 1 _ _ hr rfl, hc⟩
/-- What one instruction's cells hold. -/
theorem code_at {w : World} {v : Value} {L : List InsM} (h : ArgW 5 encN w v L) {k : Nat} {x : InsM} (hx : L[k]? = some x) :
    ∃ b o c, v = .slice (some ⟨b, o, none⟩) L.length c ∧ L.length ≤ c ∧ w.cell? ⟨b, o + k * 5, none⟩ = some (.int .i64 x.op) ∧ w.cell? ⟨b, o + k * 5 + 1, none⟩ = some (.int .i64 x.a) ∧ w.cell? ⟨b, o + k * 5 + 2, none⟩ = some (.int .i64 x.b) ∧ w.cell? ⟨b, o + k * 5 + 3, none⟩ = some (.int .i64 x.c) ∧ w.cell? ⟨b, o + k * 5 + 4, none⟩ = some (.int .u32 x.m) := by
  obtain ⟨b, o, c, rfl, h3, hH⟩ := h.at_ hx
  exact ⟨b, o, c, rfl, h3, hH k 0 _ _ hx rfl, hH k 1 _ _ hx rfl, hH k 2 _ _ hx rfl, hH k 3 _ _ hx rfl, hH k 4 _ _ hx rfl⟩

/-- A program's value. -/
abbrev progV (vf : Value) (mu rw gr : Int) : Value := .agg #[vf, .int .i64 mu, .int .i64 rw, .int .i64 gr]
def ArgP (w : World) (v : Value) (P : ProgM) : Prop := ∃ vf, v = progV vf P.mu P.rw P.gr ∧ ArgF w vf P.funcs
theorem ArgP.bel {w w' : World} {v : Value} {P : ProgM} (h : ArgP w v P) (hb : Below w.heap.size w w') : ArgP w' v P := by
  obtain ⟨vf, h1, h2⟩ := h
  exact ⟨vf, h1, h2.bel hb⟩

/-- The words of what may be: numbers. -/
structure ProgM.Fits (P : ProgM) : Prop where
  imm : ∀ f ∈ P.funcs, ∀ x ∈ f.code, 0 ≤ x.m ∧ x.m < 4294967296

/-- A number, and what it may be. -/
structure BndM where
  n : Int
  least : Int
  most : Int
abbrev encB (x : BndM) : List Value := [.int .i64 x.n, .int .i64 x.least, .int .i64 x.most]
def inB (x : BndM) : Bool := decide (x.least ≤ x.n) && decide (x.n ≤ x.most)
/-- The bounds of a function; of a program. -/
def bndsF (f : FnM) : List BndM := [⟨f.regs, 1, 16⟩, ⟨f.code.length, 1, 512⟩]
def bndsP (P : ProgM) : List BndM := [⟨P.funcs.length, 1, 32⟩, ⟨P.mu, 0, 64⟩, ⟨P.rw, 0, 64⟩, ⟨P.gr, 0, 64⟩] ++ P.funcs.flatMap bndsF
/-- May a program's numbers be? -/
def numbersF (P : ProgM) : Bool := (bndsP P).all inB
end Go.Proofs.YtfnfcngkaepnjaaGreatDoor
