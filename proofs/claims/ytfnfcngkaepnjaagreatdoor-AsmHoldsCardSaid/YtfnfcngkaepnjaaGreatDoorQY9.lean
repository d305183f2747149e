/- Joined texts: Law: a region that draws: its first n operations read or call quietly, in whatever order; what stands behind them waits for one of its own.; must; a reader's next number. -/
import Derived.Test.YtfnfcngkaepnjaaGreatDoorQY1
import Derived.Test.YtfnfcngkaepnjaaGreatDoorQY8
import Derived.RegionDies
/- Law: a region that draws: its first n operations read or call quietly, in whatever order; what stands behind them waits for one of its own. -/
namespace Go.Proofs.YtfnfcngkaepnjaaGreatDoor
set_option linter.unusedVariables false
open Go Go.Proofs Go.RowKit

section
variable {P : Program} {ops : Array Oper} {md : Region.Mode} {w : World}

/-- What stands behind n waits for one that stands at n or behind it. -/
def lateB (md : Region.Mode) (ops : Array Oper) (n : Nat) : Bool :=
  (List.range ops.size).all fun t => decide (t ≤ n) || (List.range t).any fun i => decide (n ≤ i) && Region.waitsFor md ops t i

theorem late_waits {n : Nat} {listed : Array Bool} (hs : Region.sinkB md ops n = true) (hc : lateB md ops n = true) (hn : n < ops.size) (inv : HeadInv md ops n listed) :
    ∀ (d i : Nat), n - i = d → i < n → listed.getD i true = false → ∀ t, n ≤ t → t ∉ Region.ready md ops listed := by
  intro d
  induction d using Nat.strongRecOn with
  | _ d ih =>
    intro i hd hi hun t ht hr
    obtain ⟨_, ot, hot, hall⟩ := mem_ready.1 hr
    have htlt : t < ops.size := (Array.getElem?_eq_some_iff.1 hot).1
    by_cases htn : t = n
    · subst htn
      have h1 := List.all_eq_true.1 hs i (List.mem_range.2 hi)
      obtain ⟨j, hj, hj2⟩ := List.any_eq_true.1 h1
      simp only [Bool.and_eq_true, decide_eq_true_eq] at hj2
      obtain ⟨oj, hoj, e, he, hb, hon⟩ := Region.waitsFor_spec hj2.2
      have hjle : j ≤ t := by have := List.mem_range.1 hj; omega
      by_cases hjt : j = t
      · subst hjt
        have : oj = ot := Option.some.inj (hoj.symm.trans hot)
        subst this
        have h2 := hall e he hb
        rw [hon, getD_both hun] at h2
        cases h2
      · cases hl : listed.getD j false with
        | true =>
          have h2 := inv.closed j oj hoj hl e he hb
          rw [hon, getD_both hun] at h2
          cases h2
        | false =>
          have hjs : j < listed.size := by rw [inv.size]; omega
          exact ih (t - j) (by omega) j rfl (by omega) (getD_in hjs hl) t (Nat.le_refl _) hr
    · have h1 := List.all_eq_true.1 hc t (List.mem_range.2 htlt)
      simp only [Bool.or_eq_true, decide_eq_true_eq] at h1
      rcases h1 with h1 | h1
      · omega
      · obtain ⟨j, hj, hj2⟩ := List.any_eq_true.1 h1
        simp only [Bool.and_eq_true, decide_eq_true_eq] at hj2
        have hjt : j < t := List.mem_range.1 hj
        obtain ⟨o', ho', e, he, hb, hon⟩ := Region.waitsFor_spec hj2.2
        have : o' = ot := Option.some.inj (ho'.symm.trans hot)
        subst this
        have h2 := hall e he hb
        rw [hon, getD_both (inv.tail j hj2.1 (by omega))] at h2
        cases h2

theorem anyL_first {n i : Nat} {oi : Oper} {v : Value} {L : Array Bool → Act → Prop} (hi : ops[i]? = some oi) (hsel : ∀ (j : Nat) (o : Oper) cs b, ops[j]? = some o → o.op ≠ .select cs b)
    (hs : Region.sinkB md ops n = true) (hc : lateB md ops n = true) (hn : n < ops.size) (hin : i < n)
    (hdone : ∀ listed a, L listed a → ∀ j ∈ Region.ready md ops listed, n ≤ j) :
    ∀ (f : Nat) (listed : Array Bool) (a : Act), HeadInv md ops n listed →
      (∀ j oj, ops[j]? = some oj → j ≠ i → listed.getD j true = false → (∀ e ∈ oj.after, Region.binds md e = true → e.on ≠ i) → oi.apart ops oj = true) →
      i ∈ Region.ready md ops listed → YieldsAt P ops w oi v a →
      wpAnyL P md ops w n L f (listed.setIfInBounds i true) (a.put oi.dst v) → wpAnyL P md ops w n L (f + 1) listed a := by
  intro f
  induction f with
  | zero =>
    intro listed a inv _ hr hy H
    have hun := (mem_ready.1 hr).1
    refine ⟨fun h => (by rw [h] at hr; cases hr), fun j hj => ?_⟩
    have hjn : j < n := by
      rcases Nat.lt_or_ge j n with h | h
      · exact h
      · exact absurd hj (late_waits hs hc hn inv _ i rfl hin hun j h)
    refine ⟨hjn, ?_⟩
    by_cases hji : j = i
    · subst hji; exact hy.stOp hi H
    · have := hdone _ _ H j (ready_mono hj hji)
      omega
  | succ f ih =>
    intro listed a inv hfree hr hy H
    have hun := (mem_ready.1 hr).1
    refine ⟨fun h => (by rw [h] at hr; cases hr), fun j hj => ?_⟩
    have hjn : j < n := by
      rcases Nat.lt_or_ge j n with h | h
      · exact h
      · exact absurd hj (late_waits hs hc hn inv _ i rfl hin hun j h)
    refine ⟨hjn, ?_⟩
    by_cases hji : j = i
    · subst hji; exact hy.stOp hi H
    · have h1 := (H.2 j (ready_mono hj hji)).2
      obtain ⟨hjun, oj, hoj, hall⟩ := mem_ready.1 hj
      have hnot : ∀ e ∈ oj.after, Region.binds md e = true → e.on ≠ i := fun e he hb heq => by
        have h1 := hall e he hb
        rw [heq, getD_both hun] at h1
        cases h1
      have h2 := stOp_put hoj (hfree j oj hoj hji hjun hnot) (fun cs b => hsel i oi cs b hi) (fun cs b => hsel j oj cs b hoj) hy h1
      have hfree' : ∀ k ok, ops[k]? = some ok → k ≠ i → (listed.setIfInBounds j true).getD k true = false →
          (∀ e ∈ ok.after, Region.binds md e = true → e.on ≠ i) → oi.apart ops ok = true := fun k ok hk hki hun hno => by
        refine hfree k ok hk hki ?_ hno
        by_cases hjk : j = k
        · subst hjk; exact hjun
        · rw [getD_set_ne true hjk] at hun; exact hun
      refine stOp_mono (fun a' h3 => ih (listed.setIfInBounds j true) a' (inv.set hj hjn) hfree' (ready_mono hr (Ne.symm hji)) h3.1 ?_) h2
      rw [Array.setIfInBounds_comm _ _ hji]
      exact h3.2

/-- The first ones one by one, each of them free; then D is what is listed. -/
def lexUpto (md : Region.Mode) (ops : Array Oper) (n : Nat) (D : Array Bool) : Nat → Nat → Array Bool → Bool
  | 0, _, listed => decide (listed = D) && (Region.ready md ops listed).all fun j => decide (n ≤ j)
  | f + 1, k, listed => (Region.ready md ops listed).contains k && Region.free md ops listed k && lexUpto md ops n D f (k + 1) (listed.setIfInBounds k true)

def lexLateB (md : Region.Mode) (ops : Array Oper) (n : Nat) (D : Array Bool) : Bool :=
  Region.noSelect ops && decide (n < ops.size) && Region.sinkB md ops n && lateB md ops n && lexUpto md ops n D n 0 (Array.replicate ops.size false)

theorem anyL_lex {n : Nat} {D : Array Bool} {Lq : Act → Prop} (hsel : Region.noSelect ops = true) (hs : Region.sinkB md ops n = true) (hc : lateB md ops n = true) (hn : n < ops.size)
    (hD : ∀ j ∈ Region.ready md ops D, n ≤ j) :
    ∀ (l : List Oper) (k : Nat) (listed : Array Bool) (a : Act), (∀ j, j < l.length → l[j]? = ops[k + j]?) → k + l.length = n → HeadInv md ops n listed →
    lexUpto md ops n D l.length k listed = true → wpStill P ops w Lq l a →
    wpAnyL P md ops w n (fun listed' a' => listed' = D ∧ Lq a') l.length listed a
  | [], k, listed, a, _, hk, _, hB, h => by
    simp only [List.length_nil, lexUpto, Bool.and_eq_true, decide_eq_true_eq] at hB
    exact ⟨hB.1, h⟩
  | o :: l, k, listed, a, hl, hk, inv, hB, h => by
    have h0 : ops[k]? = some o := by simpa using (hl 0 (by simp)).symm
    simp only [List.length_cons, lexUpto, Bool.and_eq_true] at hB
    obtain ⟨⟨hr, hf⟩, hB'⟩ := hB
    have hkn : k < n := by simp only [List.length_cons] at hk; omega
    have hr' : k ∈ Region.ready md ops listed := by simpa using hr
    have hst : stOp P ops w k (wpStill P ops w Lq l) a := by unfold stOp; simp only [h0]; exact h
    obtain ⟨v, hy, hK⟩ := yieldsAt_of_stOp h0 hst
    exact anyL_first h0 (Region.noSelect_spec hsel) hs hc hn hkn (fun listed' a' hL => by rw [hL.1]; exact hD) l.length listed a inv (Region.free_spec h0 hf) hr' hy
      (anyL_lex hsel hs hc hn hD l (k + 1) _ _ (fun j hj => by have := hl (j + 1) (by simp; omega); simpa [Nat.add_assoc, Nat.add_comm 1 j] using this) (by simp only [List.length_cons] at hk; omega) (inv.set hr' hkn) hB' hK)

theorem lexUpto_end {n : Nat} {D : Array Bool} : ∀ (f k : Nat) (listed : Array Bool), lexUpto md ops n D f k listed = true → ∀ j ∈ Region.ready md ops D, n ≤ j
  | 0, k, listed, h => by
    simp only [lexUpto, Bool.and_eq_true, decide_eq_true_eq] at h
    intro j hj
    rw [← h.1] at hj
    simpa using List.all_eq_true.1 h.2 j hj
  | f + 1, k, listed, h => by
    simp only [lexUpto, Bool.and_eq_true] at h
    exact lexUpto_end f _ _ h.2
end

/-- A region that draws: n operations that read or call quietly, in whatever order; then the rest, from the drawn world on, under a name; D: those n are listed. -/
theorem wp_region_late {P : Program} {id : Nat} {Q : Exit → Act → World → Prop} {a : Act} {w : World} {l : List Oper} (n : Nat) (D : Array Bool) (hm : P.follows .mixedOrders = true) (hB : lexLateB .any l.toArray n D = true)
    (h : ∀ W, w.drew = W → wpStill P l.toArray W (fun a' => wpAny P .any l.toArray Q (l.toArray.size - n) D a' W) (l.take n) a) : (Code.region id l.toArray true).wp P Q a w := by
  simp only [lexLateB, Bool.and_eq_true, decide_eq_true_eq] at hB
  obtain ⟨⟨⟨⟨hsel, hn⟩, hs⟩, hc⟩, hlex⟩ := hB
  have hn' : n < l.length := by simpa using hn
  have htl : (l.take n).length = n := by simp; omega
  have inv0 : HeadInv .any l.toArray n (Array.replicate l.toArray.size false) :=
    ⟨by simp, fun j oj _ hl => (by rw [getD_replicate_false] at hl; cases hl), fun t _ ht => getD_in (by simpa using ht) (getD_replicate_false _ _)⟩
  have H := anyL_lex (md := .any) hsel hs hc hn (lexUpto_end _ _ _ hlex) (l.take n) 0 _ a (fun j hj => by
    have hj' : j < n := by rw [htl] at hj; exact hj
    simp [hj']) (by simpa using htl) inv0 (by rw [htl]; exact hlex) (h _ rfl)
  refine wp_region_any hm ?_
  have := wpAny_of_head (Q' := Q) (g := l.toArray.size - n) (fun listed a' hL => by
    obtain ⟨rfl, hL⟩ := hL
    exact hL) _ _ _ H
  rw [htl, show n + (l.toArray.size - n) = l.toArray.size by omega] at this
  exact this

end Go.Proofs.YtfnfcngkaepnjaaGreatDoor

/- must; a reader's next number. -/
namespace Go.Proofs.YtfnfcngkaepnjaaGreatDoor
set_option linter.unusedVariables false
open Go Go.Proofs Go.RowKit

theorem must_yes (n : Int) (w : World) : Calls Tryz.prog 94 #[.bool true, .int .i64 n] w fun e w' => e = .returned (.tuple #[]) ∧ w = w' := by
  go_enter Tryz.func94, Tryz.ntmps94
  go_wp2
  go_end0
  exact ⟨rfl, rfl⟩

/-- What is given up with. -/
abbrev gaveUp (n : Int) : Ending := .panicked [{ v := .iface 38 (.int .i64 n), recovered := false }]
theorem must_no (n : Int) (w : World) : Calls Tryz.prog 94 #[.bool false, .int .i64 n] w fun e w' => e = gaveUp n ∧ w = w' := by
  go_enter Tryz.func94, Tryz.ntmps94
  go_wp2
  exact ⟨rfl, rfl, rfl⟩

theorem left_any (a : Option Addr) (n c : Nat) (i m : Int) (hn : n ≤ 9223372036854775807) (hi : 0 ≤ i ∧ i ≤ n) (w : World) :
    Calls Tryz.prog 157 #[.agg #[.slice a n c], .int .i64 i, .int .i64 m] w fun e w' => e = .returned (.bool (decide (m ≤ n - i))) ∧ Below w.heap.size w w' := by
  go_enter Tryz.func157, Tryz.ntmps157
  go_wp2
  go_ret
  exact ⟨rfl, bel1 _⟩

/-- A reader that lies in a block: its bytes, and how many were read. -/
structure Rdr (R : Nat) (l : List Nat) (at_ : Nat) (w : World) : Prop where
  c0 : ∃ a c, w.cell? ⟨R, 0, none⟩ = some (.slice a l.length c) ∧ ArgB w (.slice a l.length c) l
  c1 : w.cell? ⟨R, 1, none⟩ = some (.int .i64 at_)
  f1 : w.frozen? ⟨R, 1, none⟩ = false
theorem Rdr.bel {R : Nat} {l : List Nat} {i : Nat} {w w' : World} (h : Rdr R l i w) (hb : Below w.heap.size w w') : Rdr R l i w' := by
  obtain ⟨a, c, h1, h2⟩ := h.c0
  exact ⟨⟨a, c, cell_bel h1 hb, h2.bel hb⟩, cell_bel h.c1 hb, froz_bel h.c1 h.f1 hb⟩
theorem Rdr.drew {R : Nat} {l : List Nat} {i : Nat} {w : World} (h : Rdr R l i w) : Rdr R l i w.drew := h.bel (Below.refl _ _).drew

set_option maxRecDepth 100000 in
set_option maxHeartbeats 2000000 in
theorem number_no (R : Nat) (l : List Nat) (i k : Nat) (hl : l.length ≤ 9223372036854775807) (hi : i ≤ l.length) (hk : l.length < i + k) (w : World) (hR : Rdr R l i w) :
    Calls Tryz.prog 101 #[.pointer (some ⟨R, 0, none⟩), .int .i64 k] w fun e w' => e = gaveUp 110 ∧ Below w.heap.size w w' := by
  obtain ⟨⟨a, c, c0, hA⟩, c1, _⟩ := hR
  have CL := Lib.hid fun W => (by
    have := left_any a l.length c i k hl ⟨by omega, by omega⟩ W
    rw [show decide ((k : Int) ≤ (l.length : Int) - (i : Int)) = false by simp; omega] at this
    exact this : Calls Tryz.prog 157 #[.agg #[.slice a l.length c], .int .i64 i, .int .i64 k] W fun e w' => e = .returned (.bool false) ∧ Below W.heap.size W w')
  clear hl hi hk hA
  go_enter Tryz.func101, Tryz.ntmps101
  go_wp2_with fail
  have d0 : w.drew.cell? ⟨R, 0, none⟩ = some (.slice a l.length c) := c0
  have d1 : w.drew.cell? ⟨R, 1, none⟩ = some (.int .i64 i) := c1
  go_region_dies
  all_goals refine (CL.out _).mono ?_
  all_goals rintro e w1 ⟨rfl, hb1⟩
  all_goals go_wp2_with fail
  all_goals refine wpAny_ready (rs := [10]) (by kernel_rfl) (by simp) ?_
  all_goals refine AllReady.cons rfl (fun K hK => ?_) AllReady.nil
  all_goals go_simp
  all_goals refine (must_no 110 _).mono ?_
  all_goals rintro e w2 ⟨rfl, rfl⟩
  all_goals go_wp2_with fail
  all_goals exact ⟨rfl, rfl, ((Below.refl _ _).drew.trans hb1)⟩

set_option maxRecDepth 100000 in
set_option maxHeartbeats 4000000 in
theorem number_yes (R : Nat) (l : List Nat) (i k : Nat) (hl : l.length ≤ 9223372036854775807) (hk1 : k = 1 ∨ k = 2 ∨ k = 4 ∨ k = 8) (hk : i + k ≤ l.length) (w : World) (hR : Rdr R l i w) :
    Calls Tryz.prog 101 #[.pointer (some ⟨R, 0, none⟩), .int .i64 k] w fun e w' =>
      e = .returned (.int .u64 (leN (l.drop i) k)) ∧ ∃ w1, Below w.heap.size w w1 ∧ w' = w1.setCell ⟨R, 1, none⟩ (.int .i64 (i + k : Nat)) := by
  have hR0 := Lib.hid hR
  obtain ⟨⟨a, c, c0, hA⟩, c1, f1⟩ := hR
  obtain ⟨ad, hca, hlc, hcm, b, o, rfl, hB⟩ : ∃ ad, a = some ad ∧ l.length ≤ c ∧ c ≤ 9223372036854775807 ∧ ∃ b o, ad = ⟨b, o, none⟩ ∧ HasB w b o l := by
    rcases hA with ⟨h, rfl⟩ | ⟨ad, c', h, h1, h2, h3⟩
    · simp at hk; omega
    · cases h
      exact ⟨ad, rfl, h1, h2, h3 (by intro e; rw [e] at hk; simp at hk; omega)⟩
  subst hca
  have CL := Lib.hid fun W => (by
    have := left_any (some ⟨b, o, none⟩) l.length c i k hl ⟨by omega, by omega⟩ W
    rw [show decide ((k : Int) ≤ (l.length : Int) - (i : Int)) = true by simp; omega] at this
    exact this : Calls Tryz.prog 157 #[.agg #[.slice (some ⟨b, o, none⟩) l.length c], .int .i64 i, .int .i64 k] W fun e w' => e = .returned (.bool true) ∧ Below W.heap.size W w')
  have CR := Lib.hid fun W h => readFixed_yes k hk1 b (o + i) (c - i) (l.drop i) (by rw [List.length_drop]; omega) (by rw [List.length_drop]; omega) (by omega) W h
  have hB' := Lib.hid (hB.drop i)
  have hi0 : (0 : Int) ≤ (i : Int) := by omega
  have hil : (i : Int) < (l.length : Int) := by omega
  have hilc : (i : Int) < (c : Int) := by omega
  have hsl := slice_from b o l.length c i (by omega) (by omega)
  have hbound := Lib.hid hk
  rw [List.length_drop] at CR
  generalize leN (l.drop i) k = x at CR ⊢
  clear hA hB hk1
  go_enter Tryz.func101, Tryz.ntmps101
  go_wp2_with fail
  have d0 : w.drew.cell? ⟨R, 0, none⟩ = some (.slice (some ⟨b, o, none⟩) l.length c) := c0
  have d1 : w.drew.cell? ⟨R, 1, none⟩ = some (.int .i64 i) := c1
  refine wp_region_late 9 #[true, true, true, true, true, true, true, true, true, false, false] (by kernel_rfl) (by kernel_rfl) ?_
  intro W hW
  have e0 : W.cell? ⟨R, 0, none⟩ = some (.slice (some ⟨b, o, none⟩) l.length c) := by rw [← hW]; exact c0
  have e1 : W.cell? ⟨R, 1, none⟩ = some (.int .i64 i) := by rw [← hW]; exact c1
  have ef : W.frozen? ⟨R, 1, none⟩ = false := by rw [← hW]; exact f1
  have hBW : Below w.heap.size w W := by rw [← hW]; exact (Below.refl _ _).drew
  clear hW d0 d1
  simp only [List.take_succ_cons, List.take_zero]
  repeat still_step
  refine wpStill_nil ?_
  simp only [List.size_toArray, List.length_cons, List.length_nil, Nat.reduceAdd, Nat.reduceSub]
  refine wpAny_ready (rs := [9]) (by kernel_rfl) (by simp) ?_
  refine AllReady.cons rfl (fun K hK => ?_) AllReady.nil
  go_simp
  refine (CL.out _).mono ?_
  rintro e w1 ⟨rfl, hb1⟩
  go_wp2_with fail
  refine wpAny_ready (rs := [10]) (by kernel_rfl) (by simp) ?_
  refine AllReady.cons rfl (fun K hK => ?_) AllReady.nil
  go_simp
  refine (must_yes _ _).mono ?_
  rintro e w2 ⟨rfl, rfl⟩
  go_wp2_with fail
  refine wpAny_done (by kernel_rfl) ?_ _
  go_wp2_with fail
  have hB1 : Below w.heap.size w w1 := hBW.trans (hb1.mono hBW.size)
  have ef := froz_bel e1 ef hb1
  have e0 := cell_bel e0 hb1
  have e1 := cell_bel e1 hb1
  have hH := Lib.hid (hB'.out.bel hB1)
  clear hBW hb1 c0 c1 f1 CL
  refine wp_region_late 11 #[true, true, true, true, true, true, true, true, true, true, true, false, false, false, false, false, false] (by kernel_rfl) (by kernel_rfl) ?_
  intro W2 hW
  have e0 : W2.cell? ⟨R, 0, none⟩ = some (.slice (some ⟨b, o, none⟩) l.length c) := by rw [← hW]; exact e0
  have e1 : W2.cell? ⟨R, 1, none⟩ = some (.int .i64 i) := by rw [← hW]; exact e1
  have ef : W2.frozen? ⟨R, 1, none⟩ = false := by rw [← hW]; exact ef
  have hB2 : Below w.heap.size w W2 := by rw [← hW]; exact hB1.drew
  have hH : Hid (HasB W2 b (o + i) (l.drop i)) := Lib.hid (by rw [← hW]; exact hH.out.bel (Below.refl _ _).drew)
  clear hW hB1
  simp only [List.take_succ_cons, List.take_zero]
  repeat still_step
  refine wpStill_nil ?_
  simp only [List.size_toArray, List.length_cons, List.length_nil, Nat.reduceAdd, Nat.reduceSub]
  refine wpAny_ready (rs := [11]) (by kernel_rfl) (by simp) ?_
  refine AllReady.cons rfl (fun K hK => ?_) AllReady.nil
  go_simp
  refine (CR.out _ hH.out).mono ?_
  rintro e w3 ⟨rfl, hb3⟩
  go_wp2_with fail
  have hB3 : Below w.heap.size w w3 := hB2.trans (hb3.mono hB2.size)
  have ef := froz_bel e1 ef hb3
  have e0 := cell_bel e0 hb3
  have e1 := cell_bel e1 hb3
  refine wpAny_take (i := 12) (v := (.tuple #[.int .u64 x, .int .i64 0])) rfl (by kernel_rfl) (by kernel_rfl) (by kernel_rfl) (fun _ _ _ h => h) (Or.inl ⟨by rfl, by intro w; go_simp⟩) ?_
  refine wpAny_take (i := 13) (v := (.int .u64 x)) rfl (by kernel_rfl) (by kernel_rfl) (by kernel_rfl) (fun _ _ _ h => h) (Or.inl ⟨by rfl, by intro w; go_simp⟩) ?_
  refine wpAny_take (i := 14) (v := (.int .i64 0)) rfl (by kernel_rfl) (by kernel_rfl) (by kernel_rfl) (fun _ _ _ h => h) (Or.inl ⟨by rfl, by intro w; go_simp⟩) ?_
  refine wpAny_take (i := 15) (v := (.int .u64 x)) rfl (by kernel_rfl) (by kernel_rfl) (by kernel_rfl) (fun _ _ _ h => h) (Or.inl ⟨by rfl, by intro w; go_simp⟩) ?_
  refine wpAny_take (i := 16) (v := (.int .i64 0)) rfl (by kernel_rfl) (by kernel_rfl) (by kernel_rfl) (fun _ _ _ h => h) (Or.inl ⟨by rfl, by intro w; go_simp⟩) ?_
  refine wpAny_done (by kernel_rfl) ?_ _
  have hk0 := hbound.out
  have hlm : l.length ≤ 9223372036854775807 := hl
  go_wp2
  go_ret
  exact ⟨rfl, w3, hB3, by rw [show ((i + k : Nat) : Int) = (i : Int) + k by omega]⟩
end Go.Proofs.YtfnfcngkaepnjaaGreatDoor
