/- Joined texts: must; a reader's next number. -/
import Derived.Test.YtfnfcngkaepnjaaGreatDoorQE13
import Derived.Test.YtfnfcngkaepnjaaGreatDoorQE14
import Derived.RegionDies
/- must; a reader's next number. -/
namespace Go.Proofs.YtfnfcngkaepnjaaGreatDoor
set_option linter.unusedVariables false
open Go Go.Proofs Go.RowKit

theorem must_yes (n : Int) (w : World) : Calls Tryz.prog 94 #[.bool true, .int .i64 n] w fun e w' => e = .returned (.tuple #[]) ∧ w = w' := by
  go_enter Tryz.func94, Tryz.ntmps94
  go_wp2
  go_end0
  exact ⟨rfl, rfl⟩

/-- What is given up with. -/
abbrev gaveUp (n : Int) : Ending := .panicked [{ v := .iface 38 (.int .i64 n), recovered := false }]
theorem must_no (n : Int) (w : World) : Calls Tryz.prog 94 #[.bool false, .int .i64 n] w fun e w' => e = gaveUp n ∧ w = w' := by
  go_enter Tryz.func94, Tryz.ntmps94
  go_wp2
  exact ⟨rfl, rfl, rfl⟩

theorem left_any (a : Option Addr) (n c : Nat) (i m : Int) (hn : n ≤ 9223372036854775807) (hi : 0 ≤ i ∧ i ≤ n) (w : World) :
    Calls Tryz.prog 157 #[.agg #[.slice a n c], .int .i64 i, .int .i64 m] w fun e w' => e = .returned (.bool (decide (m ≤ n - i))) ∧ Below w.heap.size w w' := by
  go_enter Tryz.func157, Tryz.ntmps157
  go_wp2
  go_ret
  exact ⟨rfl, bel1 _⟩

/-- A reader that lies in a block: its bytes, and how many were read. -/
structure Rdr (R : Nat) (l : List Nat) (at_ : Nat) (w : World) : Prop where
  c0 : ∃ a c, w.cell? ⟨R, 0, none⟩ = some (.slice a l.length c) ∧ ArgB w (.slice a l.length c) l
  c1 : w.cell? ⟨R, 1, none⟩ = some (.int .i64 at_)
  f1 : w.frozen? ⟨R, 1, none⟩ = false
theorem Rdr.bel {R : Nat} {l : List Nat} {i : Nat} {w w' : World} (h : Rdr R l i w) (hb : Below w.heap.size w w') : Rdr R l i w' := by
  obtain ⟨a, c, h1, h2⟩ := h.c0
  exact ⟨⟨a, c, cell_bel h1 hb, h2.bel hb⟩, cell_bel h.c1 hb, froz_bel h.c1 h.f1 hb⟩
theorem Rdr.drew {R : Nat} {l : List Nat} {i : Nat} {w : World} (h : Rdr R l i w) : Rdr R l i w.drew := h.bel (Below.refl _ _).drew

set_option maxRecDepth 100000 in
set_option maxHeartbeats 2000000 in
theorem number_no (R : Nat) (l : List Nat) (i k : Nat) (hl : l.length ≤ 9223372036854775807) (hi : i ≤ l.length) (hk : l.length < i + k) (w : World) (hR : Rdr R l i w) :
    Calls Tryz.prog 101 #[.pointer (some ⟨R, 0, none⟩), .int .i64 k] w fun e w' => e = gaveUp 110 ∧ Below w.heap.size w w' := by
  obtain ⟨⟨a, c, c0, hA⟩, c1, _⟩ := hR
  have CL := Lib.hid fun W => (by
    have := left_any a l.length c i k hl ⟨by omega, by omega⟩ W
    rw [show decide ((k : Int) ≤ (l.length : Int) - (i : Int)) = false by simp; omega] at this
    exact this : Calls Tryz.prog 157 #[.agg #[.slice a l.length c], .int .i64 i, .int .i64 k] W fun e w' => e = .returned (.bool false) ∧ Below W.heap.size W w')
  clear hl hi hk hA
  go_enter Tryz.func101, Tryz.ntmps101
  go_wp2_with fail
  have d0 : w.drew.cell? ⟨R, 0, none⟩ = some (.slice a l.length c) := c0
  have d1 : w.drew.cell? ⟨R, 1, none⟩ = some (.int .i64 i) := c1
  go_region_dies
  all_goals refine (CL.out _).mono ?_
  all_goals rintro e w1 ⟨rfl, hb1⟩
  all_goals go_wp2_with fail
  all_goals refine wpAny_ready (rs := [10]) (by kernel_rfl) (by simp) ?_
  all_goals refine AllReady.cons rfl (fun K hK => ?_) AllReady.nil
  all_goals go_simp
  all_goals refine (must_no 110 _).mono ?_
  all_goals rintro e w2 ⟨rfl, rfl⟩
  all_goals go_wp2_with fail
  all_goals exact ⟨rfl, rfl, ((Below.refl _ _).drew.trans hb1)⟩

set_option maxRecDepth 100000 in
set_option maxHeartbeats 4000000 in
theorem number_yes (R : Nat) (l : List Nat) (i k : Nat) (hl : l.length ≤ 9223372036854775807) (hk1 : k = 1 ∨ k = 2 ∨ k = 4 ∨ k = 8) (hk : i + k ≤ l.length) (w : World) (hR : Rdr R l i w) :
    Calls Tryz.prog 101 #[.pointer (some ⟨R, 0, none⟩), .int .i64 k] w fun e w' =>
      e = .returned (.int .u64 (leN (l.drop i) k)) ∧ ∃ w1, Below w.heap.size w w1 ∧ w' = w1.setCell ⟨R, 1, none⟩ (.int .i64 (i + k : Nat)) := by
  have hR0 := Lib.hid hR
  obtain ⟨⟨a, c, c0, hA⟩, c1, f1⟩ := hR
  obtain ⟨ad, hca, hlc, hcm, b, o, rfl, hB⟩ : ∃ ad, a = some ad ∧ l.length ≤ c ∧ c ≤ 9223372036854775807 ∧ ∃ b o, ad = ⟨b, o, none⟩ ∧ HasB w b o l := by
    rcases hA with ⟨h, rfl⟩ | ⟨ad, c', h, h1, h2, h3⟩
    · simp at hk; omega
    · cases h
      exact ⟨ad, rfl, h1, h2, h3 (by intro e; rw [e] at hk; simp at hk; omega)⟩
  subst hca
  have CL := Lib.hid fun W => (by
    have := left_any (some ⟨b, o, none⟩) l.length c i k hl ⟨by omega, by omega⟩ W
    rw [show decide ((k : Int) ≤ (l.length : Int) - (i : Int)) = true by simp; omega] at this
    exact this : Calls Tryz.prog 157 #[.agg #[.slice (some ⟨b, o, none⟩) l.length c], .int .i64 i, .int .i64 k] W fun e w' => e = .returned (.bool true) ∧ Below W.heap.size W w')
  have CR := Lib.hid fun W h => readFixed_yes k hk1 b (o + i) (c - i) (l.drop i) (by rw [List.length_drop]; omega) (by rw [List.length_drop]; omega) (by omega) W h
  have hB' := Lib.hid (hB.drop i)
  have hi0 : (0 : Int) ≤ (i : Int) := by omega
  have hil : (i : Int) < (l.length : Int) := by omega
  have hilc : (i : Int) < (c : Int) := by omega
  have hsl := slice_from b o l.length c i (by omega) (by omega)
  have hbound := Lib.hid hk
  rw [List.length_drop] at CR
  generalize leN (l.drop i) k = x at CR ⊢
  clear hA hB hk1
  go_enter Tryz.func101, Tryz.ntmps101
  go_wp2_with fail
  have d0 : w.drew.cell? ⟨R, 0, none⟩ = some (.slice (some ⟨b, o, none⟩) l.length c) := c0
  have d1 : w.drew.cell? ⟨R, 1, none⟩ = some (.int .i64 i) := c1
  refine wp_region_late 9 #[true, true, true, true, true, true, true, true, true, false, false] (by kernel_rfl) (by kernel_rfl) ?_
  intro W hW
  have e0 : W.cell? ⟨R, 0, none⟩ = some (.slice (some ⟨b, o, none⟩) l.length c) := by rw [← hW]; exact c0
  have e1 : W.cell? ⟨R, 1, none⟩ = some (.int .i64 i) := by rw [← hW]; exact c1
  have ef : W.frozen? ⟨R, 1, none⟩ = false := by rw [← hW]; exact f1
  have hBW : Below w.heap.size w W := by rw [← hW]; exact (Below.refl _ _).drew
  clear hW d0 d1
  simp only [List.take_succ_cons, List.take_zero]
  repeat still_step
  refine wpStill_nil ?_
  simp only [List.size_toArray, List.length_cons, List.length_nil, Nat.reduceAdd, Nat.reduceSub]
  refine wpAny_ready (rs := [9]) (by kernel_rfl) (by simp) ?_
  refine AllReady.cons rfl (fun K hK => ?_) AllReady.nil
  go_simp
  refine (CL.out _).mono ?_
  rintro e w1 ⟨rfl, hb1⟩
  go_wp2_with fail
  refine wpAny_ready (rs := [10]) (by kernel_rfl) (by simp) ?_
  refine AllReady.cons rfl (fun K hK => ?_) AllReady.nil
  go_simp
  refine (must_yes _ _).mono ?_
  rintro e w2 ⟨rfl, rfl⟩
  go_wp2_with fail
  refine wpAny_done (by kernel_rfl) ?_ _
  go_wp2_with fail
  have hB1 : Below w.heap.size w w1 := hBW.trans (hb1.mono hBW.size)
  have ef := froz_bel e1 ef hb1
  have e0 := cell_bel e0 hb1
  have e1 := cell_bel e1 hb1
  have hH := Lib.hid (hB'.out.bel hB1)
  clear hBW hb1 c0 c1 f1 CL
  refine wp_region_late 11 #[true, true, true, true, true, true, true, true, true, true, true, false, false, false, false, false, false] (by kernel_rfl) (by kernel_rfl) ?_
  intro W2 hW
  have e0 : W2.cell? ⟨R, 0, none⟩ = some (.slice (some ⟨b, o, none⟩) l.length c) := by rw [← hW]; exact e0
  have e1 : W2.cell? ⟨R, 1, none⟩ = some (.int .i64 i) := by rw [← hW]; exact e1
  have ef : W2.frozen? ⟨R, 1, none⟩ = false := by rw [← hW]; exact ef
  have hB2 : Below w.heap.size w W2 := by rw [← hW]; exact hB1.drew
  have hH : Hid (HasB W2 b (o + i) (l.drop i)) := Lib.hid (by rw [← hW]; exact hH.out.bel (Below.refl _ _).drew)
  clear hW hB1
  simp only [List.take_succ_cons, List.take_zero]
  repeat still_step
  refine wpStill_nil ?_
  simp only [List.size_toArray, List.length_cons, List.length_nil, Nat.reduceAdd, Nat.reduceSub]
  refine wpAny_ready (rs := [11]) (by kernel_rfl) (by simp) ?_
  refine AllReady.cons rfl (fun K hK => ?_) AllReady.nil
  go_simp
  refine (CR.out _ hH.out).mono ?_
  rintro e w3 ⟨rfl, hb3⟩
  go_wp2_with fail
  have hB3 : Below w.heap.size w w3 := hB2.trans (hb3.mono hB2.size)
  have ef := froz_bel e1 ef hb3
  have e0 := cell_bel e0 hb3
  have e1 := cell_bel e1 hb3
  refine wpAny_take (i := 12) (v := (.tuple #[.int .u64 x, .int .i64 0])) rfl (by kernel_rfl) (by kernel_rfl) (by kernel_rfl) (fun _ _ _ h => h) (Or.inl ⟨by rfl, by intro w; go_simp⟩) ?_
  refine wpAny_take (i := 13) (v := (.int .u64 x)) rfl (by kernel_rfl) (by kernel_rfl) (by kernel_rfl) (fun _ _ _ h => h) (Or.inl ⟨by rfl, by intro w; go_simp⟩) ?_
  refine wpAny_take (i := 14) (v := (.int .i64 0)) rfl (by kernel_rfl) (by kernel_rfl) (by kernel_rfl) (fun _ _ _ h => h) (Or.inl ⟨by rfl, by intro w; go_simp⟩) ?_
  refine wpAny_take (i := 15) (v := (.int .u64 x)) rfl (by kernel_rfl) (by kernel_rfl) (by kernel_rfl) (fun _ _ _ h => h) (Or.inl ⟨by rfl, by intro w; go_simp⟩) ?_
  refine wpAny_take (i := 16) (v := (.int .i64 0)) rfl (by kernel_rfl) (by kernel_rfl) (by kernel_rfl) (fun _ _ _ h => h) (Or.inl ⟨by rfl, by intro w; go_simp⟩) ?_
  refine wpAny_done (by kernel_rfl) ?_ _
  have hk0 := hbound.out
  have hlm : l.length ≤ 9223372036854775807 := hl
  go_wp2
  go_ret
  exact ⟨rfl, w3, hB3, by rw [show ((i + k : Nat) : Int) = (i : Int) + k by omega]⟩
end Go.Proofs.YtfnfcngkaepnjaaGreatDoor
