/- Joined texts: A kind's name.; Are two instructions the same? -/
import Derived.Test.YtgjibnfdaigpkaaGreatDoorQT6
import Derived.Test.YtgjibnfdaigpkaaGreatDoorQT4
/- A kind's name. -/
namespace Go.Proofs.YtgjibnfdaigpkaaGreatDoor
set_option linter.unusedVariables false
open Go Go.Proofs Go.RowKit

theorem cell_belX {n : Nat} {X : Nat → Prop} {A B : World} {b o : Nat} {v : Value} (h : A.cell? ⟨b, o, none⟩ = some v) (hb : BelX n X A B) (hn : b < n) (hx : ¬ X b) : B.cell? ⟨b, o, none⟩ = some v := by
  have e := hb.2 b hn hx
  simp only [World.cell?] at h ⊢
  rw [e]
  exact h
theorem froz_belX {n : Nat} {X : Nat → Prop} {A B : World} {b o : Nat} (h : A.frozen? ⟨b, o, none⟩ = false) (hb : BelX n X A B) (hn : b < n) (hx : ¬ X b) : B.frozen? ⟨b, o, none⟩ = false := by
  have e := hb.2 b hn hx
  simp only [World.frozen?] at h ⊢
  rw [e]
  exact h

/-- What Name answers. -/
def nameP (k : Int) (s : ByteArray) (e : Int) : Prop := (∃ j : Nat, j < 12 ∧ k = j + 1 ∧ s = kindN j ∧ e = 0) ∨ ((∀ j : Nat, j < 12 → (j : Int) + 1 ≠ k) ∧ s = ⟨#[]⟩ ∧ e = 2)

/-- Within the range: the parameter, the two results. -/
structure NameI (W : World) (k : Int) (xs : List Nat) (w : World) : Prop where
  ck : w.cell? ⟨W.heap.size, 0, none⟩ = some (.int .i64 k)
  cs : ∃ s, w.cell? ⟨W.heap.size + 1, 0, none⟩ = some (.string s)
  ce : ∃ e, w.cell? ⟨W.heap.size + 1 + 1, 0, none⟩ = some (.int .i64 e)
  fs : w.frozen? ⟨W.heap.size + 1, 0, none⟩ = false
  fe : w.frozen? ⟨W.heap.size + 1 + 1, 0, none⟩ = false
  no : ∀ j ∈ xs, (j : Int) + 1 ≠ k
  bel : Below W.heap.size W w

structure NameX (W : World) (k : Int) (c : Code) (w : World) : Prop where
  cc : c = .ret
  yes : ∃ j : Nat, j < 12 ∧ k = j + 1 ∧ w.cell? ⟨W.heap.size + 1, 0, none⟩ = some (.string (kindN j)) ∧ w.cell? ⟨W.heap.size + 1 + 1, 0, none⟩ = some (.int .i64 0)
  bel : Below W.heap.size W w

theorem cell_put {W : World} {b o D : Nat} {x : Obj} {v : Value} (h : W.cell? ⟨b, o, none⟩ = some v) (hn : b ≠ D) : (W.putObj D x).cell? ⟨b, o, none⟩ = some v := (World.cell?_of_block (w := W) (World.putObj_heap_other hn)).trans h

attribute [local go_sem] Oper.semAt_some

set_option maxRecDepth 100000 in
set_option maxHeartbeats 1000000 in
theorem kindName_any (k : Int) (w : World) : Calls Tryz.prog 88 #[.int .i64 k] w fun e w' => ∃ s n, nameP k s n ∧ e = .returned (.tuple #[.string s, .int .i64 n]) ∧ Below w.heap.size w w' := by
  refine (callsIn_wide (n := 9)).1 ?_
  refine callsIn_of_wp_marks Tryz.func88 rfl trivial ?_ rfl
  simp only [Tryz.ntmps88, List.size_toArray, List.length_cons, List.length_nil, Nat.reduceAdd, Nat.reduceSub, Array.replicate_succ, Array.replicate_zero, List.push_toArray, List.append_toArray, List.nil_append, List.cons_append]
  refine wpIn_wide.2 ?_
  go_wp2_with (go_at_call 126; refine (kindsOf_any _).mono ?_; rintro e w1 ⟨rfl, rfl⟩)
  refine (wpIn_wide (n := 9)).1 ?_
  have k0 := cell_al (cell_al (cell_new w #[.int .i64 k] 150 0) (.cells #[.string ⟨#[]⟩] 9)) (.cells #[.int .i64 0] 28)
  have s0 := cell_al (cell_two w (.cells #[.int .i64 k] 150) #[.string ⟨#[]⟩] 9 0) (.cells #[.int .i64 0] 28)
  have sf := froz_bel (cell_two w (.cells #[.int .i64 k] 150) #[.string ⟨#[]⟩] 9 0) (froz_two w (.cells #[.int .i64 k] 150) #[.string ⟨#[]⟩] 9 0) (bel1 (.cells #[.int .i64 0] 28))
  have e0 := cell_three w (.cells #[.int .i64 k] 150) (.cells #[.string ⟨#[]⟩] 9) #[.int .i64 0] 28 0
  have ef : (((w.alloc (.cells #[.int .i64 k] 150)).alloc (.cells #[.string ⟨#[]⟩] 9)).alloc (.cells #[.int .i64 0] 28)).frozen? ⟨w.heap.size + 1 + 1, 0, none⟩ = false := by
    have := froz_two (w.alloc (.cells #[.int .i64 k] 150)) (.cells #[.string ⟨#[]⟩] 9) #[.int .i64 0] 28 0
    rwa [World.size_alloc] at this
  have hBU : Below w.heap.size w (((w.alloc (.cells #[.int .i64 k] 150)).alloc (.cells #[.string ⟨#[]⟩] 9)).alloc (.cells #[.int .i64 0] 28)) := belA (belA (bel1 _) _) _
  have hsU : (((w.alloc (.cells #[.int .i64 k] 150)).alloc (.cells #[.string ⟨#[]⟩] 9)).alloc (.cells #[.int .i64 0] 28)).heap.size = w.heap.size + 3 := by simp
  refine wpIn_rangeT rfl (by omega) (gf := 153) (lb := #[]) (by simp [go_sem]) trivial (enters_of Tryz.func153 (by kernel_rfl) rfl)
    (kinds_in 8 (by omega)) (fun W' hb => trivial) (fun _ => rfl)
    (fun b => b = w.heap.size + 1 ∨ b = w.heap.size + 1 + 1) (fun b h => ⟨by omega, fun h' => h'⟩) (fun b h => h.elim) (fun b h => h.elim)
    (NameI w k) (fun c _ W' => NameX w k c W') ?hI ?hIx ?h0 ?hround ?hdone ?hstop
  case hI =>
    rintro s A B h hb
    obtain ⟨s1, h1⟩ := h.cs
    obtain ⟨s2, h2⟩ := h.ce
    exact ⟨cell_belX h.ck hb (by omega) (fun h => h), ⟨s1, cell_belX h1 hb (by omega) (fun h => h)⟩, ⟨s2, cell_belX h2 hb (by omega) (fun h => h)⟩, froz_belX h.fs hb (by omega) (fun h => h), froz_belX h.fe hb (by omega) (fun h => h), h.no, h.bel.trans ((hb.below (fun _ _ h => h)).mono (by omega))⟩
  case hIx =>
    rintro c s A B h hb
    obtain ⟨j, hj, hk, h1, h2⟩ := h.yes
    exact ⟨h.cc, ⟨j, hj, hk, cell_belX h1 hb (by omega) (fun h => h), cell_belX h2 hb (by omega) (fun h => h)⟩, h.bel.trans ((hb.below (fun _ _ h => h)).mono (by omega))⟩
  case h0 => exact ⟨k0, ⟨_, s0⟩, ⟨_, e0⟩, sf, ef, fun j hj => (by cases hj), hBU⟩
  case hround =>
    rintro l2 pre j W2 hi hlt hlen hsp
    gi_wp2
    refine ⟨Touch.refl _ _, fun W3 hb3 ht3 => ?_⟩
    have hj12 : j < 12 := by
      obtain ⟨j', h1, h2, h3⟩ := hsp
      have : j ∈ List.range j' := by rw [← h3]; simp
      have := List.mem_range.1 this
      omega
    obtain ⟨s1, h1⟩ := hi.cs
    obtain ⟨s2, h2⟩ := hi.ce
    have ck := cell_belB hi.ck hb3 (by omega)
    have cs := cell_belB h1 hb3 (by omega)
    have ce := cell_belB h2 hb3 (by omega)
    have fs := froz_belB hi.fs hb3 (by omega)
    have fe := froz_belB hi.fe hb3 (by omega)
    have hbW := hi.bel.trans (hb3.mono (by omega))
    have hno := hi.no
    by_cases hx : (j : Int) + 1 = k
    · subst hx
      gi_wp2
      have cs' : (W3.setCell ⟨w.heap.size + 1, 0, none⟩ (.string (kindN j))).cell? ⟨w.heap.size + 1 + 1, 0, none⟩ = some (.int .i64 s2) := (World.cell?_setCell_other _ _ _ _ (by simp)).trans ce
      refine ⟨(Touch.setCell W3 _ _ (Or.inl rfl)).trans (Touch.setCell _ _ _ (Or.inr rfl)), rfl, ⟨j, hj12, rfl, ?_, World.cell?_setCell_same _ _ _ cs'⟩, (hbW.setCell (by simp) _).setCell (by simp; omega) _⟩
      exact (World.cell?_setCell_other _ _ _ _ (by simp)).trans (World.cell?_setCell_same _ _ _ cs)
    · gi_wp2
      refine ⟨Touch.refl _ _, ck, ⟨s1, cs⟩, ⟨s2, ce⟩, fs, fe, fun i hi => ?_, hbW⟩
      rcases List.mem_append.1 hi with hi | hi
      · exact hno i hi
      · rw [List.mem_singleton.1 hi]; exact hx
  case hdone =>
    rintro D xs W' hD hS hi hK
    have hxs : xs = List.range 12 := hS
    subst hxs
    obtain ⟨s1, h1⟩ := hi.cs
    obtain ⟨s2, h2⟩ := hi.ce
    have fs := hi.fs
    have fe := hi.fe
    go_wp2
    have hK2 : ((W'.setCell ⟨w.heap.size + 1, 0, none⟩ (.string ⟨#[]⟩)).setCell ⟨w.heap.size + 1 + 1, 0, none⟩ (.int .i64 2)).heap[D]? = some (.deferred (some [])) := by
      rw [Below.heap_setCell _ _ _ _ (by simp; omega), Below.heap_setCell _ _ _ _ (by simp; omega)]
      exact hK
    have c2 : (W'.setCell ⟨w.heap.size + 1, 0, none⟩ (.string ⟨#[]⟩)).cell? ⟨w.heap.size + 1 + 1, 0, none⟩ = some (.int .i64 s2) := (World.cell?_setCell_other _ _ _ _ (by simp)).trans h2
    refine ⟨by simp, .inl ⟨_, _, rfl, run_takeDeferred hK2, ?_⟩⟩
    have hDs := (Array.getElem?_eq_some_iff.1 hK2).1
    have g2 := cell_put (x := .deferred none) (World.cell?_setCell_same _ _ (.int .i64 2) c2) (show w.heap.size + 1 + 1 ≠ D by omega)
    have g1 := cell_put (x := .deferred none) ((World.cell?_setCell_other _ ⟨w.heap.size + 1 + 1, 0, none⟩ ⟨w.heap.size + 1, 0, none⟩ (.int .i64 2) (by simp)).trans (World.cell?_setCell_same _ _ (.string ⟨#[]⟩) h1)) (show w.heap.size + 1 ≠ D by omega)
    refine ⟨.tuple #[.string ⟨#[]⟩, .int .i64 2], by simp [results, Tryz.results88, go_sem, g1, g2], _, _, Or.inr ⟨fun j hj => hi.no j (List.mem_range.2 hj), rfl, rfl⟩, rfl, ?_⟩
    refine Below.trans ((hi.bel.setCell (by simp) _).setCell (by simp; omega) _) (below_put _ _ _ (by omega) (by simp; have := hi.bel.size; omega))
  case hstop =>
    rintro D c pre W' hD hSp ⟨rfl, ⟨j, hj, rfl, h1, h2⟩, hb⟩ hK
    refine wpIn_wide.2 ?_
    go_wp2
    refine ⟨by simp, .inl ⟨_, _, rfl, run_takeDeferred hK, ?_⟩⟩
    have g2 := cell_put (x := .deferred none) h2 (show w.heap.size + 1 + 1 ≠ D by omega)
    have g1 := cell_put (x := .deferred none) h1 (show w.heap.size + 1 ≠ D by omega)
    refine ⟨.tuple #[.string (kindN j), .int .i64 0], by simp [results, Tryz.results88, go_sem, g1, g2], _, _, Or.inl ⟨j, hj, rfl, rfl, rfl⟩, rfl, ?_⟩
    exact hb.trans (below_put _ _ _ (by omega) hb.size)
end Go.Proofs.YtgjibnfdaigpkaaGreatDoor

/- Are two instructions the same? -/
namespace Go.Proofs.YtgjibnfdaigpkaaGreatDoor
set_option linter.unusedVariables false
open Go Go.Proofs Go.RowKit

theorem ins_ne (op a b c m op' a' b' c' m' : Int) (w : World) : (binOp .neq 25 (.agg #[.int .i64 op, .int .i64 a, .int .i64 b, .int .i64 c, .int .u32 m]) (.agg #[.int .i64 op', .int .i64 a', .int .i64 b', .int .i64 c', .int .u32 m'])).run Tryz.prog w =
    .ok (.bool (!(decide (op = op') && decide (a = a') && decide (b = b') && decide (c = c') && decide (m = m')))) w := by
  by_cases h1 : op = op' <;> by_cases h2 : a = a' <;> by_cases h3 : b = b' <;> by_cases h4 : c = c' <;> by_cases h5 : m = m' <;> simp [go_sem, h1, h2, h3, h4, h5]
theorem ins_eq (op a b c m op' a' b' c' m' : Int) (w : World) : (binOp .eql 25 (.agg #[.int .i64 op, .int .i64 a, .int .i64 b, .int .i64 c, .int .u32 m]) (.agg #[.int .i64 op', .int .i64 a', .int .i64 b', .int .i64 c', .int .u32 m'])).run Tryz.prog w =
    .ok (.bool (decide (op = op') && decide (a = a') && decide (b = b') && decide (c = c') && decide (m = m'))) w := by
  by_cases h1 : op = op' <;> by_cases h2 : a = a' <;> by_cases h3 : b = b' <;> by_cases h4 : c = c' <;> by_cases h5 : m = m' <;> simp [go_sem, h1, h2, h3, h4, h5]
end Go.Proofs.YtgjibnfdaigpkaaGreatDoor
