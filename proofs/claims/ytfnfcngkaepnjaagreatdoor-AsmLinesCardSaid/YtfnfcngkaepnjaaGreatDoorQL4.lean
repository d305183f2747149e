/- Joined texts: A kind's name.; Are two instructions the same?; Parts, instructions that lie in a block.; A part's two functions, whichever part it is. -/
import Derived.Test.YtfnfcngkaepnjaaGreatDoorQL3
import Derived.Test.YtfnfcngkaepnjaaGreatDoorQL2
/- A kind's name. -/
namespace Go.Proofs.YtfnfcngkaepnjaaGreatDoor
set_option linter.unusedVariables false
open Go Go.Proofs Go.RowKit

theorem cell_belX {n : Nat} {X : Nat → Prop} {A B : World} {b o : Nat} {v : Value} (h : A.cell? ⟨b, o, none⟩ = some v) (hb : BelX n X A B) (hn : b < n) (hx : ¬ X b) : B.cell? ⟨b, o, none⟩ = some v := by
  have e := hb.2 b hn hx
  simp only [World.cell?] at h ⊢
  rw [e]
  exact h
theorem froz_belX {n : Nat} {X : Nat → Prop} {A B : World} {b o : Nat} (h : A.frozen? ⟨b, o, none⟩ = false) (hb : BelX n X A B) (hn : b < n) (hx : ¬ X b) : B.frozen? ⟨b, o, none⟩ = false := by
  have e := hb.2 b hn hx
  simp only [World.frozen?] at h ⊢
  rw [e]
  exact h

/-- What Name answers. -/
def nameP (k : Int) (s : ByteArray) (e : Int) : Prop := (∃ j : Nat, j < 12 ∧ k = j + 1 ∧ s = kindN j ∧ e = 0) ∨ ((∀ j : Nat, j < 12 → (j : Int) + 1 ≠ k) ∧ s = ⟨#[]⟩ ∧ e = 2)

/-- Within the range: the parameter, the two results. -/
structure NameI (W : World) (k : Int) (xs : List Nat) (w : World) : Prop where
  ck : w.cell? ⟨W.heap.size, 0, none⟩ = some (.int .i64 k)
  cs : ∃ s, w.cell? ⟨W.heap.size + 1, 0, none⟩ = some (.string s)
  ce : ∃ e, w.cell? ⟨W.heap.size + 1 + 1, 0, none⟩ = some (.int .i64 e)
  fs : w.frozen? ⟨W.heap.size + 1, 0, none⟩ = false
  fe : w.frozen? ⟨W.heap.size + 1 + 1, 0, none⟩ = false
  no : ∀ j ∈ xs, (j : Int) + 1 ≠ k
  bel : Below W.heap.size W w

structure NameX (W : World) (k : Int) (c : Code) (w : World) : Prop where
  cc : c = .ret
  yes : ∃ j : Nat, j < 12 ∧ k = j + 1 ∧ w.cell? ⟨W.heap.size + 1, 0, none⟩ = some (.string (kindN j)) ∧ w.cell? ⟨W.heap.size + 1 + 1, 0, none⟩ = some (.int .i64 0)
  bel : Below W.heap.size W w

theorem cell_put {W : World} {b o D : Nat} {x : Obj} {v : Value} (h : W.cell? ⟨b, o, none⟩ = some v) (hn : b ≠ D) : (W.putObj D x).cell? ⟨b, o, none⟩ = some v := (World.cell?_of_block (w := W) (World.putObj_heap_other hn)).trans h

attribute [local go_sem] Oper.semAt_some

set_option maxRecDepth 100000 in
set_option maxHeartbeats 1000000 in
theorem kindName_any (k : Int) (w : World) : Calls Tryz.prog 141 #[.int .i64 k] w fun e w' => ∃ s n, nameP k s n ∧ e = .returned (.tuple #[.string s, .int .i64 n]) ∧ Below w.heap.size w w' := by
  refine (callsIn_wide (n := 9)).1 ?_
  refine callsIn_of_wp_marks Tryz.func141 rfl trivial ?_ rfl
  simp only [Tryz.ntmps141, List.size_toArray, List.length_cons, List.length_nil, Nat.reduceAdd, Nat.reduceSub, Array.replicate_succ, Array.replicate_zero, List.push_toArray, List.append_toArray, List.nil_append, List.cons_append]
  refine wpIn_wide.2 ?_
  go_wp2_with (go_at_call 187; refine (kindsOf_any _).mono ?_; rintro e w1 ⟨rfl, rfl⟩)
  refine (wpIn_wide (n := 9)).1 ?_
  have k0 := cell_al (cell_al (cell_new w #[.int .i64 k] 220 0) (.cells #[.string ⟨#[]⟩] 9)) (.cells #[.int .i64 0] 38)
  have s0 := cell_al (cell_two w (.cells #[.int .i64 k] 220) #[.string ⟨#[]⟩] 9 0) (.cells #[.int .i64 0] 38)
  have sf := froz_bel (cell_two w (.cells #[.int .i64 k] 220) #[.string ⟨#[]⟩] 9 0) (froz_two w (.cells #[.int .i64 k] 220) #[.string ⟨#[]⟩] 9 0) (bel1 (.cells #[.int .i64 0] 38))
  have e0 := cell_three w (.cells #[.int .i64 k] 220) (.cells #[.string ⟨#[]⟩] 9) #[.int .i64 0] 38 0
  have ef : (((w.alloc (.cells #[.int .i64 k] 220)).alloc (.cells #[.string ⟨#[]⟩] 9)).alloc (.cells #[.int .i64 0] 38)).frozen? ⟨w.heap.size + 1 + 1, 0, none⟩ = false := by
    have := froz_two (w.alloc (.cells #[.int .i64 k] 220)) (.cells #[.string ⟨#[]⟩] 9) #[.int .i64 0] 38 0
    rwa [World.size_alloc] at this
  have hBU : Below w.heap.size w (((w.alloc (.cells #[.int .i64 k] 220)).alloc (.cells #[.string ⟨#[]⟩] 9)).alloc (.cells #[.int .i64 0] 38)) := belA (belA (bel1 _) _) _
  have hsU : (((w.alloc (.cells #[.int .i64 k] 220)).alloc (.cells #[.string ⟨#[]⟩] 9)).alloc (.cells #[.int .i64 0] 38)).heap.size = w.heap.size + 3 := by simp
  refine wpIn_rangeT rfl (by omega) (gf := 228) (lb := #[]) (by simp [go_sem]) trivial (enters_of Tryz.func228 (by kernel_rfl) rfl)
    (kinds_in 8 (by omega)) (fun W' hb => trivial) (fun _ => rfl)
    (fun b => b = w.heap.size + 1 ∨ b = w.heap.size + 1 + 1) (fun b h => ⟨by omega, fun h' => h'⟩) (fun b h => h.elim) (fun b h => h.elim)
    (NameI w k) (fun c _ W' => NameX w k c W') ?hI ?hIx ?h0 ?hround ?hdone ?hstop
  case hI =>
    rintro s A B h hb
    obtain ⟨s1, h1⟩ := h.cs
    obtain ⟨s2, h2⟩ := h.ce
    exact ⟨cell_belX h.ck hb (by omega) (fun h => h), ⟨s1, cell_belX h1 hb (by omega) (fun h => h)⟩, ⟨s2, cell_belX h2 hb (by omega) (fun h => h)⟩, froz_belX h.fs hb (by omega) (fun h => h), froz_belX h.fe hb (by omega) (fun h => h), h.no, h.bel.trans ((hb.below (fun _ _ h => h)).mono (by omega))⟩
  case hIx =>
    rintro c s A B h hb
    obtain ⟨j, hj, hk, h1, h2⟩ := h.yes
    exact ⟨h.cc, ⟨j, hj, hk, cell_belX h1 hb (by omega) (fun h => h), cell_belX h2 hb (by omega) (fun h => h)⟩, h.bel.trans ((hb.below (fun _ _ h => h)).mono (by omega))⟩
  case h0 => exact ⟨k0, ⟨_, s0⟩, ⟨_, e0⟩, sf, ef, fun j hj => (by cases hj), hBU⟩
  case hround =>
    rintro l2 pre j W2 hi hlt hlen hsp
    gi_wp2
    refine ⟨Touch.refl _ _, fun W3 hb3 ht3 => ?_⟩
    have hj12 : j < 12 := by
      obtain ⟨j', h1, h2, h3⟩ := hsp
      have : j ∈ List.range j' := by rw [← h3]; simp
      have := List.mem_range.1 this
      omega
    obtain ⟨s1, h1⟩ := hi.cs
    obtain ⟨s2, h2⟩ := hi.ce
    have ck := cell_belB hi.ck hb3 (by omega)
    have cs := cell_belB h1 hb3 (by omega)
    have ce := cell_belB h2 hb3 (by omega)
    have fs := froz_belB hi.fs hb3 (by omega)
    have fe := froz_belB hi.fe hb3 (by omega)
    have hbW := hi.bel.trans (hb3.mono (by omega))
    have hno := hi.no
    by_cases hx : (j : Int) + 1 = k
    · subst hx
      gi_wp2
      have cs' : (W3.setCell ⟨w.heap.size + 1, 0, none⟩ (.string (kindN j))).cell? ⟨w.heap.size + 1 + 1, 0, none⟩ = some (.int .i64 s2) := (World.cell?_setCell_other _ _ _ _ (by simp)).trans ce
      refine ⟨(Touch.setCell W3 _ _ (Or.inl rfl)).trans (Touch.setCell _ _ _ (Or.inr rfl)), rfl, ⟨j, hj12, rfl, ?_, World.cell?_setCell_same _ _ _ cs'⟩, (hbW.setCell (by simp) _).setCell (by simp; omega) _⟩
      exact (World.cell?_setCell_other _ _ _ _ (by simp)).trans (World.cell?_setCell_same _ _ _ cs)
    · gi_wp2
      refine ⟨Touch.refl _ _, ck, ⟨s1, cs⟩, ⟨s2, ce⟩, fs, fe, fun i hi => ?_, hbW⟩
      rcases List.mem_append.1 hi with hi | hi
      · exact hno i hi
      · rw [List.mem_singleton.1 hi]; exact hx
  case hdone =>
    rintro D xs W' hD hS hi hK
    have hxs : xs = List.range 12 := hS
    subst hxs
    obtain ⟨s1, h1⟩ := hi.cs
    obtain ⟨s2, h2⟩ := hi.ce
    have fs := hi.fs
    have fe := hi.fe
    go_wp2
    have hK2 : ((W'.setCell ⟨w.heap.size + 1, 0, none⟩ (.string ⟨#[]⟩)).setCell ⟨w.heap.size + 1 + 1, 0, none⟩ (.int .i64 2)).heap[D]? = some (.deferred (some [])) := by
      rw [Below.heap_setCell _ _ _ _ (by simp; omega), Below.heap_setCell _ _ _ _ (by simp; omega)]
      exact hK
    have c2 : (W'.setCell ⟨w.heap.size + 1, 0, none⟩ (.string ⟨#[]⟩)).cell? ⟨w.heap.size + 1 + 1, 0, none⟩ = some (.int .i64 s2) := (World.cell?_setCell_other _ _ _ _ (by simp)).trans h2
    refine ⟨by simp, .inl ⟨_, _, rfl, run_takeDeferred hK2, ?_⟩⟩
    have hDs := (Array.getElem?_eq_some_iff.1 hK2).1
    have g2 := cell_put (x := .deferred none) (World.cell?_setCell_same _ _ (.int .i64 2) c2) (show w.heap.size + 1 + 1 ≠ D by omega)
    have g1 := cell_put (x := .deferred none) ((World.cell?_setCell_other _ ⟨w.heap.size + 1 + 1, 0, none⟩ ⟨w.heap.size + 1, 0, none⟩ (.int .i64 2) (by simp)).trans (World.cell?_setCell_same _ _ (.string ⟨#[]⟩) h1)) (show w.heap.size + 1 ≠ D by omega)
    refine ⟨.tuple #[.string ⟨#[]⟩, .int .i64 2], by simp [results, Tryz.results141, go_sem, g1, g2], _, _, Or.inr ⟨fun j hj => hi.no j (List.mem_range.2 hj), rfl, rfl⟩, rfl, ?_⟩
    refine Below.trans ((hi.bel.setCell (by simp) _).setCell (by simp; omega) _) (below_put _ _ _ (by omega) (by simp; have := hi.bel.size; omega))
  case hstop =>
    rintro D c pre W' hD hSp ⟨rfl, ⟨j, hj, rfl, h1, h2⟩, hb⟩ hK
    refine wpIn_wide.2 ?_
    go_wp2
    refine ⟨by simp, .inl ⟨_, _, rfl, run_takeDeferred hK, ?_⟩⟩
    have g2 := cell_put (x := .deferred none) h2 (show w.heap.size + 1 + 1 ≠ D by omega)
    have g1 := cell_put (x := .deferred none) h1 (show w.heap.size + 1 ≠ D by omega)
    refine ⟨.tuple #[.string (kindN j), .int .i64 0], by simp [results, Tryz.results141, go_sem, g1, g2], _, _, Or.inl ⟨j, hj, rfl, rfl, rfl⟩, rfl, ?_⟩
    exact hb.trans (below_put _ _ _ (by omega) hb.size)
end Go.Proofs.YtfnfcngkaepnjaaGreatDoor

/- Are two instructions the same? -/
namespace Go.Proofs.YtfnfcngkaepnjaaGreatDoor
set_option linter.unusedVariables false
open Go Go.Proofs Go.RowKit

theorem ins_ne (op a b c m op' a' b' c' m' : Int) (w : World) : (binOp .neq 29 (.agg #[.int .i64 op, .int .i64 a, .int .i64 b, .int .i64 c, .int .u32 m]) (.agg #[.int .i64 op', .int .i64 a', .int .i64 b', .int .i64 c', .int .u32 m'])).run Tryz.prog w =
    .ok (.bool (!(decide (op = op') && decide (a = a') && decide (b = b') && decide (c = c') && decide (m = m')))) w := by
  by_cases h1 : op = op' <;> by_cases h2 : a = a' <;> by_cases h3 : b = b' <;> by_cases h4 : c = c' <;> by_cases h5 : m = m' <;> simp [go_sem, h1, h2, h3, h4, h5]
end Go.Proofs.YtfnfcngkaepnjaaGreatDoor

/- Parts, instructions that lie in a block. -/
namespace Go.Proofs.YtfnfcngkaepnjaaGreatDoor
set_option linter.unusedVariables false
open Go Go.Proofs Go.RowKit

/-- What a part puts: of what, into what. -/
def putF (p : Part) (i s : Int × Int × Int × Int) : Int × Int × Int × Int :=
  if p.g = 188 then (i.1, s.2) else if p.g = 190 then (s.1, i.2.1, s.2.2) else if p.g = 194 then (s.1, s.2.1, i.2.2.1, s.2.2.2) else (s.1, s.2.1, s.2.2.1, i.2.2.2)
/-- What all have put. -/
def putsF (i : Int × Int × Int × Int) (ps : List Part) : Int × Int × Int × Int := ps.foldl (fun s p => putF p i s) (0, 0, 0, 0)

theorem putsF_take (i : Int × Int × Int × Int) (ps : List Part) (k : Nat) (hk : k < ps.length) : putsF i (ps.take (k + 1)) = putF ps[k] i (putsF i (ps.take k)) := by
  unfold putsF
  rw [← List.take_append_getElem hk, List.foldl_append]
  rfl

/-- The parts that there are. -/
def isPart (p : Part) : Prop := p = pA ∨ p = pB ∨ p = pC ∨ p = pM ∨ ∃ m, p = pI m

theorem named_parts (n : Int) : ∀ p ∈ (namedL.lookup n).getD [], isPart p := by
  have h : ∀ q ∈ namedL, ∀ p ∈ q.2, isPart p := by
    have hI : ∀ m, isPart (pI m) := fun m => Or.inr (Or.inr (Or.inr (Or.inr ⟨m, rfl⟩)))
    have hA : isPart pA := Or.inl rfl
    have hB : isPart pB := Or.inr (Or.inl rfl)
    have hC : isPart pC := Or.inr (Or.inr (Or.inl rfl))
    have hM : isPart pM := Or.inr (Or.inr (Or.inr (Or.inl rfl)))
    simp [namedL, hI, hA, hB, hC, hM]
  intro p hp
  cases hl : namedL.lookup n with
  | none => rw [hl] at hp; cases hp
  | some ps =>
    rw [hl] at hp
    have : (n, ps) ∈ namedL := by
      generalize namedL = l at hl
      clear h
      induction l with
      | nil => simp at hl
      | cons x xs ih =>
        by_cases hx : (n == x.1) = true
        · have : n = x.1 := by simpa using hx
          simp [List.lookup, hx] at hl
          subst hl this
          exact .head _
        · simp [List.lookup, hx] at hl
          exact .tail _ (ih hl)
    exact h _ this p hp

theorem named_short (n : Int) : ((namedL.lookup n).getD []).length ≤ 4 := by
  have h : ∀ q ∈ namedL, q.2.length ≤ 4 := by simp [namedL]
  cases hl : namedL.lookup n with
  | none => simp
  | some ps =>
    have : (n, ps) ∈ namedL := by
      generalize namedL = l at hl
      clear h
      induction l with
      | nil => simp at hl
      | cons x xs ih =>
        by_cases hx : (n == x.1) = true
        · have : n = x.1 := by simpa using hx
          simp [List.lookup, hx] at hl
          subst hl this
          exact .head _
        · simp [List.lookup, hx] at hl
          exact .tail _ (ih hl)
    exact h _ this

theorem flat_at : ∀ (ps : List Part) (k j : Nat) (hk : k < ps.length), j < 4 → (ps.flatMap Part.cells)[k * 4 + j]? = ps[k].cells[j]?
  | [], k, j, hk, _ => absurd hk (Nat.not_lt_zero _)
  | p :: ps, 0, j, hk, hj => by
    rw [List.flatMap_cons, List.getElem?_append_left (by simp [Part.cells]; omega)]
    simp
  | p :: ps, k + 1, j, hk, hj => by
    rw [List.flatMap_cons, List.getElem?_append_right (by simp [Part.cells]; omega)]
    have := flat_at ps k j (by simpa using hk) hj
    simp only [Part.cells, List.length_cons, List.length_nil] at this ⊢
    rw [show (k + 1) * 4 + j - (0 + 1 + 1 + 1 + 1) = k * 4 + j by omega]
    exact this

/-- A list of parts, cell by cell. -/
theorem Parts.cells {n : Nat} {w : World} {v : Value} {ps : List Part} (h : Parts n w v ps) : ∃ ao, v = .slice ao ps.length ps.length ∧ ∀ k (hk : k < ps.length), ∃ r, ao = some ⟨r, 0, none⟩ ∧ w.cell? ⟨r, k * 4, none⟩ = some (.int .i64 ps[k].wide) ∧
    w.cell? ⟨r, k * 4 + 1, none⟩ = some (.string ps[k].mark) ∧ w.cell? ⟨r, k * 4 + 2, none⟩ = some (.func (.func ps[k].g) #[] #[]) ∧ w.cell? ⟨r, k * 4 + 3, none⟩ = some (.func (.func ps[k].p) #[] #[]) := by
  rcases h with ⟨rfl, rfl⟩ | ⟨r, t, rfl, h, _⟩
  · exact ⟨none, rfl, fun k hk => absurd hk (Nat.not_lt_zero _)⟩
  · refine ⟨_, rfl, fun k hk => ⟨r, rfl, ?_, ?_, ?_, ?_⟩⟩
    · have := flat_at ps k 0 hk (by omega)
      simpa [World.cell?, h, Part.cells] using this
    · have := flat_at ps k 1 hk (by omega)
      simpa [World.cell?, h, Part.cells] using this
    · have := flat_at ps k 2 hk (by omega)
      simpa [World.cell?, h, Part.cells] using this
    · have := flat_at ps k 3 hk (by omega)
      simpa [World.cell?, h, Part.cells] using this

/-- An instruction that lies in a block. -/
structure Bare (B : Nat) (op : Int) (s : Int × Int × Int × Int) (w : World) : Prop where
  c0 : w.cell? ⟨B, 0, none⟩ = some (.int .i64 op)
  c1 : w.cell? ⟨B, 1, none⟩ = some (.int .i64 s.1)
  c2 : w.cell? ⟨B, 2, none⟩ = some (.int .i64 s.2.1)
  c3 : w.cell? ⟨B, 3, none⟩ = some (.int .i64 s.2.2.1)
  c4 : w.cell? ⟨B, 4, none⟩ = some (.int .u32 s.2.2.2)
  f1 : w.frozen? ⟨B, 1, none⟩ = false
  f2 : w.frozen? ⟨B, 2, none⟩ = false
  f3 : w.frozen? ⟨B, 3, none⟩ = false
  f4 : w.frozen? ⟨B, 4, none⟩ = false
theorem Bare.bel {B : Nat} {op : Int} {s : Int × Int × Int × Int} {w w' : World} (h : Bare B op s w) (hb : Below w.heap.size w w') : Bare B op s w' :=
  ⟨cell_bel h.c0 hb, cell_bel h.c1 hb, cell_bel h.c2 hb, cell_bel h.c3 hb, cell_bel h.c4 hb, froz_bel h.c1 h.f1 hb, froz_bel h.c2 h.f2 hb, froz_bel h.c3 h.f3 hb, froz_bel h.c4 h.f4 hb⟩
theorem Bare.new (op a b c m : Int) (w : World) (t : TypeId) : Bare w.heap.size op (a, b, c, m) (w.alloc (.cells #[.int .i64 op, .int .i64 a, .int .i64 b, .int .i64 c, .int .u32 m] t)) :=
  ⟨cell_new w _ t 0, cell_new w _ t 1, cell_new w _ t 2, cell_new w _ t 3, cell_new w _ t 4, World.frozen?_alloc_new _ _ _ _, World.frozen?_alloc_new _ _ _ _, World.frozen?_alloc_new _ _ _ _, World.frozen?_alloc_new _ _ _ _⟩

theorem Bare.drew {B : Nat} {op : Int} {s : Int × Int × Int × Int} {w : World} (h : Bare B op s w) : Bare B op s w.drew := ⟨h.c0, h.c1, h.c2, h.c3, h.c4, h.f1, h.f2, h.f3, h.f4⟩
theorem Touch.drew (T : Nat → Prop) (W : World) : Touch T W W.drew := ⟨Nat.le_refl _, fun _ _ _ => rfl⟩
theorem Bare.far {B B' o : Nat} {op : Int} {s : Int × Int × Int × Int} {w : World} {v : Value} (h : Bare B op s w) (hn : B' ≠ B) : Bare B op s (w.setCell ⟨B', o, none⟩ v) := by
  have hc : ∀ j, (w.setCell ⟨B', o, none⟩ v).cell? ⟨B, j, none⟩ = w.cell? ⟨B, j, none⟩ := fun j => World.cell?_setCell_other _ _ _ _ (fun e => hn (by have := congrArg Addr.block e; simpa [eq_comm] using this))
  have hf : ∀ j, (w.setCell ⟨B', o, none⟩ v).frozen? ⟨B, j, none⟩ = w.frozen? ⟨B, j, none⟩ := fun j => World.frozen?_setCell ..
  exact ⟨(hc _).trans h.c0, (hc _).trans h.c1, (hc _).trans h.c2, (hc _).trans h.c3, (hc _).trans h.c4, (hf _).trans h.f1, (hf _).trans h.f2, (hf _).trans h.f3, (hf _).trans h.f4⟩
theorem Bare.put1 {B : Nat} {op : Int} {s : Int × Int × Int × Int} {w : World} {v : Int} (h : Bare B op s w) : Bare B op (v, s.2) (w.setCell ⟨B, 1, none⟩ (.int .i64 v)) := by
  have hc : ∀ j, j ≠ 1 → (w.setCell ⟨B, 1, none⟩ (.int .i64 v)).cell? ⟨B, j, none⟩ = w.cell? ⟨B, j, none⟩ := fun j hj => World.cell?_setCell_other _ _ _ _ (fun e => hj (by have := congrArg Addr.off e; simpa using this.symm))
  have hf : ∀ j, (w.setCell ⟨B, 1, none⟩ (.int .i64 v)).frozen? ⟨B, j, none⟩ = w.frozen? ⟨B, j, none⟩ := fun j => World.frozen?_setCell ..
  exact ⟨(hc _ (by decide)).trans h.c0, (World.cell?_setCell_same _ _ _ h.c1), ((hc _ (by decide)).trans h.c2), ((hc _ (by decide)).trans h.c3), ((hc _ (by decide)).trans h.c4), (hf _).trans h.f1, (hf _).trans h.f2, (hf _).trans h.f3, (hf _).trans h.f4⟩
theorem Bare.put2 {B : Nat} {op : Int} {s : Int × Int × Int × Int} {w : World} {v : Int} (h : Bare B op s w) : Bare B op (s.1, v, s.2.2) (w.setCell ⟨B, 2, none⟩ (.int .i64 v)) := by
  have hc : ∀ j, j ≠ 2 → (w.setCell ⟨B, 2, none⟩ (.int .i64 v)).cell? ⟨B, j, none⟩ = w.cell? ⟨B, j, none⟩ := fun j hj => World.cell?_setCell_other _ _ _ _ (fun e => hj (by have := congrArg Addr.off e; simpa using this.symm))
  have hf : ∀ j, (w.setCell ⟨B, 2, none⟩ (.int .i64 v)).frozen? ⟨B, j, none⟩ = w.frozen? ⟨B, j, none⟩ := fun j => World.frozen?_setCell ..
  exact ⟨(hc _ (by decide)).trans h.c0, ((hc _ (by decide)).trans h.c1), (World.cell?_setCell_same _ _ _ h.c2), ((hc _ (by decide)).trans h.c3), ((hc _ (by decide)).trans h.c4), (hf _).trans h.f1, (hf _).trans h.f2, (hf _).trans h.f3, (hf _).trans h.f4⟩
theorem Bare.put3 {B : Nat} {op : Int} {s : Int × Int × Int × Int} {w : World} {v : Int} (h : Bare B op s w) : Bare B op (s.1, s.2.1, v, s.2.2.2) (w.setCell ⟨B, 3, none⟩ (.int .i64 v)) := by
  have hc : ∀ j, j ≠ 3 → (w.setCell ⟨B, 3, none⟩ (.int .i64 v)).cell? ⟨B, j, none⟩ = w.cell? ⟨B, j, none⟩ := fun j hj => World.cell?_setCell_other _ _ _ _ (fun e => hj (by have := congrArg Addr.off e; simpa using this.symm))
  have hf : ∀ j, (w.setCell ⟨B, 3, none⟩ (.int .i64 v)).frozen? ⟨B, j, none⟩ = w.frozen? ⟨B, j, none⟩ := fun j => World.frozen?_setCell ..
  exact ⟨(hc _ (by decide)).trans h.c0, ((hc _ (by decide)).trans h.c1), ((hc _ (by decide)).trans h.c2), (World.cell?_setCell_same _ _ _ h.c3), ((hc _ (by decide)).trans h.c4), (hf _).trans h.f1, (hf _).trans h.f2, (hf _).trans h.f3, (hf _).trans h.f4⟩
theorem Bare.put4 {B : Nat} {op : Int} {s : Int × Int × Int × Int} {w : World} {v : Int} (h : Bare B op s w) : Bare B op (s.1, s.2.1, s.2.2.1, v) (w.setCell ⟨B, 4, none⟩ (.int .u32 v)) := by
  have hc : ∀ j, j ≠ 4 → (w.setCell ⟨B, 4, none⟩ (.int .u32 v)).cell? ⟨B, j, none⟩ = w.cell? ⟨B, j, none⟩ := fun j hj => World.cell?_setCell_other _ _ _ _ (fun e => hj (by have := congrArg Addr.off e; simpa using this.symm))
  have hf : ∀ j, (w.setCell ⟨B, 4, none⟩ (.int .u32 v)).frozen? ⟨B, j, none⟩ = w.frozen? ⟨B, j, none⟩ := fun j => World.frozen?_setCell ..
  exact ⟨(hc _ (by decide)).trans h.c0, ((hc _ (by decide)).trans h.c1), ((hc _ (by decide)).trans h.c2), ((hc _ (by decide)).trans h.c3), (World.cell?_setCell_same _ _ _ h.c4), (hf _).trans h.f1, (hf _).trans h.f2, (hf _).trans h.f3, (hf _).trans h.f4⟩
/-- The rest of what must hold, by the Op. -/
def restF (op b c m : Int) : Bool :=
  if op = 8 ∨ op = 10 then decide (b + c ≤ 16) && decide (m < 32) else if op = 4 ∨ op = 5 then decide (m < 512) else if op = 3 then decide (1 ≤ m ∧ m ≤ 12) && decide (c < 16) else true
/-- May it be? -/
def rightF (op a b c m : Int) : Bool :=
  decide (1 ≤ op ∧ op ≤ 19) && decide (0 ≤ a ∧ a < 16) && decide (0 ≤ b ∧ b < 16) && decide (0 ≤ c ∧ c ≤ 16) && (decide (putsF (a, b, c, m) ((namedL.lookup op).getD []) = (a, b, c, m)) && restF op b c m)
theorem rightF_in (op a b c m : Int) (h1 : 1 ≤ op ∧ op ≤ 19) (ha : 0 ≤ a ∧ a < 16) (hb : 0 ≤ b ∧ b < 16) (hc : 0 ≤ c ∧ c ≤ 16) : rightF op a b c m = (decide (putsF (a, b, c, m) ((namedL.lookup op).getD []) = (a, b, c, m)) && restF op b c m) := by
  simp [rightF, h1, ha, hb, hc]
end Go.Proofs.YtfnfcngkaepnjaaGreatDoor

/- A part's two functions, whichever part it is. -/
namespace Go.Proofs.YtfnfcngkaepnjaaGreatDoor
set_option linter.unusedVariables false
open Go Go.Proofs Go.RowKit

/-- What a part gets. -/
def getF (p : Part) (a b c m : Int) : Int :=
  if p.g = 188 then a else if p.g = 190 then b else if p.g = 194 then c else m
/-- A number, put where a part stands. -/
def putN (p : Part) (n : Int) (s : Int × Int × Int × Int) : Int × Int × Int × Int :=
  if p.g = 188 then (n, s.2) else if p.g = 190 then (s.1, n, s.2.2) else if p.g = 194 then (s.1, s.2.1, n, s.2.2.2) else (s.1, s.2.1, s.2.2.1, n)
theorem putF_N (p : Part) (a b c m : Int) (s : Int × Int × Int × Int) : putF p (a, b, c, m) s = putN p (getF p a b c m) s := by
  unfold putF putN getF
  split
  · rfl
  · split
    · rfl
    · split <;> rfl

theorem getF_bd (p : Part) (a b c m : Int) (ha : 0 ≤ a ∧ a < 4294967296) (hb : 0 ≤ b ∧ b < 4294967296) (hc : 0 ≤ c ∧ c < 4294967296) (hm : 0 ≤ m ∧ m < 4294967296) : 0 ≤ getF p a b c m ∧ getF p a b c m < 4294967296 := by
  unfold getF
  split
  · exact ha
  · split
    · exact hb
    · split
      · exact hc
      · exact hm

theorem part_enters {p : Part} (hp : isPart p) : (∀ args w, (callFunc p.g args).run Tryz.prog w = .ok (.enter p.g args) w) ∧ (∀ args w, (callFunc p.p args).run Tryz.prog w = .ok (.enter p.p args) w) := by
  rcases hp with rfl | rfl | rfl | rfl | ⟨mk, rfl⟩
  · exact ⟨enters_of Tryz.func188 (by kernel_rfl) rfl, enters_of Tryz.func189 (by kernel_rfl) rfl⟩
  · exact ⟨enters_of Tryz.func190 (by kernel_rfl) rfl, enters_of Tryz.func191 (by kernel_rfl) rfl⟩
  · exact ⟨enters_of Tryz.func194 (by kernel_rfl) rfl, enters_of Tryz.func195 (by kernel_rfl) rfl⟩
  · exact ⟨enters_of Tryz.func194 (by kernel_rfl) rfl, enters_of Tryz.func195 (by kernel_rfl) rfl⟩
  · exact ⟨enters_of Tryz.func192 (by kernel_rfl) rfl, enters_of Tryz.func193 (by kernel_rfl) rfl⟩

theorem part_get {p : Part} (hp : isPart p) (op a b c m : Int) (ha : 0 ≤ a ∧ a < 4294967296) (hb : 0 ≤ b ∧ b < 4294967296) (hc : 0 ≤ c ∧ c < 4294967296) (hm : 0 ≤ m ∧ m < 4294967296) (w : World) :
    Calls Tryz.prog p.g #[insV op a b c m] w fun e w' => e = .returned (.int .u64 (getF p a b c m)) ∧ Below w.heap.size w w' := by
  rcases hp with rfl | rfl | rfl | rfl | ⟨mk, rfl⟩
  · exact (getA op a b c m ha w).mono (by rintro e w' ⟨rfl, o, rfl⟩; exact ⟨rfl, bel1 _⟩)
  · exact (getB op a b c m hb w).mono (by rintro e w' ⟨rfl, o, rfl⟩; exact ⟨rfl, bel1 _⟩)
  · exact (getC op a b c m hc w).mono (by rintro e w' ⟨rfl, o, rfl⟩; exact ⟨rfl, bel1 _⟩)
  · exact (getC op a b c m hc w).mono (by rintro e w' ⟨rfl, o, rfl⟩; exact ⟨rfl, bel1 _⟩)
  · exact (getI op a b c m hm w).mono (by rintro e w' ⟨rfl, o, rfl⟩; exact ⟨rfl, bel1 _⟩)

theorem part_put {p : Part} (hp : isPart p) (B : Nat) (op n : Int) (s : Int × Int × Int × Int) (hn : 0 ≤ n ∧ n < 4294967296) (w : World) (h : Bare B op s w) :
    Calls Tryz.prog p.p #[.pointer (some ⟨B, 0, none⟩), .int .u64 n] w fun e w' => e = .returned (.tuple #[]) ∧ Bare B op (putN p n s) w' ∧ ∃ o v, w' = w.setCell ⟨B, o, none⟩ v ∧ ∃ y, w.cell? ⟨B, o, none⟩ = some y ∧ ∀ n, y ≠ .int .u8 n := by
  rcases hp with rfl | rfl | rfl | rfl | ⟨mk, rfl⟩
  · exact (putA B _ n hn w h.c1 h.f1).mono (by rintro e w' ⟨rfl, rfl⟩; exact ⟨rfl, h.put1, _, _, rfl, _, h.c1, fun n e => by cases e⟩)
  · exact (putB B _ n hn w h.c2 h.f2).mono (by rintro e w' ⟨rfl, rfl⟩; exact ⟨rfl, h.put2, _, _, rfl, _, h.c2, fun n e => by cases e⟩)
  · exact (putC B _ n hn w h.c3 h.f3).mono (by rintro e w' ⟨rfl, rfl⟩; exact ⟨rfl, h.put3, _, _, rfl, _, h.c3, fun n e => by cases e⟩)
  · exact (putC B _ n hn w h.c3 h.f3).mono (by rintro e w' ⟨rfl, rfl⟩; exact ⟨rfl, h.put3, _, _, rfl, _, h.c3, fun n e => by cases e⟩)
  · exact (putI B _ n hn w h.c4 h.f4).mono (by rintro e w' ⟨rfl, rfl⟩; exact ⟨rfl, h.put4, _, _, rfl, _, h.c4, fun n e => by cases e⟩)
end Go.Proofs.YtfnfcngkaepnjaaGreatDoor
