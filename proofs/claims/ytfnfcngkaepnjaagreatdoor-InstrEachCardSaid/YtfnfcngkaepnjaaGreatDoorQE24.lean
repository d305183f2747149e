/- Joined texts: The kind of a name. -/
import Derived.Test.YtfnfcngkaepnjaaGreatDoorQE6
import Derived.Test.YtfnfcngkaepnjaaGreatDoorQE23
/- The kind of a name. -/
namespace Go.Proofs.YtfnfcngkaepnjaaGreatDoor
set_option linter.unusedVariables false
open Go Go.Proofs Go.RowKit

theorem str_ne {x y : ByteArray} (h : x ≠ y) : (x.toList == y.toList) = false := by
  rw [beq_eq_false_iff_ne, toList_data, toList_data]
  exact fun e => h (ByteArray.ext (Array.toList_inj.1 e))

/-- What arith.Parse answers. -/
def kindP (s : ByteArray) (k e : Int) : Prop := (∃ j : Nat, j < 12 ∧ k = j + 1 ∧ s = kindN j ∧ e = 0) ∨ ((∀ j : Nat, j < 12 → kindN j ≠ s) ∧ k = 0 ∧ e = 5)

structure KindI (W : World) (s : ByteArray) (xs : List Nat) (w : World) : Prop where
  cs : w.cell? ⟨W.heap.size, 0, none⟩ = some (.string s)
  ck : ∃ s, w.cell? ⟨W.heap.size + 1, 0, none⟩ = some (.int .i64 s)
  ce : ∃ e, w.cell? ⟨W.heap.size + 1 + 1, 0, none⟩ = some (.int .i64 e)
  fs : w.frozen? ⟨W.heap.size + 1, 0, none⟩ = false
  fe : w.frozen? ⟨W.heap.size + 1 + 1, 0, none⟩ = false
  no : ∀ j ∈ xs, kindN j ≠ s
  bel : Below W.heap.size W w

structure KindX (W : World) (s : ByteArray) (c : Code) (w : World) : Prop where
  cc : c = .ret
  yes : ∃ j : Nat, j < 12 ∧ s = kindN j ∧ w.cell? ⟨W.heap.size + 1, 0, none⟩ = some (.int .i64 (j + 1)) ∧ w.cell? ⟨W.heap.size + 1 + 1, 0, none⟩ = some (.int .i64 0)
  bel : Below W.heap.size W w

attribute [local go_sem] Oper.semAt_some

set_option maxRecDepth 100000 in
set_option maxHeartbeats 1000000 in
theorem kindParse_any (s : ByteArray) (w : World) : Calls Tryz.prog 150 #[.string s] w fun e w' => ∃ k n, kindP s k n ∧ e = .returned (.tuple #[.int .i64 k, .int .i64 n]) ∧ Below w.heap.size w w' := by
  refine (callsIn_wide (n := 9)).1 ?_
  refine callsIn_of_wp_marks Tryz.func150 rfl trivial ?_ rfl
  simp only [Tryz.ntmps150, List.size_toArray, List.length_cons, List.length_nil, Nat.reduceAdd, Nat.reduceSub, Array.replicate_succ, Array.replicate_zero, List.push_toArray, List.append_toArray, List.nil_append, List.cons_append]
  refine wpIn_wide.2 ?_
  go_wp2_with (go_at_call 187; refine (kindsOf_any _).mono ?_; rintro e w1 ⟨rfl, rfl⟩)
  refine (wpIn_wide (n := 9)).1 ?_
  have k0 := cell_al (cell_al (cell_new w #[.string s] 9 0) (.cells #[.int .i64 0] 220)) (.cells #[.int .i64 0] 38)
  have s0 := cell_al (cell_two w (.cells #[.string s] 9) #[.int .i64 0] 220 0) (.cells #[.int .i64 0] 38)
  have sf := froz_bel (cell_two w (.cells #[.string s] 9) #[.int .i64 0] 220 0) (froz_two w (.cells #[.string s] 9) #[.int .i64 0] 220 0) (bel1 (.cells #[.int .i64 0] 38))
  have e0 := cell_three w (.cells #[.string s] 9) (.cells #[.int .i64 0] 220) #[.int .i64 0] 38 0
  have ef : (((w.alloc (.cells #[.string s] 9)).alloc (.cells #[.int .i64 0] 220)).alloc (.cells #[.int .i64 0] 38)).frozen? ⟨w.heap.size + 1 + 1, 0, none⟩ = false := by
    have := froz_two (w.alloc (.cells #[.string s] 9)) (.cells #[.int .i64 0] 220) #[.int .i64 0] 38 0
    rwa [World.size_alloc] at this
  have hBU : Below w.heap.size w (((w.alloc (.cells #[.string s] 9)).alloc (.cells #[.int .i64 0] 220)).alloc (.cells #[.int .i64 0] 38)) := belA (belA (bel1 _) _) _
  have hsU : (((w.alloc (.cells #[.string s] 9)).alloc (.cells #[.int .i64 0] 220)).alloc (.cells #[.int .i64 0] 38)).heap.size = w.heap.size + 3 := by simp
  refine wpIn_rangeT rfl (by omega) (gf := 228) (lb := #[]) (by simp [go_sem]) trivial (enters_of Tryz.func228 (by kernel_rfl) rfl)
    (kinds_in 8 (by omega)) (fun W' hb => trivial) (fun _ => rfl)
    (fun b => b = w.heap.size + 1 ∨ b = w.heap.size + 1 + 1) (fun b h => ⟨by omega, fun h' => h'⟩) (fun b h => h.elim) (fun b h => h.elim)
    (KindI w s) (fun c _ W' => KindX w s c W') ?hI ?hIx ?h0 ?hround ?hdone ?hstop
  case hI =>
    rintro xs A B h hb
    obtain ⟨s1, h1⟩ := h.ck
    obtain ⟨s2, h2⟩ := h.ce
    exact ⟨cell_belX h.cs hb (by omega) (fun h => h), ⟨s1, cell_belX h1 hb (by omega) (fun h => h)⟩, ⟨s2, cell_belX h2 hb (by omega) (fun h => h)⟩, froz_belX h.fs hb (by omega) (fun h => h), froz_belX h.fe hb (by omega) (fun h => h), h.no, h.bel.trans ((hb.below (fun _ _ h => h)).mono (by omega))⟩
  case hIx =>
    rintro c xs A B h hb
    obtain ⟨j, hj, hk, h1, h2⟩ := h.yes
    exact ⟨h.cc, ⟨j, hj, hk, cell_belX h1 hb (by omega) (fun h => h), cell_belX h2 hb (by omega) (fun h => h)⟩, h.bel.trans ((hb.below (fun _ _ h => h)).mono (by omega))⟩
  case h0 => exact ⟨k0, ⟨_, s0⟩, ⟨_, e0⟩, sf, ef, fun j hj => (by cases hj), hBU⟩
  case hround =>
    rintro l2 pre j W2 hi hlt hlen hsp
    gi_wp2
    refine ⟨Touch.refl _ _, fun W3 hb3 ht3 => ?_⟩
    have hj12 : j < 12 := by
      obtain ⟨j', h1, h2, h3⟩ := hsp
      have : j ∈ List.range j' := by rw [← h3]; simp
      have := List.mem_range.1 this
      omega
    obtain ⟨s1, h1⟩ := hi.ck
    obtain ⟨s2, h2⟩ := hi.ce
    have cs := cell_belB hi.cs hb3 (by omega)
    have ck := cell_belB h1 hb3 (by omega)
    have ce := cell_belB h2 hb3 (by omega)
    have fs := froz_belB hi.fs hb3 (by omega)
    have fe := froz_belB hi.fe hb3 (by omega)
    have hbW := hi.bel.trans (hb3.mono (by omega))
    have hno := hi.no
    by_cases hx : kindN j = s
    · subst hx
      generalize hkn : kindN j = kn at *
      have HK := Lib.hid hkn
      clear hkn
      gi_wp2
      have cs' : (W3.setCell ⟨w.heap.size + 1, 0, none⟩ (.int .i64 ((j : Int) + 1))).cell? ⟨w.heap.size + 1 + 1, 0, none⟩ = some (.int .i64 s2) := (World.cell?_setCell_other _ _ _ _ (by simp)).trans ce
      refine ⟨(Touch.setCell W3 _ _ (Or.inl rfl)).trans (Touch.setCell _ _ _ (Or.inr rfl)), rfl, ⟨j, hj12, HK.out.symm, ?_, World.cell?_setCell_same _ _ _ cs'⟩, (hbW.setCell (by simp) _).setCell (by simp; omega) _⟩
      exact (World.cell?_setCell_other _ _ _ _ (by simp)).trans (World.cell?_setCell_same _ _ _ ck)
    · have hx' := str_ne hx
      have HX := Lib.hid hx
      clear hx
      gi_wp2
      refine ⟨Touch.refl _ _, cs, ⟨s1, ck⟩, ⟨s2, ce⟩, fs, fe, fun i hi => ?_, hbW⟩
      rcases List.mem_append.1 hi with hi | hi
      · exact hno i hi
      · rw [List.mem_singleton.1 hi]; exact HX.out
  case hdone =>
    rintro D xs W' hD hS hi hK
    have hxs : xs = List.range 12 := hS
    subst hxs
    obtain ⟨s1, h1⟩ := hi.ck
    obtain ⟨s2, h2⟩ := hi.ce
    have fs := hi.fs
    have fe := hi.fe
    go_wp2
    have hK2 : ((W'.setCell ⟨w.heap.size + 1, 0, none⟩ (.int .i64 0)).setCell ⟨w.heap.size + 1 + 1, 0, none⟩ (.int .i64 5)).heap[D]? = some (.deferred (some [])) := by
      rw [Below.heap_setCell _ _ _ _ (by simp; omega), Below.heap_setCell _ _ _ _ (by simp; omega)]
      exact hK
    have c2 : (W'.setCell ⟨w.heap.size + 1, 0, none⟩ (.int .i64 0)).cell? ⟨w.heap.size + 1 + 1, 0, none⟩ = some (.int .i64 s2) := (World.cell?_setCell_other _ _ _ _ (by simp)).trans h2
    refine ⟨by simp, .inl ⟨_, _, rfl, run_takeDeferred hK2, ?_⟩⟩
    have hDs := (Array.getElem?_eq_some_iff.1 hK2).1
    have g2 := cell_put (x := .deferred none) (World.cell?_setCell_same _ _ (.int .i64 5) c2) (show w.heap.size + 1 + 1 ≠ D by omega)
    have g1 := cell_put (x := .deferred none) ((World.cell?_setCell_other _ ⟨w.heap.size + 1 + 1, 0, none⟩ ⟨w.heap.size + 1, 0, none⟩ (.int .i64 5) (by simp)).trans (World.cell?_setCell_same _ _ (.int .i64 0) h1)) (show w.heap.size + 1 ≠ D by omega)
    refine ⟨.tuple #[.int .i64 0, .int .i64 5], by simp [results, Tryz.results150, go_sem, g1, g2], _, _, Or.inr ⟨fun j hj => hi.no j (List.mem_range.2 hj), rfl, rfl⟩, rfl, ?_⟩
    refine Below.trans ((hi.bel.setCell (by simp) _).setCell (by simp; omega) _) (below_put _ _ _ (by omega) (by simp; have := hi.bel.size; omega))
  case hstop =>
    rintro D c pre W' hD hSp ⟨rfl, ⟨j, hj, hk, h1, h2⟩, hb⟩ hK
    refine wpIn_wide.2 ?_
    have HK := Lib.hid hk
    clear hk
    go_wp2
    refine ⟨by simp, .inl ⟨_, _, rfl, run_takeDeferred hK, ?_⟩⟩
    have g2 := cell_put (x := .deferred none) h2 (show w.heap.size + 1 + 1 ≠ D by omega)
    have g1 := cell_put (x := .deferred none) h1 (show w.heap.size + 1 ≠ D by omega)
    refine ⟨.tuple #[.int .i64 ((j : Int) + 1), .int .i64 0], by simp [results, Tryz.results150, go_sem, g1, g2], _, _, Or.inl ⟨j, hj, rfl, HK.out, rfl⟩, rfl, ?_⟩
    exact hb.trans (below_put _ _ _ (by omega) hb.size)
end Go.Proofs.YtfnfcngkaepnjaaGreatDoor
