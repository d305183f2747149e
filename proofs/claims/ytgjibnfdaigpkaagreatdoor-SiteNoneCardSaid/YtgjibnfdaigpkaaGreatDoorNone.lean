/- Walk of the statement SiteNone. -/
import Derived.Test.YtgjibnfdaigpkaaGreatDoorSiW
import Derived.Test.YtgjibnfdaigpkaaGreatDoorRng
import Derived.Test.YtgjibnfdaigpkaaGreatDoorPairA
namespace Go.Proofs.YtgjibnfdaigpkaaGreatDoor
set_option linter.unusedVariables false
open Go Go.Proofs Go.RowKit Go.Sort

theorem cell_two (w : World) (o : Obj) (c : Array Value) (t : TypeId) (i : Nat) : ((w.alloc o).alloc (.cells c t)).cell? ⟨w.heap.size + 1, i, none⟩ = c[i]? := by
  have := cell_new (w.alloc o) c t i
  rwa [World.size_alloc] at this
theorem froz_two (w : World) (o : Obj) (c : Array Value) (t : TypeId) (i : Nat) : ((w.alloc o).alloc (.cells c t)).frozen? ⟨w.heap.size + 1, i, none⟩ = false := by
  have := World.frozen?_alloc_new (w.alloc o) c t i
  rwa [World.size_alloc] at this

/-- No pairs: nil, or one that has no map. -/
def NoneP (w : World) (p : Option Addr) : Prop := p = none ∨ ∃ B, p = some ⟨B, 0, none⟩ ∧ w.cell? ⟨B, 0, none⟩ = some (.map none)

theorem NoneP.bel {w w' : World} {p : Option Addr} (h : NoneP w p) (hb : Below w.heap.size w w') : NoneP w' p := by
  rcases h with rfl | ⟨B, rfl, hc⟩
  · exact Or.inl rfl
  · exact Or.inr ⟨B, rfl, cell_bel hc hb⟩

set_option maxRecDepth 100000 in
theorem siNone_yes (p : Option Addr) (w : World) (h : NoneP w p) :
    Calls Tryz.prog 72 #[.pointer p] w fun e w' => e = .returned (.bool true) ∧ w = w' := by
  rcases h with rfl | ⟨B, rfl, hc⟩
  · go_enter Tryz.func72, Tryz.ntmps72
    go_wp2
    go_ret
    exact ⟨rfl, rfl⟩
  · have hn : ∀ w, (binOp .eql 73 (.map none) (.map none)).run Tryz.prog w = .ok (.bool true) w := fun w => by kernel_rfl
    go_enter Tryz.func72, Tryz.ntmps72
    go_wp2
    go_ret
    exact ⟨rfl, rfl⟩

theorem siAdd_none (p : Option Addr) (a b c d : Int) (w : World) (h : NoneP w p) :
    Calls Tryz.prog 24 #[.pointer p, .agg #[.int .i64 a, .int .i64 b, .int .i64 c, .int .i64 d]] w fun e w' => e = .returned (.tuple #[.bool false, .int .i64 1]) ∧ Below w.heap.size w w' := by
  go_enter Tryz.func24, Tryz.ntmps24
  go_wp2_with fail
  refine (siNone_yes p _ (h.bel (bel1 _))).mono ?_
  rintro e w1 ⟨rfl, rfl⟩
  go_wp2
  go_ret2
  exact ⟨rfl, bel1 _⟩

theorem siLen_none (p : Option Addr) (w : World) (h : NoneP w p) :
    Calls Tryz.prog 29 #[.pointer p] w fun e w' => e = .returned (.int .i64 0) ∧ w = w' := by
  go_enter Tryz.func29, Tryz.ntmps29
  go_wp2_with fail
  refine (siNone_yes p _ h).mono ?_
  rintro e w1 ⟨rfl, rfl⟩
  go_wp2
  go_ret
  exact ⟨rfl, rfl⟩

set_option maxRecDepth 100000 in
theorem siHas_none (p : Option Addr) (a b c d : Int) (w : World) (h : NoneP w p) :
    Calls Tryz.prog 27 #[.pointer p, .agg #[.int .i64 a, .int .i64 b, .int .i64 c, .int .i64 d]] w fun e w' => e = .returned (.bool false) ∧ Below w.heap.size w w' := by
  go_enter Tryz.func27, Tryz.ntmps27
  go_wp2_with fail
  have h1 := h.bel (bel1 (W := w) (.cells #[.int .i64 a, .int .i64 b, .int .i64 c, .int .i64 d] 62))
  have hB : Below w.heap.size w (w.alloc (.cells #[.int .i64 a, .int .i64 b, .int .i64 c, .int .i64 d] 62)) := bel1 _
  generalize w.alloc (.cells #[.int .i64 a, .int .i64 b, .int .i64 c, .int .i64 d] 62) = V at h1 hB ⊢
  have C := Lib.hid fun (d' : Nat) os => Calls.regrown_of ((siNone_yes p (grow (redrawn V d') os) (h1.bel (below_regrown V d' os))).mono (R' := fun e w' => e = .returned (.bool true) ∧ Below (grow (redrawn V d') os).heap.size (grow (redrawn V d') os) w') (by rintro e w' ⟨rfl, rfl⟩; exact ⟨rfl, Below.refl _ _⟩))
  refine wp_region_quiet_below (by kernel_rfl) (by kernel_rfl) ?_
  iterate 1 (quiet_step (fail))
  quiet_step (exact C.out _ _)
  repeat (quiet_step (fail))
  refine wpQuiet_nil ?_
  intro _ hw'
  obtain ⟨⟨dq, osq⟩, hw''⟩ := hw'
  subst hw''
  go_wp2
  go_ret
  exact ⟨rfl, belT hB (below_regrown V dq osq)⟩

abbrev noPairs : Unit → Array Value := fun _ => #[.int .i64 0, .agg #[.int .i64 0, .int .i64 0, .int .i64 0, .int .i64 0]]

/-- slices.All of none. -/
theorem all_none (w : World) :
    Calls Tryz.prog 78 #[.slice none 0 0] w fun e w' => e = .returned (.func (.func 114) #[] #[.pointer (some ⟨w.heap.size, 0, none⟩)]) ∧ w' = w.alloc (.cells #[.slice none 0 0] 54) := by
  go_enter Tryz.func78, Tryz.ntmps78
  go_wp2
  go_ret
  exact ⟨rfl, rfl⟩

theorem all_none_in (n B : Nat) (Cap : Nat → Prop) :
    SeqB Fence.wide n Tryz.prog 114 #[.pointer (some ⟨B, 0, none⟩)] noPairs Cap (fun xs => xs = []) (fun _ => False) 0 (fun W => W.cell? ⟨B, 0, none⟩ = some (.slice none 0 0)) := by
  intro l J Jx W hc hJ hJx hY h0
  refine callsIn_wide.2 ?_
  clear hY
  simp only [List.append_toArray, List.cons_append, List.nil_append]
  go_enter Tryz.func114, Tryz.ntmps114
  go_wp2
  refine wp_loop_rounds 1 ?_
  rw [rounds_succ]
  go_wp2
  go_end0
  exact ⟨⟨_, rfl⟩, .inl ⟨[], rfl, h0⟩⟩

/-- The pairs' own iterator, of none. -/
theorem siAll_none (p : Option Addr) (w : World) (h : NoneP w p) :
    Calls Tryz.prog 30 #[.pointer p] w fun e w' => e = .returned (.func (.func 77) #[] #[.pointer (some ⟨w.heap.size, 0, none⟩)]) ∧ w' = w.alloc (.cells #[.slice none 0 0] 54) := by
  go_enter Tryz.func30, Tryz.ntmps30
  go_wp2_with fail
  refine (siNone_yes p _ (h.bel (bel1 _))).mono ?_
  rintro e w1 ⟨rfl, rfl⟩
  go_wp2
  go_ret
  exact ⟨rfl, rfl⟩

set_option maxRecDepth 100000 in
set_option maxHeartbeats 1000000 in
theorem siAll_in (n B : Nat) (hn : 1 ≤ n) (Cap : Nat → Prop) :
    SeqB Fence.wide n Tryz.prog 77 #[.pointer (some ⟨B, 0, none⟩)] noPairs Cap (fun xs => xs = []) (fun _ => False) 0 (fun W => W.cell? ⟨B, 0, none⟩ = some (.slice none 0 0)) := by
  intro l J Jx W hc hJ hJx hY h0
  clear hY
  simp only [List.append_toArray, List.cons_append, List.nil_append]
  refine callsIn_of_wp_marks Tryz.func77 rfl trivial ?_ rfl
  simp only [Tryz.ntmps77, List.size_toArray, List.length_cons, List.length_nil, Nat.reduceAdd, Nat.reduceSub, Array.replicate_succ, Array.replicate_zero, List.push_toArray, List.append_toArray, List.nil_append, List.cons_append]
  refine wpIn_wide.2 ?_
  go_wp2
  refine wp_scope_straight ?_
  go_wp2
  refine wp_label ?_
  have hc1 := cell_al hc (.cells #[.func (.yield l) #[] #[]] 138)
  go_wp2_with (go_at_call 78; refine (all_none _).mono ?_; rintro e w1 ⟨rfl, rfl⟩)
  refine (wpIn_wide (n := n)).1 ?_
  refine wpIn_rangeT rfl hn (gf := 114) (lb := #[.pointer (some ⟨W.heap.size + 1, 0, none⟩)]) (by simp [go_sem]) trivial (enters_of Tryz.func114 (by kernel_rfl) rfl)
    (all_none_in (n - 1) (W.heap.size + 1) (fun _ => False)) (fun W' hb => cell_bel (by have := cell_new (W.alloc (.cells #[.func (.yield l) #[] #[]] 138)) #[.slice none 0 0] 54 0; rwa [World.size_alloc] at this) hb) (fun _ => rfl)
    (fun _ => False) (fun k h => h.elim) (fun k h => h.elim) (fun _ W' => J [] W') (fun _ _ _ => False) ?_ (fun _ _ _ _ h _ => h.elim) ?_ (fun _ _ _ _ _ _ h => absurd h (Nat.not_lt_zero _)) ?_ (fun _ _ _ _ _ _ h _ => h.elim)
  · intro s A B hs hb
    exact hJ _ _ _ hs (hb.mono (by simp; omega))
  · exact hJ _ _ _ h0 (belA (bel1 _) _)
  · intro D xs W' hD hS hi hK
    go_wp2
    rw [Exit.noGoto_normal]
    refine ⟨by simp, .inl ⟨_, _, rfl, run_takeDeferred hK, ?_⟩⟩
    have hDs : D < W'.heap.size := (Array.getElem?_eq_some_iff.1 hK).1
    exact ⟨_, results_none rfl _ _ _, ⟨_, rfl⟩, .inl ⟨[], rfl, hJ _ _ _ hi (below_put _ _ _ (by simp at hD; omega) (by simp at hD; omega))⟩⟩

set_option maxRecDepth 100000 in
set_option maxHeartbeats 1000000 in
theorem siteNone_walk (a b c d : Int) (z : Bool) (w : World) (hE : Env w) :
    Calls Tryz.prog 8 #[.agg #[.int .i64 a, .int .i64 b, .int .i64 c, .int .i64 d], .bool z] w fun e w' => e = .returned (.bool true) ∧ Below w.heap.size w w' := by
  refine (callsIn_wide (n := 9)).1 ?_
  refine callsIn_of_wp_marks Tryz.func8 rfl trivial ?_ rfl
  simp only [Tryz.ntmps8, List.size_toArray, List.length_cons, List.length_nil, Nat.reduceAdd, Nat.reduceSub, Array.replicate_succ, Array.replicate_zero, List.push_toArray, List.append_toArray, List.nil_append, List.cons_append]
  refine wpIn_wide.2 ?_
  have x0 := cell_al (cell_new w #[.int .i64 a, .int .i64 b, .int .i64 c, .int .i64 d] 62 0) (.cells #[.bool false] 4)
  have x1 := cell_al (cell_new w #[.int .i64 a, .int .i64 b, .int .i64 c, .int .i64 d] 62 1) (.cells #[.bool false] 4)
  have x2 := cell_al (cell_new w #[.int .i64 a, .int .i64 b, .int .i64 c, .int .i64 d] 62 2) (.cells #[.bool false] 4)
  have x3 := cell_al (cell_new w #[.int .i64 a, .int .i64 b, .int .i64 c, .int .i64 d] 62 3) (.cells #[.bool false] 4)
  have r0 := cell_two w (.cells #[.int .i64 a, .int .i64 b, .int .i64 c, .int .i64 d] 62) #[.bool false] 4 0
  have rf := froz_two w (.cells #[.int .i64 a, .int .i64 b, .int .i64 c, .int .i64 d] 62) #[.bool false] 4 0
  have hB : Below w.heap.size w ((w.alloc (.cells #[.int .i64 a, .int .i64 b, .int .i64 c, .int .i64 d] 62)).alloc (.cells #[.bool false] 4)) := belA (bel1 _) _
  have hfn : ∀ (p : Addr) (w : World), (binOp .eql 69 (.func (.func 77) #[] #[.pointer (some p)]) .nilFunc).run Tryz.prog w = .ok (.bool false) w := fun _ _ => by kernel_rfl
  cases z
  · go_wp2_with fail
    have hN : NoneP ((w.alloc (.cells #[.int .i64 a, .int .i64 b, .int .i64 c, .int .i64 d] 62)).alloc (.cells #[.bool false] 4)) none := Or.inl rfl
    refine (siAdd_none (none : Option Addr) a b c d _ hN).mono ?_
    rintro e w1 ⟨rfl, hb1⟩
    have hN := hN.bel hb1
    have rf := froz_bel r0 rf hb1
    have x0 := cell_bel x0 hb1
    have x1 := cell_bel x1 hb1
    have x2 := cell_bel x2 hb1
    have x3 := cell_bel x3 hb1
    have r0 := cell_bel r0 hb1
    have hB := belT hB hb1
    clear hb1
    go_wp2_with (go_at_call 30; refine (siAll_none (none : Option Addr) _ hN).mono ?_; rintro e w2 ⟨rfl, rfl⟩)
    refine (wpIn_wide (n := 9)).1 ?_
    have hN := hN.bel (bel1 (.cells #[.slice none 0 0] 54))
    have rf := froz_bel r0 rf (bel1 (.cells #[.slice none 0 0] 54))
    have x0 := cell_al x0 (.cells #[.slice none 0 0] 54)
    have x1 := cell_al x1 (.cells #[.slice none 0 0] 54)
    have x2 := cell_al x2 (.cells #[.slice none 0 0] 54)
    have x3 := cell_al x3 (.cells #[.slice none 0 0] 54)
    have r0 := cell_al r0 (.cells #[.slice none 0 0] 54)
    have hB := belA hB (.cells #[.slice none 0 0] 54)
    have hs0 := cell_new w1 #[.slice none 0 0] 54 0
    generalize w1.alloc (.cells #[.slice none 0 0] 54) = U at hN rf x0 x1 x2 x3 r0 hB hs0 ⊢
    have hlU := lt_of_cell r0
    refine wpIn_rangeT rfl (by omega) (gf := 77) (lb := #[.pointer (some ⟨w1.heap.size, 0, none⟩)]) (by simp [go_sem]) trivial (enters_of Tryz.func77 (by kernel_rfl) rfl)
      (siAll_in (9 - 1) w1.heap.size (by omega) (fun _ => False)) (fun W' hb => cell_bel hs0 hb) (fun _ => rfl)
      (fun _ => False) (fun k h => h.elim) (fun k h => h.elim) (fun _ W' => Below U.heap.size U W') (fun _ _ _ => False) ?_ (fun _ _ _ _ h _ => h.elim) (Below.refl _ _) (fun _ _ _ _ _ _ h => absurd h (Nat.not_lt_zero _)) ?_ (fun _ _ _ _ _ _ h _ => h.elim)
    · intro s A B h1 h2
      exact h1.trans h2
    · intro D xs W hD hS hi hK
      have hN := hN.bel hi
      have rf := froz_bel r0 rf hi
      have x0 := cell_bel x0 hi
      have x1 := cell_bel x1 hi
      have x2 := cell_bel x2 hi
      have x3 := cell_bel x3 hi
      have r0 := cell_bel r0 hi
      have hB := belT hB hi
      go_wp2_with (first
        | (go_at_call 26; refine (num_any 1 _).mono ?_; rintro e wn ⟨rfl, rfl⟩)
        | (go_at_call 27; refine (siHas_none (none : Option Addr) a b c d _ hN).mono ?_; rintro e w4 ⟨rfl, hb4⟩; have hN4 := hN.bel hb4; have hK4 := (hb4.block D (Array.getElem?_eq_some_iff.1 hK).1).trans hK; have rf4 := froz_bel r0 rf hb4; have r4 := cell_bel r0 hb4; have hB4 := belT hB hb4)
        | (go_at_call 29; refine (siLen_none (none : Option Addr) _ hN4).mono ?_; rintro e wn ⟨rfl, rfl⟩)
        | (go_at_call 21; refine (works_any _ (hE.on hB4)).mono ?_; rintro e w5 ⟨rfl, hb5⟩; have hK5 := (hb5.block D (Array.getElem?_eq_some_iff.1 hK4).1).trans hK4; have rf5 := froz_bel r4 rf4 hb5; have r5 := cell_bel r4 hb5; have hB5 := belT hB4 hb5))
      have hne : D ≠ w.heap.size + 1 := by omega
      have hK6 : (w5.setCell ⟨w.heap.size + 1, 0, none⟩ (.bool true)).heap[D]? = some (.deferred (some [])) := (Below.heap_setCell w5 ⟨w.heap.size + 1, 0, none⟩ (.bool true) D hne).trans hK5
      have c5 : (w5.setCell ⟨w.heap.size + 1, 0, none⟩ (.bool true)).cell? ⟨w.heap.size + 1, 0, none⟩ = some (.bool true) := World.cell?_setCell_same _ _ _ r5
      have hc5 := cell_kept c5 (grownBy_putObj' _ D (.deferred none)) (fun r e => by cases e; exact ⟨_, hK6, rfl⟩)
      have hB6 := hB5.setCell (p := ⟨w.heap.size + 1, 0, none⟩) (by simp) (.bool true)
      refine ⟨by simp, .inl ⟨_, _, rfl, run_takeDeferred hK6, ?_⟩⟩
      exact ⟨.bool true, by simp [results, Tryz.results8, go_sem, hc5], rfl, hB6.trans (below_put _ _ _ (by omega) hB6.size)⟩
  · go_wp2_with fail
    have hN : NoneP (((w.alloc (.cells #[.int .i64 a, .int .i64 b, .int .i64 c, .int .i64 d] 62)).alloc (.cells #[.bool false] 4)).alloc (.cells #[.map none] 75)) (some ⟨w.heap.size + 1 + 1, 0, none⟩) := Or.inr ⟨_, rfl, by have := cell_two (w.alloc (.cells #[.int .i64 a, .int .i64 b, .int .i64 c, .int .i64 d] 62)) (.cells #[.bool false] 4) #[.map none] 75 0; rwa [World.size_alloc] at this⟩
    have rf := froz_bel r0 rf (bel1 (.cells #[.map none] 75))
    have x0 := cell_al x0 (.cells #[.map none] 75)
    have x1 := cell_al x1 (.cells #[.map none] 75)
    have x2 := cell_al x2 (.cells #[.map none] 75)
    have x3 := cell_al x3 (.cells #[.map none] 75)
    have r0 := cell_al r0 (.cells #[.map none] 75)
    have hB := belA hB (.cells #[.map none] 75)
    refine (siAdd_none (some (⟨w.heap.size + 1 + 1, 0, none⟩ : Addr)) a b c d _ hN).mono ?_
    rintro e w1 ⟨rfl, hb1⟩
    have hN := hN.bel hb1
    have rf := froz_bel r0 rf hb1
    have x0 := cell_bel x0 hb1
    have x1 := cell_bel x1 hb1
    have x2 := cell_bel x2 hb1
    have x3 := cell_bel x3 hb1
    have r0 := cell_bel r0 hb1
    have hB := belT hB hb1
    clear hb1
    go_wp2_with (go_at_call 30; refine (siAll_none (some (⟨w.heap.size + 1 + 1, 0, none⟩ : Addr)) _ hN).mono ?_; rintro e w2 ⟨rfl, rfl⟩)
    refine (wpIn_wide (n := 9)).1 ?_
    have hN := hN.bel (bel1 (.cells #[.slice none 0 0] 54))
    have rf := froz_bel r0 rf (bel1 (.cells #[.slice none 0 0] 54))
    have x0 := cell_al x0 (.cells #[.slice none 0 0] 54)
    have x1 := cell_al x1 (.cells #[.slice none 0 0] 54)
    have x2 := cell_al x2 (.cells #[.slice none 0 0] 54)
    have x3 := cell_al x3 (.cells #[.slice none 0 0] 54)
    have r0 := cell_al r0 (.cells #[.slice none 0 0] 54)
    have hB := belA hB (.cells #[.slice none 0 0] 54)
    have hs0 := cell_new w1 #[.slice none 0 0] 54 0
    generalize w1.alloc (.cells #[.slice none 0 0] 54) = U at hN rf x0 x1 x2 x3 r0 hB hs0 ⊢
    have hlU := lt_of_cell r0
    refine wpIn_rangeT rfl (by omega) (gf := 77) (lb := #[.pointer (some ⟨w1.heap.size, 0, none⟩)]) (by simp [go_sem]) trivial (enters_of Tryz.func77 (by kernel_rfl) rfl)
      (siAll_in (9 - 1) w1.heap.size (by omega) (fun _ => False)) (fun W' hb => cell_bel hs0 hb) (fun _ => rfl)
      (fun _ => False) (fun k h => h.elim) (fun k h => h.elim) (fun _ W' => Below U.heap.size U W') (fun _ _ _ => False) ?_ (fun _ _ _ _ h _ => h.elim) (Below.refl _ _) (fun _ _ _ _ _ _ h => absurd h (Nat.not_lt_zero _)) ?_ (fun _ _ _ _ _ _ h _ => h.elim)
    · intro s A B h1 h2
      exact h1.trans h2
    · intro D xs W hD hS hi hK
      have hN := hN.bel hi
      have rf := froz_bel r0 rf hi
      have x0 := cell_bel x0 hi
      have x1 := cell_bel x1 hi
      have x2 := cell_bel x2 hi
      have x3 := cell_bel x3 hi
      have r0 := cell_bel r0 hi
      have hB := belT hB hi
      go_wp2_with (first
        | (go_at_call 26; refine (num_any 1 _).mono ?_; rintro e wn ⟨rfl, rfl⟩)
        | (go_at_call 27; refine (siHas_none (some (⟨w.heap.size + 1 + 1, 0, none⟩ : Addr)) a b c d _ hN).mono ?_; rintro e w4 ⟨rfl, hb4⟩; have hN4 := hN.bel hb4; have hK4 := (hb4.block D (Array.getElem?_eq_some_iff.1 hK).1).trans hK; have rf4 := froz_bel r0 rf hb4; have r4 := cell_bel r0 hb4; have hB4 := belT hB hb4)
        | (go_at_call 29; refine (siLen_none (some (⟨w.heap.size + 1 + 1, 0, none⟩ : Addr)) _ hN4).mono ?_; rintro e wn ⟨rfl, rfl⟩)
        | (go_at_call 21; refine (works_any _ (hE.on hB4)).mono ?_; rintro e w5 ⟨rfl, hb5⟩; have hK5 := (hb5.block D (Array.getElem?_eq_some_iff.1 hK4).1).trans hK4; have rf5 := froz_bel r4 rf4 hb5; have r5 := cell_bel r4 hb5; have hB5 := belT hB4 hb5))
      have hne : D ≠ w.heap.size + 1 := by omega
      have hK6 : (w5.setCell ⟨w.heap.size + 1, 0, none⟩ (.bool true)).heap[D]? = some (.deferred (some [])) := (Below.heap_setCell w5 ⟨w.heap.size + 1, 0, none⟩ (.bool true) D hne).trans hK5
      have c5 : (w5.setCell ⟨w.heap.size + 1, 0, none⟩ (.bool true)).cell? ⟨w.heap.size + 1, 0, none⟩ = some (.bool true) := World.cell?_setCell_same _ _ _ r5
      have hc5 := cell_kept c5 (grownBy_putObj' _ D (.deferred none)) (fun r e => by cases e; exact ⟨_, hK6, rfl⟩)
      have hB6 := hB5.setCell (p := ⟨w.heap.size + 1, 0, none⟩) (by simp) (.bool true)
      refine ⟨by simp, .inl ⟨_, _, rfl, run_takeDeferred hK6, ?_⟩⟩
      exact ⟨.bool true, by simp [results, Tryz.results8, go_sem, hc5], rfl, hB6.trans (below_put _ _ _ (by omega) hB6.size)⟩
end Go.Proofs.YtgjibnfdaigpkaaGreatDoor
