/- Joined texts: Iterators of package instr: Each. -/
import Derived.Test.YtfnfcngkaepnjaaGreatDoorQE43
import Derived.Test.YtfnfcngkaepnjaaGreatDoorQE37
/- Iterators of package instr: Each. -/
namespace Go.Proofs.YtfnfcngkaepnjaaGreatDoor
set_option linter.unusedVariables false
set_option linter.unusedSimpArgs false
open Go Go.Proofs Go.RowKit Go.Sort

theorem every_any (ao : Option Addr) (n c : Nat) (w : World) : Calls Tryz.prog 49 #[.slice ao n c] w fun e w' =>
    e = .returned (.func (.func 108) #[] #[.pointer (some ⟨w.heap.size, 0, none⟩)]) ∧ w' = w.alloc (.cells #[.slice ao n c] 22) := by
  go_enter Tryz.func49, Tryz.ntmps49
  go_wp2
  go_ret
  exact ⟨rfl, rfl⟩

theorem OwnB.tap {base : Nat} {v : Value} {l : List Nat} {w : World} (h : OwnB base v l w) (hb : base < w.heap.size) : ∃ B, base ≤ B ∧ B < w.heap.size ∧ TapB w B v l := by
  rcases h.own.2 with ⟨rfl, hn⟩ | ⟨g, cap, cur, fz, rfl, hbg, hg, _, hc, hm, _⟩
  · exact ⟨base, Nat.le_refl _, hb, h.arg, fun b o n c hv => by cases hv⟩
  · exact ⟨g, hbg, (Array.getElem?_eq_some_iff.1 hg).1, h.arg, fun b o n c hv => by simp only [Value.slice.injEq, Option.some.injEq, Addr.mk.injEq] at hv; exact hv.1.1.symm⟩

/-- What a slice's clone is. -/
def CloneQ (l : List Nat) (w : World) (e : Ending) (w' : World) : Prop := ∃ v' Bb, e = .returned v' ∧ TapB w' Bb v' l ∧ w.heap.size ≤ Bb ∧ Bb ≤ w'.heap.size ∧ Below w.heap.size w w'

set_option maxRecDepth 100000 in
set_option maxHeartbeats 1000000 in
theorem clone_any (v : Value) (l : List Nat) (hl : l.length ≤ 1000000) (w : World) (hv : ArgB w v l) : Calls Tryz.prog 47 #[v] w (CloneQ l w) := by
  have h0 := hv
  rcases hv with ⟨rfl, rfl⟩ | ⟨ad, c, rfl, h1, h2, h3⟩
  · have hnn : ∀ W, (binOp .eql 22 (.slice none 0 0) (.slice none 0 0)).run Tryz.prog W = .ok (.bool true) W := fun _ => by kernel_rfl
    go_enter Tryz.func47, Tryz.ntmps47
    go_wp2
    go_ret
    exact ⟨_, w.heap.size, rfl, ⟨Or.inl ⟨rfl, rfl⟩, fun b o n c h => by cases h⟩, Nat.le_refl _, Nat.le_refl _, Below.refl _ _⟩
  · have hns : ∀ W, (binOp .eql 22 (.slice (some ad) l.length c) (.slice none 0 0)).run Tryz.prog W = .ok (.bool false) W := fun _ => by kernel_rfl
    have hO0 := OwnB.made w #[] [] 0 rfl rfl (by simp) (by simp)
    go_enter Tryz.func47, Tryz.ntmps47
    go_wp2_with (at_builtin; refine append_B rfl _ _ rfl w.heap.size _ _ rfl hO0 _ _ rfl (h0.bel (bel1 _)) (by simp; omega) (by simp) ?_; intro vo wo hO1 hg1 hb1)
    go_ret
    have hB1 : Below w.heap.size w wo := (bel1 (W := w) (.cells #[] 5)).trans hb1
    obtain ⟨B, h4, h5, h6⟩ := hO1.tap (by have := hb1.size; simp at this; omega)
    rw [List.nil_append] at h6
    exact ⟨vo, B, rfl, h6, h4, Nat.le_of_lt h5, hB1⟩

/-- What Each tells. -/
def EachQ (l : List Nat) (w : World) (e : Ending) (w' : World) : Prop := ∃ v Bo Bb, e = .returned (.func (.func 48) #[] #[.pointer (some ⟨Bo, 0, none⟩)]) ∧ w'.cell? ⟨Bo, 0, none⟩ = some v ∧ TapB w' Bb v l ∧ w.heap.size ≤ Bo ∧ w.heap.size ≤ Bb ∧ Bb < w'.heap.size ∧ Below w.heap.size w w'

set_option maxRecDepth 100000 in
set_option maxHeartbeats 1000000 in
theorem each_any (v : Value) (l : List Nat) (hl : l.length ≤ 1000000) (w : World) (hv : ArgB w v l) : Calls Tryz.prog 12 #[v] w (EachQ l w) := by
  have CC := Lib.hid (clone_any v l hl w hv)
  go_enter Tryz.func12, Tryz.ntmps12
  go_wp2_with fail
  refine CC.out.mono ?_
  rintro e w1 ⟨v', Bb, rfl, hT, h1, h2, hb1⟩
  obtain ⟨ao, cp, rfl⟩ := hT.arg.form
  go_wp2
  go_ret
  have hs := hb1.size
  exact ⟨_, w1.heap.size, Bb, rfl, cell_new w1 #[.slice ao l.length cp] 22 0, hT.bel (bel1 _), hs, h1, by simp; omega, belA hb1 _⟩

attribute [local go_sem] Oper.semAt_some

set_option maxRecDepth 100000 in
set_option maxHeartbeats 2000000 in
/-- Each's closure. -/
theorem each_in (n Bo Bb : Nat) (hn : 9 ≤ n) (v : Value) (l : List Nat) (hl : l.length ≤ 1000000) :
    SeqB Fence.wide n Tryz.prog 48 #[.pointer (some ⟨Bo, 0, none⟩)] itAt (fun k => k = Bo ∨ k = Bb) (fun _ => False)
      (fun xs => xs = itemsAt l 0) (fun pre => ∃ j, 1 ≤ j ∧ j ≤ (itemsAt l 0).length ∧ pre = (itemsAt l 0).take j) (itemsAt l 0).length
      (fun W => W.cell? ⟨Bo, 0, none⟩ = some v ∧ TapB W Bb v l ∧ Bb < W.heap.size) := by
  rintro lp J Jx W ⟨ci, hv, hBb⟩ hJ hJx hY hj0
  obtain ⟨ao, cp, rfl⟩ := hv.arg.form
  simp only [List.append_toArray, List.cons_append, List.nil_append]
  refine callsIn_of_wp_marks Tryz.func48 rfl trivial ?_ rfl
  simp only [Tryz.ntmps48, List.size_toArray, List.length_cons, List.length_nil, Nat.reduceAdd, Nat.reduceSub, Array.replicate_succ, Array.replicate_zero, List.push_toArray, List.append_toArray, List.nil_append, List.cons_append]
  refine wpIn_wide.2 ?_
  have ci := cell_al ci (.cells #[.func (.yield lp) #[] #[]] 97)
  have cy := cell_new W #[.func (.yield lp) #[] #[]] 97 0
  have hv1 := hv.bel (bel1 (.cells #[.func (.yield lp) #[] #[]] 97))
  have hlo : Bo < W.heap.size := by have := lt_of_cell ‹W.cell? ⟨Bo, 0, none⟩ = some (.slice ao l.length cp)›; exact this
  go_wp2
  refine wp_scope_straight ?_
  go_wp2
  refine wp_label ?_
  go_wp2_with (go_at_call 49; refine (every_any ao l.length cp _).mono ?_; rintro e w1 ⟨rfl, rfl⟩)
  refine (wpIn_wide (n := n)).1 ?_
  have cy := cell_al cy (.cells #[.slice ao l.length cp] 22)
  have e0 := cell_two W (.cells #[.func (.yield lp) #[] #[]] 97) #[.slice ao l.length cp] 22 0
  have hv2 := hv1.bel (bel1 (.cells #[.slice ao l.length cp] 22))
  have hBU : Below W.heap.size W ((W.alloc (.cells #[.func (.yield lp) #[] #[]] 97)).alloc (.cells #[.slice ao l.length cp] 22)) := belA (bel1 _) _
  have hsU : ((W.alloc (.cells #[.func (.yield lp) #[] #[]] 97)).alloc (.cells #[.slice ao l.length cp] 22)).heap.size = W.heap.size + 2 := by simp
  refine wpIn_rangeT rfl (by omega) (gf := 108) (lb := #[.pointer (some ⟨W.heap.size + 1, 0, none⟩)]) (by simp [go_sem]) trivial (enters_of Tryz.func108 (by kernel_rfl) rfl)
    (every_in (n - 1) (W.heap.size + 1) Bb (by omega) (.slice ao l.length cp) l hl) (fun W' hb => ⟨cell_bel e0 hb, hv2.bel hb, Nat.lt_of_lt_of_le (by omega) hb.size⟩) (fun _ => rfl)
    (fun k => k < W.heap.size ∧ ¬ (k = Bo ∨ k = Bb)) (fun k h => ⟨by omega, fun h' => by omega⟩) (fun k h => by omega) (fun k h => h.elim)
    (fun pre W' => J pre W' ∧ W'.cell? ⟨W.heap.size, 0, none⟩ = some (.func (.yield lp) #[] #[]) ∧ W.heap.size ≤ W'.heap.size) (fun c pre W' => c = .exit 0 ∧ Jx pre W') ?hI ?hIx ?h0 ?hround ?hdone ?hstop
  case hI =>
    rintro s A B ⟨hj, hc, hz⟩ hb
    exact ⟨hJ _ _ _ hj (hb.mono (by omega) (fun k hk hx => hx)), cell_belX hc hb (by omega) (fun h => h), Nat.le_trans hz hb.1.size⟩
  case hIx =>
    rintro c s A B ⟨rfl, hj⟩ hb
    exact ⟨rfl, hJx _ _ _ hj (hb.mono (by omega) (fun k hk hx => hx))⟩
  case h0 => exact ⟨hJ _ _ _ hj0 (BelX.of_below hBU), cy, hBU.size⟩
  case hround =>
    rintro l2 pre x W2 ⟨hj, hc, hz⟩ hlt hlen hsp
    gi_wp2
    refine ⟨Touch.below (bel1 _), fun W3 hb3 ht3 => ?_⟩
    have hbx : Below (W.heap.size + 2) W2 W3 := ((bel1 (W := W2) (.cells #[.int .i64 x.op, .int .i64 x.a, .int .i64 x.b, .int .i64 x.c, .int .u32 x.m] 29)).mono (by omega)).trans (hb3.mono (by omega))
    have hj3 := hJ _ _ _ hj (BelX.of_below (hbx.mono (by omega)))
    have hc3 := cell_belB hc hbx (by omega)
    have hz3 : W.heap.size ≤ W3.heap.size := Nat.le_trans hz hbx.size
    have hX := Bare.touch (Bare.new x.op x.a x.b x.c x.m W2 29) ht3 (by omega)
    obtain ⟨x0, x1, x2, x3, x4, _, _, _, _⟩ := hX
    dsimp only at x1 x2 x3 x4
    obtain ⟨fn, tmps, assign, body, hy, hR⟩ := hY pre x W3 hj3 hz3 hlen hsp
    dsimp only [itAt] at hy
    clear hY
    gi_wp2
    refine ⟨fun h => (by cases h), ?_⟩
    refine (round_any l2 (n - 1 - 1 - 1) hR).mono ?_
    rintro e W4 ⟨⟨rfl, hj4⟩ | ⟨rfl, hj4⟩, ht4⟩
    · have hc4 := cell_touch hc3 ht4 (by omega)
      gi_wp2
      exact ⟨ht4, hj4, hc4, Nat.le_trans hz3 ht4.size⟩
    · gi_wp2
      exact ⟨ht4, rfl, hj4⟩
  case hdone =>
    rintro D xs W' hD hS ⟨hj, _, hz⟩ hK
    go_wp2
    rw [Exit.noGoto_normal]
    refine ⟨by simp, .inl ⟨_, _, rfl, run_takeDeferred hK, ?_⟩⟩
    exact ⟨_, results_none rfl _ _ _, ⟨_, rfl⟩, .inl ⟨xs, hS, hJ _ _ _ hj (.of_below (below_put _ _ _ (by omega) (by omega)))⟩⟩
  case hstop =>
    rintro D c pre W' hD hSp ⟨rfl, hj⟩ hK
    have hDs : D < W'.heap.size := (Array.getElem?_eq_some_iff.1 hK).1
    refine wpIn_wide.2 ?_
    go_wp2
    rw [Exit.noGoto_normal]
    refine ⟨by simp, .inl ⟨_, _, rfl, run_takeDeferred hK, ?_⟩⟩
    exact ⟨_, results_none rfl _ _ _, ⟨_, rfl⟩, .inr ⟨pre, hSp, hJx _ _ _ hj (.of_below (below_put _ _ _ (by omega) (by omega)))⟩⟩
end Go.Proofs.YtfnfcngkaepnjaaGreatDoor
