/- Joined texts: Kinds of reckoning: their iterator; Name.; Cells of the last of two or three new blocks; cells below a bound.; A kind's name. -/
import Derived.Test.YtfnfcngkaepnjaaGreatDoorQE4
import Derived.Test.YtfnfcngkaepnjaaGreatDoorQE5
import Derived.Test.YtfnfcngkaepnjaaGreatDoorQE1
/- Kinds of reckoning: their iterator; Name. -/
namespace Go.Proofs.YtfnfcngkaepnjaaGreatDoor
set_option linter.unusedVariables false
open Go Go.Proofs Go.RowKit

/-- The kinds' names. -/
def kindL : List ByteArray := [⟨#[97, 100, 100]⟩, ⟨#[115, 117, 98]⟩, ⟨#[109, 117, 108]⟩, ⟨#[100, 105, 118]⟩, ⟨#[109, 111, 100]⟩, ⟨#[97, 110, 100]⟩, ⟨#[111, 114]⟩, ⟨#[120, 111, 114]⟩, ⟨#[115, 104, 108]⟩, ⟨#[115, 104, 114]⟩, ⟨#[108, 101, 115, 115]⟩, ⟨#[101, 113, 117, 97, 108]⟩]
def kindN (k : Nat) : ByteArray := kindL.getD k ⟨#[]⟩
def kindV : Value := .agg (kindL.map Value.string).toArray

theorem kinds_any (w : World) : Calls Tryz.prog 229 #[] w fun e w' => e = .returned kindV ∧ Below w.heap.size w w' := by
  go_enter Tryz.func229, Tryz.ntmps229
  go_wp2
  exact bodyPost_ret (v := kindV) (by simp [results, Tryz.results229, go_sem, kindV, kindL]) rfl ⟨rfl, bel1 _⟩

theorem kind_index (w : World) : ∀ (k : Nat), k < 12 → (Instr.index 295 kindV (.int .i64 (k : Int))).run Tryz.prog w = .ok (.string (kindN k)) w
  | 0, _ => by kernel_rfl
  | 1, _ => by kernel_rfl
  | 2, _ => by kernel_rfl
  | 3, _ => by kernel_rfl
  | 4, _ => by kernel_rfl
  | 5, _ => by kernel_rfl
  | 6, _ => by kernel_rfl
  | 7, _ => by kernel_rfl
  | 8, _ => by kernel_rfl
  | 9, _ => by kernel_rfl
  | 10, _ => by kernel_rfl
  | 11, _ => by kernel_rfl
  | n + 12, h => absurd h (by omega)

/-- The k-th, as it comes. -/
abbrev kindAt (k : Nat) : Array Value := #[.int .i64 (k + 1), .string (kindN k)]

attribute [local go_sem] Oper.semAt_some

set_option maxRecDepth 100000 in
set_option maxHeartbeats 4000000 in
theorem kinds_in (n : Nat) (hn : 1 ≤ n) :
    SeqB Fence.wide n Tryz.prog 228 #[] kindAt (fun _ => False) (fun _ => False) (fun xs => xs = List.range 12) (fun pre => ∃ j, 1 ≤ j ∧ j ≤ 12 ∧ pre = List.range j) 12 (fun _ => True) := by
  rintro l J Jx W - hJ hJx hY hj0
  simp only [Array.append_empty]
  refine callsIn_of_wp Tryz.func228 rfl trivial ?_ rfl
  simp only [Tryz.ntmps228, List.size_toArray, List.length_cons, List.length_nil, Nat.reduceAdd, Nat.reduceSub, Array.replicate_succ, Array.replicate_zero, List.push_toArray, List.append_toArray, List.nil_append, List.cons_append]
  gi_wp2_with (refine ⟨trivial, ?_⟩; gi_at_call 229; refine (callsIn_wide.2 (kinds_any _)).mono ?_; rintro e w2 ⟨rfl, hb0⟩; have hj1 := hJ _ _ _ hj0 (BelX.of_below hb0); have hsz0 := hb0.size)
  gi_loopw [5] (fun vi wr => ∃ k : Nat, vi = .int .i64 k ∧ k ≤ 12 ∧ W.heap.size ≤ wr.heap.size ∧ J (List.range k) wr) (fun vi _ => 12 - (intOf vi).toNat)
  case atStart => exact ⟨0, rfl, by omega, hsz0, hj1⟩
  case round =>
    obtain ⟨k, rfl, hk, hsz, hj⟩ := hrel
    by_cases hlt : k < 12
    · obtain ⟨fn, tmps, assign, body, hy, hR⟩ := hY (List.range k) k wr hj hsz (by simp; omega) ⟨k + 1, by omega, by omega, List.range_succ.symm⟩
      rw [← List.range_succ] at hR
      dsimp only [kindAt] at hy
      clear hY
      have hki := kind_index wr k hlt
      have hk1 : (k : Int) < 12 := by omega
      gi_wp2
      refine hR.mono ?_
      rintro e W' ⟨⟨rfl, hj'⟩ | ⟨rfl, hjx⟩, ht⟩
      · have hsz := Nat.le_trans hsz ht.size
        clear hR hy
        gi_wp2
        exact ⟨⟨k + 1, by go_num, by omega, hsz, hj'⟩, by simp [intOf]; omega⟩
      · gi_wp2
        refine bodyPost_ret (results_none rfl _ _ _) rfl ?_
        exact ⟨⟨_, rfl⟩, .inr ⟨_, ⟨k + 1, by omega, by omega, rfl⟩, hjx⟩⟩
    · have hk1 : ¬ (k : Int) < 12 := by omega
      have hk2 : k = 12 := by omega
      subst hk2
      generalize hxs : List.range 12 = xs at hj
      gi_wp2
      go_end0
      exact ⟨⟨_, rfl⟩, .inl hj⟩

theorem kindsOf_any (w : World) : Calls Tryz.prog 187 #[] w fun e w' => e = .returned (.func (.func 228) #[] #[]) ∧ w' = w := by
  go_enter Tryz.func187, Tryz.ntmps187
  go_wp2
  go_ret
  exact ⟨rfl, rfl⟩
end Go.Proofs.YtfnfcngkaepnjaaGreatDoor

/- Cells of the last of two or three new blocks; cells below a bound. -/
namespace Go.Proofs.YtfnfcngkaepnjaaGreatDoor
set_option linter.unusedVariables false
open Go Go.Proofs Go.RowKit

theorem cell_two (w : World) (o : Obj) (c : Array Value) (t : TypeId) (i : Nat) : ((w.alloc o).alloc (.cells c t)).cell? ⟨w.heap.size + 1, i, none⟩ = c[i]? := by
  have := cell_new (w.alloc o) c t i
  rwa [World.size_alloc] at this
theorem cell_three (w : World) (o o' : Obj) (c : Array Value) (t : TypeId) (i : Nat) : (((w.alloc o).alloc o').alloc (.cells c t)).cell? ⟨w.heap.size + 1 + 1, i, none⟩ = c[i]? := by
  have := cell_two (w.alloc o) o' c t i
  rwa [World.size_alloc] at this
theorem froz_two (w : World) (o : Obj) (c : Array Value) (t : TypeId) (i : Nat) : ((w.alloc o).alloc (.cells c t)).frozen? ⟨w.heap.size + 1, i, none⟩ = false := by
  have := World.frozen?_alloc_new (w.alloc o) c t i
  rwa [World.size_alloc] at this

theorem cell_belB {w w' : World} {B0 b o : Nat} {v : Value} (h : w.cell? ⟨b, o, none⟩ = some v) (hb : Below B0 w w') (hlt : b < B0) : w'.cell? ⟨b, o, none⟩ = some v := (hb.cell (p := ⟨b, o, none⟩) hlt).trans h
theorem froz_belB {w w' : World} {B0 b o : Nat} (hf : w.frozen? ⟨b, o, none⟩ = false) (hb : Below B0 w w') (hlt : b < B0) : w'.frozen? ⟨b, o, none⟩ = false := (hb.frozen (p := ⟨b, o, none⟩) hlt).trans hf
end Go.Proofs.YtfnfcngkaepnjaaGreatDoor

/- A kind's name. -/
namespace Go.Proofs.YtfnfcngkaepnjaaGreatDoor
set_option linter.unusedVariables false
open Go Go.Proofs Go.RowKit

theorem cell_belX {n : Nat} {X : Nat → Prop} {A B : World} {b o : Nat} {v : Value} (h : A.cell? ⟨b, o, none⟩ = some v) (hb : BelX n X A B) (hn : b < n) (hx : ¬ X b) : B.cell? ⟨b, o, none⟩ = some v := by
  have e := hb.2 b hn hx
  simp only [World.cell?] at h ⊢
  rw [e]
  exact h
theorem froz_belX {n : Nat} {X : Nat → Prop} {A B : World} {b o : Nat} (h : A.frozen? ⟨b, o, none⟩ = false) (hb : BelX n X A B) (hn : b < n) (hx : ¬ X b) : B.frozen? ⟨b, o, none⟩ = false := by
  have e := hb.2 b hn hx
  simp only [World.frozen?] at h ⊢
  rw [e]
  exact h

/-- What Name answers. -/
def nameP (k : Int) (s : ByteArray) (e : Int) : Prop := (∃ j : Nat, j < 12 ∧ k = j + 1 ∧ s = kindN j ∧ e = 0) ∨ ((∀ j : Nat, j < 12 → (j : Int) + 1 ≠ k) ∧ s = ⟨#[]⟩ ∧ e = 2)

/-- Within the range: the parameter, the two results. -/
structure NameI (W : World) (k : Int) (xs : List Nat) (w : World) : Prop where
  ck : w.cell? ⟨W.heap.size, 0, none⟩ = some (.int .i64 k)
  cs : ∃ s, w.cell? ⟨W.heap.size + 1, 0, none⟩ = some (.string s)
  ce : ∃ e, w.cell? ⟨W.heap.size + 1 + 1, 0, none⟩ = some (.int .i64 e)
  fs : w.frozen? ⟨W.heap.size + 1, 0, none⟩ = false
  fe : w.frozen? ⟨W.heap.size + 1 + 1, 0, none⟩ = false
  no : ∀ j ∈ xs, (j : Int) + 1 ≠ k
  bel : Below W.heap.size W w

structure NameX (W : World) (k : Int) (c : Code) (w : World) : Prop where
  cc : c = .ret
  yes : ∃ j : Nat, j < 12 ∧ k = j + 1 ∧ w.cell? ⟨W.heap.size + 1, 0, none⟩ = some (.string (kindN j)) ∧ w.cell? ⟨W.heap.size + 1 + 1, 0, none⟩ = some (.int .i64 0)
  bel : Below W.heap.size W w

theorem cell_put {W : World} {b o D : Nat} {x : Obj} {v : Value} (h : W.cell? ⟨b, o, none⟩ = some v) (hn : b ≠ D) : (W.putObj D x).cell? ⟨b, o, none⟩ = some v := (World.cell?_of_block (w := W) (World.putObj_heap_other hn)).trans h

attribute [local go_sem] Oper.semAt_some

set_option maxRecDepth 100000 in
set_option maxHeartbeats 1000000 in
theorem kindName_any (k : Int) (w : World) : Calls Tryz.prog 141 #[.int .i64 k] w fun e w' => ∃ s n, nameP k s n ∧ e = .returned (.tuple #[.string s, .int .i64 n]) ∧ Below w.heap.size w w' := by
  refine (callsIn_wide (n := 9)).1 ?_
  refine callsIn_of_wp_marks Tryz.func141 rfl trivial ?_ rfl
  simp only [Tryz.ntmps141, List.size_toArray, List.length_cons, List.length_nil, Nat.reduceAdd, Nat.reduceSub, Array.replicate_succ, Array.replicate_zero, List.push_toArray, List.append_toArray, List.nil_append, List.cons_append]
  refine wpIn_wide.2 ?_
  go_wp2_with (go_at_call 187; refine (kindsOf_any _).mono ?_; rintro e w1 ⟨rfl, rfl⟩)
  refine (wpIn_wide (n := 9)).1 ?_
  have k0 := cell_al (cell_al (cell_new w #[.int .i64 k] 220 0) (.cells #[.string ⟨#[]⟩] 9)) (.cells #[.int .i64 0] 38)
  have s0 := cell_al (cell_two w (.cells #[.int .i64 k] 220) #[.string ⟨#[]⟩] 9 0) (.cells #[.int .i64 0] 38)
  have sf := froz_bel (cell_two w (.cells #[.int .i64 k] 220) #[.string ⟨#[]⟩] 9 0) (froz_two w (.cells #[.int .i64 k] 220) #[.string ⟨#[]⟩] 9 0) (bel1 (.cells #[.int .i64 0] 38))
  have e0 := cell_three w (.cells #[.int .i64 k] 220) (.cells #[.string ⟨#[]⟩] 9) #[.int .i64 0] 38 0
  have ef : (((w.alloc (.cells #[.int .i64 k] 220)).alloc (.cells #[.string ⟨#[]⟩] 9)).alloc (.cells #[.int .i64 0] 38)).frozen? ⟨w.heap.size + 1 + 1, 0, none⟩ = false := by
    have := froz_two (w.alloc (.cells #[.int .i64 k] 220)) (.cells #[.string ⟨#[]⟩] 9) #[.int .i64 0] 38 0
    rwa [World.size_alloc] at this
  have hBU : Below w.heap.size w (((w.alloc (.cells #[.int .i64 k] 220)).alloc (.cells #[.string ⟨#[]⟩] 9)).alloc (.cells #[.int .i64 0] 38)) := belA (belA (bel1 _) _) _
  have hsU : (((w.alloc (.cells #[.int .i64 k] 220)).alloc (.cells #[.string ⟨#[]⟩] 9)).alloc (.cells #[.int .i64 0] 38)).heap.size = w.heap.size + 3 := by simp
  refine wpIn_rangeT rfl (by omega) (gf := 228) (lb := #[]) (by simp [go_sem]) trivial (enters_of Tryz.func228 (by kernel_rfl) rfl)
    (kinds_in 8 (by omega)) (fun W' hb => trivial) (fun _ => rfl)
    (fun b => b = w.heap.size + 1 ∨ b = w.heap.size + 1 + 1) (fun b h => ⟨by omega, fun h' => h'⟩) (fun b h => h.elim) (fun b h => h.elim)
    (NameI w k) (fun c _ W' => NameX w k c W') ?hI ?hIx ?h0 ?hround ?hdone ?hstop
  case hI =>
    rintro s A B h hb
    obtain ⟨s1, h1⟩ := h.cs
    obtain ⟨s2, h2⟩ := h.ce
    exact ⟨cell_belX h.ck hb (by omega) (fun h => h), ⟨s1, cell_belX h1 hb (by omega) (fun h => h)⟩, ⟨s2, cell_belX h2 hb (by omega) (fun h => h)⟩, froz_belX h.fs hb (by omega) (fun h => h), froz_belX h.fe hb (by omega) (fun h => h), h.no, h.bel.trans ((hb.below (fun _ _ h => h)).mono (by omega))⟩
  case hIx =>
    rintro c s A B h hb
    obtain ⟨j, hj, hk, h1, h2⟩ := h.yes
    exact ⟨h.cc, ⟨j, hj, hk, cell_belX h1 hb (by omega) (fun h => h), cell_belX h2 hb (by omega) (fun h => h)⟩, h.bel.trans ((hb.below (fun _ _ h => h)).mono (by omega))⟩
  case h0 => exact ⟨k0, ⟨_, s0⟩, ⟨_, e0⟩, sf, ef, fun j hj => (by cases hj), hBU⟩
  case hround =>
    rintro l2 pre j W2 hi hlt hlen hsp
    gi_wp2
    refine ⟨Touch.refl _ _, fun W3 hb3 ht3 => ?_⟩
    have hj12 : j < 12 := by
      obtain ⟨j', h1, h2, h3⟩ := hsp
      have : j ∈ List.range j' := by rw [← h3]; simp
      have := List.mem_range.1 this
      omega
    obtain ⟨s1, h1⟩ := hi.cs
    obtain ⟨s2, h2⟩ := hi.ce
    have ck := cell_belB hi.ck hb3 (by omega)
    have cs := cell_belB h1 hb3 (by omega)
    have ce := cell_belB h2 hb3 (by omega)
    have fs := froz_belB hi.fs hb3 (by omega)
    have fe := froz_belB hi.fe hb3 (by omega)
    have hbW := hi.bel.trans (hb3.mono (by omega))
    have hno := hi.no
    by_cases hx : (j : Int) + 1 = k
    · subst hx
      gi_wp2
      have cs' : (W3.setCell ⟨w.heap.size + 1, 0, none⟩ (.string (kindN j))).cell? ⟨w.heap.size + 1 + 1, 0, none⟩ = some (.int .i64 s2) := (World.cell?_setCell_other _ _ _ _ (by simp)).trans ce
      refine ⟨(Touch.setCell W3 _ _ (Or.inl rfl)).trans (Touch.setCell _ _ _ (Or.inr rfl)), rfl, ⟨j, hj12, rfl, ?_, World.cell?_setCell_same _ _ _ cs'⟩, (hbW.setCell (by simp) _).setCell (by simp; omega) _⟩
      exact (World.cell?_setCell_other _ _ _ _ (by simp)).trans (World.cell?_setCell_same _ _ _ cs)
    · gi_wp2
      refine ⟨Touch.refl _ _, ck, ⟨s1, cs⟩, ⟨s2, ce⟩, fs, fe, fun i hi => ?_, hbW⟩
      rcases List.mem_append.1 hi with hi | hi
      · exact hno i hi
      · rw [List.mem_singleton.1 hi]; exact hx
  case hdone =>
    rintro D xs W' hD hS hi hK
    have hxs : xs = List.range 12 := hS
    subst hxs
    obtain ⟨s1, h1⟩ := hi.cs
    obtain ⟨s2, h2⟩ := hi.ce
    have fs := hi.fs
    have fe := hi.fe
    go_wp2
    have hK2 : ((W'.setCell ⟨w.heap.size + 1, 0, none⟩ (.string ⟨#[]⟩)).setCell ⟨w.heap.size + 1 + 1, 0, none⟩ (.int .i64 2)).heap[D]? = some (.deferred (some [])) := by
      rw [Below.heap_setCell _ _ _ _ (by simp; omega), Below.heap_setCell _ _ _ _ (by simp; omega)]
      exact hK
    have c2 : (W'.setCell ⟨w.heap.size + 1, 0, none⟩ (.string ⟨#[]⟩)).cell? ⟨w.heap.size + 1 + 1, 0, none⟩ = some (.int .i64 s2) := (World.cell?_setCell_other _ _ _ _ (by simp)).trans h2
    refine ⟨by simp, .inl ⟨_, _, rfl, run_takeDeferred hK2, ?_⟩⟩
    have hDs := (Array.getElem?_eq_some_iff.1 hK2).1
    have g2 := cell_put (x := .deferred none) (World.cell?_setCell_same _ _ (.int .i64 2) c2) (show w.heap.size + 1 + 1 ≠ D by omega)
    have g1 := cell_put (x := .deferred none) ((World.cell?_setCell_other _ ⟨w.heap.size + 1 + 1, 0, none⟩ ⟨w.heap.size + 1, 0, none⟩ (.int .i64 2) (by simp)).trans (World.cell?_setCell_same _ _ (.string ⟨#[]⟩) h1)) (show w.heap.size + 1 ≠ D by omega)
    refine ⟨.tuple #[.string ⟨#[]⟩, .int .i64 2], by simp [results, Tryz.results141, go_sem, g1, g2], _, _, Or.inr ⟨fun j hj => hi.no j (List.mem_range.2 hj), rfl, rfl⟩, rfl, ?_⟩
    refine Below.trans ((hi.bel.setCell (by simp) _).setCell (by simp; omega) _) (below_put _ _ _ (by omega) (by simp; have := hi.bel.size; omega))
  case hstop =>
    rintro D c pre W' hD hSp ⟨rfl, ⟨j, hj, rfl, h1, h2⟩, hb⟩ hK
    refine wpIn_wide.2 ?_
    go_wp2
    refine ⟨by simp, .inl ⟨_, _, rfl, run_takeDeferred hK, ?_⟩⟩
    have g2 := cell_put (x := .deferred none) h2 (show w.heap.size + 1 + 1 ≠ D by omega)
    have g1 := cell_put (x := .deferred none) h1 (show w.heap.size + 1 ≠ D by omega)
    refine ⟨.tuple #[.string (kindN j), .int .i64 0], by simp [results, Tryz.results141, go_sem, g1, g2], _, _, Or.inl ⟨j, hj, rfl, rfl, rfl⟩, rfl, ?_⟩
    exact hb.trans (below_put _ _ _ (by omega) hb.size)
end Go.Proofs.YtfnfcngkaepnjaaGreatDoor
