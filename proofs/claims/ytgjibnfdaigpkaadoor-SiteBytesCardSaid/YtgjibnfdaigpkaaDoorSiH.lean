/- Walks of package site: Bytes, Read. -/
import Derived.Test.YtgjibnfdaigpkaaDoorSiE
import Derived.Test.YtgjibnfdaigpkaaDoorOcu
import Derived.Test.YtgjibnfdaigpkaaDoorTail
import Derived.Test.YtgjibnfdaigpkaaDoorEnv
namespace Go.Proofs.YtgjibnfdaigpkaaDoor
set_option linter.unusedVariables false
open Go Go.Proofs Go.RowKit

theorem own_below {w w' : World} {base : Nat} {e : TypeId} {s : Nat} {v : Value} {n : Nat} {xs : List Value} (h : w.ownsRowF base e s v n xs) (hb : Below w.heap.size w w') : w'.ownsRowF base e s v n xs := by
  refine ⟨h.1, ?_⟩
  rcases h.2 with hn | ⟨g, cap, cur, fz, rfl, hbg, hg, rest⟩
  · exact .inl hn
  · refine .inr ⟨g, cap, cur, fz, rfl, hbg, ?_, rest⟩
    rw [hb.block g (Array.getElem?_eq_some_iff.1 hg).1]
    exact hg

theorem own_base {w : World} {base base' : Nat} {e : TypeId} {s : Nat} {v : Value} {n : Nat} {xs : List Value} (h : w.ownsRowF base e s v n xs) (hb : base' ≤ base) : w.ownsRowF base' e s v n xs := by
  refine ⟨h.1, ?_⟩
  rcases h.2 with hn | ⟨g, cap, cur, fz, rfl, hbg, rest⟩
  · exact .inl hn
  · exact .inr ⟨g, cap, cur, fz, rfl, Nat.le_trans hb hbg, rest⟩

theorem own_slice {w : World} {base : Nat} {e : TypeId} {s : Nat} {v : Value} {n : Nat} {xs : List Value} (h : w.ownsRowF base e s v n xs) (hn : 0 < n) : ∃ g cap, v = .slice (some ⟨g, 0, none⟩) n cap ∧ base ≤ g ∧ n ≤ cap ∧ cap ≤ maxLen ∧ g < w.heap.size := by
  rcases h.2 with ⟨_, h0⟩ | ⟨g, cap, cur, fz, hv, hbg, hg, _, hc, hm, _⟩
  · omega
  · exact ⟨g, cap, hv, hbg, hc, hm, (Array.getElem?_eq_some_iff.1 hg).1⟩

set_option maxRecDepth 100000 in
set_option maxHeartbeats 1000000 in
theorem siBytes_yes (f p : Nat) (hf : f < 32) (hp : p < 512) (w : World) :
    Calls Tryd.prog 16 #[.agg #[.int .i64 f, .int .i64 p]] w fun e w' => ∃ v, e = .returned (.tuple #[v, .int .i64 0]) ∧ w'.ownsRowF w.heap.size 5 1 v 3 (leB f 1 ++ leB p 2) ∧ Below w.heap.size w w' := by
  obtain ⟨i0, hi, hz0, hz1, hz2⟩ := info_of info_octet
  have c1 := check_any f p
  have h1 : chkF f p = 0 := by unfold chkF; rw [if_pos (by omega)]
  rw [h1] at c1
  have C1 := Lib.hid c1
  clear c1 h1
  have k0 := cell_new w #[.int .i64 f, .int .i64 p] 23 0
  have k1 := cell_new w #[.int .i64 f, .int .i64 p] 23 1
  go_enter Tryd.func16, Tryd.ntmps16
  go_wp2_with fail
  refine (C1.out _).mono ?_
  rintro e w1 ⟨rfl, hb1⟩
  have m0 := cell_bel k0 hb1
  have m1 := cell_bel k1 hb1
  have hB1 := belT (bel1 _) hb1
  clear k0 k1 hb1
  go_wp2_with fail
  refine (fixed_yes f 1 (by simp) (by omega) _).mono ?_
  rintro e w2 ⟨v, rfl, hown, hb2⟩
  have n0 := cell_bel m0 hb2
  have n1 := cell_bel m1 hb2
  have hB2 := belT hB1 hb2
  go_wp2_with fail
  refine (fixed_yes p 2 (by simp) (by omega) _).mono ?_
  rintro e w3 ⟨v', rfl, hown', hb3⟩
  have hB3 := belT hB2 hb3
  have hownA := own_below hown hb3
  obtain ⟨g, cap, rfl, hg1, hg2, hg3, hg4⟩ := own_slice hown (by omega)
  obtain ⟨g', cap', rfl, hg1', hg2', hg3', hg4'⟩ := own_slice hown' (by omega)
  have hsz := hB1.size
  have hsz2 := hB2.size
  have hle := hown.1
  go_wp2_with (at_builtin; refine wpList_append_ownF _ rfl _ _ 43 rfl w1.heap.size 5 i0 (.int .u8 0) 1 1 Tryd.underlying43 hi hz0 hz1 hz2 rfl (by decide) _ _ _ rfl hownA ⟨g', 0, none⟩ 2 cap' (leB p 2) rfl (by rw [leB_length]) ?c1 ?c2 ?c3 ?c4 ?c5 ?_)
  case c1 =>
    intro j u hj
    exact hown'.cells rfl j u hj
  case c2 =>
    intro u hu
    simp only [leB, List.mem_map] at hu
    obtain ⟨i, _, rfl⟩ := hu
    rfl
  case c3 => unfold maxLen; omega
  case c4 => omega
  case c5 => have := hb2.size; have := hb3.size; omega
  intro v' w4 hown4 hgrow _
  have hB4 : Below w.heap.size w w4 := hB3.grown hgrow hB3.size (fun k hk => by have := (hownA.lt k hk).1; omega)
  go_wp2
  go_ret2
  exact ⟨_, rfl, own_base hown4 hsz, hB4⟩

set_option maxHeartbeats 400000 in
theorem siBytes_no (f p : Int) (hn : chkF f p = 2) (w : World) :
    Calls Tryd.prog 16 #[.agg #[.int .i64 f, .int .i64 p]] w fun e w' => e = .returned (.tuple #[.slice none 0 0, .int .i64 2]) ∧ Below w.heap.size w w' := by
  have c1 := check_any f p
  rw [hn] at c1
  have C1 := Lib.hid c1
  clear c1 hn
  go_enter Tryd.func16, Tryd.ntmps16
  go_wp2_with fail
  refine (C1.out _).mono ?_
  rintro e w1 ⟨rfl, hb1⟩
  have hB1 := belT (bel1 _) hb1
  go_wp2
  go_ret2
  exact ⟨rfl, hB1⟩

set_option maxHeartbeats 400000 in
theorem readS_yes (f p k : Int) (w : World) : Calls Tryd.prog 27 #[.agg #[.int .i64 f, .int .i64 p], .bool true, .int .i64 k] w fun e w' => e = .returned (.tuple #[.agg #[.int .i64 f, .int .i64 p], .int .i64 0]) ∧ Below w.heap.size w w' := by
  go_enter Tryd.func27, Tryd.ntmps27
  go_wp2
  exact bodyPost_ret (v := .tuple #[.agg #[.int .i64 f, .int .i64 p], .int .i64 0]) (by simp [results, Tryd.results27, go_sem]) rfl ⟨rfl, belA (bel1 _) _⟩

set_option maxHeartbeats 400000 in
theorem readS_no (f p k : Int) (w : World) : Calls Tryd.prog 27 #[.agg #[.int .i64 f, .int .i64 p], .bool false, .int .i64 k] w fun e w' => e = .returned (.tuple #[.agg #[.int .i64 0, .int .i64 0], .int .i64 k]) ∧ Below w.heap.size w w' := by
  go_enter Tryd.func27, Tryd.ntmps27
  go_wp2
  exact bodyPost_ret (v := .tuple #[.agg #[.int .i64 0, .int .i64 0], .int .i64 k]) (by simp [results, Tryd.results27, go_sem]) rfl ⟨rfl, belA (belA (bel1 _) _) _⟩

/-- What a slice's site is. -/
def rdV (l : List Nat) : Value :=
  match l with
  | x :: y :: z :: _ => if chkF x (y + z * 256 : Nat) = 0 then .tuple #[.agg #[.int .i64 x, .int .i64 (y + z * 256 : Nat)], .int .i64 0] else .tuple #[.agg #[.int .i64 0, .int .i64 0], .int .i64 170]
  | _ => .tuple #[.agg #[.int .i64 0, .int .i64 0], .int .i64 110]

def SliceB (w : World) (v : Value) (l : List Nat) : Prop := ∃ a c, v = .slice a l.length c ∧ l.length ≤ c ∧ c ≤ 9223372036854775807 ∧ (l ≠ [] → ∃ b o, a = some ⟨b, o, none⟩ ∧ HasB w b o l)

theorem HasB.bel {w w' : World} {b o : Nat} {l : List Nat} (h : HasB w b o l) (hb : Below w.heap.size w w') : HasB w' b o l := ⟨h.1, fun j hj => cell_bel (h.2 j hj) hb⟩
theorem HasB.al {w : World} {b o : Nat} {l : List Nat} (h : HasB w b o l) (x : Obj) : HasB (w.alloc x) b o l := ⟨h.1, fun j hj => cell_al (h.2 j hj) x⟩
theorem HasB.tail {w : World} {b o x : Nat} {l : List Nat} (h : HasB w b o (x :: l)) : HasB w b (o + 1) l :=
  ⟨fun y hy => h.1 y (by simp [hy]), fun j hj => by
    have := h.2 (j + 1) (by simp; omega)
    rw [show o + (j + 1) = o + 1 + j by omega] at this
    simpa using this⟩

/-- Two cells of a block, stored. -/
theorem cells_stored {w : World} {b : Nat} {x y : Value} (h0 : w.cell? ⟨b, 0, none⟩ = some x) (h1 : w.cell? ⟨b, 1, none⟩ = some y) (u v : Value) :
    ((w.setCell ⟨b, 0, none⟩ u).setCell ⟨b, 1, none⟩ v).cell? ⟨b, 0, none⟩ = some u ∧ ((w.setCell ⟨b, 0, none⟩ u).setCell ⟨b, 1, none⟩ v).cell? ⟨b, 1, none⟩ = some v := by
  have e0 : (w.setCell ⟨b, 0, none⟩ u).cell? ⟨b, 0, none⟩ = some u := World.cell?_setCell_same _ _ _ h0
  have e1 : (w.setCell ⟨b, 0, none⟩ u).cell? ⟨b, 1, none⟩ = some y := (World.cell?_setCell_other _ _ _ _ (by simp)).trans h1
  exact ⟨(World.cell?_setCell_other _ _ _ _ (by simp)).trans e0, World.cell?_setCell_same _ _ _ e1⟩

set_option maxRecDepth 100000 in
set_option maxHeartbeats 1000000 in
theorem siRead_any (v : Value) (l : List Nat) (w : World) (hv : SliceB w v l) :
    Calls Tryd.prog 17 #[v] w fun e w' => e = .returned (rdV l) ∧ Below w.heap.size w w' := by
  obtain ⟨a, c, rfl, hc, hcm, hh⟩ := hv
  match l, hc, hh with
  | [], hc, _ =>
    go_enter Tryd.func17, Tryd.ntmps17
    go_wp2
    refine wp_scope_fwd 0 rfl ?_
    go_wp2_with fail
    refine (readFixed_no 1 (by simp) a 0 c (by omega) _).mono ?_
    rintro e w1 ⟨rfl, hb1⟩
    have hB1 := belT (bel1 _) hb1
    have q0 : w1.cell? ⟨w.heap.size, 0, none⟩ = some (.int .i64 0) := cell_bel (cell_new w _ _ 0) hb1
    have q1 : w1.cell? ⟨w.heap.size, 1, none⟩ = some (.int .i64 0) := cell_bel (cell_new w _ _ 1) hb1
    have qf : w1.frozen? ⟨w.heap.size, 0, none⟩ = false := froz_bel (cell_new w _ _ 0) (World.frozen?_alloc_new _ _ _ _) hb1
    have qg : w1.frozen? ⟨w.heap.size, 1, none⟩ = false := froz_bel (cell_new w _ _ 1) (World.frozen?_alloc_new _ _ _ _) hb1
    go_wp2
    go_step3
    refine ⟨rfl, ?_⟩
    go_wp2
    rw [Exit.noGoto_ret]
    obtain ⟨r0, r1⟩ := cells_stored q0 q1 (.int .i64 0) (.int .i64 0)
    have hB7 := (hB1.setCell (p := ⟨w.heap.size, 0, none⟩) (Nat.le_refl _) (.int .i64 0)).setCell (p := ⟨w.heap.size, 1, none⟩) (Nat.le_refl _) (.int .i64 0)
    generalize (World.setCell _ _ _).setCell _ _ = w7 at r0 r1 hB7 ⊢
    exact bodyPost_ret (v := .tuple #[.agg #[.int .i64 0, .int .i64 0], .int .i64 110]) (by simp [results, Tryd.results17, go_sem, r0, r1]) rfl ⟨rfl, hB7⟩
  | x :: l, hc, hh =>
    obtain ⟨b, o, rfl, hB⟩ := hh (by simp)
    have c1 := fun w hw => readFixed_yes 1 (by simp) b o c (x :: l) (by simp) hc hcm w hw
    rw [show leN (x :: l) 1 = x by simp [leN]] at c1
    have C1 := Lib.hid c1
    have hx := hB.1 x (by simp)
    clear c1 hh
    have hR : l.length < 2 → rdV (x :: l) = .tuple #[.agg #[.int .i64 0, .int .i64 0], .int .i64 110] := by
      intro hl
      match l, hl with
      | [], _ => rfl
      | [_], _ => rfl
    generalize hr : rdV (x :: l) = R at hR
    rw [List.length_cons] at hc C1 ⊢
    go_enter Tryd.func17, Tryd.ntmps17
    go_wp2
    refine wp_scope_fwd 0 rfl ?_
    go_wp2_with fail
    refine (C1.out _ (hB.al _)).mono ?_
    rintro e w1 ⟨rfl, hb1⟩
    have hB1 := belT (bel1 _) hb1
    have q0 : w1.cell? ⟨w.heap.size, 0, none⟩ = some (.int .i64 0) := cell_bel (cell_new w _ _ 0) hb1
    have q1 : w1.cell? ⟨w.heap.size, 1, none⟩ = some (.int .i64 0) := cell_bel (cell_new w _ _ 1) hb1
    have qf : w1.frozen? ⟨w.heap.size, 0, none⟩ = false := froz_bel (cell_new w _ _ 0) (World.frozen?_alloc_new _ _ _ _) hb1
    have qg : w1.frozen? ⟨w.heap.size, 1, none⟩ = false := froz_bel (cell_new w _ _ 1) (World.frozen?_alloc_new _ _ _ _) hb1
    have hH1 := (hB.al _).bel hb1
    clear C1 hb1 hB
    by_cases hl : l.length < 2
    · have hR := hR hl
      subst hR
      by_cases hc1 : c = 1
      · obtain rfl : l = [] := List.eq_nil_of_length_eq_zero (by omega)
        subst hc1
        go_wp2_with fail
        refine (readFixed_no 2 (by simp) (some ⟨b, o, none⟩) 0 0 (by omega) _).mono ?_
        rintro e w2 ⟨rfl, hb2⟩
        have hB1 := belT hB1 hb2
        have qf := froz_bel q0 qf hb2
        have qg := froz_bel q1 qg hb2
        have q0 := cell_bel q0 hb2
        have q1 := cell_bel q1 hb2
        go_wp2
        go_step3
        refine ⟨rfl, ?_⟩
        go_wp2
        rw [Exit.noGoto_ret]
        obtain ⟨r0, r1⟩ := cells_stored q0 q1 (.int .i64 0) (.int .i64 0)
        have hB7 := (hB1.setCell (p := ⟨w.heap.size, 0, none⟩) (Nat.le_refl _) (.int .i64 0)).setCell (p := ⟨w.heap.size, 1, none⟩) (Nat.le_refl _) (.int .i64 0)
        generalize (World.setCell _ _ _).setCell _ _ = w7 at r0 r1 hB7 ⊢
        exact bodyPost_ret (v := .tuple #[.agg #[.int .i64 0, .int .i64 0], .int .i64 110]) (by simp [results, Tryd.results17, go_sem, r0, r1]) rfl ⟨rfl, hB7⟩
      · go_wp2_with fail
        refine (readFixed_no 2 (by simp) (some ⟨b, o + 1, none⟩) l.length (c - 1) (by omega) _).mono ?_
        rintro e w2 ⟨rfl, hb2⟩
        have hB1 := belT hB1 hb2
        have qf := froz_bel q0 qf hb2
        have qg := froz_bel q1 qg hb2
        have q0 := cell_bel q0 hb2
        have q1 := cell_bel q1 hb2
        go_wp2
        go_step3
        refine ⟨rfl, ?_⟩
        go_wp2
        rw [Exit.noGoto_ret]
        obtain ⟨r0, r1⟩ := cells_stored q0 q1 (.int .i64 0) (.int .i64 0)
        have hB7 := (hB1.setCell (p := ⟨w.heap.size, 0, none⟩) (Nat.le_refl _) (.int .i64 0)).setCell (p := ⟨w.heap.size, 1, none⟩) (Nat.le_refl _) (.int .i64 0)
        generalize (World.setCell _ _ _).setCell _ _ = w7 at r0 r1 hB7 ⊢
        exact bodyPost_ret (v := .tuple #[.agg #[.int .i64 0, .int .i64 0], .int .i64 110]) (by simp [results, Tryd.results17, go_sem, r0, r1]) rfl ⟨rfl, hB7⟩
    · obtain ⟨y, z, r, rfl⟩ : ∃ y z r, l = y :: z :: r := by
        match l, hl with
        | [], h => simp at h
        | [_], h => simp at h
        | y :: z :: r, _ => exact ⟨y, z, r, rfl⟩
      have hH2 := hH1.tail
      have hy := hH2.1 y (by simp)
      have hz := hH2.1 z (by simp)
      have c2 := fun w hw => readFixed_yes 2 (by simp) b (o + 1) (c - 1) (y :: z :: r) (by simp) (by simp at hc ⊢; omega) (by omega) w hw
      obtain ⟨P, hPe⟩ : ∃ P, P = y + z * 256 := ⟨_, rfl⟩
      rw [show leN (y :: z :: r) 2 = P by simp [leN, hPe]] at c2
      have C2 := Lib.hid c2
      clear c2 hH1 hl
      have hc1 : c ≠ 1 := by simp at hc; omega
      rw [List.length_cons, List.length_cons] at C2
      go_wp2_with fail
      refine (C2.out _ hH2).mono ?_
      rintro e w2 ⟨rfl, hb2⟩
      have hB1 := belT hB1 hb2
      have qf := froz_bel q0 qf hb2
      have qg := froz_bel q1 qg hb2
      have q0 := cell_bel q0 hb2
      have q1 := cell_bel q1 hb2
      clear C2 hH2 hb2
      have hP : P < 65536 := by omega
      have hv : R = if chkF x P = 0 then .tuple #[.agg #[.int .i64 x, .int .i64 P], .int .i64 0] else .tuple #[.agg #[.int .i64 0, .int .i64 0], .int .i64 170] := by rw [← hr, hPe]; rfl
      clear hr hR hPe hc hy hz
      go_wp2_with fail
      obtain ⟨d0, d1⟩ := cells_stored q0 q1 (.int .i64 x) (.int .i64 P)
      have hB3 := (hB1.setCell (p := ⟨w.heap.size, 0, none⟩) (Nat.le_refl _) (.int .i64 x)).setCell (p := ⟨w.heap.size, 1, none⟩) (Nat.le_refl _) (.int .i64 P)
      have ff0 : ((w2.setCell ⟨w.heap.size, 0, none⟩ (.int .i64 x)).setCell ⟨w.heap.size, 1, none⟩ (.int .i64 P)).frozen? ⟨w.heap.size, 0, none⟩ = false := by simp only [World.frozen?_setCell]; exact qf
      have ff1 : ((w2.setCell ⟨w.heap.size, 0, none⟩ (.int .i64 x)).setCell ⟨w.heap.size, 1, none⟩ (.int .i64 P)).frozen? ⟨w.heap.size, 1, none⟩ = false := by simp only [World.frozen?_setCell]; exact qg
      generalize (w2.setCell _ _).setCell _ _ = w3 at d0 d1 hB3 ff0 ff1 ⊢
      clear q0 q1 qf qg hB1
      have d0' : w3.drew.cell? ⟨w.heap.size, 0, none⟩ = some (.int .i64 x) := d0
      have d1' : w3.drew.cell? ⟨w.heap.size, 1, none⟩ = some (.int .i64 P) := d1
      have ff0' : w3.drew.frozen? ⟨w.heap.size, 0, none⟩ = false := ff0
      have ff1' : w3.drew.frozen? ⟨w.heap.size, 1, none⟩ = false := ff1
      have hB3' : Below w.heap.size w w3.drew := hB3.drew
      clear d0 d1 ff0 ff1 hB3
      have ck := check_any x P
      rcases chk_two x P with h | h
      · rw [h] at ck hv
        rw [if_pos rfl] at hv
        subst hv
        have CK := Lib.hid ck
        clear ck h
        go_region_with (first
          | (go_at_call 12; refine (CK.out _).mono ?_; rintro e w4 ⟨rfl, hb4⟩; have ff0' := froz_bel d0' ff0' hb4; have ff1' := froz_bel d1' ff1' hb4; have d0' := cell_bel d0' hb4; have d1' := cell_bel d1' hb4; have hB3' := belT hB3' hb4; clear hb4)
          | (go_at_call 27; refine (readS_yes (x : Int) (P : Int) 170 _).mono ?_; rintro e w5 ⟨rfl, hb5⟩; have ff0' := froz_bel d0' ff0' hb5; have ff1' := froz_bel d1' ff1' hb5; have d0' := cell_bel d0' hb5; have d1' := cell_bel d1' hb5; have hB3' := belT hB3' hb5; clear hb5))
        all_goals go_wp2
        all_goals rw [fwd_ret]
        all_goals obtain ⟨r0, r1⟩ := cells_stored d0' d1' (.int .i64 x) (.int .i64 P)
        all_goals have hB7 := (hB3'.setCell (p := ⟨w.heap.size, 0, none⟩) (Nat.le_refl _) (.int .i64 x)).setCell (p := ⟨w.heap.size, 1, none⟩) (Nat.le_refl _) (.int .i64 P)
        all_goals generalize (World.setCell _ _ _).setCell _ _ = w7 at r0 r1 hB7 ⊢
        all_goals exact bodyPost_ret (v := .tuple #[.agg #[.int .i64 x, .int .i64 P], .int .i64 0]) (by simp [results, Tryd.results17, go_sem, r0, r1]) rfl ⟨rfl, hB7⟩
      · rw [h] at ck hv
        rw [if_neg (by decide)] at hv
        subst hv
        have CK := Lib.hid ck
        clear ck h
        go_region_with (first
          | (go_at_call 12; refine (CK.out _).mono ?_; rintro e w4 ⟨rfl, hb4⟩; have ff0' := froz_bel d0' ff0' hb4; have ff1' := froz_bel d1' ff1' hb4; have d0' := cell_bel d0' hb4; have d1' := cell_bel d1' hb4; have hB3' := belT hB3' hb4; clear hb4)
          | (go_at_call 27; refine (readS_no (x : Int) (P : Int) 170 _).mono ?_; rintro e w5 ⟨rfl, hb5⟩; have ff0' := froz_bel d0' ff0' hb5; have ff1' := froz_bel d1' ff1' hb5; have d0' := cell_bel d0' hb5; have d1' := cell_bel d1' hb5; have hB3' := belT hB3' hb5; clear hb5))
        all_goals go_wp2
        all_goals rw [fwd_ret]
        all_goals obtain ⟨r0, r1⟩ := cells_stored d0' d1' (.int .i64 0) (.int .i64 0)
        all_goals have hB7 := (hB3'.setCell (p := ⟨w.heap.size, 0, none⟩) (Nat.le_refl _) (.int .i64 0)).setCell (p := ⟨w.heap.size, 1, none⟩) (Nat.le_refl _) (.int .i64 0)
        all_goals generalize (World.setCell _ _ _).setCell _ _ = w7 at r0 r1 hB7 ⊢
        all_goals exact bodyPost_ret (v := .tuple #[.agg #[.int .i64 0, .int .i64 0], .int .i64 170]) (by simp [results, Tryd.results17, go_sem, r0, r1]) rfl ⟨rfl, hB7⟩
end Go.Proofs.YtgjibnfdaigpkaaDoor
