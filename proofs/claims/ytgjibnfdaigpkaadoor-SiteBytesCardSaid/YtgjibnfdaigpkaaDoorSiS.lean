/- Walks of the reference of layer 7: Bytes, Read. -/
import Derived.Test.YtgjibnfdaigpkaaDoorSiQ
import Derived.Test.YtgjibnfdaigpkaaDoorSiR
import Derived.Test.YtgjibnfdaigpkaaDoorSiH
import Derived.Test.YtgjibnfdaigpkaaDoorSiF
import Derived.ArgAppend
namespace Go.Proofs.YtgjibnfdaigpkaaDoor
set_option linter.unusedVariables false
open Go Go.Proofs Go.RowKit

theorem cell_new2 (w : World) (o : Obj) (c : Array Value) (t : TypeId) (i : Nat) : ((w.alloc o).alloc (.cells c t)).cell? ⟨w.heap.size + 1, i, none⟩ = c[i]? := by
  have := cell_new (w.alloc o) c t i
  rwa [World.size_alloc] at this

/-- A site's bytes. -/
def byteV (f p : Nat) : List Value := [.int .u8 f, .int .u8 ((p : Int) % 256), .int .u8 ((p : Int) / 256 % 256)]
theorem byteV_le (f p : Nat) (hf : f < 32) : leB f 1 ++ leB p 2 = byteV f p := by
  have h : (f : Int) % 256 = f := by omega
  simp [leB, byteV, List.range_succ, h]

set_option maxRecDepth 100000 in
set_option maxHeartbeats 1000000 in
theorem rBytes_any (f p : Nat) (hf : f < 32) (hp : p < 512) (w : World) :
    Calls Tryd.prog 19 #[.agg #[.int .i64 f, .int .i64 p]] w fun e w' => ∃ v, e = .returned v ∧ w'.ownsRowF w.heap.size 5 1 v 3 (byteV f p) ∧ Below w.heap.size w w' := by
  obtain ⟨i0, hi, hz0, hz1, hz2⟩ := info_of info_octet
  go_enter Tryd.func19, Tryd.ntmps19
  go_wp2_with fail
  refine (rFixed_two p (by omega) _).mono ?_
  rintro e w1 ⟨rfl, rfl⟩
  have h3 : Below w.heap.size w (((w.alloc (.cells #[.int .i64 f, .int .i64 p] 23)).alloc (.cells #[.int .u8 ((p : Int) % 256), .int .u8 ((p : Int) / 256 % 256)] 5)).alloc (.cells #[.int .u8 f] 5)) := belA (belA (bel1 _) _) _
  obtain ⟨_, hNB, hNC, _, _, _⟩ := three_new (w := w) #[.int .i64 f, .int .i64 p] #[.int .u8 ((p : Int) % 256), .int .u8 ((p : Int) / 256 % 256)] #[.int .u8 f] _ _ _ (Below.refl (((w.alloc (.cells #[.int .i64 f, .int .i64 p] 23)).alloc (.cells #[.int .u8 ((p : Int) % 256), .int .u8 ((p : Int) / 256 % 256)] 5)).alloc (.cells #[.int .u8 f] 5)).heap.size (((w.alloc (.cells #[.int .i64 f, .int .i64 p] 23)).alloc (.cells #[.int .u8 ((p : Int) % 256), .int .u8 ((p : Int) / 256 % 256)] 5)).alloc (.cells #[.int .u8 f] 5)))
  have hnB0 := hNB 0
  have hnB1 := hNB 1
  have hnC0 := hNC 0
  clear hNB hNC
  go_wp2_with (at_builtin; refine wpList_append_grows _ rfl _ _ 43 rfl 5 i0 (.int .u8 0) 1 1 Tryd.underlying43 hi hz0 hz1 hz2 rfl (by decide) (some ⟨w.heap.size + 1 + 1, 0, none⟩) 1 1 [.int .u8 f] rfl ?c0 rfl ?c1 ⟨w.heap.size + 1, 0, none⟩ 2 2 [.int .u8 ((p : Int) % 256), .int .u8 ((p : Int) / 256 % 256)] rfl rfl ?c2 ?c3 (by omega) (by decide) (by decide) ?_)
  case c0 => intro h; cases h
  case c1 =>
    rintro b hb j u hj
    cases hb
    match j, hj with
    | 0, hj => simp at hj; subst hj; exact hnC0
  case c2 =>
    intro j u hj
    match j, hj with
    | 0, hj => simp at hj; subst hj; exact hnB0
    | 1, hj => simp at hj; subst hj; simp only [Addr.add]; exact hnB1
  case c3 => intro u hu; simp at hu; rcases hu with rfl | rfl <;> rfl
  intro v' w2 hown hgrow
  have hB : Below w.heap.size w w2 := h3.grown hgrow h3.size (fun k hk => by cases hk)
  go_wp2
  go_ret
  refine ⟨_, rfl, own_base (World.ownsRowF_of hown) (by omega), hB⟩

set_option maxRecDepth 100000 in
set_option maxHeartbeats 1000000 in
theorem rRead_any (v : Value) (l : List Nat) (w : World) (hv : SliceB w v l) :
    Calls Tryd.prog 18 #[v] w fun e w' => e = .returned (rdV l) ∧ Below w.heap.size w w' := by
  obtain ⟨a, c, rfl, hc, hcm, hh⟩ := hv
  have q0 : (w.alloc (.cells #[.int .i64 0, .int .i64 0] 23)).cell? ⟨w.heap.size, 0, none⟩ = some (.int .i64 0) := cell_new w _ _ 0
  have q1 : (w.alloc (.cells #[.int .i64 0, .int .i64 0] 23)).cell? ⟨w.heap.size, 1, none⟩ = some (.int .i64 0) := cell_new w _ _ 1
  have qf : (w.alloc (.cells #[.int .i64 0, .int .i64 0] 23)).frozen? ⟨w.heap.size, 0, none⟩ = false := World.frozen?_alloc_new _ _ _ _
  have qg : (w.alloc (.cells #[.int .i64 0, .int .i64 0] 23)).frozen? ⟨w.heap.size, 1, none⟩ = false := World.frozen?_alloc_new _ _ _ _
  have hB : Below w.heap.size w (w.alloc (.cells #[.int .i64 0, .int .i64 0] 23)) := bel1 _
  by_cases hl : l.length < 3
  · have hR : rdV l = .tuple #[.agg #[.int .i64 0, .int .i64 0], .int .i64 110] := by
      match l, hl with
      | [], _ => rfl
      | [_], _ => rfl
      | [_, _], _ => rfl
    rw [hR]
    clear hR hh
    have hl' : (l.length : Int) < 3 := by omega
    go_enter Tryd.func18, Tryd.ntmps18
    go_wp2
    exact bodyPost_ret (v := .tuple #[.agg #[.int .i64 0, .int .i64 0], .int .i64 110]) (by simp [results, Tryd.results18, go_sem]) rfl ⟨rfl, hB⟩
  · obtain ⟨x, y, z, r, rfl⟩ : ∃ x y z r, l = x :: y :: z :: r := by
      match l, hl with
      | [], h => simp at h
      | [_], h => simp at h
      | [_, _], h => simp at h
      | x :: y :: z :: r, _ => exact ⟨x, y, z, r, rfl⟩
    obtain ⟨b, o, rfl, hH⟩ := hh (by simp)
    have hx := hH.1 x (by simp)
    have hy := hH.1 y (by simp)
    have hz := hH.1 z (by simp)
    have e0 : w.cell? ⟨b, o, none⟩ = some (.int .u8 x) := hH.2 0 (by simp)
    have e1 : w.cell? ⟨b, o + 1, none⟩ = some (.int .u8 y) := hH.2 1 (by simp)
    have e2 : w.cell? ⟨b, o + 1 + 1, none⟩ = some (.int .u8 z) := hH.2 2 (by simp)
    have e0 := cell_al e0 (.cells #[.int .i64 0, .int .i64 0] 23)
    have e1 := cell_al e1 (.cells #[.int .i64 0, .int .i64 0] 23)
    have e2 := cell_al e2 (.cells #[.int .i64 0, .int .i64 0] 23)
    have hv : rdV (x :: y :: z :: r) = if chkF x (y + z * 256 : Nat) = 0 then .tuple #[.agg #[.int .i64 x, .int .i64 (y + z * 256 : Nat)], .int .i64 0] else .tuple #[.agg #[.int .i64 0, .int .i64 0], .int .i64 170] := rfl
    generalize rdV (x :: y :: z :: r) = R at hv
    clear hH hh hl
    rw [List.length_cons, List.length_cons, List.length_cons] at hc ⊢
    have hc1 : c ≠ 1 := by omega
    have C1 := Lib.hid fun w h0 h1 => rRead_two b (o + 1) (r.length + 1 + 1) (c - 1) y z (by omega) hy hz w h0 h1
    obtain ⟨P, hPe⟩ : ∃ P, P = y + z * 256 := ⟨_, rfl⟩
    rw [← hPe] at C1 hv
    have hP : P < 65536 := by omega
    clear hPe hy hz
    go_enter Tryd.func18, Tryd.ntmps18
    go_wp2_with fail
    refine (C1.out _ e1 e2).mono ?_
    rintro e w1 ⟨rfl, rfl⟩
    by_cases hg : x < 32 ∧ P < 512
    · obtain ⟨g1, g2⟩ := hg
      have hR : R = .tuple #[.agg #[.int .i64 x, .int .i64 P], .int .i64 0] := by rw [hv, if_pos]; unfold chkF; rw [if_pos (by omega)]
      clear hv
      go_wp2_with (go_at_call 11; refine (rRight_yes x P g1 g2 _).mono ?_; rintro e w3 ⟨rfl, hb3⟩; have m0 := cell_bel (cell_new2 w (.cells #[.int .i64 0, .int .i64 0] 23) #[.int .i64 x, .int .i64 P] 23 0) hb3; have m1 := cell_bel (cell_new2 w (.cells #[.int .i64 0, .int .i64 0] 23) #[.int .i64 x, .int .i64 P] 23 1) hb3; have qf := froz_bel (cell_al q0 _) (froz_al q0 qf _) hb3; have qg := froz_bel (cell_al q1 _) (froz_al q1 qg _) hb3; have q0 := cell_bel (cell_al q0 _) hb3; have q1 := cell_bel (cell_al q1 _) hb3; have hB := belT (belA hB _) hb3; clear hb3)
      obtain ⟨r0, r1⟩ := two_stored q0 q1 (.int .i64 x) (.int .i64 P)
      have hB7 := (hB.setCell (p := ⟨w.heap.size, 0, none⟩) (Nat.le_refl _) (.int .i64 x)).setCell (p := ⟨w.heap.size, 1, none⟩) (Nat.le_refl _) (.int .i64 P)
      generalize (World.setCell _ _ _).setCell _ _ = w7 at r0 r1 hB7 ⊢
      refine bodyPost_ret (v := .tuple #[.agg #[.int .i64 x, .int .i64 P], .int .i64 0]) (by simp [results, Tryd.results18, go_sem, r0, r1]) rfl ⟨?_, hB7⟩
      rw [hR]
    · have hR : R = .tuple #[.agg #[.int .i64 0, .int .i64 0], .int .i64 170] := by rw [hv, if_neg]; unfold chkF; rw [if_neg (by omega)]; decide
      have hg' : ¬ (0 ≤ (x : Int) ∧ (x : Int) < 32 ∧ 0 ≤ (P : Int) ∧ (P : Int) < 512) := by omega
      have HN := Lib.hid hg'
      clear hv hg hg'
      go_wp2_with (go_at_call 11; refine (rRight_no x P HN.out _).mono ?_; rintro e w3 ⟨rfl, hb3⟩; have qf := froz_bel (cell_al q0 _) (froz_al q0 qf _) hb3; have qg := froz_bel (cell_al q1 _) (froz_al q1 qg _) hb3; have q0 := cell_bel (cell_al q0 _) hb3; have q1 := cell_bel (cell_al q1 _) hb3; have hB := belT (belA hB _) hb3; clear hb3)
      obtain ⟨r0, r1⟩ := two_stored q0 q1 (.int .i64 0) (.int .i64 0)
      have hB7 := (hB.setCell (p := ⟨w.heap.size, 0, none⟩) (Nat.le_refl _) (.int .i64 0)).setCell (p := ⟨w.heap.size, 1, none⟩) (Nat.le_refl _) (.int .i64 0)
      generalize (World.setCell _ _ _).setCell _ _ = w7 at r0 r1 hB7 ⊢
      refine bodyPost_ret (v := .tuple #[.agg #[.int .i64 0, .int .i64 0], .int .i64 170]) (by simp [results, Tryd.results18, go_sem, r0, r1]) rfl ⟨?_, hB7⟩
      rw [hR]
end Go.Proofs.YtgjibnfdaigpkaaDoor
