/- Closures of Parse, and what is found by them. -/
import Derived.Test.YtgjibnfdaigpkaaGreatDoorInV
import Derived.Test.YtgjibnfdaigpkaaGreatDoorDec
namespace Go.Proofs.YtgjibnfdaigpkaaGreatDoor
set_option linter.unusedVariables false
open Go Go.Proofs Go.RowKit

/-- A variable that holds words: its block; the words' block. -/
structure Wds (V P : Nat) (L : List ByteArray) (w : World) : Prop where
  var : w.cell? ⟨V, 0, none⟩ = some (.slice (some ⟨P, 0, none⟩) L.length L.length)
  at_ : ∀ j x, L[j]? = some x → w.cell? ⟨P, j, none⟩ = some (.string x)
theorem Wds.bel {V P : Nat} {L : List ByteArray} {w w' : World} (h : Wds V P L w) (hb : Below w.heap.size w w') : Wds V P L w' := ⟨cell_bel h.var hb, fun j x hj => cell_bel (h.at_ j x hj) hb⟩
theorem Wds.touch {V P : Nat} {L : List ByteArray} {w w' : World} {T : Nat → Prop} (h : Wds V P L w) (hb : Touch T w w') (h1 : ¬ T V) (h2 : ¬ T P) : Wds V P L w' := ⟨cell_touch h.var hb h1, fun j x hj => cell_touch (h.at_ j x hj) hb h2⟩
theorem Wds.drew {V P : Nat} {L : List ByteArray} {w : World} (h : Wds V P L w) : Wds V P L w.drew := h.bel (Below.refl _ _).drew

set_option maxRecDepth 100000 in
set_option maxHeartbeats 1000000 in
theorem parseBegun_any (V P : Nat) (s : ByteArray) (L : List ByteArray) (hL : L.length ≤ 9223372036854775807) (w : World) (h : Wds V P (s :: L) w) :
    Calls Tryz.prog 50 #[.pointer (some ⟨V, 0, none⟩)] w (BegQ s w) := by
  have v0 := h.var
  have v1 := h.at_ 0 s rfl
  rw [List.length_cons] at v0
  have lv := lt_of_cell v0
  have lp := lt_of_cell v1
  clear h
  go_enter Tryz.func50, Tryz.ntmps50
  go_wp2_with fail
  refine (begun_any s _).mono ?_
  rintro e w1 ⟨o, k, f, hb, rfl, hb1⟩
  have hI := Bare.bel (Bare.new 0 0 0 0 0 w 25) hb1
  have f0 := froz_bel (cell_new w #[.int .i64 0, .int .i64 0, .int .i64 0, .int .i64 0, .int .u32 0] 25 0) (World.frozen?_alloc_new _ _ _ _) hb1
  have hB1 := belT (bel1 _) hb1
  have HB := Lib.hid hb
  have hset := Bare.set hI o 0 0 0 k
  have hBs : Below w.heap.size w (((((w1.setCell ⟨w.heap.size, 0, none⟩ (.int .i64 o)).setCell ⟨w.heap.size, 1, none⟩ (.int .i64 0)).setCell ⟨w.heap.size, 2, none⟩ (.int .i64 0)).setCell ⟨w.heap.size, 3, none⟩ (.int .i64 0)).setCell ⟨w.heap.size, 4, none⟩ (.int .u32 k)) := (((((hB1.setCell (p := ⟨w.heap.size, 0, none⟩) (Nat.le_refl _) _).setCell (p := ⟨w.heap.size, 1, none⟩) (Nat.le_refl _) _).setCell (p := ⟨w.heap.size, 2, none⟩) (Nat.le_refl _) _).setCell (p := ⟨w.heap.size, 3, none⟩) (Nat.le_refl _) _).setCell (p := ⟨w.heap.size, 4, none⟩) (Nat.le_refl _) _)
  have HSET := Lib.hid hset
  have HBS := Lib.hid hBs
  obtain ⟨i0, i1, i2, i3, i4, j1, j2, j3, j4⟩ := hI
  dsimp only at i1 i2 i3 i4
  unfold insV
  clear hset hBs hb hb1
  go_wp2_with fail
  obtain ⟨e0, e1, e2, e3, e4, _, _, _, _⟩ := HSET.out
  have hBS := HBS.out
  generalize ((((World.setCell _ _ _).setCell _ _).setCell _ _).setCell _ _).setCell _ _ = W5 at e0 e1 e2 e3 e4 hBS ⊢
  exact bodyPost_ret (v := .tuple #[.agg #[.int .i64 o, .int .i64 0, .int .i64 0, .int .i64 0, .int .u32 k], .bool f]) (by simp [results, Tryz.results50, go_sem, e0, e1, e2, e3, e4]) rfl ⟨o, k, f, HB.out, rfl, hBS⟩

def FndQ (s : ByteArray) (w : World) (e : Ending) (w' : World) : Prop := ((∃ o k, BegP s o k true ∧ e = .returned (insV o 0 0 0 k)) ∨ ((∃ o k, BegP s o k false) ∧ e = gaveUp 180)) ∧ Below w.heap.size w w'

set_option maxRecDepth 100000 in
set_option maxHeartbeats 1000000 in
theorem foundIns_any (V P : Nat) (s : ByteArray) (L : List ByteArray) (hL : L.length ≤ 9223372036854775806) (w : World) (h : Wds V P (s :: L) w) :
    Calls Tryz.prog 49 #[.func (.func 50) #[] #[.pointer (some ⟨V, 0, none⟩)]] w (FndQ s w) := by
  have CB := Lib.hid fun W h => parseBegun_any V P s L (by omega) W h
  have HW := Lib.hid h
  clear h
  go_enter Tryz.func49, Tryz.ntmps49
  go_wp2_with fail
  refine (CB.out _ (HW.out.bel (bel1 _))).mono ?_
  rintro e w1 ⟨o, k, f, hb, rfl, hb1⟩
  have hI := Bare.bel (Bare.new 0 0 0 0 0 w 25) hb1
  have f0 := froz_bel (cell_new w #[.int .i64 0, .int .i64 0, .int .i64 0, .int .i64 0, .int .u32 0] 25 0) (World.frozen?_alloc_new _ _ _ _) hb1
  have hB1 := belT (bel1 _) hb1
  have hlt := lt_of_cell hI.c0
  have HB := Lib.hid hb
  unfold insV
  cases f with
  | false =>
    clear hb hb1
    go_wp2_with (go_at_call 37; refine (must_no _ _).mono ?_; rintro e w3 ⟨rfl, rfl⟩)
    exact ⟨rfl, Or.inr ⟨⟨o, k, HB.out⟩, rfl⟩, belA hB1 _⟩
  | true =>
    have hI' := hI.bel (bel1 (.cells #[.int .i64 o, .int .i64 0, .int .i64 0, .int .i64 0, .int .u32 k] 25))
    have f0' := froz_bel hI.c0 f0 (bel1 (.cells #[.int .i64 o, .int .i64 0, .int .i64 0, .int .i64 0, .int .u32 k] 25))
    have hB2 := belA hB1 (.cells #[.int .i64 o, .int .i64 0, .int .i64 0, .int .i64 0, .int .u32 k] 25)
    have hset := Bare.set hI' o 0 0 0 k
    have hBs : Below w.heap.size w ((((((w1.alloc (.cells #[.int .i64 o, .int .i64 0, .int .i64 0, .int .i64 0, .int .u32 k] 25)).setCell ⟨w.heap.size, 0, none⟩ (.int .i64 o)).setCell ⟨w.heap.size, 1, none⟩ (.int .i64 0)).setCell ⟨w.heap.size, 2, none⟩ (.int .i64 0)).setCell ⟨w.heap.size, 3, none⟩ (.int .i64 0)).setCell ⟨w.heap.size, 4, none⟩ (.int .u32 k)) := (((((hB2.setCell (p := ⟨w.heap.size, 0, none⟩) (Nat.le_refl _) _).setCell (p := ⟨w.heap.size, 1, none⟩) (Nat.le_refl _) _).setCell (p := ⟨w.heap.size, 2, none⟩) (Nat.le_refl _) _).setCell (p := ⟨w.heap.size, 3, none⟩) (Nat.le_refl _) _).setCell (p := ⟨w.heap.size, 4, none⟩) (Nat.le_refl _) _)
    have HSET := Lib.hid hset
    have HBS := Lib.hid hBs
    have hN := Bare.new o 0 0 0 k w1 25
    clear hset hBs hb hb1 hB2
    go_wp2_with (go_at_call 37; refine (must_yes _ _).mono ?_; rintro e w3 ⟨rfl, rfl⟩; generalize w1.alloc _ = W1 at hI' f0' HSET HBS hN ⊢; obtain ⟨i0, i1, i2, i3, i4, j1, j2, j3, j4⟩ := hI'; obtain ⟨n0, n1, n2, n3, n4, _, _, _, _⟩ := hN; dsimp only at i1 i2 i3 i4 n1 n2 n3 n4)
    obtain ⟨e0, e1, e2, e3, e4, _, _, _, _⟩ := HSET.out
    have hBS := HBS.out
    generalize ((((World.setCell _ _ _).setCell _ _).setCell _ _).setCell _ _).setCell _ _ = W5 at e0 e1 e2 e3 e4 hBS ⊢
    exact bodyPost_ret (v := .agg #[.int .i64 o, .int .i64 0, .int .i64 0, .int .i64 0, .int .u32 k]) (by simp [results, Tryz.results49, go_sem, e0, e1, e2, e3, e4]) rfl ⟨Or.inl ⟨o, k, HB.out, rfl⟩, hBS⟩
end Go.Proofs.YtgjibnfdaigpkaaGreatDoor
