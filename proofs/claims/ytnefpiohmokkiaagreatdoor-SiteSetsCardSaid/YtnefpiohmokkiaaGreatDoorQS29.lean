/- Joined texts: Walks of package site: Of. -/
import Derived.Test.YtnefpiohmokkiaaGreatDoorQS6
import Derived.Test.YtnefpiohmokkiaaGreatDoorQS7
/- Walks of package site: Of. -/
namespace Go.Proofs.YtnefpiohmokkiaaGreatDoor
set_option linter.unusedVariables false
open Go Go.Proofs Go.RowKit

/-- Of, as a function: the pair, by its parts, and the error. -/
def ofV (f p f' p' : Int) : Value :=
  if rightF f p f' p' = true then .tuple #[.agg #[.int .i64 f, .int .i64 p, .int .i64 f', .int .i64 p'], .int .i64 0] else .tuple #[.agg #[.int .i64 0, .int .i64 0, .int .i64 0, .int .i64 0], .int .i64 2]
def ofF (f p f' p' : Int) : Value := if 0 < ordF f p f' p' then ofV f' p' f p else ofV f p f' p'

/-- Four cells of a block, stored. -/
theorem four_stored {w : World} {b : Nat} {x0 x1 x2 x3 : Value} (h0 : w.cell? ⟨b, 0, none⟩ = some x0) (h1 : w.cell? ⟨b, 1, none⟩ = some x1) (h2 : w.cell? ⟨b, 2, none⟩ = some x2) (h3 : w.cell? ⟨b, 3, none⟩ = some x3) (u0 u1 u2 u3 : Value) :
    ((((w.setCell ⟨b, 0, none⟩ u0).setCell ⟨b, 1, none⟩ u1).setCell ⟨b, 2, none⟩ u2).setCell ⟨b, 3, none⟩ u3).cell? ⟨b, 0, none⟩ = some u0 ∧
    ((((w.setCell ⟨b, 0, none⟩ u0).setCell ⟨b, 1, none⟩ u1).setCell ⟨b, 2, none⟩ u2).setCell ⟨b, 3, none⟩ u3).cell? ⟨b, 1, none⟩ = some u1 ∧
    ((((w.setCell ⟨b, 0, none⟩ u0).setCell ⟨b, 1, none⟩ u1).setCell ⟨b, 2, none⟩ u2).setCell ⟨b, 3, none⟩ u3).cell? ⟨b, 2, none⟩ = some u2 ∧
    ((((w.setCell ⟨b, 0, none⟩ u0).setCell ⟨b, 1, none⟩ u1).setCell ⟨b, 2, none⟩ u2).setCell ⟨b, 3, none⟩ u3).cell? ⟨b, 3, none⟩ = some u3 := by
  have e : ∀ (v : World) (i j : Nat) (x : Value), i ≠ j → (v.setCell ⟨b, i, none⟩ x).cell? ⟨b, j, none⟩ = v.cell? ⟨b, j, none⟩ := fun v i j x h => World.cell?_setCell_other _ _ _ _ (by simp)
  refine ⟨?_, ?_, ?_, ?_⟩
  · rw [e _ 3 0 _ (by decide), e _ 2 0 _ (by decide), e _ 1 0 _ (by decide)]
    exact World.cell?_setCell_same _ _ _ h0
  · rw [e _ 3 1 _ (by decide), e _ 2 1 _ (by decide)]
    exact World.cell?_setCell_same _ _ _ ((e _ 0 1 _ (by decide)).trans h1)
  · rw [e _ 3 2 _ (by decide)]
    exact World.cell?_setCell_same _ _ _ ((e _ 1 2 _ (by decide)).trans ((e _ 0 2 _ (by decide)).trans h2))
  · exact World.cell?_setCell_same _ _ _ ((e _ 2 3 _ (by decide)).trans ((e _ 1 3 _ (by decide)).trans ((e _ 0 3 _ (by decide)).trans h3)))

/-- Three new blocks, behind what keeps them. -/
theorem three_new {w w1 : World} (A B C : Array Value) (s t u : TypeId)
    (hb : Below (((w.alloc (.cells A s)).alloc (.cells B t)).alloc (.cells C u)).heap.size (((w.alloc (.cells A s)).alloc (.cells B t)).alloc (.cells C u)) w1) :
    (∀ i, w1.cell? ⟨w.heap.size, i, none⟩ = A[i]?) ∧ (∀ i, w1.cell? ⟨w.heap.size + 1, i, none⟩ = B[i]?) ∧ (∀ i, w1.cell? ⟨w.heap.size + 1 + 1, i, none⟩ = C[i]?) ∧
      (∀ i, w1.frozen? ⟨w.heap.size, i, none⟩ = false) ∧ (∀ i, w1.frozen? ⟨w.heap.size + 1, i, none⟩ = false) ∧ (∀ i, w1.frozen? ⟨w.heap.size + 1 + 1, i, none⟩ = false) := by
  obtain ⟨h1, h2⟩ := bcell hb
  have e1 : ∀ (v : World) (o : Obj), (v.alloc o).heap.size = v.heap.size + 1 := fun v o => by simp
  refine ⟨fun i => ?_, fun i => ?_, fun i => ?_, fun i => ?_, fun i => ?_, fun i => ?_⟩
  · rw [h1 _ _ (by simp; omega), World.cell?_alloc_past _ _ _ (by simp; omega), World.cell?_alloc_past _ _ _ (by simp)]
    exact cell_new w A s i
  · rw [h1 _ _ (by simp), World.cell?_alloc_past _ _ _ (by simp)]
    exact (World.cell?_alloc_at _ _ _ _ (by simp))
  · rw [h1 _ _ (by simp)]
    exact (World.cell?_alloc_at _ _ _ _ (by simp))
  · rw [h2 _ _ (by simp; omega), World.frozen?_alloc_past _ _ _ (by simp; omega), World.frozen?_alloc_past _ _ _ (by simp)]
    exact World.frozen?_alloc_new _ _ _ _
  · rw [h2 _ _ (by simp), World.frozen?_alloc_past _ _ _ (by simp)]
    have := World.frozen?_alloc_new (w.alloc (.cells A s)) B t i
    rwa [e1] at this
  · rw [h2 _ _ (by simp)]
    have := World.frozen?_alloc_new ((w.alloc (.cells A s)).alloc (.cells B t)) C u i
    rwa [e1, e1] at this

set_option maxRecDepth 100000 in
set_option maxHeartbeats 4000000 in
theorem of_any (f p f' p' : Int) (w : World) :
    Calls Tryz.prog 33 #[.agg #[.int .i64 f, .int .i64 p], .agg #[.int .i64 f', .int .i64 p']] w fun e w' => e = .returned (ofF f p f' p') ∧ Below w.heap.size w w' := by
  unfold ofF
  generalize hG : (if 0 < ordF f p f' p' then ofV f' p' f p else ofV f p f' p') = G
  have c1 := order_any f p f' p'
  generalize ordF f p f' p' = o at c1 hG
  have C1 := Lib.hid c1
  clear c1
  go_enter Tryz.func33, Tryz.ntmps33
  go_wp2_with fail
  refine (C1.out _).mono ?_
  rintro e w1 ⟨rfl, hb1⟩
  have hB1 := belT (belA (belA (bel1 _) _) _) hb1
  obtain ⟨hA, hB, hC, fA, fB, fC⟩ := three_new _ _ _ _ _ _ hb1
  have a0 : w1.cell? ⟨w.heap.size, 0, none⟩ = some (.int .i64 f) := hA 0
  have a1 : w1.cell? ⟨w.heap.size, 1, none⟩ = some (.int .i64 p) := hA 1
  have b0 : w1.cell? ⟨w.heap.size + 1, 0, none⟩ = some (.int .i64 f') := hB 0
  have b1 : w1.cell? ⟨w.heap.size + 1, 1, none⟩ = some (.int .i64 p') := hB 1
  have r0 : w1.cell? ⟨w.heap.size + 1 + 1, 0, none⟩ = some (.int .i64 0) := hC 0
  have r1 : w1.cell? ⟨w.heap.size + 1 + 1, 1, none⟩ = some (.int .i64 0) := hC 1
  have r2 : w1.cell? ⟨w.heap.size + 1 + 1, 2, none⟩ = some (.int .i64 0) := hC 2
  have r3 : w1.cell? ⟨w.heap.size + 1 + 1, 3, none⟩ = some (.int .i64 0) := hC 3
  have fa0 := fA 0
  have fa1 := fA 1
  have fb0 := fB 0
  have fb1 := fB 1
  have fr0 := fC 0
  have fr1 := fC 1
  have fr2 := fC 2
  have fr3 := fC 3
  clear hA hB hC fA fB fC hb1
  by_cases ho : 0 < o
  · rw [if_pos ho] at hG
    go_wp2_with fail
    have hW : ∀ (b i : Nat), b ≠ w.heap.size → b ≠ w.heap.size + 1 → ((((w1.setCell ⟨w.heap.size, 0, none⟩ (.int .i64 f')).setCell ⟨w.heap.size, 1, none⟩ (.int .i64 p')).setCell ⟨w.heap.size + 1, 0, none⟩ (.int .i64 f)).setCell ⟨w.heap.size + 1, 1, none⟩ (.int .i64 p)).cell? ⟨b, i, none⟩ = w1.cell? ⟨b, i, none⟩ := by
      intro b i h1 h2
      rw [World.cell?_setCell_other _ _ _ _ (fun e => h2 (congrArg Addr.block e).symm), World.cell?_setCell_other _ _ _ _ (fun e => h2 (congrArg Addr.block e).symm), World.cell?_setCell_other _ _ _ _ (fun e => h1 (congrArg Addr.block e).symm), World.cell?_setCell_other _ _ _ _ (fun e => h1 (congrArg Addr.block e).symm)]
    have hfz : ∀ (b i : Nat), ((((w1.setCell ⟨w.heap.size, 0, none⟩ (.int .i64 f')).setCell ⟨w.heap.size, 1, none⟩ (.int .i64 p')).setCell ⟨w.heap.size + 1, 0, none⟩ (.int .i64 f)).setCell ⟨w.heap.size + 1, 1, none⟩ (.int .i64 p)).frozen? ⟨b, i, none⟩ = w1.frozen? ⟨b, i, none⟩ := by
      intro b i
      simp only [World.frozen?_setCell]
    have hB2 := (((hB1.setCell (p := ⟨w.heap.size, 0, none⟩) (Nat.le_refl _) (.int .i64 f')).setCell (p := ⟨w.heap.size, 1, none⟩) (Nat.le_refl _) (.int .i64 p')).setCell (p := ⟨w.heap.size + 1, 0, none⟩) (Nat.le_succ _) (.int .i64 f)).setCell (p := ⟨w.heap.size + 1, 1, none⟩) (Nat.le_succ _) (.int .i64 p)
    have hsz : ((((w1.setCell ⟨w.heap.size, 0, none⟩ (.int .i64 f')).setCell ⟨w.heap.size, 1, none⟩ (.int .i64 p')).setCell ⟨w.heap.size + 1, 0, none⟩ (.int .i64 f)).setCell ⟨w.heap.size + 1, 1, none⟩ (.int .i64 p)).heap.size = w1.heap.size := by simp
    rw [← hsz]
    generalize (((w1.setCell ⟨w.heap.size, 0, none⟩ (.int .i64 f')).setCell ⟨w.heap.size, 1, none⟩ (.int .i64 p')).setCell ⟨w.heap.size + 1, 0, none⟩ (.int .i64 f)).setCell ⟨w.heap.size + 1, 1, none⟩ (.int .i64 p) = w2 at hW hfz hB2 ⊢
    have r0 := (hW _ _ (by omega) (by omega)).trans r0
    have fr0 := (hfz _ _).trans fr0
    have r1 := (hW _ _ (by omega) (by omega)).trans r1
    have fr1 := (hfz _ _).trans fr1
    have r2 := (hW _ _ (by omega) (by omega)).trans r2
    have fr2 := (hfz _ _).trans fr2
    have r3 := (hW _ _ (by omega) (by omega)).trans r3
    have fr3 := (hfz _ _).trans fr3
    clear hW hfz hsz hB1
    have d0 : ((w2.alloc (.cells #[.int .i64 f', .int .i64 p', .int .i64 f, .int .i64 p] 32)).drew).cell? ⟨w2.heap.size, 0, none⟩ = some (.int .i64 f') := cell_new w2 _ _ 0
    have d1 : ((w2.alloc (.cells #[.int .i64 f', .int .i64 p', .int .i64 f, .int .i64 p] 32)).drew).cell? ⟨w2.heap.size, 1, none⟩ = some (.int .i64 p') := cell_new w2 _ _ 1
    have d2 : ((w2.alloc (.cells #[.int .i64 f', .int .i64 p', .int .i64 f, .int .i64 p] 32)).drew).cell? ⟨w2.heap.size, 2, none⟩ = some (.int .i64 f) := cell_new w2 _ _ 2
    have d3 : ((w2.alloc (.cells #[.int .i64 f', .int .i64 p', .int .i64 f, .int .i64 p] 32)).drew).cell? ⟨w2.heap.size, 3, none⟩ = some (.int .i64 p) := cell_new w2 _ _ 3
    have g0 : ((w2.alloc (.cells #[.int .i64 f', .int .i64 p', .int .i64 f, .int .i64 p] 32)).drew).cell? ⟨w.heap.size + 1 + 1, 0, none⟩ = some (.int .i64 0) := cell_al r0 _
    have g1 : ((w2.alloc (.cells #[.int .i64 f', .int .i64 p', .int .i64 f, .int .i64 p] 32)).drew).cell? ⟨w.heap.size + 1 + 1, 1, none⟩ = some (.int .i64 0) := cell_al r1 _
    have g2 : ((w2.alloc (.cells #[.int .i64 f', .int .i64 p', .int .i64 f, .int .i64 p] 32)).drew).cell? ⟨w.heap.size + 1 + 1, 2, none⟩ = some (.int .i64 0) := cell_al r2 _
    have g3 : ((w2.alloc (.cells #[.int .i64 f', .int .i64 p', .int .i64 f, .int .i64 p] 32)).drew).cell? ⟨w.heap.size + 1 + 1, 3, none⟩ = some (.int .i64 0) := cell_al r3 _
    have gf0 : ((w2.alloc (.cells #[.int .i64 f', .int .i64 p', .int .i64 f, .int .i64 p] 32)).drew).frozen? ⟨w.heap.size + 1 + 1, 0, none⟩ = false := (World.frozen?_alloc_past _ _ _ (lt_of_cell r0)).trans fr0
    have gf1 : ((w2.alloc (.cells #[.int .i64 f', .int .i64 p', .int .i64 f, .int .i64 p] 32)).drew).frozen? ⟨w.heap.size + 1 + 1, 1, none⟩ = false := (World.frozen?_alloc_past _ _ _ (lt_of_cell r1)).trans fr1
    have gf2 : ((w2.alloc (.cells #[.int .i64 f', .int .i64 p', .int .i64 f, .int .i64 p] 32)).drew).frozen? ⟨w.heap.size + 1 + 1, 2, none⟩ = false := (World.frozen?_alloc_past _ _ _ (lt_of_cell r2)).trans fr2
    have gf3 : ((w2.alloc (.cells #[.int .i64 f', .int .i64 p', .int .i64 f, .int .i64 p] 32)).drew).frozen? ⟨w.heap.size + 1 + 1, 3, none⟩ = false := (World.frozen?_alloc_past _ _ _ (lt_of_cell r3)).trans fr3
    have hBt : Below w.heap.size w ((w2.alloc (.cells #[.int .i64 f', .int .i64 p', .int .i64 f, .int .i64 p] 32)).drew) := (belA hB2 _).drew
    have cr := right_any f' p' f p
    clear r0 r1 r2 r3 fr0 fr1 fr2 fr3 a0 a1 b0 b1 fa0 fa1 fb0 fb1 C1
    cases hr : rightF f' p' f p
    · have hv : G = .tuple #[.agg #[.int .i64 0, .int .i64 0, .int .i64 0, .int .i64 0], .int .i64 2] := by rw [← hG]; unfold ofV; rw [hr]; rfl
      rw [hr] at cr
      have CR := Lib.hid cr
      clear cr hG hr
      go_region_with (first | (go_at_call 35; refine (CR.out _).mono ?_; rintro e w3 ⟨rfl, hb3⟩; have d0 := cell_bel d0 hb3; have d1 := cell_bel d1 hb3; have d2 := cell_bel d2 hb3; have d3 := cell_bel d3 hb3; have gf0 := froz_bel g0 gf0 hb3; have gf1 := froz_bel g1 gf1 hb3; have gf2 := froz_bel g2 gf2 hb3; have gf3 := froz_bel g3 gf3 hb3; have g0 := cell_bel g0 hb3; have g1 := cell_bel g1 hb3; have g2 := cell_bel g2 hb3; have g3 := cell_bel g3 hb3; have hBt := belT hBt hb3; clear hb3) | (go_at_call 80; refine (readP_no _ _ _ _ _ _).mono ?_; rintro e w4 ⟨rfl, hb4⟩; have gf0 := froz_bel g0 gf0 hb4; have gf1 := froz_bel g1 gf1 hb4; have gf2 := froz_bel g2 gf2 hb4; have gf3 := froz_bel g3 gf3 hb4; have g0 := cell_bel g0 hb4; have g1 := cell_bel g1 hb4; have g2 := cell_bel g2 hb4; have g3 := cell_bel g3 hb4; have hBt := belT hBt hb4; clear hb4))
      all_goals go_wp2
      all_goals obtain ⟨s0, s1, s2, s3⟩ := four_stored g0 g1 g2 g3 (.int .i64 0) (.int .i64 0) (.int .i64 0) (.int .i64 0)
      all_goals have hBz := ((((hBt.setCell (p := ⟨w.heap.size + 1 + 1, 0, none⟩) (by simp; omega) (.int .i64 0)).setCell (p := ⟨w.heap.size + 1 + 1, 1, none⟩) (by simp; omega) (.int .i64 0)).setCell (p := ⟨w.heap.size + 1 + 1, 2, none⟩) (by simp; omega) (.int .i64 0)).setCell (p := ⟨w.heap.size + 1 + 1, 3, none⟩) (by simp; omega) (.int .i64 0))
      all_goals generalize (((w4.setCell _ _).setCell _ _).setCell _ _).setCell _ _ = w7 at s0 s1 s2 s3 hBz ⊢
      all_goals exact bodyPost_ret (v := .tuple #[.agg #[.int .i64 0, .int .i64 0, .int .i64 0, .int .i64 0], .int .i64 2]) (by simp [results, Tryz.results33, go_sem, s0, s1, s2, s3]) rfl ⟨by rw [hv], hBz⟩
    · have hv : G = .tuple #[.agg #[.int .i64 f', .int .i64 p', .int .i64 f, .int .i64 p], .int .i64 0] := by rw [← hG]; unfold ofV; rw [hr]; rfl
      rw [hr] at cr
      have CR := Lib.hid cr
      clear cr hG hr
      go_region_with (first | (go_at_call 35; refine (CR.out _).mono ?_; rintro e w3 ⟨rfl, hb3⟩; have d0 := cell_bel d0 hb3; have d1 := cell_bel d1 hb3; have d2 := cell_bel d2 hb3; have d3 := cell_bel d3 hb3; have gf0 := froz_bel g0 gf0 hb3; have gf1 := froz_bel g1 gf1 hb3; have gf2 := froz_bel g2 gf2 hb3; have gf3 := froz_bel g3 gf3 hb3; have g0 := cell_bel g0 hb3; have g1 := cell_bel g1 hb3; have g2 := cell_bel g2 hb3; have g3 := cell_bel g3 hb3; have hBt := belT hBt hb3; clear hb3) | (go_at_call 80; refine (readP_yes _ _ _ _ _ _).mono ?_; rintro e w4 ⟨rfl, hb4⟩; have gf0 := froz_bel g0 gf0 hb4; have gf1 := froz_bel g1 gf1 hb4; have gf2 := froz_bel g2 gf2 hb4; have gf3 := froz_bel g3 gf3 hb4; have g0 := cell_bel g0 hb4; have g1 := cell_bel g1 hb4; have g2 := cell_bel g2 hb4; have g3 := cell_bel g3 hb4; have hBt := belT hBt hb4; clear hb4))
      all_goals go_wp2
      all_goals obtain ⟨s0, s1, s2, s3⟩ := four_stored g0 g1 g2 g3 (.int .i64 f') (.int .i64 p') (.int .i64 f) (.int .i64 p)
      all_goals have hBz := ((((hBt.setCell (p := ⟨w.heap.size + 1 + 1, 0, none⟩) (by simp; omega) (.int .i64 f')).setCell (p := ⟨w.heap.size + 1 + 1, 1, none⟩) (by simp; omega) (.int .i64 p')).setCell (p := ⟨w.heap.size + 1 + 1, 2, none⟩) (by simp; omega) (.int .i64 f)).setCell (p := ⟨w.heap.size + 1 + 1, 3, none⟩) (by simp; omega) (.int .i64 p))
      all_goals generalize (((w4.setCell _ _).setCell _ _).setCell _ _).setCell _ _ = w7 at s0 s1 s2 s3 hBz ⊢
      all_goals exact bodyPost_ret (v := .tuple #[.agg #[.int .i64 f', .int .i64 p', .int .i64 f, .int .i64 p], .int .i64 0]) (by simp [results, Tryz.results33, go_sem, s0, s1, s2, s3]) rfl ⟨by rw [hv], hBz⟩
  · rw [if_neg ho] at hG
    go_wp2_with fail
    have d0 : ((w1.alloc (.cells #[.int .i64 f, .int .i64 p, .int .i64 f', .int .i64 p'] 32)).drew).cell? ⟨w1.heap.size, 0, none⟩ = some (.int .i64 f) := cell_new w1 _ _ 0
    have d1 : ((w1.alloc (.cells #[.int .i64 f, .int .i64 p, .int .i64 f', .int .i64 p'] 32)).drew).cell? ⟨w1.heap.size, 1, none⟩ = some (.int .i64 p) := cell_new w1 _ _ 1
    have d2 : ((w1.alloc (.cells #[.int .i64 f, .int .i64 p, .int .i64 f', .int .i64 p'] 32)).drew).cell? ⟨w1.heap.size, 2, none⟩ = some (.int .i64 f') := cell_new w1 _ _ 2
    have d3 : ((w1.alloc (.cells #[.int .i64 f, .int .i64 p, .int .i64 f', .int .i64 p'] 32)).drew).cell? ⟨w1.heap.size, 3, none⟩ = some (.int .i64 p') := cell_new w1 _ _ 3
    have g0 : ((w1.alloc (.cells #[.int .i64 f, .int .i64 p, .int .i64 f', .int .i64 p'] 32)).drew).cell? ⟨w.heap.size + 1 + 1, 0, none⟩ = some (.int .i64 0) := cell_al r0 _
    have g1 : ((w1.alloc (.cells #[.int .i64 f, .int .i64 p, .int .i64 f', .int .i64 p'] 32)).drew).cell? ⟨w.heap.size + 1 + 1, 1, none⟩ = some (.int .i64 0) := cell_al r1 _
    have g2 : ((w1.alloc (.cells #[.int .i64 f, .int .i64 p, .int .i64 f', .int .i64 p'] 32)).drew).cell? ⟨w.heap.size + 1 + 1, 2, none⟩ = some (.int .i64 0) := cell_al r2 _
    have g3 : ((w1.alloc (.cells #[.int .i64 f, .int .i64 p, .int .i64 f', .int .i64 p'] 32)).drew).cell? ⟨w.heap.size + 1 + 1, 3, none⟩ = some (.int .i64 0) := cell_al r3 _
    have gf0 : ((w1.alloc (.cells #[.int .i64 f, .int .i64 p, .int .i64 f', .int .i64 p'] 32)).drew).frozen? ⟨w.heap.size + 1 + 1, 0, none⟩ = false := (World.frozen?_alloc_past _ _ _ (lt_of_cell r0)).trans fr0
    have gf1 : ((w1.alloc (.cells #[.int .i64 f, .int .i64 p, .int .i64 f', .int .i64 p'] 32)).drew).frozen? ⟨w.heap.size + 1 + 1, 1, none⟩ = false := (World.frozen?_alloc_past _ _ _ (lt_of_cell r1)).trans fr1
    have gf2 : ((w1.alloc (.cells #[.int .i64 f, .int .i64 p, .int .i64 f', .int .i64 p'] 32)).drew).frozen? ⟨w.heap.size + 1 + 1, 2, none⟩ = false := (World.frozen?_alloc_past _ _ _ (lt_of_cell r2)).trans fr2
    have gf3 : ((w1.alloc (.cells #[.int .i64 f, .int .i64 p, .int .i64 f', .int .i64 p'] 32)).drew).frozen? ⟨w.heap.size + 1 + 1, 3, none⟩ = false := (World.frozen?_alloc_past _ _ _ (lt_of_cell r3)).trans fr3
    have hBt : Below w.heap.size w ((w1.alloc (.cells #[.int .i64 f, .int .i64 p, .int .i64 f', .int .i64 p'] 32)).drew) := (belA hB1 _).drew
    have cr := right_any f p f' p'
    clear r0 r1 r2 r3 fr0 fr1 fr2 fr3 a0 a1 b0 b1 fa0 fa1 fb0 fb1 C1
    cases hr : rightF f p f' p'
    · have hv : G = .tuple #[.agg #[.int .i64 0, .int .i64 0, .int .i64 0, .int .i64 0], .int .i64 2] := by rw [← hG]; unfold ofV; rw [hr]; rfl
      rw [hr] at cr
      have CR := Lib.hid cr
      clear cr hG hr
      go_region_with (first | (go_at_call 35; refine (CR.out _).mono ?_; rintro e w3 ⟨rfl, hb3⟩; have d0 := cell_bel d0 hb3; have d1 := cell_bel d1 hb3; have d2 := cell_bel d2 hb3; have d3 := cell_bel d3 hb3; have gf0 := froz_bel g0 gf0 hb3; have gf1 := froz_bel g1 gf1 hb3; have gf2 := froz_bel g2 gf2 hb3; have gf3 := froz_bel g3 gf3 hb3; have g0 := cell_bel g0 hb3; have g1 := cell_bel g1 hb3; have g2 := cell_bel g2 hb3; have g3 := cell_bel g3 hb3; have hBt := belT hBt hb3; clear hb3) | (go_at_call 80; refine (readP_no _ _ _ _ _ _).mono ?_; rintro e w4 ⟨rfl, hb4⟩; have gf0 := froz_bel g0 gf0 hb4; have gf1 := froz_bel g1 gf1 hb4; have gf2 := froz_bel g2 gf2 hb4; have gf3 := froz_bel g3 gf3 hb4; have g0 := cell_bel g0 hb4; have g1 := cell_bel g1 hb4; have g2 := cell_bel g2 hb4; have g3 := cell_bel g3 hb4; have hBt := belT hBt hb4; clear hb4))
      all_goals go_wp2
      all_goals obtain ⟨s0, s1, s2, s3⟩ := four_stored g0 g1 g2 g3 (.int .i64 0) (.int .i64 0) (.int .i64 0) (.int .i64 0)
      all_goals have hBz := ((((hBt.setCell (p := ⟨w.heap.size + 1 + 1, 0, none⟩) (by simp; omega) (.int .i64 0)).setCell (p := ⟨w.heap.size + 1 + 1, 1, none⟩) (by simp; omega) (.int .i64 0)).setCell (p := ⟨w.heap.size + 1 + 1, 2, none⟩) (by simp; omega) (.int .i64 0)).setCell (p := ⟨w.heap.size + 1 + 1, 3, none⟩) (by simp; omega) (.int .i64 0))
      all_goals generalize (((w4.setCell _ _).setCell _ _).setCell _ _).setCell _ _ = w7 at s0 s1 s2 s3 hBz ⊢
      all_goals exact bodyPost_ret (v := .tuple #[.agg #[.int .i64 0, .int .i64 0, .int .i64 0, .int .i64 0], .int .i64 2]) (by simp [results, Tryz.results33, go_sem, s0, s1, s2, s3]) rfl ⟨by rw [hv], hBz⟩
    · have hv : G = .tuple #[.agg #[.int .i64 f, .int .i64 p, .int .i64 f', .int .i64 p'], .int .i64 0] := by rw [← hG]; unfold ofV; rw [hr]; rfl
      rw [hr] at cr
      have CR := Lib.hid cr
      clear cr hG hr
      go_region_with (first | (go_at_call 35; refine (CR.out _).mono ?_; rintro e w3 ⟨rfl, hb3⟩; have d0 := cell_bel d0 hb3; have d1 := cell_bel d1 hb3; have d2 := cell_bel d2 hb3; have d3 := cell_bel d3 hb3; have gf0 := froz_bel g0 gf0 hb3; have gf1 := froz_bel g1 gf1 hb3; have gf2 := froz_bel g2 gf2 hb3; have gf3 := froz_bel g3 gf3 hb3; have g0 := cell_bel g0 hb3; have g1 := cell_bel g1 hb3; have g2 := cell_bel g2 hb3; have g3 := cell_bel g3 hb3; have hBt := belT hBt hb3; clear hb3) | (go_at_call 80; refine (readP_yes _ _ _ _ _ _).mono ?_; rintro e w4 ⟨rfl, hb4⟩; have gf0 := froz_bel g0 gf0 hb4; have gf1 := froz_bel g1 gf1 hb4; have gf2 := froz_bel g2 gf2 hb4; have gf3 := froz_bel g3 gf3 hb4; have g0 := cell_bel g0 hb4; have g1 := cell_bel g1 hb4; have g2 := cell_bel g2 hb4; have g3 := cell_bel g3 hb4; have hBt := belT hBt hb4; clear hb4))
      all_goals go_wp2
      all_goals obtain ⟨s0, s1, s2, s3⟩ := four_stored g0 g1 g2 g3 (.int .i64 f) (.int .i64 p) (.int .i64 f') (.int .i64 p')
      all_goals have hBz := ((((hBt.setCell (p := ⟨w.heap.size + 1 + 1, 0, none⟩) (by simp; omega) (.int .i64 f)).setCell (p := ⟨w.heap.size + 1 + 1, 1, none⟩) (by simp; omega) (.int .i64 p)).setCell (p := ⟨w.heap.size + 1 + 1, 2, none⟩) (by simp; omega) (.int .i64 f')).setCell (p := ⟨w.heap.size + 1 + 1, 3, none⟩) (by simp; omega) (.int .i64 p'))
      all_goals generalize (((w4.setCell _ _).setCell _ _).setCell _ _).setCell _ _ = w7 at s0 s1 s2 s3 hBz ⊢
      all_goals exact bodyPost_ret (v := .tuple #[.agg #[.int .i64 f, .int .i64 p, .int .i64 f', .int .i64 p'], .int .i64 0]) (by simp [results, Tryz.results33, go_sem, s0, s1, s2, s3]) rfl ⟨by rw [hv], hBz⟩
end Go.Proofs.YtnefpiohmokkiaaGreatDoor
