/- Each of package epoch. -/
import Derived.Test.YtigepikfbpodpaaDoorEpB
import Derived.Test.YtigepikfbpodpaaDoorTwo
import Derived.Test.YtigepikfbpodpaaDoorEpW
import Derived.Test.YtigepikfbpodpaaDoorRng
namespace Go.Proofs.YtigepikfbpodpaaDoor
set_option linter.unusedVariables false
open Go Go.Proofs Go.RowKit

set_option maxRecDepth 100000 in
set_option maxHeartbeats 40000000 in
theorem Each_any (x d : Int) (w : World) (h0 : 0 ≤ x) (h1 : x < 18446744073709551616) (h2 : 0 ≤ d) (h3 : d < 18446744073709551616) :
    Calls Tryd.prog 21 #[.int .u64 x, .int .u64 d] w fun e w' => ∃ Bi Be Bd, e = .returned (.func (.func 32) #[] #[.pointer (some ⟨Bi, 0, none⟩), .pointer (some ⟨Be, 0, none⟩), .pointer (some ⟨Bd, 0, none⟩)]) ∧
      w.heap.size ≤ Bi ∧ w.heap.size ≤ Be ∧ w.heap.size ≤ Bd ∧ w'.cell? ⟨Bi, 0, none⟩ = some (.bool (okB d (max 1 (x % 281474976710656)) 281474976710655)) ∧ w'.cell? ⟨Be, 0, none⟩ = some (.int .u64 x) ∧ w'.cell? ⟨Bd, 0, none⟩ = some (.int .u64 d) ∧ Below w.heap.size w w' := by
  have i1 := idx2_1
  have e0 := cell_al (cell_new w #[.int .u64 x] 23 0) (.cells #[.int .u64 d] 22)
  have d0 := cell_two w (.cells #[.int .u64 x] 23) #[.int .u64 d] 22 0
  have hB : Below w.heap.size w ((w.alloc (.cells #[.int .u64 x] 23)).alloc (.cells #[.int .u64 d] 22)) := belA (bel1 _) _
  go_enter Tryd.func21, Tryd.ntmps21
  go_wp2_with fail
  generalize (w.alloc (.cells #[.int .u64 x] 23)).alloc (.cells #[.int .u64 d] 22) = V at e0 d0 hB ⊢
  have e0' : V.drew.cell? ⟨w.heap.size, 0, none⟩ = some (.int .u64 x) := e0
  have d0' : V.drew.cell? ⟨w.heap.size + 1, 0, none⟩ = some (.int .u64 d) := d0
  have hB' : Below w.heap.size w V.drew := hB.drew
  have e0a : (V.alloc (.cells #[.bool false] 4)).cell? ⟨w.heap.size, 0, none⟩ = some (.int .u64 x) := cell_al e0 (.cells #[.bool false] 4)
  have d0a : (V.alloc (.cells #[.bool false] 4)).cell? ⟨w.heap.size + 1, 0, none⟩ = some (.int .u64 d) := cell_al d0 (.cells #[.bool false] 4)
  have n1 : (V.drew.alloc (.cells #[.bool false] 4)).cell? ⟨V.heap.size, 0, none⟩ = some (.bool false) := cell_new V.drew _ _ 0
  have nf1 : (V.drew.alloc (.cells #[.bool false] 4)).frozen? ⟨V.heap.size, 0, none⟩ = false := World.frozen?_alloc_new V.drew _ _ _
  go_region_with (first
    | (go_at_call 23; refine (parts_any x _ h0 h1).mono ?_; rintro e wp ⟨rfl, hbp⟩; have e1 := cell_bel (by first | exact e0' | exact cell_al e0' _) hbp; have d1 := cell_bel (by first | exact d0' | exact cell_al d0' _) hbp; have hB1 := belT (by first | exact hB' | exact belA hB' _) hbp; have d1a := cell_al d1 (.cells #[.bool false] 4); (try (have q1 := cell_bel n1 hbp; have qf1 := froz_bel n1 nf1 hbp)))
    | (go_at_call 22; refine (fine_one d (max 1 (x % 281474976710656)) 281474976710655 _ _ (by simp <;> omega) (by first | exact cell_new wp #[.int .u64 d, .int .u64 (max 1 (x % 281474976710656)), .int .u64 281474976710655] 49 0 | exact cell_al (cell_new wp #[.int .u64 d, .int .u64 (max 1 (x % 281474976710656)), .int .u64 281474976710655] 49 0) _ | exact cell_two wp _ #[.int .u64 d, .int .u64 (max 1 (x % 281474976710656)), .int .u64 281474976710655] 49 0) (by first | exact cell_new wp #[.int .u64 d, .int .u64 (max 1 (x % 281474976710656)), .int .u64 281474976710655] 49 1 | exact cell_al (cell_new wp #[.int .u64 d, .int .u64 (max 1 (x % 281474976710656)), .int .u64 281474976710655] 49 1) _ | exact cell_two wp _ #[.int .u64 d, .int .u64 (max 1 (x % 281474976710656)), .int .u64 281474976710655] 49 1) (by first | exact cell_new wp #[.int .u64 d, .int .u64 (max 1 (x % 281474976710656)), .int .u64 281474976710655] 49 2 | exact cell_al (cell_new wp #[.int .u64 d, .int .u64 (max 1 (x % 281474976710656)), .int .u64 281474976710655] 49 2) _ | exact cell_two wp _ #[.int .u64 d, .int .u64 (max 1 (x % 281474976710656)), .int .u64 281474976710655] 49 2)).mono ?_; rintro e wf ⟨rfl, hbf⟩; have e2 := cell_bel (by first | exact cell_al e1 _ | exact cell_al (cell_al e1 _) _) hbf; have d2 := cell_bel (by first | exact cell_al d1 _ | exact cell_al (cell_al d1 _) _) hbf; have hB2 := belT (by first | exact belA hB1 _ | exact belA (belA hB1 _) _) hbf; (try (have q2 : wf.cell? ⟨_, 0, none⟩ = some (.bool false) := cell_bel (cell_two wp (.cells #[.int .u64 d, .int .u64 (max 1 (x % 281474976710656)), .int .u64 281474976710655] 49) #[.bool false] 4 0) hbf; have qf2 := froz_bel (cell_two wp (.cells #[.int .u64 d, .int .u64 (max 1 (x % 281474976710656)), .int .u64 281474976710655] 49) #[.bool false] 4 0) (froz_two wp (.cells #[.int .u64 d, .int .u64 (max 1 (x % 281474976710656)), .int .u64 281474976710655] 49) #[.bool false] 4 0) hbf)); (try (have q2 : wf.cell? ⟨_, 0, none⟩ = some (.bool false) := cell_bel (cell_al (cell_new wp #[.bool false] 4 0) (.cells #[.int .u64 d, .int .u64 (max 1 (x % 281474976710656)), .int .u64 281474976710655] 49)) hbf; have qf2 := froz_bel (cell_al (cell_new wp #[.bool false] 4 0) (.cells #[.int .u64 d, .int .u64 (max 1 (x % 281474976710656)), .int .u64 281474976710655] 49)) (froz_bel (cell_new wp #[.bool false] 4 0) (World.frozen?_alloc_new wp _ _ _) (bel1 (.cells #[.int .u64 d, .int .u64 (max 1 (x % 281474976710656)), .int .u64 281474976710655] 49))) hbf)); (try (have q2 : wf.cell? ⟨_, 0, none⟩ = some (.bool false) := cell_bel (cell_al q1 (.cells #[.int .u64 d, .int .u64 (max 1 (x % 281474976710656)), .int .u64 281474976710655] 49)) hbf; have qf2 := froz_bel (cell_al q1 (.cells #[.int .u64 d, .int .u64 (max 1 (x % 281474976710656)), .int .u64 281474976710655] 49)) (froz_bel q1 qf1 (bel1 (.cells #[.int .u64 d, .int .u64 (max 1 (x % 281474976710656)), .int .u64 281474976710655] 49))) hbf))))
  all_goals (
    go_wp2
    go_ret
    have hs0 := hB.size
    have hs1 := hB1.size
    have hs2 := hB2.size
    have hl := lt_of_cell e0
    have hl' := lt_of_cell d0
    have hl1 := lt_of_cell e1
    have hl2 := lt_of_cell d1
    refine ⟨_, _, _, rfl, by first | omega | (simp; omega), by omega, by omega, ?_, ?_, ?_, ?_⟩
    · first | exact cell_new _ _ _ 0 | exact World.cell?_setCell_same _ _ _ q2
    · first | exact cell_al e2 _ | exact (World.cell?_setCell_other _ _ _ _ (by first | (simp; done) | (simp; omega))).trans e2
    · first | exact cell_al d2 _ | exact (World.cell?_setCell_other _ _ _ _ (by first | (simp; done) | (simp; omega))).trans d2
    · first | exact belA hB2 _ | exact hB2.setCell (by first | (simp; done) | (simp; omega)) _)
end Go.Proofs.YtigepikfbpodpaaDoor
