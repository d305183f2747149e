/- Joined texts: A set's pairs in order: the function that compares. -/
import Derived.Test.YtnefpiohmokkiaaGreatDoorQS14
/- A set's pairs in order: the function that compares. -/
namespace Go.Proofs.YtnefpiohmokkiaaGreatDoor
set_option linter.unusedVariables false
set_option linter.unusedSimpArgs false
open Go Go.Proofs Go.RowKit Go.Sort

/-- What the comparison tells. -/
def cmpP (p q : PaM) : Int := orF (ordF p.a p.b q.a q.b) (ordF p.c p.d q.c q.d)

set_option maxRecDepth 100000 in
set_option maxHeartbeats 2000000 in
theorem cmp_grew (p q : PaM) (w : World) : Calls Tryz.prog 83 #[p.v, q.v] w fun e w' => e = .returned (.int .i64 (cmpP p q)) ∧ Grew w w' := by
  have k0 := cell_al (cell_new w #[.int .i64 p.a, .int .i64 p.b, .int .i64 p.c, .int .i64 p.d] 32 0) (.cells #[.int .i64 q.a, .int .i64 q.b, .int .i64 q.c, .int .i64 q.d] 32)
  have k1 := cell_al (cell_new w #[.int .i64 p.a, .int .i64 p.b, .int .i64 p.c, .int .i64 p.d] 32 1) (.cells #[.int .i64 q.a, .int .i64 q.b, .int .i64 q.c, .int .i64 q.d] 32)
  have k2 := cell_al (cell_new w #[.int .i64 p.a, .int .i64 p.b, .int .i64 p.c, .int .i64 p.d] 32 2) (.cells #[.int .i64 q.a, .int .i64 q.b, .int .i64 q.c, .int .i64 q.d] 32)
  have k3 := cell_al (cell_new w #[.int .i64 p.a, .int .i64 p.b, .int .i64 p.c, .int .i64 p.d] 32 3) (.cells #[.int .i64 q.a, .int .i64 q.b, .int .i64 q.c, .int .i64 q.d] 32)
  have l0 := cell_two w (.cells #[.int .i64 p.a, .int .i64 p.b, .int .i64 p.c, .int .i64 p.d] 32) #[.int .i64 q.a, .int .i64 q.b, .int .i64 q.c, .int .i64 q.d] 32 0
  have l1 := cell_two w (.cells #[.int .i64 p.a, .int .i64 p.b, .int .i64 p.c, .int .i64 p.d] 32) #[.int .i64 q.a, .int .i64 q.b, .int .i64 q.c, .int .i64 q.d] 32 1
  have l2 := cell_two w (.cells #[.int .i64 p.a, .int .i64 p.b, .int .i64 p.c, .int .i64 p.d] 32) #[.int .i64 q.a, .int .i64 q.b, .int .i64 q.c, .int .i64 q.d] 32 2
  have l3 := cell_two w (.cells #[.int .i64 p.a, .int .i64 p.b, .int .i64 p.c, .int .i64 p.d] 32) #[.int .i64 q.a, .int .i64 q.b, .int .i64 q.c, .int .i64 q.d] 32 3
  have HG := Lib.hid ((((Grew.refl w).alloc (.cells #[.int .i64 p.a, .int .i64 p.b, .int .i64 p.c, .int .i64 p.d] 32)).alloc (.cells #[.int .i64 q.a, .int .i64 q.b, .int .i64 q.c, .int .i64 q.d] 32)).drew)
  unfold cmpP
  go_enter Tryz.func83, Tryz.ntmps83
  go_wp2_with fail
  refine wp_region_R (S := fun W => W.cell? ⟨w.heap.size, 0, none⟩ = some (.int .i64 p.a) ∧ W.cell? ⟨w.heap.size, 1, none⟩ = some (.int .i64 p.b) ∧ W.cell? ⟨w.heap.size, 2, none⟩ = some (.int .i64 p.c) ∧ W.cell? ⟨w.heap.size, 3, none⟩ = some (.int .i64 p.d) ∧ W.cell? ⟨w.heap.size + 1, 0, none⟩ = some (.int .i64 q.a) ∧ W.cell? ⟨w.heap.size + 1, 1, none⟩ = some (.int .i64 q.b) ∧ W.cell? ⟨w.heap.size + 1, 2, none⟩ = some (.int .i64 q.c) ∧ W.cell? ⟨w.heap.size + 1, 3, none⟩ = some (.int .i64 q.d)) 10 (by kernel_rfl) (by simp) ⟨k0, k1, k2, k3, l0, l1, l2, l3⟩ (fun hHeld => ?_)
  clear k0 k1 k2 k3 l0 l1 l2 l3
  generalize World.drew _ = V0 at HG hHeld ⊢
  refine anyR_take (i := 0) (v := ?_) rfl (by kernel_rfl) (by kernel_rfl) (by kernel_rfl) (fun _ _ _ h => h) (Or.inl ⟨by rfl, ?_⟩) (by assumption) ?_
  rotate_left
  · (intro w hSw; (try dsimp only at hSw); go_simp)
    all_goals with_reducible rfl
  try simp only [Act.put, List.getElem_toArray, List.getElem_cons_succ, List.getElem_cons_zero, List.setIfInBounds_toArray, List.set_cons_zero, List.set_cons_succ]
  refine anyR_take (i := 1) (v := ?_) rfl (by kernel_rfl) (by kernel_rfl) (by kernel_rfl) (fun _ _ _ h => h) (Or.inl ⟨by rfl, ?_⟩) (by assumption) ?_
  rotate_left
  · (intro w hSw; (try dsimp only at hSw); go_simp)
    all_goals with_reducible rfl
  try simp only [Act.put, List.getElem_toArray, List.getElem_cons_succ, List.getElem_cons_zero, List.setIfInBounds_toArray, List.set_cons_zero, List.set_cons_succ]
  refine anyR_take (i := 2) (v := ?_) rfl (by kernel_rfl) (by kernel_rfl) (by kernel_rfl) (fun _ _ _ h => h) (Or.inl ⟨by rfl, ?_⟩) (by assumption) ?_
  rotate_left
  · (intro w hSw; (try dsimp only at hSw); go_simp)
    all_goals with_reducible rfl
  try simp only [Act.put, List.getElem_toArray, List.getElem_cons_succ, List.getElem_cons_zero, List.setIfInBounds_toArray, List.set_cons_zero, List.set_cons_succ]
  refine anyR_take (i := 3) (v := ?_) rfl (by kernel_rfl) (by kernel_rfl) (by kernel_rfl) (fun _ _ _ h => h) (Or.inl ⟨by rfl, ?_⟩) (by assumption) ?_
  rotate_left
  · (intro w hSw; (try dsimp only at hSw); go_simp)
    all_goals with_reducible rfl
  try simp only [Act.put, List.getElem_toArray, List.getElem_cons_succ, List.getElem_cons_zero, List.setIfInBounds_toArray, List.set_cons_zero, List.set_cons_succ]
  refine anyR_take (i := 5) (v := ?_) rfl (by kernel_rfl) (by kernel_rfl) (by kernel_rfl) (fun _ _ _ h => h) (Or.inl ⟨by rfl, ?_⟩) (by assumption) ?_
  rotate_left
  · (intro w hSw; (try dsimp only at hSw); go_simp)
    all_goals with_reducible rfl
  try simp only [Act.put, List.getElem_toArray, List.getElem_cons_succ, List.getElem_cons_zero, List.setIfInBounds_toArray, List.set_cons_zero, List.set_cons_succ]
  refine anyR_take (i := 6) (v := ?_) rfl (by kernel_rfl) (by kernel_rfl) (by kernel_rfl) (fun _ _ _ h => h) (Or.inl ⟨by rfl, ?_⟩) (by assumption) ?_
  rotate_left
  · (intro w hSw; (try dsimp only at hSw); go_simp)
    all_goals with_reducible rfl
  try simp only [Act.put, List.getElem_toArray, List.getElem_cons_succ, List.getElem_cons_zero, List.setIfInBounds_toArray, List.set_cons_zero, List.set_cons_succ]
  refine anyR_take (i := 7) (v := ?_) rfl (by kernel_rfl) (by kernel_rfl) (by kernel_rfl) (fun _ _ _ h => h) (Or.inl ⟨by rfl, ?_⟩) (by assumption) ?_
  rotate_left
  · (intro w hSw; (try dsimp only at hSw); go_simp)
    all_goals with_reducible rfl
  try simp only [Act.put, List.getElem_toArray, List.getElem_cons_succ, List.getElem_cons_zero, List.setIfInBounds_toArray, List.set_cons_zero, List.set_cons_succ]
  refine anyR_take (i := 8) (v := ?_) rfl (by kernel_rfl) (by kernel_rfl) (by kernel_rfl) (fun _ _ _ h => h) (Or.inl ⟨by rfl, ?_⟩) (by assumption) ?_
  rotate_left
  · (intro w hSw; (try dsimp only at hSw); go_simp)
    all_goals with_reducible rfl
  try simp only [Act.put, List.getElem_toArray, List.getElem_cons_succ, List.getElem_cons_zero, List.setIfInBounds_toArray, List.set_cons_zero, List.set_cons_succ]
  refine anyR_ready (rs := [4]) (by kernel_rfl) (by simp) (by decide) ?_
  refine AllReadyR.cons rfl (fun K hK => ?_) AllReadyR.nil
  go_simp
  go_at_call 79
  refine (order_grew p.a p.b q.a q.b _).mono ?_
  rintro e W1 ⟨rfl, hg⟩
  have HG := Lib.hid (HG.out.trans hg)
  refine hK.out _ _ ?_ (fun hHeld => ?_)
  · exact ⟨hg.cell hHeld.1, hg.cell hHeld.2.1, hg.cell hHeld.2.2.1, hg.cell hHeld.2.2.2.1, hg.cell hHeld.2.2.2.2.1, hg.cell hHeld.2.2.2.2.2.1, hg.cell hHeld.2.2.2.2.2.2.1, hg.cell hHeld.2.2.2.2.2.2.2⟩
  clear hK K hg
  try simp only [Act.put, List.getElem_toArray, List.getElem_cons_succ, List.getElem_cons_zero, List.setIfInBounds_toArray, List.set_cons_zero, List.set_cons_succ]
  refine anyR_ready (rs := [9]) (by kernel_rfl) (by simp) (by decide) ?_
  refine AllReadyR.cons rfl (fun K hK => ?_) AllReadyR.nil
  go_simp
  go_at_call 79
  refine (order_grew p.c p.d q.c q.d _).mono ?_
  rintro e W1 ⟨rfl, hg⟩
  have HG := Lib.hid (HG.out.trans hg)
  refine hK.out _ _ ?_ (fun hHeld => ?_)
  · exact ⟨hg.cell hHeld.1, hg.cell hHeld.2.1, hg.cell hHeld.2.2.1, hg.cell hHeld.2.2.2.1, hg.cell hHeld.2.2.2.2.1, hg.cell hHeld.2.2.2.2.2.1, hg.cell hHeld.2.2.2.2.2.2.1, hg.cell hHeld.2.2.2.2.2.2.2⟩
  clear hK K hg
  try simp only [Act.put, List.getElem_toArray, List.getElem_cons_succ, List.getElem_cons_zero, List.setIfInBounds_toArray, List.set_cons_zero, List.set_cons_succ]
  refine anyR_end (by kernel_rfl) ?_
  refine wpAny_ready (rs := [10]) (by kernel_rfl) (by simp) ?_
  refine AllReady.cons rfl (fun K hK => ?_) AllReady.nil
  go_simp
  refine hK _ _ ?_
  clear hK K
  try simp only [Act.put, List.getElem_toArray, List.getElem_cons_succ, List.getElem_cons_zero, List.setIfInBounds_toArray, List.set_cons_zero, List.set_cons_succ]
  refine wpAny_ready (rs := [11]) (by kernel_rfl) (by simp) ?_
  refine AllReady.cons rfl (fun K hK => ?_) AllReady.nil
  go_simp
  go_at_call 84
  refine (or_same _ _ _ _ (cell_new _ _ _ 0) (cell_new _ _ _ 1)).mono ?_
  rintro e w2 ⟨rfl, rfl⟩
  refine hK _ _ ?_
  clear hK K
  try simp only [Act.put, List.getElem_toArray, List.getElem_cons_succ, List.getElem_cons_zero, List.setIfInBounds_toArray, List.set_cons_zero, List.set_cons_succ]
  refine wpAny_ready (rs := [12]) (by kernel_rfl) (by simp) ?_
  refine AllReady.cons rfl (fun K hK => ?_) AllReady.nil
  go_simp
  refine hK _ _ ?_
  clear hK K
  try simp only [Act.put, List.getElem_toArray, List.getElem_cons_succ, List.getElem_cons_zero, List.setIfInBounds_toArray, List.set_cons_zero, List.set_cons_succ]
  refine wpAny_done (by kernel_rfl) ?_ _
  go_wp2_with fail
  go_ret
  exact ⟨rfl, HG.out.alloc _⟩
end Go.Proofs.YtnefpiohmokkiaaGreatDoor
