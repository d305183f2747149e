/- Joined texts: Package asm: the reader's line, of a head. -/
import Derived.Test.YtfnfcngkaepnjaaGreatDoorQL34
/- Package asm: the reader's line, of a head. -/
namespace Go.Proofs.YtfnfcngkaepnjaaGreatDoor
set_option linter.unusedVariables false
set_option linter.unusedSimpArgs false
open Go Go.Proofs Go.RowKit Go.Sort

abbrev headsC : Array Value := #[.string ⟨#[109, 117, 116, 101, 120, 101, 115]⟩, .func (.func 169) #[] #[], .string ⟨#[114, 119, 108, 111, 99, 107, 115]⟩, .func (.func 170) #[] #[], .string ⟨#[103, 114, 111, 117, 112, 115]⟩, .func (.func 171) #[] #[]]

set_option maxRecDepth 100000 in
set_option maxHeartbeats 4000000 in
theorem line_head0 (B R : Nat) (s : ByteArray) (hs : s.size ≤ 281474976710656) (Q : List QFn) (vf : Value) (P : ProgM) (w : World) (hE : Env w) (hQ : Q.map QFn.f = P.funcs) (h : RdB B R Q vf P.mu P.rw P.gr w) :
    Calls Tryz.prog 67 #[.pointer (some ⟨R, 0, none⟩), .int .i64 0, .string s] w (LineQ B R 0 s P w) := by
  have HQ := Lib.hid hQ
  have HS := Lib.hid hs
  have H := Lib.hid h
  have HE := Lib.hid hE
  clear h hE hs hQ
  go_enter Tryz.func67, Tryz.ntmps67
  go_wp2_with fail
  have hbs := bel1 (W := w) (.cells #[.string s] 9)
  have s0 := cell_new w #[.string s] 9 0
  refine (heads_any _).mono ?_
  rintro e w1 ⟨rfl, hb1⟩
  have s1 : (w1.alloc (.cells headsC 197)).drew.cell? ⟨w.heap.size, 0, none⟩ = some (.string s) := cell_al (cell_bel s0 hb1) _
  have hBH := Lib.hid (belA (belT hbs hb1) (.cells headsC 197)).drew
  have k0 : (w1.alloc (.cells headsC 197)).drew.cell? ⟨w1.heap.size, 2 * 0, none⟩ = some (.string wMu) := cell_new w1 headsC 197 (2 * 0)
  have k1 : (w1.alloc (.cells headsC 197)).drew.cell? ⟨w1.heap.size, 2 * 0 + 1, none⟩ = some (.func (.func 169) #[] #[]) := cell_new w1 headsC 197 (2 * 0 + 1)
  clear hbs s0 hb1
  unfold headsV
  go_wp2_with fail
  refine wp_region_R (S := fun W => W.cell? ⟨w1.heap.size, 2 * 0, none⟩ = some (.string wMu) ∧ W.cell? ⟨w1.heap.size, 2 * 0 + 1, none⟩ = some (.func (.func 169) #[] #[]) ∧ W.cell? ⟨w.heap.size, 0, none⟩ = some (.string s)) 15 (by kernel_rfl) (by simp) ⟨k0, k1, s1⟩ (fun hHeld => ?_)
  clear k0 k1 s1
  generalize (w1.alloc _).drew = V0 at hBH hHeld ⊢
  refine anyR_take (i := 0) (v := ?_) rfl (by kernel_rfl) (by kernel_rfl) (by kernel_rfl) (fun _ _ _ h => h) (Or.inl ⟨by rfl, ?_⟩) (by assumption) ?_
  rotate_left
  · (intro w hSw; (try dsimp only at hSw); go_simp)
    all_goals with_reducible rfl
  try simp only [Act.put, List.getElem_toArray, List.getElem_cons_succ, List.getElem_cons_zero, List.setIfInBounds_toArray, List.set_cons_zero, List.set_cons_succ]
  refine anyR_take (i := 1) (v := ?_) rfl (by kernel_rfl) (by kernel_rfl) (by kernel_rfl) (fun _ _ _ h => h) (Or.inl ⟨by rfl, ?_⟩) (by assumption) ?_
  rotate_left
  · (intro w hSw; (try dsimp only at hSw); go_simp)
    all_goals with_reducible rfl
  try simp only [Act.put, List.getElem_toArray, List.getElem_cons_succ, List.getElem_cons_zero, List.setIfInBounds_toArray, List.set_cons_zero, List.set_cons_succ]
  refine anyR_take (i := 2) (v := ?_) rfl (by kernel_rfl) (by kernel_rfl) (by kernel_rfl) (fun _ _ _ h => h) (Or.inl ⟨by rfl, ?_⟩) (by assumption) ?_
  rotate_left
  · (intro w hSw; (try dsimp only at hSw); go_simp)
    all_goals with_reducible rfl
  try simp only [Act.put, List.getElem_toArray, List.getElem_cons_succ, List.getElem_cons_zero, List.setIfInBounds_toArray, List.set_cons_zero, List.set_cons_succ]
  refine anyR_take (i := 3) (v := ?_) rfl (by kernel_rfl) (by kernel_rfl) (by kernel_rfl) (fun _ _ _ h => h) (Or.inl ⟨by rfl, ?_⟩) (by assumption) ?_
  rotate_left
  · (intro w hSw; (try dsimp only at hSw); go_simp)
    all_goals with_reducible rfl
  try simp only [Act.put, List.getElem_toArray, List.getElem_cons_succ, List.getElem_cons_zero, List.setIfInBounds_toArray, List.set_cons_zero, List.set_cons_succ]
  refine anyR_take (i := 4) (v := ?_) rfl (by kernel_rfl) (by kernel_rfl) (by kernel_rfl) (fun _ _ _ h => h) (Or.inl ⟨by rfl, ?_⟩) (by assumption) ?_
  rotate_left
  · (intro w hSw; (try dsimp only at hSw); go_simp)
    all_goals with_reducible rfl
  try simp only [Act.put, List.getElem_toArray, List.getElem_cons_succ, List.getElem_cons_zero, List.setIfInBounds_toArray, List.set_cons_zero, List.set_cons_succ]
  refine anyR_take (i := 5) (v := ?_) rfl (by kernel_rfl) (by kernel_rfl) (by kernel_rfl) (fun _ _ _ h => h) (Or.inl ⟨by rfl, ?_⟩) (by assumption) ?_
  rotate_left
  · (intro w hSw; (try dsimp only at hSw); go_simp)
    all_goals with_reducible rfl
  try simp only [Act.put, List.getElem_toArray, List.getElem_cons_succ, List.getElem_cons_zero, List.setIfInBounds_toArray, List.set_cons_zero, List.set_cons_succ]
  refine anyR_take (i := 6) (v := ?_) rfl (by kernel_rfl) (by kernel_rfl) (by kernel_rfl) (fun _ _ _ h => h) (Or.inl ⟨by rfl, ?_⟩) (by assumption) ?_
  rotate_left
  · (intro w hSw; (try dsimp only at hSw); go_simp)
    all_goals with_reducible rfl
  try simp only [Act.put, List.getElem_toArray, List.getElem_cons_succ, List.getElem_cons_zero, List.setIfInBounds_toArray, List.set_cons_zero, List.set_cons_succ]
  refine anyR_take (i := 8) (v := ?_) rfl (by kernel_rfl) (by kernel_rfl) (by kernel_rfl) (fun _ _ _ h => h) (Or.inl ⟨by rfl, ?_⟩) (by assumption) ?_
  rotate_left
  · (intro w hSw; (try dsimp only at hSw); go_simp)
    all_goals with_reducible rfl
  try simp only [Act.put, List.getElem_toArray, List.getElem_cons_succ, List.getElem_cons_zero, List.setIfInBounds_toArray, List.set_cons_zero, List.set_cons_succ]
  refine anyR_take (i := 9) (v := ?_) rfl (by kernel_rfl) (by kernel_rfl) (by kernel_rfl) (fun _ _ _ h => h) (Or.inl ⟨by rfl, ?_⟩) (by assumption) ?_
  rotate_left
  · (intro w hSw; (try dsimp only at hSw); go_simp)
    all_goals with_reducible rfl
  try simp only [Act.put, List.getElem_toArray, List.getElem_cons_succ, List.getElem_cons_zero, List.setIfInBounds_toArray, List.set_cons_zero, List.set_cons_succ]
  refine anyR_take (i := 10) (v := ?_) rfl (by kernel_rfl) (by kernel_rfl) (by kernel_rfl) (fun _ _ _ h => h) (Or.inl ⟨by rfl, ?_⟩) (by assumption) ?_
  rotate_left
  · (intro w hSw; (try dsimp only at hSw); go_simp)
    all_goals with_reducible rfl
  try simp only [Act.put, List.getElem_toArray, List.getElem_cons_succ, List.getElem_cons_zero, List.setIfInBounds_toArray, List.set_cons_zero, List.set_cons_succ]
  refine anyR_take (i := 11) (v := ?_) rfl (by kernel_rfl) (by kernel_rfl) (by kernel_rfl) (fun _ _ _ h => h) (Or.inl ⟨by rfl, ?_⟩) (by assumption) ?_
  rotate_left
  · (intro w hSw; (try dsimp only at hSw); go_simp)
    all_goals with_reducible rfl
  try simp only [Act.put, List.getElem_toArray, List.getElem_cons_succ, List.getElem_cons_zero, List.setIfInBounds_toArray, List.set_cons_zero, List.set_cons_succ]
  refine anyR_take (i := 12) (v := ?_) rfl (by kernel_rfl) (by kernel_rfl) (by kernel_rfl) (fun _ _ _ h => h) (Or.inl ⟨by rfl, ?_⟩) (by assumption) ?_
  rotate_left
  · (intro w hSw; (try dsimp only at hSw); go_simp)
    all_goals with_reducible rfl
  try simp only [Act.put, List.getElem_toArray, List.getElem_cons_succ, List.getElem_cons_zero, List.setIfInBounds_toArray, List.set_cons_zero, List.set_cons_succ]
  refine anyR_take (i := 13) (v := ?_) rfl (by kernel_rfl) (by kernel_rfl) (by kernel_rfl) (fun _ _ _ h => h) (Or.inl ⟨by rfl, ?_⟩) (by assumption) ?_
  rotate_left
  · (intro w hSw; (try dsimp only at hSw); go_simp)
    all_goals with_reducible rfl
  try simp only [Act.put, List.getElem_toArray, List.getElem_cons_succ, List.getElem_cons_zero, List.setIfInBounds_toArray, List.set_cons_zero, List.set_cons_succ]
  refine anyR_ready (rs := [7]) (by kernel_rfl) (by simp) (by decide) ?_
  refine AllReadyR.cons rfl (fun K hK => ?_) AllReadyR.nil
  go_simp
  refine (head1_any R _).mono ?_
  rintro e w2 ⟨rfl, rfl⟩
  refine hK.out _ _ ?_ (fun hHeld => ?_)
  · assumption
  clear hK K
  try simp only [Act.put, List.getElem_toArray, List.getElem_cons_succ, List.getElem_cons_zero, List.setIfInBounds_toArray, List.set_cons_zero, List.set_cons_succ]
  refine anyR_ready (rs := [14]) (by kernel_rfl) (by simp) (by decide) ?_
  refine AllReadyR.cons rfl (fun K hK => ?_) AllReadyR.nil
  go_simp
  refine (asmNumber_any 0 wMu s (by decide) HS.out _ (HE.out.on hBH.out)).mono ?_
  rintro e w3 ⟨hn, hb3⟩
  have hB3 := belT hBH.out hb3
  rcases hn with ⟨n, hn, rfl⟩ | ⟨⟨n, hn⟩, rfl⟩
  · refine hK.out _ _ ?_ (fun hHeld => ?_)
    · exact ⟨cell_bel hHeld.1 hb3, cell_bel hHeld.2.1 hb3, cell_bel hHeld.2.2 hb3⟩
    clear hK K
    try simp only [Act.put, List.getElem_toArray, List.getElem_cons_succ, List.getElem_cons_zero, List.setIfInBounds_toArray, List.set_cons_zero, List.set_cons_succ]
    have HR3 := Lib.hid (H.out.bel hB3)
    have cc := HR3.out.c1
    have ff := HR3.out.f1
    have HB3 := Lib.hid hB3
    have HN := Lib.hid (numO_yes hn)
    have H0 := H
    clear hn hb3 hB3 hHeld hBH H
    refine anyR_end (by kernel_rfl) ?_
    refine wpAny_ready (rs := [15]) (by kernel_rfl) (by simp) ?_
    refine AllReady.cons rfl (fun K hK => ?_) AllReady.nil
    go_simp
    refine hK _ _ ?_
    clear hK K
    try simp only [Act.put, List.getElem_toArray, List.getElem_cons_succ, List.getElem_cons_zero, List.setIfInBounds_toArray, List.set_cons_zero, List.set_cons_succ]
    refine wpAny_ready (rs := [16]) (by kernel_rfl) (by simp) ?_
    refine AllReady.cons rfl (fun K hK => ?_) AllReady.nil
    go_simp
    refine hK _ _ ?_
    clear hK K
    try simp only [Act.put, List.getElem_toArray, List.getElem_cons_succ, List.getElem_cons_zero, List.setIfInBounds_toArray, List.set_cons_zero, List.set_cons_succ]
    refine wpAny_done (by kernel_rfl) ?_ _
    go_wp2_with fail
    go_end0
    have hR := HR3.out.hR
    refine ⟨?_, (HB3.out.mono (Nat.le_of_lt (Nat.lt_of_lt_of_le (lt_of_cell H0.out.c0) (Nat.le_refl _)))).setCell (p := ⟨R, 1, none⟩) (Nat.le_refl _) _⟩
    have hst : stepO 0 s P = (numO wMu s).map _ := rfl
    rw [hst, HN.out]
    exact ⟨rfl, Q, vf, HQ.out, HR3.out.set1 n⟩
  · have HN := Lib.hid (numO_no hn)
    refine ⟨rfl, ?_, hB3.mono (Nat.le_of_lt (lt_of_cell H.out.c0))⟩
    have hst : stepO 0 s P = (numO wMu s).map _ := rfl
    rw [hst, HN.out]
    rfl
set_option maxRecDepth 100000 in
set_option maxHeartbeats 4000000 in
theorem line_head1 (B R : Nat) (s : ByteArray) (hs : s.size ≤ 281474976710656) (Q : List QFn) (vf : Value) (P : ProgM) (w : World) (hE : Env w) (hQ : Q.map QFn.f = P.funcs) (h : RdB B R Q vf P.mu P.rw P.gr w) :
    Calls Tryz.prog 67 #[.pointer (some ⟨R, 0, none⟩), .int .i64 1, .string s] w (LineQ B R 1 s P w) := by
  have HQ := Lib.hid hQ
  have HS := Lib.hid hs
  have H := Lib.hid h
  have HE := Lib.hid hE
  clear h hE hs hQ
  go_enter Tryz.func67, Tryz.ntmps67
  go_wp2_with fail
  have hbs := bel1 (W := w) (.cells #[.string s] 9)
  have s0 := cell_new w #[.string s] 9 0
  refine (heads_any _).mono ?_
  rintro e w1 ⟨rfl, hb1⟩
  have s1 : (w1.alloc (.cells headsC 197)).drew.cell? ⟨w.heap.size, 0, none⟩ = some (.string s) := cell_al (cell_bel s0 hb1) _
  have hBH := Lib.hid (belA (belT hbs hb1) (.cells headsC 197)).drew
  have k0 : (w1.alloc (.cells headsC 197)).drew.cell? ⟨w1.heap.size, 2 * 1, none⟩ = some (.string wRw) := cell_new w1 headsC 197 (2 * 1)
  have k1 : (w1.alloc (.cells headsC 197)).drew.cell? ⟨w1.heap.size, 2 * 1 + 1, none⟩ = some (.func (.func 170) #[] #[]) := cell_new w1 headsC 197 (2 * 1 + 1)
  clear hbs s0 hb1
  unfold headsV
  go_wp2_with fail
  refine wp_region_R (S := fun W => W.cell? ⟨w1.heap.size, 2 * 1, none⟩ = some (.string wRw) ∧ W.cell? ⟨w1.heap.size, 2 * 1 + 1, none⟩ = some (.func (.func 170) #[] #[]) ∧ W.cell? ⟨w.heap.size, 0, none⟩ = some (.string s)) 15 (by kernel_rfl) (by simp) ⟨k0, k1, s1⟩ (fun hHeld => ?_)
  clear k0 k1 s1
  generalize (w1.alloc _).drew = V0 at hBH hHeld ⊢
  refine anyR_take (i := 0) (v := ?_) rfl (by kernel_rfl) (by kernel_rfl) (by kernel_rfl) (fun _ _ _ h => h) (Or.inl ⟨by rfl, ?_⟩) (by assumption) ?_
  rotate_left
  · (intro w hSw; (try dsimp only at hSw); go_simp)
    all_goals with_reducible rfl
  try simp only [Act.put, List.getElem_toArray, List.getElem_cons_succ, List.getElem_cons_zero, List.setIfInBounds_toArray, List.set_cons_zero, List.set_cons_succ]
  refine anyR_take (i := 1) (v := ?_) rfl (by kernel_rfl) (by kernel_rfl) (by kernel_rfl) (fun _ _ _ h => h) (Or.inl ⟨by rfl, ?_⟩) (by assumption) ?_
  rotate_left
  · (intro w hSw; (try dsimp only at hSw); go_simp)
    all_goals with_reducible rfl
  try simp only [Act.put, List.getElem_toArray, List.getElem_cons_succ, List.getElem_cons_zero, List.setIfInBounds_toArray, List.set_cons_zero, List.set_cons_succ]
  refine anyR_take (i := 2) (v := ?_) rfl (by kernel_rfl) (by kernel_rfl) (by kernel_rfl) (fun _ _ _ h => h) (Or.inl ⟨by rfl, ?_⟩) (by assumption) ?_
  rotate_left
  · (intro w hSw; (try dsimp only at hSw); go_simp)
    all_goals with_reducible rfl
  try simp only [Act.put, List.getElem_toArray, List.getElem_cons_succ, List.getElem_cons_zero, List.setIfInBounds_toArray, List.set_cons_zero, List.set_cons_succ]
  refine anyR_take (i := 3) (v := ?_) rfl (by kernel_rfl) (by kernel_rfl) (by kernel_rfl) (fun _ _ _ h => h) (Or.inl ⟨by rfl, ?_⟩) (by assumption) ?_
  rotate_left
  · (intro w hSw; (try dsimp only at hSw); go_simp)
    all_goals with_reducible rfl
  try simp only [Act.put, List.getElem_toArray, List.getElem_cons_succ, List.getElem_cons_zero, List.setIfInBounds_toArray, List.set_cons_zero, List.set_cons_succ]
  refine anyR_take (i := 4) (v := ?_) rfl (by kernel_rfl) (by kernel_rfl) (by kernel_rfl) (fun _ _ _ h => h) (Or.inl ⟨by rfl, ?_⟩) (by assumption) ?_
  rotate_left
  · (intro w hSw; (try dsimp only at hSw); go_simp)
    all_goals with_reducible rfl
  try simp only [Act.put, List.getElem_toArray, List.getElem_cons_succ, List.getElem_cons_zero, List.setIfInBounds_toArray, List.set_cons_zero, List.set_cons_succ]
  refine anyR_take (i := 5) (v := ?_) rfl (by kernel_rfl) (by kernel_rfl) (by kernel_rfl) (fun _ _ _ h => h) (Or.inl ⟨by rfl, ?_⟩) (by assumption) ?_
  rotate_left
  · (intro w hSw; (try dsimp only at hSw); go_simp)
    all_goals with_reducible rfl
  try simp only [Act.put, List.getElem_toArray, List.getElem_cons_succ, List.getElem_cons_zero, List.setIfInBounds_toArray, List.set_cons_zero, List.set_cons_succ]
  refine anyR_take (i := 6) (v := ?_) rfl (by kernel_rfl) (by kernel_rfl) (by kernel_rfl) (fun _ _ _ h => h) (Or.inl ⟨by rfl, ?_⟩) (by assumption) ?_
  rotate_left
  · (intro w hSw; (try dsimp only at hSw); go_simp)
    all_goals with_reducible rfl
  try simp only [Act.put, List.getElem_toArray, List.getElem_cons_succ, List.getElem_cons_zero, List.setIfInBounds_toArray, List.set_cons_zero, List.set_cons_succ]
  refine anyR_take (i := 8) (v := ?_) rfl (by kernel_rfl) (by kernel_rfl) (by kernel_rfl) (fun _ _ _ h => h) (Or.inl ⟨by rfl, ?_⟩) (by assumption) ?_
  rotate_left
  · (intro w hSw; (try dsimp only at hSw); go_simp)
    all_goals with_reducible rfl
  try simp only [Act.put, List.getElem_toArray, List.getElem_cons_succ, List.getElem_cons_zero, List.setIfInBounds_toArray, List.set_cons_zero, List.set_cons_succ]
  refine anyR_take (i := 9) (v := ?_) rfl (by kernel_rfl) (by kernel_rfl) (by kernel_rfl) (fun _ _ _ h => h) (Or.inl ⟨by rfl, ?_⟩) (by assumption) ?_
  rotate_left
  · (intro w hSw; (try dsimp only at hSw); go_simp)
    all_goals with_reducible rfl
  try simp only [Act.put, List.getElem_toArray, List.getElem_cons_succ, List.getElem_cons_zero, List.setIfInBounds_toArray, List.set_cons_zero, List.set_cons_succ]
  refine anyR_take (i := 10) (v := ?_) rfl (by kernel_rfl) (by kernel_rfl) (by kernel_rfl) (fun _ _ _ h => h) (Or.inl ⟨by rfl, ?_⟩) (by assumption) ?_
  rotate_left
  · (intro w hSw; (try dsimp only at hSw); go_simp)
    all_goals with_reducible rfl
  try simp only [Act.put, List.getElem_toArray, List.getElem_cons_succ, List.getElem_cons_zero, List.setIfInBounds_toArray, List.set_cons_zero, List.set_cons_succ]
  refine anyR_take (i := 11) (v := ?_) rfl (by kernel_rfl) (by kernel_rfl) (by kernel_rfl) (fun _ _ _ h => h) (Or.inl ⟨by rfl, ?_⟩) (by assumption) ?_
  rotate_left
  · (intro w hSw; (try dsimp only at hSw); go_simp)
    all_goals with_reducible rfl
  try simp only [Act.put, List.getElem_toArray, List.getElem_cons_succ, List.getElem_cons_zero, List.setIfInBounds_toArray, List.set_cons_zero, List.set_cons_succ]
  refine anyR_take (i := 12) (v := ?_) rfl (by kernel_rfl) (by kernel_rfl) (by kernel_rfl) (fun _ _ _ h => h) (Or.inl ⟨by rfl, ?_⟩) (by assumption) ?_
  rotate_left
  · (intro w hSw; (try dsimp only at hSw); go_simp)
    all_goals with_reducible rfl
  try simp only [Act.put, List.getElem_toArray, List.getElem_cons_succ, List.getElem_cons_zero, List.setIfInBounds_toArray, List.set_cons_zero, List.set_cons_succ]
  refine anyR_take (i := 13) (v := ?_) rfl (by kernel_rfl) (by kernel_rfl) (by kernel_rfl) (fun _ _ _ h => h) (Or.inl ⟨by rfl, ?_⟩) (by assumption) ?_
  rotate_left
  · (intro w hSw; (try dsimp only at hSw); go_simp)
    all_goals with_reducible rfl
  try simp only [Act.put, List.getElem_toArray, List.getElem_cons_succ, List.getElem_cons_zero, List.setIfInBounds_toArray, List.set_cons_zero, List.set_cons_succ]
  refine anyR_ready (rs := [7]) (by kernel_rfl) (by simp) (by decide) ?_
  refine AllReadyR.cons rfl (fun K hK => ?_) AllReadyR.nil
  go_simp
  refine (head2_any R _).mono ?_
  rintro e w2 ⟨rfl, rfl⟩
  refine hK.out _ _ ?_ (fun hHeld => ?_)
  · assumption
  clear hK K
  try simp only [Act.put, List.getElem_toArray, List.getElem_cons_succ, List.getElem_cons_zero, List.setIfInBounds_toArray, List.set_cons_zero, List.set_cons_succ]
  refine anyR_ready (rs := [14]) (by kernel_rfl) (by simp) (by decide) ?_
  refine AllReadyR.cons rfl (fun K hK => ?_) AllReadyR.nil
  go_simp
  refine (asmNumber_any 1 wRw s (by decide) HS.out _ (HE.out.on hBH.out)).mono ?_
  rintro e w3 ⟨hn, hb3⟩
  have hB3 := belT hBH.out hb3
  rcases hn with ⟨n, hn, rfl⟩ | ⟨⟨n, hn⟩, rfl⟩
  · refine hK.out _ _ ?_ (fun hHeld => ?_)
    · exact ⟨cell_bel hHeld.1 hb3, cell_bel hHeld.2.1 hb3, cell_bel hHeld.2.2 hb3⟩
    clear hK K
    try simp only [Act.put, List.getElem_toArray, List.getElem_cons_succ, List.getElem_cons_zero, List.setIfInBounds_toArray, List.set_cons_zero, List.set_cons_succ]
    have HR3 := Lib.hid (H.out.bel hB3)
    have cc := HR3.out.c2
    have ff := HR3.out.f2
    have HB3 := Lib.hid hB3
    have HN := Lib.hid (numO_yes hn)
    have H0 := H
    clear hn hb3 hB3 hHeld hBH H
    refine anyR_end (by kernel_rfl) ?_
    refine wpAny_ready (rs := [15]) (by kernel_rfl) (by simp) ?_
    refine AllReady.cons rfl (fun K hK => ?_) AllReady.nil
    go_simp
    refine hK _ _ ?_
    clear hK K
    try simp only [Act.put, List.getElem_toArray, List.getElem_cons_succ, List.getElem_cons_zero, List.setIfInBounds_toArray, List.set_cons_zero, List.set_cons_succ]
    refine wpAny_ready (rs := [16]) (by kernel_rfl) (by simp) ?_
    refine AllReady.cons rfl (fun K hK => ?_) AllReady.nil
    go_simp
    refine hK _ _ ?_
    clear hK K
    try simp only [Act.put, List.getElem_toArray, List.getElem_cons_succ, List.getElem_cons_zero, List.setIfInBounds_toArray, List.set_cons_zero, List.set_cons_succ]
    refine wpAny_done (by kernel_rfl) ?_ _
    go_wp2_with fail
    go_end0
    have hR := HR3.out.hR
    refine ⟨?_, (HB3.out.mono (Nat.le_of_lt (Nat.lt_of_lt_of_le (lt_of_cell H0.out.c0) (Nat.le_refl _)))).setCell (p := ⟨R, 2, none⟩) (Nat.le_refl _) _⟩
    have hst : stepO 1 s P = (numO wRw s).map _ := rfl
    rw [hst, HN.out]
    exact ⟨rfl, Q, vf, HQ.out, HR3.out.set2 n⟩
  · have HN := Lib.hid (numO_no hn)
    refine ⟨rfl, ?_, hB3.mono (Nat.le_of_lt (lt_of_cell H.out.c0))⟩
    have hst : stepO 1 s P = (numO wRw s).map _ := rfl
    rw [hst, HN.out]
    rfl
set_option maxRecDepth 100000 in
set_option maxHeartbeats 4000000 in
theorem line_head2 (B R : Nat) (s : ByteArray) (hs : s.size ≤ 281474976710656) (Q : List QFn) (vf : Value) (P : ProgM) (w : World) (hE : Env w) (hQ : Q.map QFn.f = P.funcs) (h : RdB B R Q vf P.mu P.rw P.gr w) :
    Calls Tryz.prog 67 #[.pointer (some ⟨R, 0, none⟩), .int .i64 2, .string s] w (LineQ B R 2 s P w) := by
  have HQ := Lib.hid hQ
  have HS := Lib.hid hs
  have H := Lib.hid h
  have HE := Lib.hid hE
  clear h hE hs hQ
  go_enter Tryz.func67, Tryz.ntmps67
  go_wp2_with fail
  have hbs := bel1 (W := w) (.cells #[.string s] 9)
  have s0 := cell_new w #[.string s] 9 0
  refine (heads_any _).mono ?_
  rintro e w1 ⟨rfl, hb1⟩
  have s1 : (w1.alloc (.cells headsC 197)).drew.cell? ⟨w.heap.size, 0, none⟩ = some (.string s) := cell_al (cell_bel s0 hb1) _
  have hBH := Lib.hid (belA (belT hbs hb1) (.cells headsC 197)).drew
  have k0 : (w1.alloc (.cells headsC 197)).drew.cell? ⟨w1.heap.size, 2 * 2, none⟩ = some (.string wGr) := cell_new w1 headsC 197 (2 * 2)
  have k1 : (w1.alloc (.cells headsC 197)).drew.cell? ⟨w1.heap.size, 2 * 2 + 1, none⟩ = some (.func (.func 171) #[] #[]) := cell_new w1 headsC 197 (2 * 2 + 1)
  clear hbs s0 hb1
  unfold headsV
  go_wp2_with fail
  refine wp_region_R (S := fun W => W.cell? ⟨w1.heap.size, 2 * 2, none⟩ = some (.string wGr) ∧ W.cell? ⟨w1.heap.size, 2 * 2 + 1, none⟩ = some (.func (.func 171) #[] #[]) ∧ W.cell? ⟨w.heap.size, 0, none⟩ = some (.string s)) 15 (by kernel_rfl) (by simp) ⟨k0, k1, s1⟩ (fun hHeld => ?_)
  clear k0 k1 s1
  generalize (w1.alloc _).drew = V0 at hBH hHeld ⊢
  refine anyR_take (i := 0) (v := ?_) rfl (by kernel_rfl) (by kernel_rfl) (by kernel_rfl) (fun _ _ _ h => h) (Or.inl ⟨by rfl, ?_⟩) (by assumption) ?_
  rotate_left
  · (intro w hSw; (try dsimp only at hSw); go_simp)
    all_goals with_reducible rfl
  try simp only [Act.put, List.getElem_toArray, List.getElem_cons_succ, List.getElem_cons_zero, List.setIfInBounds_toArray, List.set_cons_zero, List.set_cons_succ]
  refine anyR_take (i := 1) (v := ?_) rfl (by kernel_rfl) (by kernel_rfl) (by kernel_rfl) (fun _ _ _ h => h) (Or.inl ⟨by rfl, ?_⟩) (by assumption) ?_
  rotate_left
  · (intro w hSw; (try dsimp only at hSw); go_simp)
    all_goals with_reducible rfl
  try simp only [Act.put, List.getElem_toArray, List.getElem_cons_succ, List.getElem_cons_zero, List.setIfInBounds_toArray, List.set_cons_zero, List.set_cons_succ]
  refine anyR_take (i := 2) (v := ?_) rfl (by kernel_rfl) (by kernel_rfl) (by kernel_rfl) (fun _ _ _ h => h) (Or.inl ⟨by rfl, ?_⟩) (by assumption) ?_
  rotate_left
  · (intro w hSw; (try dsimp only at hSw); go_simp)
    all_goals with_reducible rfl
  try simp only [Act.put, List.getElem_toArray, List.getElem_cons_succ, List.getElem_cons_zero, List.setIfInBounds_toArray, List.set_cons_zero, List.set_cons_succ]
  refine anyR_take (i := 3) (v := ?_) rfl (by kernel_rfl) (by kernel_rfl) (by kernel_rfl) (fun _ _ _ h => h) (Or.inl ⟨by rfl, ?_⟩) (by assumption) ?_
  rotate_left
  · (intro w hSw; (try dsimp only at hSw); go_simp)
    all_goals with_reducible rfl
  try simp only [Act.put, List.getElem_toArray, List.getElem_cons_succ, List.getElem_cons_zero, List.setIfInBounds_toArray, List.set_cons_zero, List.set_cons_succ]
  refine anyR_take (i := 4) (v := ?_) rfl (by kernel_rfl) (by kernel_rfl) (by kernel_rfl) (fun _ _ _ h => h) (Or.inl ⟨by rfl, ?_⟩) (by assumption) ?_
  rotate_left
  · (intro w hSw; (try dsimp only at hSw); go_simp)
    all_goals with_reducible rfl
  try simp only [Act.put, List.getElem_toArray, List.getElem_cons_succ, List.getElem_cons_zero, List.setIfInBounds_toArray, List.set_cons_zero, List.set_cons_succ]
  refine anyR_take (i := 5) (v := ?_) rfl (by kernel_rfl) (by kernel_rfl) (by kernel_rfl) (fun _ _ _ h => h) (Or.inl ⟨by rfl, ?_⟩) (by assumption) ?_
  rotate_left
  · (intro w hSw; (try dsimp only at hSw); go_simp)
    all_goals with_reducible rfl
  try simp only [Act.put, List.getElem_toArray, List.getElem_cons_succ, List.getElem_cons_zero, List.setIfInBounds_toArray, List.set_cons_zero, List.set_cons_succ]
  refine anyR_take (i := 6) (v := ?_) rfl (by kernel_rfl) (by kernel_rfl) (by kernel_rfl) (fun _ _ _ h => h) (Or.inl ⟨by rfl, ?_⟩) (by assumption) ?_
  rotate_left
  · (intro w hSw; (try dsimp only at hSw); go_simp)
    all_goals with_reducible rfl
  try simp only [Act.put, List.getElem_toArray, List.getElem_cons_succ, List.getElem_cons_zero, List.setIfInBounds_toArray, List.set_cons_zero, List.set_cons_succ]
  refine anyR_take (i := 8) (v := ?_) rfl (by kernel_rfl) (by kernel_rfl) (by kernel_rfl) (fun _ _ _ h => h) (Or.inl ⟨by rfl, ?_⟩) (by assumption) ?_
  rotate_left
  · (intro w hSw; (try dsimp only at hSw); go_simp)
    all_goals with_reducible rfl
  try simp only [Act.put, List.getElem_toArray, List.getElem_cons_succ, List.getElem_cons_zero, List.setIfInBounds_toArray, List.set_cons_zero, List.set_cons_succ]
  refine anyR_take (i := 9) (v := ?_) rfl (by kernel_rfl) (by kernel_rfl) (by kernel_rfl) (fun _ _ _ h => h) (Or.inl ⟨by rfl, ?_⟩) (by assumption) ?_
  rotate_left
  · (intro w hSw; (try dsimp only at hSw); go_simp)
    all_goals with_reducible rfl
  try simp only [Act.put, List.getElem_toArray, List.getElem_cons_succ, List.getElem_cons_zero, List.setIfInBounds_toArray, List.set_cons_zero, List.set_cons_succ]
  refine anyR_take (i := 10) (v := ?_) rfl (by kernel_rfl) (by kernel_rfl) (by kernel_rfl) (fun _ _ _ h => h) (Or.inl ⟨by rfl, ?_⟩) (by assumption) ?_
  rotate_left
  · (intro w hSw; (try dsimp only at hSw); go_simp)
    all_goals with_reducible rfl
  try simp only [Act.put, List.getElem_toArray, List.getElem_cons_succ, List.getElem_cons_zero, List.setIfInBounds_toArray, List.set_cons_zero, List.set_cons_succ]
  refine anyR_take (i := 11) (v := ?_) rfl (by kernel_rfl) (by kernel_rfl) (by kernel_rfl) (fun _ _ _ h => h) (Or.inl ⟨by rfl, ?_⟩) (by assumption) ?_
  rotate_left
  · (intro w hSw; (try dsimp only at hSw); go_simp)
    all_goals with_reducible rfl
  try simp only [Act.put, List.getElem_toArray, List.getElem_cons_succ, List.getElem_cons_zero, List.setIfInBounds_toArray, List.set_cons_zero, List.set_cons_succ]
  refine anyR_take (i := 12) (v := ?_) rfl (by kernel_rfl) (by kernel_rfl) (by kernel_rfl) (fun _ _ _ h => h) (Or.inl ⟨by rfl, ?_⟩) (by assumption) ?_
  rotate_left
  · (intro w hSw; (try dsimp only at hSw); go_simp)
    all_goals with_reducible rfl
  try simp only [Act.put, List.getElem_toArray, List.getElem_cons_succ, List.getElem_cons_zero, List.setIfInBounds_toArray, List.set_cons_zero, List.set_cons_succ]
  refine anyR_take (i := 13) (v := ?_) rfl (by kernel_rfl) (by kernel_rfl) (by kernel_rfl) (fun _ _ _ h => h) (Or.inl ⟨by rfl, ?_⟩) (by assumption) ?_
  rotate_left
  · (intro w hSw; (try dsimp only at hSw); go_simp)
    all_goals with_reducible rfl
  try simp only [Act.put, List.getElem_toArray, List.getElem_cons_succ, List.getElem_cons_zero, List.setIfInBounds_toArray, List.set_cons_zero, List.set_cons_succ]
  refine anyR_ready (rs := [7]) (by kernel_rfl) (by simp) (by decide) ?_
  refine AllReadyR.cons rfl (fun K hK => ?_) AllReadyR.nil
  go_simp
  refine (head3_any R _).mono ?_
  rintro e w2 ⟨rfl, rfl⟩
  refine hK.out _ _ ?_ (fun hHeld => ?_)
  · assumption
  clear hK K
  try simp only [Act.put, List.getElem_toArray, List.getElem_cons_succ, List.getElem_cons_zero, List.setIfInBounds_toArray, List.set_cons_zero, List.set_cons_succ]
  refine anyR_ready (rs := [14]) (by kernel_rfl) (by simp) (by decide) ?_
  refine AllReadyR.cons rfl (fun K hK => ?_) AllReadyR.nil
  go_simp
  refine (asmNumber_any 2 wGr s (by decide) HS.out _ (HE.out.on hBH.out)).mono ?_
  rintro e w3 ⟨hn, hb3⟩
  have hB3 := belT hBH.out hb3
  rcases hn with ⟨n, hn, rfl⟩ | ⟨⟨n, hn⟩, rfl⟩
  · refine hK.out _ _ ?_ (fun hHeld => ?_)
    · exact ⟨cell_bel hHeld.1 hb3, cell_bel hHeld.2.1 hb3, cell_bel hHeld.2.2 hb3⟩
    clear hK K
    try simp only [Act.put, List.getElem_toArray, List.getElem_cons_succ, List.getElem_cons_zero, List.setIfInBounds_toArray, List.set_cons_zero, List.set_cons_succ]
    have HR3 := Lib.hid (H.out.bel hB3)
    have cc := HR3.out.c3
    have ff := HR3.out.f3
    have HB3 := Lib.hid hB3
    have HN := Lib.hid (numO_yes hn)
    have H0 := H
    clear hn hb3 hB3 hHeld hBH H
    refine anyR_end (by kernel_rfl) ?_
    refine wpAny_ready (rs := [15]) (by kernel_rfl) (by simp) ?_
    refine AllReady.cons rfl (fun K hK => ?_) AllReady.nil
    go_simp
    refine hK _ _ ?_
    clear hK K
    try simp only [Act.put, List.getElem_toArray, List.getElem_cons_succ, List.getElem_cons_zero, List.setIfInBounds_toArray, List.set_cons_zero, List.set_cons_succ]
    refine wpAny_ready (rs := [16]) (by kernel_rfl) (by simp) ?_
    refine AllReady.cons rfl (fun K hK => ?_) AllReady.nil
    go_simp
    refine hK _ _ ?_
    clear hK K
    try simp only [Act.put, List.getElem_toArray, List.getElem_cons_succ, List.getElem_cons_zero, List.setIfInBounds_toArray, List.set_cons_zero, List.set_cons_succ]
    refine wpAny_done (by kernel_rfl) ?_ _
    go_wp2_with fail
    go_end0
    have hR := HR3.out.hR
    refine ⟨?_, (HB3.out.mono (Nat.le_of_lt (Nat.lt_of_lt_of_le (lt_of_cell H0.out.c0) (Nat.le_refl _)))).setCell (p := ⟨R, 3, none⟩) (Nat.le_refl _) _⟩
    have hst : stepO 2 s P = (numO wGr s).map _ := rfl
    rw [hst, HN.out]
    exact ⟨rfl, Q, vf, HQ.out, HR3.out.set3 n⟩
  · have HN := Lib.hid (numO_no hn)
    refine ⟨rfl, ?_, hB3.mono (Nat.le_of_lt (lt_of_cell H.out.c0))⟩
    have hst : stepO 2 s P = (numO wGr s).map _ := rfl
    rw [hst, HN.out]
    rfl
end Go.Proofs.YtfnfcngkaepnjaaGreatDoor
