/- Joined texts: Walk of package site: the site of any text. -/
import Derived.Test.YtnefpiohmokkiaaGreatDoorQS6
import Derived.Test.YtnefpiohmokkiaaGreatDoorQS27
import Derived.Test.YtnefpiohmokkiaaGreatDoorQS7
/- Walk of package site: the site of any text. -/
namespace Go.Proofs.YtnefpiohmokkiaaGreatDoor
set_option linter.unusedVariables false
open Go Go.Proofs Go.RowKit

set_option maxHeartbeats 400000 in
theorem read_yes (f p k : Int) (w : World) : Calls Tryz.prog 77 #[.agg #[.int .i64 f, .int .i64 p], .bool true, .int .i64 k] w fun e w' => e = .returned (.tuple #[.agg #[.int .i64 f, .int .i64 p], .int .i64 0]) ∧ Below w.heap.size w w' := by
  go_enter Tryz.func77, Tryz.ntmps77
  go_wp2
  exact bodyPost_ret (v := .tuple #[.agg #[.int .i64 f, .int .i64 p], .int .i64 0]) (by simp [results, Tryz.results77, go_sem]) rfl ⟨rfl, belA (bel1 _) _⟩

set_option maxHeartbeats 400000 in
theorem read_no (f p k : Int) (w : World) : Calls Tryz.prog 77 #[.agg #[.int .i64 f, .int .i64 p], .bool false, .int .i64 k] w fun e w' => e = .returned (.tuple #[.agg #[.int .i64 0, .int .i64 0], .int .i64 k]) ∧ Below w.heap.size w w' := by
  go_enter Tryz.func77, Tryz.ntmps77
  go_wp2
  exact bodyPost_ret (v := .tuple #[.agg #[.int .i64 0, .int .i64 0], .int .i64 k]) (by simp [results, Tryz.results77, go_sem]) rfl ⟨rfl, belA (belA (bel1 _) _) _⟩

theorem colon_not (u : Nat) : ∀ x ∈ Lib.decDigits u, x ≠ (58 : UInt8) := by
  intro x hx h
  have := (dec_digit u x hx).2
  subst h
  simp at this

theorem indexByte_append (c : UInt8) : ∀ (l r : List UInt8), (∀ x ∈ l, x ≠ c) → Lib.indexByte (l ++ c :: r) c = l.length := by
  intro l
  induction l with
  | nil => intro r _; simp [Lib.indexByte]
  | cons b l ih =>
    intro r h
    have hb : (b == c) = false := by simpa using h b (by simp)
    have := ih r (fun x hx => h x (by simp [hx]))
    simp only [List.cons_append, Lib.indexByte, hb, this]
    simp

/-- What is cut of a site's text. -/
theorem site_cut (s : ByteArray) (f p : Nat) (h : textS f p = s.data.toList) :
    Lib.hasPrefix s.data.toList [102] = true ∧ (cutBytes ⟨(Lib.trimPrefix s.data.toList [102]).toArray⟩ 58).1.data.toList = Lib.decDigits f ∧ (cutBytes ⟨(Lib.trimPrefix s.data.toList [102]).toArray⟩ 58).2.1.data.toList = Lib.decDigits p := by
  have e1 : Lib.hasPrefix s.data.toList [102] = true := by rw [← h]; simp [textS, Lib.hasPrefix]
  have e2 : Lib.trimPrefix s.data.toList [102] = Lib.decDigits f ++ 58 :: Lib.decDigits p := by rw [← h]; simp [textS, Lib.trimPrefix, Lib.hasPrefix]
  refine ⟨e1, ?_⟩
  rw [e2]
  have hi : Lib.indexByte (⟨(Lib.decDigits f ++ 58 :: Lib.decDigits p).toArray⟩ : ByteArray).data.toList 58 = (Lib.decDigits f).length := indexByte_append 58 _ _ (colon_not f)
  unfold cutBytes
  rw [if_neg (by omega), hi]
  simp only [Int.toNat_natCast]
  constructor
  · rw [Lib.extract_data]; simp
  · rw [Lib.extract_data]
    simp [ByteArray.size]
    rw [List.take_of_length_le (by omega)]

/-- What a text's site is: the site that has it, or an error. -/
def sitePost (s : ByteArray) (e : Ending) : Prop :=
  (∃ f p : Nat, f < 32 ∧ p < 512 ∧ textS f p = s.data.toList ∧ e = .returned (.tuple #[.agg #[.int .i64 f, .int .i64 p], .int .i64 0])) ∨
    ((∀ f p : Nat, f < 32 → p < 512 → textS f p ≠ s.data.toList) ∧ e = .returned (.tuple #[.agg #[.int .i64 0, .int .i64 0], .int .i64 170]))

/-- Text's answer at whatever site: refused, or its text. -/
theorem siText_any (f p : Int) (w : World) (hE : Env w) :
    Calls Tryz.prog 30 #[.agg #[.int .i64 f, .int .i64 p]] w fun e w' =>
      ((∃ a b : Nat, a < 32 ∧ b < 512 ∧ f = a ∧ p = b ∧ e = .returned (.tuple #[.string ⟨(textS a b).toArray⟩, .int .i64 0])) ∨
        (chkF f p = 2 ∧ e = .returned (.tuple #[.string ⟨#[]⟩, .int .i64 2]))) ∧ Below w.heap.size w w' := by
  by_cases h : 0 ≤ f ∧ f < 32 ∧ 0 ≤ p ∧ p < 512
  · obtain ⟨h0, h1, h2, h3⟩ := h
    obtain ⟨a, rfl⟩ := Int.eq_ofNat_of_zero_le h0
    obtain ⟨b, rfl⟩ := Int.eq_ofNat_of_zero_le h2
    refine (siText_yes a b (by omega) (by omega) w hE).mono ?_
    rintro e w' ⟨rfl, hb⟩
    exact ⟨Or.inl ⟨a, b, by omega, by omega, rfl, rfl, rfl⟩, hb⟩
  · have hn : chkF f p = 2 := by unfold chkF; rw [if_neg h]
    refine (siText_no f p hn w).mono ?_
    rintro e w' ⟨rfl, hb⟩
    exact ⟨Or.inr ⟨hn, rfl⟩, hb⟩

/-- Two cells of a block, stored. -/
theorem two_stored {w : World} {b : Nat} {x y : Value} (h0 : w.cell? ⟨b, 0, none⟩ = some x) (h1 : w.cell? ⟨b, 1, none⟩ = some y) (u v : Value) :
    ((w.setCell ⟨b, 0, none⟩ u).setCell ⟨b, 1, none⟩ v).cell? ⟨b, 0, none⟩ = some u ∧ ((w.setCell ⟨b, 0, none⟩ u).setCell ⟨b, 1, none⟩ v).cell? ⟨b, 1, none⟩ = some v := by
  have e0 : (w.setCell ⟨b, 0, none⟩ u).cell? ⟨b, 0, none⟩ = some u := World.cell?_setCell_same _ _ _ h0
  have e1 : (w.setCell ⟨b, 0, none⟩ u).cell? ⟨b, 1, none⟩ = some y := (World.cell?_setCell_other _ _ _ _ (by simp)).trans h1
  exact ⟨(World.cell?_setCell_other _ _ _ _ (by simp)).trans e0, World.cell?_setCell_same _ _ _ e1⟩

set_option maxRecDepth 100000 in
set_option maxHeartbeats 4000000 in
theorem siParse_any (s : ByteArray) (hs : s.size ≤ 1000000) (w : World) (hE : Env w) :
    Calls Tryz.prog 31 #[.string s] w fun e w' => sitePost s e ∧ Below w.heap.size w w' := by
  have hF : ∀ f p : Nat, f < 32 → p < 512 → textS f p = s.data.toList → _ := fun f p _ _ h => site_cut s f p h
  have hpre := fun w => Tryz.strings_CutPrefix s ⟨#[102]⟩ w
  rw [show (⟨#[102]⟩ : ByteArray).data.toList = [102] from rfl] at hpre
  have hz : (⟨(Lib.trimPrefix s.data.toList [102]).toArray⟩ : ByteArray).size ≤ s.size := by
    simp only [ByteArray.size, List.size_toArray]
    have : (Lib.trimPrefix s.data.toList [102]).length ≤ s.data.toList.length := by unfold Lib.trimPrefix; split <;> simp
    rw [← Lib.size_eq] at this
    exact this
  have hcut := cut_any ⟨(Lib.trimPrefix s.data.toList [102]).toArray⟩ 58 (by omega)
  obtain ⟨z1, z2⟩ := cut_size ⟨(Lib.trimPrefix s.data.toList [102]).toArray⟩ 58
  generalize Lib.hasPrefix s.data.toList [102] = is at hF hpre
  generalize (⟨(Lib.trimPrefix s.data.toList [102]).toArray⟩ : ByteArray) = rest at hF hpre hcut z1 z2 hz
  generalize cutBytes rest 58 = q at hF hcut z1 z2
  obtain ⟨a, b, fd⟩ := q
  simp only at hF hcut z1 z2
  have HF := Lib.hid hF
  have HP := Lib.hid hpre
  have HC := Lib.hid hcut
  clear hF hpre hcut
  go_enter Tryz.func31, Tryz.ntmps31
  go_wp2_with fail
  refine (HP.out _).mono ?_
  rintro e w1 ⟨rfl, hw1⟩
  have hB1 : Below w.heap.size w w1 := by rw [hw1]; exact bel1 _
  have k0 : w1.cell? ⟨w.heap.size, 0, none⟩ = some (.int .i64 0) := by rw [hw1]; exact cell_new _ _ _ 0
  have k1 : w1.cell? ⟨w.heap.size, 1, none⟩ = some (.int .i64 0) := by rw [hw1]; exact cell_new _ _ _ 1
  have kf : w1.frozen? ⟨w.heap.size, 0, none⟩ = false := by rw [hw1]; exact World.frozen?_alloc_new _ _ _ _
  have kg : w1.frozen? ⟨w.heap.size, 1, none⟩ = false := by rw [hw1]; exact World.frozen?_alloc_new _ _ _ _
  clear hw1
  go_wp2_with fail
  refine (HC.out _).mono ?_
  rintro e w2 ⟨rfl, hb2⟩
  have hB2 := belT hB1 hb2
  go_wp2_with fail
  refine (atoi_any a (by omega) _ (hE.on hB2)).mono ?_
  rintro e w3 ⟨⟨v, er, rfl, her, hv0, hv1, hv⟩, hb3⟩
  have hB3 := belT hB2 hb3
  have HV := Lib.hid hv
  clear hv
  go_wp2_with fail
  refine (atoi_any b (by omega) _ (hE.on hB3)).mono ?_
  rintro e w4 ⟨⟨v', er', rfl, her', hv0', hv1', hv'⟩, hb4⟩
  have hB4 := belT hB3 hb4
  have HV' := Lib.hid hv'
  clear hv'
  have m0 := cell_bel (cell_bel (cell_bel k0 hb2) hb3) hb4
  have m1 := cell_bel (cell_bel (cell_bel k1 hb2) hb3) hb4
  have mf := froz_bel (cell_bel (cell_bel k0 hb2) hb3) (froz_bel (cell_bel k0 hb2) (froz_bel k0 kf hb2) hb3) hb4
  have mg := froz_bel (cell_bel (cell_bel k1 hb2) hb3) (froz_bel (cell_bel k1 hb2) (froz_bel k1 kg hb2) hb3) hb4
  clear k0 k1 kf kg
  go_wp2_with fail
  refine (siText_any v v' _ (hE.on (belA hB4 _))).mono ?_
  rintro e w5 ⟨hq', hb5⟩
  have q0 := cell_bel (cell_al m0 _) hb5
  have q1 := cell_bel (cell_al m1 _) hb5
  have qf := froz_bel (cell_al m0 _) ((World.frozen?_alloc_past _ _ _ (lt_of_cell m0)).trans mf) hb5
  have qg := froz_bel (cell_al m1 _) ((World.frozen?_alloc_past _ _ _ (lt_of_cell m1)).trans mg) hb5
  have d0 := cell_bel (cell_new w4 #[.int .i64 v, .int .i64 v'] 30 0) hb5
  have d1 := cell_bel (cell_new w4 #[.int .i64 v, .int .i64 v'] 30 1) hb5
  have hB5 := belT (belA hB4 _) hb5
  clear hb2 hb3 hb4 hb5 m0 m1 mf mg
  obtain ⟨tx, en, rfl, hq⟩ : ∃ (tx : ByteArray) (en : Int), e = .returned (.tuple #[.string tx, .int .i64 en]) ∧ ((en = 0 ∧ ∃ A B : Nat, A < 32 ∧ B < 512 ∧ v = A ∧ v' = B ∧ tx = ⟨(textS A B).toArray⟩) ∨ (en = 2 ∧ chkF v v' = 2)) := by
    clear HF HP HC HV HV'
    rcases hq' with ⟨A, B, hA, hB, e1, e2, rfl⟩ | ⟨hn, rfl⟩
    · exact ⟨_, _, rfl, Or.inl ⟨rfl, A, B, hA, hB, e1, e2, rfl⟩⟩
    · exact ⟨_, _, rfl, Or.inr ⟨rfl, hn⟩⟩
  clear hq'
  go_wp2_with fail
  cases is
  · refine wp_region_late 19 #[true, true, true, true, true, true, true, true, true, true, true, true, true, true, true, true, true, true, true, false, false, false, false, false] (by kernel_rfl) (by kernel_rfl) ?_
    intro W hW
    have q0' : W.cell? ⟨w.heap.size, 0, none⟩ = some (.int .i64 0) := by rw [← hW]; exact q0
    have q1' : W.cell? ⟨w.heap.size, 1, none⟩ = some (.int .i64 0) := by rw [← hW]; exact q1
    have qf' : W.frozen? ⟨w.heap.size, 0, none⟩ = false := by rw [← hW]; exact qf
    have qg' : W.frozen? ⟨w.heap.size, 1, none⟩ = false := by rw [← hW]; exact qg
    have d0' : W.cell? ⟨w4.heap.size, 0, none⟩ = some (.int .i64 v) := by rw [← hW]; exact d0
    have d1' : W.cell? ⟨w4.heap.size, 1, none⟩ = some (.int .i64 v') := by rw [← hW]; exact d1
    have hB' : Below w.heap.size w W := by rw [← hW]; exact hB5.drew
    clear hW q0 q1 qf qg d0 d1 hB5
    simp only [List.take_succ_cons, List.take_zero]
    repeat still_step
    refine wpStill_nil ?_
    simp only [List.size_toArray, List.length_cons, List.length_nil, Nat.reduceAdd, Nat.reduceSub]
    refine wpAny_ready (rs := [19]) (by kernel_rfl) (by simp) ?_
    refine AllReady.cons rfl (fun K hK => ?_) AllReady.nil
    go_simp
    go_wp2_with (first | (go_at_call 77; refine ((read_no v v' 170 _)).mono ?_; rintro e w6 ⟨rfl, hb6⟩; have q0 := cell_bel q0' hb6; have q1 := cell_bel q1' hb6; have qf := froz_bel q0' qf' hb6; have qg := froz_bel q1' qg' hb6; have hB6 := belT hB' hb6; clear q0' q1' qf' qg' d0' d1' hB' hb6))
    refine wpAny_take (i := 20) (v := .agg #[.int .i64 0, .int .i64 0]) rfl (by kernel_rfl) (by kernel_rfl) (by kernel_rfl) (fun _ _ _ h => h) (Or.inl ⟨by rfl, by intro w; go_simp⟩) ?_
    refine wpAny_take (i := 21) (v := .int .i64 170) rfl (by kernel_rfl) (by kernel_rfl) (by kernel_rfl) (fun _ _ _ h => h) (Or.inl ⟨by rfl, by intro w; go_simp⟩) ?_
    refine wpAny_ready (rs := [22]) (by kernel_rfl) (by simp) ?_
    refine AllReady.cons rfl (fun K hK => ?_) AllReady.nil
    go_simp
    refine hK _ _ ?_
    clear hK K
    refine wpAny_take (i := 23) (v := .int .i64 170) rfl (by kernel_rfl) (by kernel_rfl) (by kernel_rfl) (fun _ _ _ h => h) (Or.inl ⟨by rfl, by intro w; go_simp⟩) ?_
    refine wpAny_done (by kernel_rfl) ?_ _
    go_wp2
    obtain ⟨r0, r1⟩ := two_stored q0 q1 (.int .i64 0) (.int .i64 0)
    have hB7 := (hB6.setCell (p := ⟨w.heap.size, 0, none⟩) (Nat.le_refl _) (.int .i64 0)).setCell (p := ⟨w.heap.size, 1, none⟩) (Nat.le_refl _) (.int .i64 0)
    generalize (w6.setCell _ _).setCell _ _ = w7 at r0 r1 hB7 ⊢
    refine bodyPost_ret (v := .tuple #[.agg #[.int .i64 0, .int .i64 0], .int .i64 170]) (by simp [results, Tryz.results31, go_sem, r0, r1]) rfl ?_
    refine ⟨Or.inr ⟨?_, rfl⟩, hB7⟩
    · intro f p hf hp h
      exact absurd (HF.out f p hf hp h).1 (by simp)
  rcases her with rfl | ⟨t1, x1, rfl⟩
  · rcases her' with rfl | ⟨t2, x2, rfl⟩
    · rcases hq with ⟨rfl, A, B, hA, hB, e1, e2, rfl⟩ | ⟨rfl, hn⟩
      · by_cases hx : textS A B = s.data.toList
        · refine wp_region_late 19 #[true, true, true, true, true, true, true, true, true, true, true, true, true, true, true, true, true, true, true, false, false, false, false, false] (by kernel_rfl) (by kernel_rfl) ?_
          intro W hW
          have q0' : W.cell? ⟨w.heap.size, 0, none⟩ = some (.int .i64 0) := by rw [← hW]; exact q0
          have q1' : W.cell? ⟨w.heap.size, 1, none⟩ = some (.int .i64 0) := by rw [← hW]; exact q1
          have qf' : W.frozen? ⟨w.heap.size, 0, none⟩ = false := by rw [← hW]; exact qf
          have qg' : W.frozen? ⟨w.heap.size, 1, none⟩ = false := by rw [← hW]; exact qg
          have d0' : W.cell? ⟨w4.heap.size, 0, none⟩ = some (.int .i64 v) := by rw [← hW]; exact d0
          have d1' : W.cell? ⟨w4.heap.size, 1, none⟩ = some (.int .i64 v') := by rw [← hW]; exact d1
          have hB' : Below w.heap.size w W := by rw [← hW]; exact hB5.drew
          clear hW q0 q1 qf qg d0 d1 hB5
          simp only [List.take_succ_cons, List.take_zero]
          repeat still_step
          refine wpStill_nil ?_
          simp only [List.size_toArray, List.length_cons, List.length_nil, Nat.reduceAdd, Nat.reduceSub]
          refine wpAny_ready (rs := [19]) (by kernel_rfl) (by simp) ?_
          refine AllReady.cons rfl (fun K hK => ?_) AllReady.nil
          go_simp
          go_wp2_with (first | (go_at_call 77; refine ((read_yes (A : Int) (B : Int) 170 _)).mono ?_; rintro e w6 ⟨rfl, hb6⟩; have q0 := cell_bel q0' hb6; have q1 := cell_bel q1' hb6; have qf := froz_bel q0' qf' hb6; have qg := froz_bel q1' qg' hb6; have hB6 := belT hB' hb6; clear q0' q1' qf' qg' d0' d1' hB' hb6))
          refine wpAny_take (i := 20) (v := .agg #[.int .i64 (A : Int), .int .i64 (B : Int)]) rfl (by kernel_rfl) (by kernel_rfl) (by kernel_rfl) (fun _ _ _ h => h) (Or.inl ⟨by rfl, by intro w; go_simp⟩) ?_
          refine wpAny_take (i := 21) (v := .int .i64 0) rfl (by kernel_rfl) (by kernel_rfl) (by kernel_rfl) (fun _ _ _ h => h) (Or.inl ⟨by rfl, by intro w; go_simp⟩) ?_
          refine wpAny_ready (rs := [22]) (by kernel_rfl) (by simp) ?_
          refine AllReady.cons rfl (fun K hK => ?_) AllReady.nil
          go_simp
          refine hK _ _ ?_
          clear hK K
          refine wpAny_take (i := 23) (v := .int .i64 0) rfl (by kernel_rfl) (by kernel_rfl) (by kernel_rfl) (fun _ _ _ h => h) (Or.inl ⟨by rfl, by intro w; go_simp⟩) ?_
          refine wpAny_done (by kernel_rfl) ?_ _
          go_wp2
          obtain ⟨r0, r1⟩ := two_stored q0 q1 (.int .i64 A) (.int .i64 B)
          have hB7 := (hB6.setCell (p := ⟨w.heap.size, 0, none⟩) (Nat.le_refl _) (.int .i64 A)).setCell (p := ⟨w.heap.size, 1, none⟩) (Nat.le_refl _) (.int .i64 B)
          generalize (w6.setCell _ _).setCell _ _ = w7 at r0 r1 hB7 ⊢
          refine bodyPost_ret (v := .tuple #[.agg #[.int .i64 A, .int .i64 B], .int .i64 0]) (by simp [results, Tryz.results31, go_sem, r0, r1]) rfl ?_
          refine ⟨Or.inl ⟨A, B, hA, hB, hx, rfl⟩, hB7⟩
        · have HX : (textS A B == s.toList) = false := by
            rw [show s.toList = s.data.toList from ByteArray.toList_eq ..]
            simpa using hx
          refine wp_region_late 19 #[true, true, true, true, true, true, true, true, true, true, true, true, true, true, true, true, true, true, true, false, false, false, false, false] (by kernel_rfl) (by kernel_rfl) ?_
          intro W hW
          have q0' : W.cell? ⟨w.heap.size, 0, none⟩ = some (.int .i64 0) := by rw [← hW]; exact q0
          have q1' : W.cell? ⟨w.heap.size, 1, none⟩ = some (.int .i64 0) := by rw [← hW]; exact q1
          have qf' : W.frozen? ⟨w.heap.size, 0, none⟩ = false := by rw [← hW]; exact qf
          have qg' : W.frozen? ⟨w.heap.size, 1, none⟩ = false := by rw [← hW]; exact qg
          have d0' : W.cell? ⟨w4.heap.size, 0, none⟩ = some (.int .i64 v) := by rw [← hW]; exact d0
          have d1' : W.cell? ⟨w4.heap.size, 1, none⟩ = some (.int .i64 v') := by rw [← hW]; exact d1
          have hB' : Below w.heap.size w W := by rw [← hW]; exact hB5.drew
          clear hW q0 q1 qf qg d0 d1 hB5
          simp only [List.take_succ_cons, List.take_zero]
          repeat still_step
          refine wpStill_nil ?_
          simp only [List.size_toArray, List.length_cons, List.length_nil, Nat.reduceAdd, Nat.reduceSub]
          generalize (textS A B == s.toList) = bb at HX
          subst HX
          refine wpAny_ready (rs := [19]) (by kernel_rfl) (by simp) ?_
          refine AllReady.cons rfl (fun K hK => ?_) AllReady.nil
          go_simp
          go_wp2_with (first | (go_at_call 77; refine ((read_no (A : Int) (B : Int) 170 _)).mono ?_; rintro e w6 ⟨rfl, hb6⟩; have q0 := cell_bel q0' hb6; have q1 := cell_bel q1' hb6; have qf := froz_bel q0' qf' hb6; have qg := froz_bel q1' qg' hb6; have hB6 := belT hB' hb6; clear q0' q1' qf' qg' d0' d1' hB' hb6))
          refine wpAny_take (i := 20) (v := .agg #[.int .i64 0, .int .i64 0]) rfl (by kernel_rfl) (by kernel_rfl) (by kernel_rfl) (fun _ _ _ h => h) (Or.inl ⟨by rfl, by intro w; go_simp⟩) ?_
          refine wpAny_take (i := 21) (v := .int .i64 170) rfl (by kernel_rfl) (by kernel_rfl) (by kernel_rfl) (fun _ _ _ h => h) (Or.inl ⟨by rfl, by intro w; go_simp⟩) ?_
          refine wpAny_ready (rs := [22]) (by kernel_rfl) (by simp) ?_
          refine AllReady.cons rfl (fun K hK => ?_) AllReady.nil
          go_simp
          refine hK _ _ ?_
          clear hK K
          refine wpAny_take (i := 23) (v := .int .i64 170) rfl (by kernel_rfl) (by kernel_rfl) (by kernel_rfl) (fun _ _ _ h => h) (Or.inl ⟨by rfl, by intro w; go_simp⟩) ?_
          refine wpAny_done (by kernel_rfl) ?_ _
          go_wp2
          obtain ⟨r0, r1⟩ := two_stored q0 q1 (.int .i64 0) (.int .i64 0)
          have hB7 := (hB6.setCell (p := ⟨w.heap.size, 0, none⟩) (Nat.le_refl _) (.int .i64 0)).setCell (p := ⟨w.heap.size, 1, none⟩) (Nat.le_refl _) (.int .i64 0)
          generalize (w6.setCell _ _).setCell _ _ = w7 at r0 r1 hB7 ⊢
          refine bodyPost_ret (v := .tuple #[.agg #[.int .i64 0, .int .i64 0], .int .i64 170]) (by simp [results, Tryz.results31, go_sem, r0, r1]) rfl ?_
          refine ⟨Or.inr ⟨?_, rfl⟩, hB7⟩
          intro f p hf hp h
          obtain ⟨_, h1, h2⟩ := HF.out f p hf hp h
          have h3 := (HV.out f (by omega) h1).1
          have h4 := (HV'.out p (by omega) h2).1
          have h5 : A = f := by omega
          have h6 : B = p := by omega
          subst h5 h6
          exact hx h
      · refine wp_region_late 19 #[true, true, true, true, true, true, true, true, true, true, true, true, true, true, true, true, true, true, true, false, false, false, false, false] (by kernel_rfl) (by kernel_rfl) ?_
        intro W hW
        have q0' : W.cell? ⟨w.heap.size, 0, none⟩ = some (.int .i64 0) := by rw [← hW]; exact q0
        have q1' : W.cell? ⟨w.heap.size, 1, none⟩ = some (.int .i64 0) := by rw [← hW]; exact q1
        have qf' : W.frozen? ⟨w.heap.size, 0, none⟩ = false := by rw [← hW]; exact qf
        have qg' : W.frozen? ⟨w.heap.size, 1, none⟩ = false := by rw [← hW]; exact qg
        have d0' : W.cell? ⟨w4.heap.size, 0, none⟩ = some (.int .i64 v) := by rw [← hW]; exact d0
        have d1' : W.cell? ⟨w4.heap.size, 1, none⟩ = some (.int .i64 v') := by rw [← hW]; exact d1
        have hB' : Below w.heap.size w W := by rw [← hW]; exact hB5.drew
        clear hW q0 q1 qf qg d0 d1 hB5
        simp only [List.take_succ_cons, List.take_zero]
        repeat still_step
        refine wpStill_nil ?_
        simp only [List.size_toArray, List.length_cons, List.length_nil, Nat.reduceAdd, Nat.reduceSub]
        refine wpAny_ready (rs := [19]) (by kernel_rfl) (by simp) ?_
        refine AllReady.cons rfl (fun K hK => ?_) AllReady.nil
        go_simp
        go_wp2_with (first | (go_at_call 77; refine ((read_no v v' 170 _)).mono ?_; rintro e w6 ⟨rfl, hb6⟩; have q0 := cell_bel q0' hb6; have q1 := cell_bel q1' hb6; have qf := froz_bel q0' qf' hb6; have qg := froz_bel q1' qg' hb6; have hB6 := belT hB' hb6; clear q0' q1' qf' qg' d0' d1' hB' hb6))
        refine wpAny_take (i := 20) (v := .agg #[.int .i64 0, .int .i64 0]) rfl (by kernel_rfl) (by kernel_rfl) (by kernel_rfl) (fun _ _ _ h => h) (Or.inl ⟨by rfl, by intro w; go_simp⟩) ?_
        refine wpAny_take (i := 21) (v := .int .i64 170) rfl (by kernel_rfl) (by kernel_rfl) (by kernel_rfl) (fun _ _ _ h => h) (Or.inl ⟨by rfl, by intro w; go_simp⟩) ?_
        refine wpAny_ready (rs := [22]) (by kernel_rfl) (by simp) ?_
        refine AllReady.cons rfl (fun K hK => ?_) AllReady.nil
        go_simp
        refine hK _ _ ?_
        clear hK K
        refine wpAny_take (i := 23) (v := .int .i64 170) rfl (by kernel_rfl) (by kernel_rfl) (by kernel_rfl) (fun _ _ _ h => h) (Or.inl ⟨by rfl, by intro w; go_simp⟩) ?_
        refine wpAny_done (by kernel_rfl) ?_ _
        go_wp2
        obtain ⟨r0, r1⟩ := two_stored q0 q1 (.int .i64 0) (.int .i64 0)
        have hB7 := (hB6.setCell (p := ⟨w.heap.size, 0, none⟩) (Nat.le_refl _) (.int .i64 0)).setCell (p := ⟨w.heap.size, 1, none⟩) (Nat.le_refl _) (.int .i64 0)
        generalize (w6.setCell _ _).setCell _ _ = w7 at r0 r1 hB7 ⊢
        refine bodyPost_ret (v := .tuple #[.agg #[.int .i64 0, .int .i64 0], .int .i64 170]) (by simp [results, Tryz.results31, go_sem, r0, r1]) rfl ?_
        refine ⟨Or.inr ⟨?_, rfl⟩, hB7⟩
        intro f p hf hp h
        obtain ⟨_, h1, h2⟩ := HF.out f p hf hp h
        have h3 := (HV.out f (by omega) h1).1
        have h4 := (HV'.out p (by omega) h2).1
        subst h3 h4
        unfold chkF at hn
        rw [if_pos (by omega)] at hn
        cases hn
    · refine wp_region_late 19 #[true, true, true, true, true, true, true, true, true, true, true, true, true, true, true, true, true, true, true, false, false, false, false, false] (by kernel_rfl) (by kernel_rfl) ?_
      intro W hW
      have q0' : W.cell? ⟨w.heap.size, 0, none⟩ = some (.int .i64 0) := by rw [← hW]; exact q0
      have q1' : W.cell? ⟨w.heap.size, 1, none⟩ = some (.int .i64 0) := by rw [← hW]; exact q1
      have qf' : W.frozen? ⟨w.heap.size, 0, none⟩ = false := by rw [← hW]; exact qf
      have qg' : W.frozen? ⟨w.heap.size, 1, none⟩ = false := by rw [← hW]; exact qg
      have d0' : W.cell? ⟨w4.heap.size, 0, none⟩ = some (.int .i64 v) := by rw [← hW]; exact d0
      have d1' : W.cell? ⟨w4.heap.size, 1, none⟩ = some (.int .i64 v') := by rw [← hW]; exact d1
      have hB' : Below w.heap.size w W := by rw [← hW]; exact hB5.drew
      clear hW q0 q1 qf qg d0 d1 hB5
      simp only [List.take_succ_cons, List.take_zero]
      repeat still_step
      refine wpStill_nil ?_
      simp only [List.size_toArray, List.length_cons, List.length_nil, Nat.reduceAdd, Nat.reduceSub]
      refine wpAny_ready (rs := [19]) (by kernel_rfl) (by simp) ?_
      refine AllReady.cons rfl (fun K hK => ?_) AllReady.nil
      go_simp
      go_wp2_with (first | (go_at_call 77; refine ((read_no v v' 170 _)).mono ?_; rintro e w6 ⟨rfl, hb6⟩; have q0 := cell_bel q0' hb6; have q1 := cell_bel q1' hb6; have qf := froz_bel q0' qf' hb6; have qg := froz_bel q1' qg' hb6; have hB6 := belT hB' hb6; clear q0' q1' qf' qg' d0' d1' hB' hb6))
      refine wpAny_take (i := 20) (v := .agg #[.int .i64 0, .int .i64 0]) rfl (by kernel_rfl) (by kernel_rfl) (by kernel_rfl) (fun _ _ _ h => h) (Or.inl ⟨by rfl, by intro w; go_simp⟩) ?_
      refine wpAny_take (i := 21) (v := .int .i64 170) rfl (by kernel_rfl) (by kernel_rfl) (by kernel_rfl) (fun _ _ _ h => h) (Or.inl ⟨by rfl, by intro w; go_simp⟩) ?_
      refine wpAny_ready (rs := [22]) (by kernel_rfl) (by simp) ?_
      refine AllReady.cons rfl (fun K hK => ?_) AllReady.nil
      go_simp
      refine hK _ _ ?_
      clear hK K
      refine wpAny_take (i := 23) (v := .int .i64 170) rfl (by kernel_rfl) (by kernel_rfl) (by kernel_rfl) (fun _ _ _ h => h) (Or.inl ⟨by rfl, by intro w; go_simp⟩) ?_
      refine wpAny_done (by kernel_rfl) ?_ _
      go_wp2
      obtain ⟨r0, r1⟩ := two_stored q0 q1 (.int .i64 0) (.int .i64 0)
      have hB7 := (hB6.setCell (p := ⟨w.heap.size, 0, none⟩) (Nat.le_refl _) (.int .i64 0)).setCell (p := ⟨w.heap.size, 1, none⟩) (Nat.le_refl _) (.int .i64 0)
      generalize (w6.setCell _ _).setCell _ _ = w7 at r0 r1 hB7 ⊢
      refine bodyPost_ret (v := .tuple #[.agg #[.int .i64 0, .int .i64 0], .int .i64 170]) (by simp [results, Tryz.results31, go_sem, r0, r1]) rfl ?_
      refine ⟨Or.inr ⟨?_, rfl⟩, hB7⟩
      intro f p hf hp h
      obtain ⟨_, h1, h2⟩ := HF.out f p hf hp h
      have h4 := (HV'.out p (by omega) h2).2
      cases h4
  · refine wp_region_late 19 #[true, true, true, true, true, true, true, true, true, true, true, true, true, true, true, true, true, true, true, false, false, false, false, false] (by kernel_rfl) (by kernel_rfl) ?_
    intro W hW
    have q0' : W.cell? ⟨w.heap.size, 0, none⟩ = some (.int .i64 0) := by rw [← hW]; exact q0
    have q1' : W.cell? ⟨w.heap.size, 1, none⟩ = some (.int .i64 0) := by rw [← hW]; exact q1
    have qf' : W.frozen? ⟨w.heap.size, 0, none⟩ = false := by rw [← hW]; exact qf
    have qg' : W.frozen? ⟨w.heap.size, 1, none⟩ = false := by rw [← hW]; exact qg
    have d0' : W.cell? ⟨w4.heap.size, 0, none⟩ = some (.int .i64 v) := by rw [← hW]; exact d0
    have d1' : W.cell? ⟨w4.heap.size, 1, none⟩ = some (.int .i64 v') := by rw [← hW]; exact d1
    have hB' : Below w.heap.size w W := by rw [← hW]; exact hB5.drew
    clear hW q0 q1 qf qg d0 d1 hB5
    simp only [List.take_succ_cons, List.take_zero]
    repeat still_step
    refine wpStill_nil ?_
    simp only [List.size_toArray, List.length_cons, List.length_nil, Nat.reduceAdd, Nat.reduceSub]
    refine wpAny_ready (rs := [19]) (by kernel_rfl) (by simp) ?_
    refine AllReady.cons rfl (fun K hK => ?_) AllReady.nil
    go_simp
    go_wp2_with (first | (go_at_call 77; refine ((read_no v v' 170 _)).mono ?_; rintro e w6 ⟨rfl, hb6⟩; have q0 := cell_bel q0' hb6; have q1 := cell_bel q1' hb6; have qf := froz_bel q0' qf' hb6; have qg := froz_bel q1' qg' hb6; have hB6 := belT hB' hb6; clear q0' q1' qf' qg' d0' d1' hB' hb6))
    refine wpAny_take (i := 20) (v := .agg #[.int .i64 0, .int .i64 0]) rfl (by kernel_rfl) (by kernel_rfl) (by kernel_rfl) (fun _ _ _ h => h) (Or.inl ⟨by rfl, by intro w; go_simp⟩) ?_
    refine wpAny_take (i := 21) (v := .int .i64 170) rfl (by kernel_rfl) (by kernel_rfl) (by kernel_rfl) (fun _ _ _ h => h) (Or.inl ⟨by rfl, by intro w; go_simp⟩) ?_
    refine wpAny_ready (rs := [22]) (by kernel_rfl) (by simp) ?_
    refine AllReady.cons rfl (fun K hK => ?_) AllReady.nil
    go_simp
    refine hK _ _ ?_
    clear hK K
    refine wpAny_take (i := 23) (v := .int .i64 170) rfl (by kernel_rfl) (by kernel_rfl) (by kernel_rfl) (fun _ _ _ h => h) (Or.inl ⟨by rfl, by intro w; go_simp⟩) ?_
    refine wpAny_done (by kernel_rfl) ?_ _
    go_wp2
    obtain ⟨r0, r1⟩ := two_stored q0 q1 (.int .i64 0) (.int .i64 0)
    have hB7 := (hB6.setCell (p := ⟨w.heap.size, 0, none⟩) (Nat.le_refl _) (.int .i64 0)).setCell (p := ⟨w.heap.size, 1, none⟩) (Nat.le_refl _) (.int .i64 0)
    generalize (w6.setCell _ _).setCell _ _ = w7 at r0 r1 hB7 ⊢
    refine bodyPost_ret (v := .tuple #[.agg #[.int .i64 0, .int .i64 0], .int .i64 170]) (by simp [results, Tryz.results31, go_sem, r0, r1]) rfl ?_
    refine ⟨Or.inr ⟨?_, rfl⟩, hB7⟩
    intro f p hf hp h
    obtain ⟨_, h1, h2⟩ := HF.out f p hf hp h
    have h4 := (HV.out f (by omega) h1).2
    cases h4
end Go.Proofs.YtnefpiohmokkiaaGreatDoor
