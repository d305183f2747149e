/- Walk of the statement SiteTexts. -/
import Derived.Test.YtgjibnfdaigpkaaDoorSiW
import Derived.Test.YtgjibnfdaigpkaaDoorSiQ
namespace Go.Proofs.YtgjibnfdaigpkaaDoor
set_option linter.unusedVariables false
open Go Go.Proofs Go.RowKit Go.Sort

theorem site_same (f p : Int) (w : World) : (binOp .eql 23 (.agg #[.int .i64 f, .int .i64 p]) (.agg #[.int .i64 f, .int .i64 p])).run Tryd.prog w = .ok (.bool true) w := by simp [go_sem]
theorem site_not (f p : Int) (w : World) : (binOp .neq 23 (.agg #[.int .i64 f, .int .i64 p]) (.agg #[.int .i64 f, .int .i64 p])).run Tryd.prog w = .ok (.bool false) w := by simp [go_sem]
theorem num_bel (n : Int) (w : World) : Calls Tryd.prog 10 #[.int .i64 n] w fun e w' => e = .returned (.int .i64 n) ∧ Below w.heap.size w w' :=
  (num_any n w).mono (by rintro e w' ⟨rfl, rfl⟩; exact ⟨rfl, Below.refl _ _⟩)

/-- A text has one site. -/
theorem site_one (s : ByteArray) (e1 e2 : Ending) (h1 : sitePost s e1) (h2 : sitePost s e2) :
    ∃ x y f : Int, e1 = .returned (.tuple #[.agg #[.int .i64 x, .int .i64 y], .int .i64 f]) ∧ e2 = .returned (.tuple #[.agg #[.int .i64 x, .int .i64 y], .int .i64 f]) := by
  rcases h1 with ⟨a, b, ha, hb, he, rfl⟩ | ⟨hn, rfl⟩ <;> rcases h2 with ⟨c, d, hc, hd, he', rfl⟩ | ⟨hn', rfl⟩
  · obtain ⟨rfl, rfl⟩ := textS_inj ha hb hc hd (he.trans he'.symm)
    exact ⟨a, b, 0, rfl, rfl⟩
  · exact absurd he (hn' a b ha hb)
  · exact absurd he' (hn c d hc hd)
  · exact ⟨0, 0, 170, rfl, rfl⟩

/-- The site of a site's text. -/
theorem site_own (f p : Nat) (hf : f < 32) (hp : p < 512) (e : Ending) (h : sitePost ⟨(textS f p).toArray⟩ e) : e = .returned (.tuple #[.agg #[.int .i64 f, .int .i64 p], .int .i64 0]) := by
  rcases h with ⟨a, b, ha, hb, he, rfl⟩ | ⟨hn, rfl⟩
  · obtain ⟨rfl, rfl⟩ := textS_inj ha hb hf hp he
    rfl
  · exact absurd rfl (hn f p hf hp)

theorem textS_size (f p : Nat) (hf : f < 32) (hp : p < 512) : (⟨(textS f p).toArray⟩ : ByteArray).size ≤ 1000000 := by
  have n1 := Lib.nDigits_le20 f (by omega)
  have n2 := Lib.nDigits_le20 p (by omega)
  rw [← Lib.decDigits_length] at n1 n2
  simp [ByteArray.size, textS]; omega

set_option maxRecDepth 100000 in
set_option maxHeartbeats 2000000 in
theorem siteTexts_yes (a b : Nat) (ha : a < 32) (hb : b < 512) (s : ByteArray) (hs : s.size ≤ 60) (w : World) (hE : Env w) :
    Calls Tryd.prog 3 #[.agg #[.int .i64 a, .int .i64 b], .string s] w fun e w' => e = .returned (.bool true) ∧ Below w.heap.size w w' := by
  have hi : (s.size : Int) ≤ 60 := by omega
  have C1 := Lib.hid (siText_yes a b ha hb)
  have C2 := Lib.hid (siParse_any s (by omega))
  have C3 := Lib.hid (rParse_any s (by omega))
  have C4 := Lib.hid fun w hE => (siParse_any ⟨(textS a b).toArray⟩ (textS_size a b ha hb) w hE).mono (R' := fun e w' => e = .returned (.tuple #[.agg #[.int .i64 a, .int .i64 b], .int .i64 0]) ∧ Below w.heap.size w w') (fun e w' h => ⟨site_own a b ha hb e h.1, h.2⟩)
  have C5 := Lib.hid (rText_any a b ha hb)
  have C6 := Lib.hid fun w => (by
    have := check_any a b w
    rw [show chkF a b = 0 from by unfold chkF; rw [if_pos (by omega)]] at this
    exact this : Calls Tryd.prog 12 #[.agg #[.int .i64 a, .int .i64 b]] w fun e w' => e = .returned (.int .i64 0) ∧ Below w.heap.size w w')
  have CR := Lib.hid (rRight_yes a b ha hb)
  have KEY := Lib.hid (site_one s)
  generalize (⟨(textS a b).toArray⟩ : ByteArray) = T at C1 C4 C5
  have hne := site_not
  have hsame := site_same
  go_enter Tryd.func3, Tryd.ntmps3
  go_wp2_with fail
  refine (C1.out _ (hE.on (bel1 _))).mono ?_
  rintro e w1 ⟨rfl, hb1⟩
  have a0 := cell_bel (cell_new w #[.int .i64 a, .int .i64 b] 23 0) hb1
  have a1 := cell_bel (cell_new w #[.int .i64 a, .int .i64 b] 23 1) hb1
  have B1 := belT (bel1 _) hb1
  clear hb1
  go_wp2_with fail
  refine (C2.out _ (hE.on B1)).mono ?_
  rintro e1 w2 ⟨p3, hb2⟩
  obtain ⟨x, y, f, rfl, -⟩ := KEY.out e1 e1 p3 p3
  have P3 := Lib.hid p3
  have a0 := cell_bel a0 hb2
  have a1 := cell_bel a1 hb2
  have B2 := belT B1 hb2
  clear p3 hb2
  go_wp2_with fail
  refine (C3.out _ (hE.on (belA B2 _))).mono ?_
  rintro e2 w3 ⟨p4, hb3⟩
  obtain ⟨x', y', f', h5, rfl⟩ := KEY.out _ e2 P3.out p4
  obtain ⟨⟨rfl, rfl⟩, rfl⟩ : (x = x' ∧ y = y') ∧ f = f' := by simpa using h5
  have c0 := cell_bel (cell_new w2 #[.int .i64 x, .int .i64 y] 23 0) hb3
  have c1 := cell_bel (cell_new w2 #[.int .i64 x, .int .i64 y] 23 1) hb3
  have a0 := cell_bel (cell_al a0 _) hb3
  have a1 := cell_bel (cell_al a1 _) hb3
  have B3 := belT (belA B2 _) hb3
  clear p4 h5 hb3 C1 C2 C3 KEY P3
  have c0 := cell_al c0 (.cells #[.int .i64 x, .int .i64 y] 23)
  have c1 := cell_al c1 (.cells #[.int .i64 x, .int .i64 y] 23)
  have a0 := cell_al a0 (.cells #[.int .i64 x, .int .i64 y] 23)
  have a1 := cell_al a1 (.cells #[.int .i64 x, .int .i64 y] 23)
  go_wp2_with (first | (go_at_call 10; refine (num_any f _).mono ?_; rintro e wn ⟨rfl, rfl⟩) | fail)
  have B3 := belA B3 (.cells #[.int .i64 x, .int .i64 y] 23)
  generalize w3.alloc (.cells #[.int .i64 x, .int .i64 y] 23) = w4 at a0 a1 c0 c1 B3 ⊢
  clear c0 c1
  refine (CR.out _).mono ?_
  rintro e w5 ⟨rfl, hb5⟩
  have a0 := cell_bel a0 hb5
  have a1 := cell_bel a1 hb5
  have B5 := belT B3 hb5
  clear hb5 B3
  go_wp2_with fail
  refine (C4.out _ (hE.on B5)).mono ?_
  rintro e w6 ⟨rfl, hb6⟩
  have a0 := cell_bel a0 hb6
  have a1 := cell_bel a1 hb6
  have B6 := belT B5 hb6
  clear hb6 B5
  go_wp2_with fail
  have a0 := cell_al a0 (.cells #[.int .i64 a, .int .i64 b] 23)
  have a1 := cell_al a1 (.cells #[.int .i64 a, .int .i64 b] 23)
  have d0 := cell_new w6 #[.int .i64 a, .int .i64 b] 23 0
  have d1 := cell_new w6 #[.int .i64 a, .int .i64 b] 23 1
  have B7 := belA B6 (.cells #[.int .i64 a, .int .i64 b] 23)
  have hE7 := hE.on B7
  generalize w6.alloc (.cells #[.int .i64 a, .int .i64 b] 23) = V at a0 a1 d0 d1 B7 hE7 ⊢
  have x0 := cell_regrown a0
  have x1 := cell_regrown a1
  have x2 := cell_regrown d0
  have x3 := cell_regrown d1
  have N0 := Lib.hid fun (d' : Nat) os => Calls.regrown_of (num_bel 0 (grow (redrawn V d') os))
  have CT := Lib.hid fun (d' : Nat) os => Calls.regrown_of (C5.out _ (hE7.on (below_regrown V d' os)))
  have CK := Lib.hid fun (d' : Nat) os => Calls.regrown_of (C6.out (grow (redrawn V d') os))
  have CW := Lib.hid fun (d' : Nat) os => Calls.regrown_of (works_any _ (hE7.on (below_regrown V d' os)))
  clear a0 a1 d0 d1 B6 hE7
  refine wp_region_quiet_below (by kernel_rfl) (by kernel_rfl) ?_
  iterate 2 (quiet_step (fail))
  quiet_step (exact CT.out _ _)
  iterate 3 (quiet_step (fail))
  quiet_step (exact N0.out _ _)
  iterate 1 (quiet_step (fail))
  quiet_step (exact N0.out _ _)
  iterate 2 (quiet_step (fail))
  quiet_step (exact CK.out _ _)
  quiet_step (exact N0.out _ _)
  iterate 9 (quiet_step (fail))
  quiet_step (exact CW.out _ _)
  iterate 2 (quiet_step (fail))
  refine wpQuiet_nil ?_
  intro _ hw'
  obtain ⟨⟨dq, osq⟩, hw''⟩ := hw'
  subst hw''
  go_wp2
  go_ret
  exact ⟨rfl, belT B7 (below_regrown V dq osq)⟩

set_option maxRecDepth 100000 in
set_option maxHeartbeats 2000000 in
theorem siteTexts_no (a b : Int) (h : ¬ (0 ≤ a ∧ a < 32 ∧ 0 ≤ b ∧ b < 512)) (s : ByteArray) (hs : s.size ≤ 60) (w : World) (hE : Env w) :
    Calls Tryd.prog 3 #[.agg #[.int .i64 a, .int .i64 b], .string s] w fun e w' => e = .returned (.bool true) ∧ Below w.heap.size w w' := by
  have hi : (s.size : Int) ≤ 60 := by omega
  have hc : chkF a b = 2 := by unfold chkF; rw [if_neg h]
  have C1 := Lib.hid (siText_no a b hc)
  have C2 := Lib.hid (siParse_any s (by omega))
  have C3 := Lib.hid (rParse_any s (by omega))
  have C6 := Lib.hid fun w => (by
    have := check_any a b w
    rw [hc] at this
    exact this : Calls Tryd.prog 12 #[.agg #[.int .i64 a, .int .i64 b]] w fun e w' => e = .returned (.int .i64 2) ∧ Below w.heap.size w w')
  have CR := Lib.hid (rRight_no a b h)
  have KEY := Lib.hid (site_one s)
  have hne := site_not
  clear h hc
  go_enter Tryd.func3, Tryd.ntmps3
  go_wp2_with fail
  refine (C1.out _).mono ?_
  rintro e w1 ⟨rfl, hb1⟩
  have a0 := cell_bel (cell_new w #[.int .i64 a, .int .i64 b] 23 0) hb1
  have a1 := cell_bel (cell_new w #[.int .i64 a, .int .i64 b] 23 1) hb1
  have B1 := belT (bel1 _) hb1
  clear hb1
  go_wp2_with fail
  refine (C2.out _ (hE.on B1)).mono ?_
  rintro e1 w2 ⟨p3, hb2⟩
  obtain ⟨x, y, f, rfl, -⟩ := KEY.out e1 e1 p3 p3
  have P3 := Lib.hid p3
  have a0 := cell_bel a0 hb2
  have a1 := cell_bel a1 hb2
  have B2 := belT B1 hb2
  clear p3 hb2
  go_wp2_with fail
  refine (C3.out _ (hE.on (belA B2 _))).mono ?_
  rintro e2 w3 ⟨p4, hb3⟩
  obtain ⟨x', y', f', h5, rfl⟩ := KEY.out _ e2 P3.out p4
  obtain ⟨⟨rfl, rfl⟩, rfl⟩ : (x = x' ∧ y = y') ∧ f = f' := by simpa using h5
  have c0 := cell_bel (cell_new w2 #[.int .i64 x, .int .i64 y] 23 0) hb3
  have c1 := cell_bel (cell_new w2 #[.int .i64 x, .int .i64 y] 23 1) hb3
  have a0 := cell_bel (cell_al a0 _) hb3
  have a1 := cell_bel (cell_al a1 _) hb3
  have B3 := belT (belA B2 _) hb3
  clear p4 h5 hb3 C1 C2 C3 KEY P3
  have c0 := cell_al c0 (.cells #[.int .i64 x, .int .i64 y] 23)
  have c1 := cell_al c1 (.cells #[.int .i64 x, .int .i64 y] 23)
  have a0 := cell_al a0 (.cells #[.int .i64 x, .int .i64 y] 23)
  have a1 := cell_al a1 (.cells #[.int .i64 x, .int .i64 y] 23)
  go_wp2_with (first | (go_at_call 10; refine (num_any f _).mono ?_; rintro e wn ⟨rfl, rfl⟩) | fail)
  have B3 := belA B3 (.cells #[.int .i64 x, .int .i64 y] 23)
  generalize w3.alloc (.cells #[.int .i64 x, .int .i64 y] 23) = w4 at a0 a1 c0 c1 B3 ⊢
  clear c0 c1
  refine (CR.out _).mono ?_
  rintro e w5 ⟨rfl, hb5⟩
  have a0 := cell_bel a0 hb5
  have a1 := cell_bel a1 hb5
  have B5 := belT B3 hb5
  clear hb5 B3
  go_wp2_with (first
    | (go_at_call 10; refine (num_any 2 _).mono ?_; rintro e wn ⟨rfl, rfl⟩)
    | (go_at_call 12; refine (C6.out _).mono ?_; rintro e w6 ⟨rfl, hb6⟩; have B6 := belT B5 hb6)
    | (go_at_call 6; refine (works_any _ (hE.on B6)).mono ?_; rintro e w7 ⟨rfl, hb7⟩))
  go_ret
  exact ⟨rfl, belT B6 hb7⟩

set_option maxRecDepth 100000 in
set_option maxHeartbeats 1000000 in
theorem siteTexts_walk (a b : Int) (s : ByteArray) (w : World) (hE : Env w) (hmax : s.size ≤ 9223372036854775807) :
    Calls Tryd.prog 3 #[.agg #[.int .i64 a, .int .i64 b], .string s] w fun e w' => e = .returned (.bool true) ∧ Below w.heap.size w w' := by
  by_cases hs : s.size ≤ 60
  · by_cases h : 0 ≤ a ∧ a < 32 ∧ 0 ≤ b ∧ b < 512
    · obtain ⟨h0, h1, h2, h3⟩ := h
      obtain ⟨f, rfl⟩ := Int.eq_ofNat_of_zero_le h0
      obtain ⟨p, rfl⟩ := Int.eq_ofNat_of_zero_le h2
      exact siteTexts_yes f p (by omega) (by omega) s hs w hE
    · exact siteTexts_no a b h s hs w hE
  · have hi : 60 < (s.size : Int) := by omega
    go_enter Tryd.func3, Tryd.ntmps3
    go_wp2_with (go_at_call 6; refine (works_any _ (hE.on (bel1 _))).mono ?_; rintro e w7 ⟨rfl, hb7⟩)
    go_ret
    exact ⟨rfl, belT (bel1 _) hb7⟩
end Go.Proofs.YtgjibnfdaigpkaaDoor
