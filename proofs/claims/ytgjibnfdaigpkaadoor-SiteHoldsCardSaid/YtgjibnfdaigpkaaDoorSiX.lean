/- Walk of the statement SiteHolds. -/
import Derived.Test.YtgjibnfdaigpkaaDoorSiW
import Derived.Test.YtgjibnfdaigpkaaDoorSiO
import Derived.Test.YtgjibnfdaigpkaaDoorForget
namespace Go.Proofs.YtgjibnfdaigpkaaDoor
set_option linter.unusedVariables false
open Go Go.Proofs Go.RowKit Go.Sort

theorem site_eq (f p f' p' : Int) (w : World) : (binOp .eql 23 (.agg #[.int .i64 f, .int .i64 p]) (.agg #[.int .i64 f', .int .i64 p'])).run Tryd.prog w = .ok (.bool (decide (f = f') && decide (p = p'))) w := by
  by_cases h1 : f = f' <;> by_cases h2 : p = p' <;> simp [go_sem, h1, h2]

set_option maxRecDepth 100000 in
set_option maxHeartbeats 8000000 in
theorem siteHolds_walk (a b c d e f : Int) (w : World) (hE : Env w) :
    Calls Tryd.prog 4 #[.agg #[.int .i64 a, .int .i64 b], .agg #[.int .i64 c, .int .i64 d], .agg #[.int .i64 e, .int .i64 f]] w fun x w' => x = .returned (.bool true) ∧ Below w.heap.size w w' := by
  go_enter Tryd.func4, Tryd.ntmps4
  go_wp2
  have hb0 := Below.refl (((w.alloc (.cells #[.int .i64 a, .int .i64 b] 23)).alloc (.cells #[.int .i64 c, .int .i64 d] 23)).alloc (.cells #[.int .i64 e, .int .i64 f] 23)).heap.size (((w.alloc (.cells #[.int .i64 a, .int .i64 b] 23)).alloc (.cells #[.int .i64 c, .int .i64 d] 23)).alloc (.cells #[.int .i64 e, .int .i64 f] 23))
  obtain ⟨hA, hB, hC, _, _, _⟩ := three_new _ _ _ _ _ _ hb0
  have hBW : Below w.heap.size w (((w.alloc (.cells #[.int .i64 a, .int .i64 b] 23)).alloc (.cells #[.int .i64 c, .int .i64 d] 23)).alloc (.cells #[.int .i64 e, .int .i64 f] 23)) := belA (belA (bel1 _) _) _
  have a0 : (((w.alloc (.cells #[.int .i64 a, .int .i64 b] 23)).alloc (.cells #[.int .i64 c, .int .i64 d] 23)).alloc (.cells #[.int .i64 e, .int .i64 f] 23)).cell? ⟨w.heap.size, 0, none⟩ = some (.int .i64 a) := hA 0
  have a1 : (((w.alloc (.cells #[.int .i64 a, .int .i64 b] 23)).alloc (.cells #[.int .i64 c, .int .i64 d] 23)).alloc (.cells #[.int .i64 e, .int .i64 f] 23)).cell? ⟨w.heap.size, 1, none⟩ = some (.int .i64 b) := hA 1
  have b0 : (((w.alloc (.cells #[.int .i64 a, .int .i64 b] 23)).alloc (.cells #[.int .i64 c, .int .i64 d] 23)).alloc (.cells #[.int .i64 e, .int .i64 f] 23)).cell? ⟨w.heap.size + 1, 0, none⟩ = some (.int .i64 c) := hB 0
  have b1 : (((w.alloc (.cells #[.int .i64 a, .int .i64 b] 23)).alloc (.cells #[.int .i64 c, .int .i64 d] 23)).alloc (.cells #[.int .i64 e, .int .i64 f] 23)).cell? ⟨w.heap.size + 1, 1, none⟩ = some (.int .i64 d) := hB 1
  have r0 : (((w.alloc (.cells #[.int .i64 a, .int .i64 b] 23)).alloc (.cells #[.int .i64 c, .int .i64 d] 23)).alloc (.cells #[.int .i64 e, .int .i64 f] 23)).cell? ⟨w.heap.size + 1 + 1, 0, none⟩ = some (.int .i64 e) := hC 0
  have r1 : (((w.alloc (.cells #[.int .i64 a, .int .i64 b] 23)).alloc (.cells #[.int .i64 c, .int .i64 d] 23)).alloc (.cells #[.int .i64 e, .int .i64 f] 23)).cell? ⟨w.heap.size + 1 + 1, 1, none⟩ = some (.int .i64 f) := hC 1
  clear hA hB hC hb0
  have hE0 := hE.on hBW
  generalize (((w.alloc (.cells #[.int .i64 a, .int .i64 b] 23)).alloc (.cells #[.int .i64 c, .int .i64 d] 23)).alloc (.cells #[.int .i64 e, .int .i64 f] 23)) = V at a0 a1 b0 b1 r0 r1 hBW hE0 ⊢
  refine wp_cut (fun a' w' => ∃ u11 u12 u13 u14 u15 u16 u17 u18 u19 u20 u21 u22 u23 u24 u25 u26 u27 u28 u29 u30 u31 u32 u33 u34 u35 u36 u37 u38 u39 u40 u41 u42 u43 u44 u45 u46, (u46 = Value.bool false ∧ Below V.heap.size V w') ∧ a' = { tmps := #[Value.agg #[Value.int IntKind.i64 a, Value.int IntKind.i64 b], Value.agg #[Value.int IntKind.i64 c, Value.int IntKind.i64 d], Value.agg #[Value.int IntKind.i64 e, Value.int IntKind.i64 f], Value.pointer (some { block := w.heap.size, off := 0 }), Value.pointer (some { block := w.heap.size + 1, off := 0 }), Value.pointer (some { block := w.heap.size + 1 + 1, off := 0 }), Value.bool false, undef, undef, undef, undef, u11, u12, u13, u14, u15, u16, u17, u18, u19, u20, u21, u22, u23, u24, u25, u26, u27, u28, u29, u30, u31, u32, u33, u34, u35, u36, u37, u38, u39, u40, u41, u42, u43, u44, u45, u46, undef, undef, undef, undef, undef, undef, undef, undef, undef, undef, undef, undef, undef, undef, undef, undef, undef, undef, undef, undef, undef, undef, undef, undef, undef, undef, undef, undef, undef, undef, undef, undef, undef, undef, undef, undef, undef, undef, undef, undef, undef, undef, undef, undef, undef, undef, undef, undef, undef, undef, undef, undef, undef, undef, undef, undef, undef, undef, undef, undef, undef, undef, undef, undef, undef, undef, undef, undef, undef, undef, undef, undef, undef, undef], defers := [] }) ?walk ?rest
  case walk =>
    have x0 := cell_regrown a0
    have x1 := cell_regrown a1
    have x2 := cell_regrown b0
    have x3 := cell_regrown b1
    have x4 := cell_regrown r0
    have x5 := cell_regrown r1
    have o1 := fun (d' : Nat) os => Calls.regrown_of (order_any a b c d (grow (redrawn V d') os))
    have o2 := fun (d' : Nat) os => Calls.regrown_of (order_any c d a b (grow (redrawn V d') os))
    have o3 := fun (d' : Nat) os => Calls.regrown_of (order_any c d e f (grow (redrawn V d') os))
    have o4 := fun (d' : Nat) os => Calls.regrown_of (order_any a b e f (grow (redrawn V d') os))
    rw [ord_neg] at o2
    have hz := ord_zero a b c d
    have ht := ord_trans a b c d e f
    clear hBW hE0 hE a0 a1 b0 b1 r0 r1
    generalize ordF a b e f = z4 at o4 ht
    generalize ordF c d e f = z3 at o3 ht
    rcases ord_three a b c d with h | h | h
    · rw [h] at o1 o2 hz ht
      have hq : (decide (a = c) && decide (b = d)) = false := by
        have : ¬ (a = c ∧ b = d) := fun h => by have := hz.2 h; omega
        by_cases h1 : a = c <;> by_cases h2 : b = d <;> simp [h1, h2]
        exact this ⟨h1, h2⟩
      have hsq : ∀ w, (binOp .eql 23 (.agg #[.int .i64 a, .int .i64 b]) (.agg #[.int .i64 c, .int .i64 d])).run Tryd.prog w = .ok (.bool false) w := fun w => by rw [site_eq, hq]
      have hwr : IntKind.i64.wrap (-1) = -1 := by decide
      have hwr2 : IntKind.i64.wrap (- (1)) = -1 := by decide
      have C1 := Lib.hid o1
      have C2 := Lib.hid o2
      have C3 := Lib.hid o3
      have C4 := Lib.hid o4
      by_cases h3 : z3 ≤ 0
      · have h4 := ht (by omega) h3
        have h5 : ¬ 0 < z4 := by omega
        clear o1 o2 o3 o4 ht hz h hq
        refine wp_region_quiet_below (by kernel_rfl) (by kernel_rfl) ?_
        iterate 2 (quiet_step (fail))
        quiet_step (exact C1.out _ _)
        iterate 2 (quiet_step (fail))
        quiet_step (exact C2.out _ _)
        iterate 5 (quiet_step (fail))
        quiet_step (exact C1.out _ _)
        iterate 9 (quiet_step (fail))
        quiet_step (exact C1.out _ _)
        iterate 4 (quiet_step (fail))
        quiet_step (exact C3.out _ _)
        iterate 5 (quiet_step (fail))
        quiet_step (exact C4.out _ _)
        iterate 3 (quiet_step (fail))
        refine wpQuiet_nil ?_
        intro _ hw'
        obtain ⟨⟨dq, osq⟩, hw''⟩ := hw'
        subst hw''
        rw [goesOn_normal]
        repeat apply Exists.intro
        refine ⟨?_, rfl⟩
        exact ⟨rfl, below_regrown V dq osq⟩
      · clear o1 o2 o3 o4 ht hz h hq
        refine wp_region_quiet_below (by kernel_rfl) (by kernel_rfl) ?_
        iterate 2 (quiet_step (fail))
        quiet_step (exact C1.out _ _)
        iterate 2 (quiet_step (fail))
        quiet_step (exact C2.out _ _)
        iterate 5 (quiet_step (fail))
        quiet_step (exact C1.out _ _)
        iterate 9 (quiet_step (fail))
        quiet_step (exact C1.out _ _)
        iterate 4 (quiet_step (fail))
        quiet_step (exact C3.out _ _)
        iterate 9 (quiet_step (fail))
        refine wpQuiet_nil ?_
        intro _ hw'
        obtain ⟨⟨dq, osq⟩, hw''⟩ := hw'
        subst hw''
        rw [goesOn_normal]
        repeat apply Exists.intro
        refine ⟨?_, rfl⟩
        exact ⟨rfl, below_regrown V dq osq⟩
    · rw [h] at o1 o2 hz ht
      have hq : (decide (a = c) && decide (b = d)) = true := by
        obtain ⟨h1, h2⟩ := hz.1 rfl
        simp [h1, h2]
      have hsq : ∀ w, (binOp .eql 23 (.agg #[.int .i64 a, .int .i64 b]) (.agg #[.int .i64 c, .int .i64 d])).run Tryd.prog w = .ok (.bool true) w := fun w => by rw [site_eq, hq]
      have hwr : IntKind.i64.wrap (0) = 0 := by decide
      have hwr2 : IntKind.i64.wrap (- (0)) = 0 := by decide
      have C1 := Lib.hid o1
      have C2 := Lib.hid o2
      have C3 := Lib.hid o3
      have C4 := Lib.hid o4
      by_cases h3 : z3 ≤ 0
      · have h4 := ht (by omega) h3
        have h5 : ¬ 0 < z4 := by omega
        clear o1 o2 o3 o4 ht hz h hq
        refine wp_region_quiet_below (by kernel_rfl) (by kernel_rfl) ?_
        iterate 2 (quiet_step (fail))
        quiet_step (exact C1.out _ _)
        iterate 2 (quiet_step (fail))
        quiet_step (exact C2.out _ _)
        iterate 5 (quiet_step (fail))
        quiet_step (exact C1.out _ _)
        iterate 9 (quiet_step (fail))
        quiet_step (exact C1.out _ _)
        iterate 4 (quiet_step (fail))
        quiet_step (exact C3.out _ _)
        iterate 5 (quiet_step (fail))
        quiet_step (exact C4.out _ _)
        iterate 3 (quiet_step (fail))
        refine wpQuiet_nil ?_
        intro _ hw'
        obtain ⟨⟨dq, osq⟩, hw''⟩ := hw'
        subst hw''
        rw [goesOn_normal]
        repeat apply Exists.intro
        refine ⟨?_, rfl⟩
        exact ⟨rfl, below_regrown V dq osq⟩
      · clear o1 o2 o3 o4 ht hz h hq
        refine wp_region_quiet_below (by kernel_rfl) (by kernel_rfl) ?_
        iterate 2 (quiet_step (fail))
        quiet_step (exact C1.out _ _)
        iterate 2 (quiet_step (fail))
        quiet_step (exact C2.out _ _)
        iterate 5 (quiet_step (fail))
        quiet_step (exact C1.out _ _)
        iterate 9 (quiet_step (fail))
        quiet_step (exact C1.out _ _)
        iterate 4 (quiet_step (fail))
        quiet_step (exact C3.out _ _)
        iterate 9 (quiet_step (fail))
        refine wpQuiet_nil ?_
        intro _ hw'
        obtain ⟨⟨dq, osq⟩, hw''⟩ := hw'
        subst hw''
        rw [goesOn_normal]
        repeat apply Exists.intro
        refine ⟨?_, rfl⟩
        exact ⟨rfl, below_regrown V dq osq⟩
    · rw [h] at o1 o2 hz ht
      have hq : (decide (a = c) && decide (b = d)) = false := by
        have : ¬ (a = c ∧ b = d) := fun h => by have := hz.2 h; omega
        by_cases h1 : a = c <;> by_cases h2 : b = d <;> simp [h1, h2]
        exact this ⟨h1, h2⟩
      have hsq : ∀ w, (binOp .eql 23 (.agg #[.int .i64 a, .int .i64 b]) (.agg #[.int .i64 c, .int .i64 d])).run Tryd.prog w = .ok (.bool false) w := fun w => by rw [site_eq, hq]
      have hwr : IntKind.i64.wrap (1) = 1 := by decide
      have hwr2 : IntKind.i64.wrap (- (-1)) = 1 := by decide
      have C1 := Lib.hid o1
      have C2 := Lib.hid o2
      clear o1 o2 o3 o4 ht hz h hq
      refine wp_region_quiet_below (by kernel_rfl) (by kernel_rfl) ?_
      iterate 2 (quiet_step (fail))
      quiet_step (exact C1.out _ _)
      iterate 2 (quiet_step (fail))
      quiet_step (exact C2.out _ _)
      iterate 5 (quiet_step (fail))
      quiet_step (exact C1.out _ _)
      iterate 9 (quiet_step (fail))
      quiet_step (exact C1.out _ _)
      iterate 14 (quiet_step (fail))
      refine wpQuiet_nil ?_
      intro _ hw'
      obtain ⟨⟨dq, osq⟩, hw''⟩ := hw'
      subst hw''
      rw [goesOn_normal]
      repeat apply Exists.intro
      refine ⟨?_, rfl⟩
      exact ⟨rfl, below_regrown V dq osq⟩
  case rest =>
    intro _ wr hinv
    obtain ⟨u11, u12, u13, u14, u15, u16, u17, u18, u19, u20, u21, u22, u23, u24, u25, u26, u27, u28, u29, u30, u31, u32, u33, u34, u35, u36, u37, u38, u39, u40, u41, u42, u43, u44, u45, u46, hrel, ha⟩ := hinv
    subst ha
    try dsimp only
    obtain ⟨rfl, hb1⟩ := hrel
    have a0 := cell_bel a0 hb1
    have a1 := cell_bel a1 hb1
    have b0 := cell_bel b0 hb1
    have b1 := cell_bel b1 hb1
    have hBW := belT hBW hb1
    clear hb1 r0 r1 hE0
    obtain ⟨p0, p1, p2, p3, er, hof, hfacts⟩ := of_facts a b c d
    have k1 := of_any a b c d
    have k2 := of_any c d a b
    rw [of_sym] at k2
    rw [hof] at k1 k2
    have K1 := Lib.hid k1
    have K2 := Lib.hid k2
    clear k1 k2 hof
    go_wp2_with fail
    refine (K1.out _).mono ?_
    rintro x w2 ⟨rfl, hb2⟩
    have a0 := cell_bel a0 hb2
    have a1 := cell_bel a1 hb2
    have b0 := cell_bel b0 hb2
    have b1 := cell_bel b1 hb2
    have hBW := belT hBW hb2
    have a0 := cell_al a0 (.cells #[.int .i64 p0, .int .i64 p1, .int .i64 p2, .int .i64 p3] 39)
    have a1 := cell_al a1 (.cells #[.int .i64 p0, .int .i64 p1, .int .i64 p2, .int .i64 p3] 39)
    have b0 := cell_al b0 (.cells #[.int .i64 p0, .int .i64 p1, .int .i64 p2, .int .i64 p3] 39)
    have b1 := cell_al b1 (.cells #[.int .i64 p0, .int .i64 p1, .int .i64 p2, .int .i64 p3] 39)
    clear hb2 K1
    go_wp2_with fail
    refine (K2.out _).mono ?_
    rintro x w3 ⟨rfl, hb3⟩
    have c0 := cell_bel (cell_new w2 #[.int .i64 p0, .int .i64 p1, .int .i64 p2, .int .i64 p3] 39 0) hb3
    have c1 := cell_bel (cell_new w2 #[.int .i64 p0, .int .i64 p1, .int .i64 p2, .int .i64 p3] 39 1) hb3
    have c2 := cell_bel (cell_new w2 #[.int .i64 p0, .int .i64 p1, .int .i64 p2, .int .i64 p3] 39 2) hb3
    have c3 := cell_bel (cell_new w2 #[.int .i64 p0, .int .i64 p1, .int .i64 p2, .int .i64 p3] 39 3) hb3
    have a0 := cell_bel a0 hb3
    have a1 := cell_bel a1 hb3
    have b0 := cell_bel b0 hb3
    have b1 := cell_bel b1 hb3
    have hBW := belT (belA hBW _) hb3
    have a0 := cell_al a0 (.cells #[.int .i64 p0, .int .i64 p1, .int .i64 p2, .int .i64 p3] 39)
    have a1 := cell_al a1 (.cells #[.int .i64 p0, .int .i64 p1, .int .i64 p2, .int .i64 p3] 39)
    have b0 := cell_al b0 (.cells #[.int .i64 p0, .int .i64 p1, .int .i64 p2, .int .i64 p3] 39)
    have b1 := cell_al b1 (.cells #[.int .i64 p0, .int .i64 p1, .int .i64 p2, .int .i64 p3] 39)
    have c0 := cell_al c0 (.cells #[.int .i64 p0, .int .i64 p1, .int .i64 p2, .int .i64 p3] 39)
    have c1 := cell_al c1 (.cells #[.int .i64 p0, .int .i64 p1, .int .i64 p2, .int .i64 p3] 39)
    have c2 := cell_al c2 (.cells #[.int .i64 p0, .int .i64 p1, .int .i64 p2, .int .i64 p3] 39)
    have c3 := cell_al c3 (.cells #[.int .i64 p0, .int .i64 p1, .int .i64 p2, .int .i64 p3] 39)
    have q0 := cell_new w3 #[.int .i64 p0, .int .i64 p1, .int .i64 p2, .int .i64 p3] 39 0
    have q1 := cell_new w3 #[.int .i64 p0, .int .i64 p1, .int .i64 p2, .int .i64 p3] 39 1
    have q2 := cell_new w3 #[.int .i64 p0, .int .i64 p1, .int .i64 p2, .int .i64 p3] 39 2
    have q3 := cell_new w3 #[.int .i64 p0, .int .i64 p1, .int .i64 p2, .int .i64 p3] 39 3
    have hBW := belA hBW (.cells #[.int .i64 p0, .int .i64 p1, .int .i64 p2, .int .i64 p3] 39)
    clear hb3 K2
    go_wp2_with fail
    generalize w3.alloc _ = U at a0 a1 b0 b1 c0 c1 c2 c3 q0 q1 q2 q3 hBW ⊢
    refine wp_cut (fun a' w' => ∃ u59 u60 u61 u62 u63 u64 u65 u66 u67 u68 u69 u70 u71 u72 u73 u74 u75 u76 u77 u78 u79 u80 u81 u82, (u82 = Value.bool false ∧ Below U.heap.size U w') ∧ a' = { tmps := #[Value.agg #[Value.int IntKind.i64 a, Value.int IntKind.i64 b], Value.agg #[Value.int IntKind.i64 c, Value.int IntKind.i64 d], Value.agg #[Value.int IntKind.i64 e, Value.int IntKind.i64 f], Value.pointer (some { block := w.heap.size, off := 0 }), Value.pointer (some { block := w.heap.size + 1, off := 0 }), Value.pointer (some { block := w.heap.size + 1 + 1, off := 0 }), Value.bool false, Value.pointer (some { block := w2.heap.size, off := 0 }), Value.int IntKind.i64 er, Value.pointer (some { block := w3.heap.size, off := 0 }), Value.int IntKind.i64 er, u11, u12, u13, u14, u15, u16, u17, u18, u19, u20, u21, u22, u23, u24, u25, u26, u27, u28, u29, u30, u31, u32, u33, u34, u35, u36, u37, u38, u39, u40, u41, u42, u43, u44, u45, Value.bool false, Value.tuple #[Value.agg #[Value.int IntKind.i64 p0, Value.int IntKind.i64 p1, Value.int IntKind.i64 p2, Value.int IntKind.i64 p3], Value.int IntKind.i64 er], Value.agg #[Value.int IntKind.i64 a, Value.int IntKind.i64 b], Value.agg #[Value.int IntKind.i64 c, Value.int IntKind.i64 d], Value.tuple #[Value.agg #[Value.int IntKind.i64 p0, Value.int IntKind.i64 p1, Value.int IntKind.i64 p2, Value.int IntKind.i64 p3], Value.int IntKind.i64 er], Value.agg #[Value.int IntKind.i64 p0, Value.int IntKind.i64 p1, Value.int IntKind.i64 p2, Value.int IntKind.i64 p3], Value.int IntKind.i64 er, Value.tuple #[Value.agg #[Value.int IntKind.i64 p0, Value.int IntKind.i64 p1, Value.int IntKind.i64 p2, Value.int IntKind.i64 p3], Value.int IntKind.i64 er], Value.agg #[Value.int IntKind.i64 c, Value.int IntKind.i64 d], Value.agg #[Value.int IntKind.i64 a, Value.int IntKind.i64 b], Value.tuple #[Value.agg #[Value.int IntKind.i64 p0, Value.int IntKind.i64 p1, Value.int IntKind.i64 p2, Value.int IntKind.i64 p3], Value.int IntKind.i64 er], Value.agg #[Value.int IntKind.i64 p0, Value.int IntKind.i64 p1, Value.int IntKind.i64 p2, Value.int IntKind.i64 p3], Value.int IntKind.i64 er, u59, u60, u61, u62, u63, u64, u65, u66, u67, u68, u69, u70, u71, u72, u73, u74, u75, u76, u77, u78, u79, u80, u81, u82, undef, undef, undef, undef, undef, undef, undef, undef, undef, undef, undef, undef, undef, undef, undef, undef, undef, undef, undef, undef, undef, undef, undef, undef, undef, undef, undef, undef, undef, undef, undef, undef, undef, undef, undef, undef, undef, undef], defers := [] }) ?walk ?rest
    case walk =>
      have x0 := cell_regrown a0
      have x1 := cell_regrown a1
      have x2 := cell_regrown b0
      have x3 := cell_regrown b1
      have y0 := cell_regrown c0
      have y1 := cell_regrown c1
      have y2 := cell_regrown c2
      have y3 := cell_regrown c3
      have z0 := cell_regrown q0
      have z1 := cell_regrown q1
      have z2 := cell_regrown q2
      have z3 := cell_regrown q3
      have hneq : ∀ w, (binOp .neq 39 (.agg #[.int .i64 p0, .int .i64 p1, .int .i64 p2, .int .i64 p3]) (.agg #[.int .i64 p0, .int .i64 p1, .int .i64 p2, .int .i64 p3])).run Tryd.prog w = .ok (.bool false) w := fun w => by simp [go_sem]
      have hn := fun (n : Int) (d' : Nat) os => Calls.regrown_of ((num_any n (grow (redrawn U d') os)).mono fun _ _ h => ⟨h.1, by rw [← h.2]; exact Below.refl _ _⟩)
      have g1 := fun (d' : Nat) os => Calls.regrown_of (check_any a b (grow (redrawn U d') os))
      have g2 := fun (d' : Nat) os => Calls.regrown_of (check_any c d (grow (redrawn U d') os))
      clear hBW a0 a1 b0 b1 c0 c1 c2 c3 q0 q1 q2 q3 hE
      obtain ⟨rfl, h1, h2⟩ | ⟨rfl, h1, h2⟩ | ⟨rfl, h1, h2⟩ | ⟨rfl, h1, h2⟩ : (er = 0 ∧ chkF a b = 0 ∧ chkF c d = 0) ∨ (er = 2 ∧ chkF a b = 0 ∧ chkF c d = 2) ∨ (er = 2 ∧ chkF a b = 2 ∧ chkF c d = 0) ∨ (er = 2 ∧ chkF a b = 2 ∧ chkF c d = 2) := by
        rcases hfacts with ⟨h, h1, h2, _⟩ | ⟨h, h1⟩
        · exact Or.inl ⟨h, h1, h2⟩
        · rcases chk_two a b with h2 | h2 <;> rcases chk_two c d with h3 | h3
          · exact absurd ⟨h2, h3⟩ h1
          · exact Or.inr (Or.inl ⟨h, h2, h3⟩)
          · exact Or.inr (Or.inr (Or.inl ⟨h, h2, h3⟩))
          · exact Or.inr (Or.inr (Or.inr ⟨h, h2, h3⟩))
      · have N1 := Lib.hid (hn 0)
        have N2 := Lib.hid (hn 0)
        have N3 := Lib.hid (hn 0)
        rw [h1] at g1
        rw [h2] at g2
        have G1 := Lib.hid g1
        have G2 := Lib.hid g2
        clear hn g1 g2 h1 h2 hfacts
        refine wp_region_quiet_below (by kernel_rfl) (by kernel_rfl) ?_
        iterate 5 (quiet_step (fail))
        quiet_step (exact N1.out _ _)
        quiet_step (fail)
        quiet_step (exact N1.out _ _)
        iterate 4 (quiet_step (fail))
        quiet_step (exact N1.out _ _)
        iterate 2 (quiet_step (fail))
        quiet_step (exact G1.out _ _)
        quiet_step (exact N2.out _ _)
        quiet_step (fail)
        quiet_step (exact G2.out _ _)
        quiet_step (exact N3.out _ _)
        iterate 4 (quiet_step (fail))
        refine wpQuiet_nil ?_
        intro _ hw'
        obtain ⟨⟨dq, osq⟩, hw''⟩ := hw'
        subst hw''
        rw [goesOn_normal]
        repeat apply Exists.intro
        refine ⟨?_, rfl⟩
        exact ⟨rfl, below_regrown U dq osq⟩
      · have N1 := Lib.hid (hn 2)
        have N2 := Lib.hid (hn 0)
        have N3 := Lib.hid (hn 2)
        rw [h1] at g1
        rw [h2] at g2
        have G1 := Lib.hid g1
        have G2 := Lib.hid g2
        clear hn g1 g2 h1 h2 hfacts
        refine wp_region_quiet_below (by kernel_rfl) (by kernel_rfl) ?_
        iterate 5 (quiet_step (fail))
        quiet_step (exact N1.out _ _)
        quiet_step (fail)
        quiet_step (exact N1.out _ _)
        iterate 4 (quiet_step (fail))
        quiet_step (exact N1.out _ _)
        iterate 2 (quiet_step (fail))
        quiet_step (exact G1.out _ _)
        quiet_step (exact N2.out _ _)
        quiet_step (fail)
        quiet_step (exact G2.out _ _)
        quiet_step (exact N3.out _ _)
        iterate 4 (quiet_step (fail))
        refine wpQuiet_nil ?_
        intro _ hw'
        obtain ⟨⟨dq, osq⟩, hw''⟩ := hw'
        subst hw''
        rw [goesOn_normal]
        repeat apply Exists.intro
        refine ⟨?_, rfl⟩
        exact ⟨rfl, below_regrown U dq osq⟩
      · have N1 := Lib.hid (hn 2)
        have N2 := Lib.hid (hn 2)
        have N3 := Lib.hid (hn 0)
        rw [h1] at g1
        rw [h2] at g2
        have G1 := Lib.hid g1
        have G2 := Lib.hid g2
        clear hn g1 g2 h1 h2 hfacts
        refine wp_region_quiet_below (by kernel_rfl) (by kernel_rfl) ?_
        iterate 5 (quiet_step (fail))
        quiet_step (exact N1.out _ _)
        quiet_step (fail)
        quiet_step (exact N1.out _ _)
        iterate 4 (quiet_step (fail))
        quiet_step (exact N1.out _ _)
        iterate 2 (quiet_step (fail))
        quiet_step (exact G1.out _ _)
        quiet_step (exact N2.out _ _)
        quiet_step (fail)
        quiet_step (exact G2.out _ _)
        quiet_step (exact N3.out _ _)
        iterate 4 (quiet_step (fail))
        refine wpQuiet_nil ?_
        intro _ hw'
        obtain ⟨⟨dq, osq⟩, hw''⟩ := hw'
        subst hw''
        rw [goesOn_normal]
        repeat apply Exists.intro
        refine ⟨?_, rfl⟩
        exact ⟨rfl, below_regrown U dq osq⟩
      · have N1 := Lib.hid (hn 2)
        have N2 := Lib.hid (hn 2)
        have N3 := Lib.hid (hn 2)
        rw [h1] at g1
        rw [h2] at g2
        have G1 := Lib.hid g1
        have G2 := Lib.hid g2
        clear hn g1 g2 h1 h2 hfacts
        refine wp_region_quiet_below (by kernel_rfl) (by kernel_rfl) ?_
        iterate 5 (quiet_step (fail))
        quiet_step (exact N1.out _ _)
        quiet_step (fail)
        quiet_step (exact N1.out _ _)
        iterate 4 (quiet_step (fail))
        quiet_step (exact N1.out _ _)
        iterate 2 (quiet_step (fail))
        quiet_step (exact G1.out _ _)
        quiet_step (exact N2.out _ _)
        quiet_step (fail)
        quiet_step (exact G2.out _ _)
        quiet_step (exact N3.out _ _)
        iterate 4 (quiet_step (fail))
        refine wpQuiet_nil ?_
        intro _ hw'
        obtain ⟨⟨dq, osq⟩, hw''⟩ := hw'
        subst hw''
        rw [goesOn_normal]
        repeat apply Exists.intro
        refine ⟨?_, rfl⟩
        exact ⟨rfl, below_regrown U dq osq⟩
    case rest =>
      intro _ wr hinv
      obtain ⟨u59, u60, u61, u62, u63, u64, u65, u66, u67, u68, u69, u70, u71, u72, u73, u74, u75, u76, u77, u78, u79, u80, u81, u82, hrel, ha⟩ := hinv
      subst ha
      try dsimp only
      obtain ⟨rfl, hb5⟩ := hrel
      have a0 := cell_bel a0 hb5
      have a1 := cell_bel a1 hb5
      have b0 := cell_bel b0 hb5
      have b1 := cell_bel b1 hb5
      have c0 := cell_bel c0 hb5
      have c1 := cell_bel c1 hb5
      have c2 := cell_bel c2 hb5
      have c3 := cell_bel c3 hb5
      have hBW := belT hBW hb5
      clear hb5 q0 q1 q2 q3
      rcases hfacts with ⟨rfl, _, _, ho, hp⟩ | ⟨rfl, _⟩
      · have hp' : (p0 = a ∧ p1 = b ∧ p2 = c ∧ p3 = d) ∨ ((p0 = c ∧ p1 = d ∧ p2 = a ∧ p3 = b) ∧ (decide (c = a) && decide (d = b)) = false) := by
          rcases hp with h | h
          · exact Or.inl h
          · by_cases h1 : c = a <;> by_cases h2 : d = b
            · exact Or.inl (by omega)
            all_goals exact Or.inr ⟨h, by simp [h1, h2]⟩
        have go := order_any p0 p1 p2 p3 wr
        generalize ordF p0 p1 p2 p3 = z at go ho
        have GO := Lib.hid go
        clear go hp
        rcases hp' with ⟨rfl, rfl, rfl, rfl⟩ | ⟨⟨rfl, rfl, rfl, rfl⟩, hq⟩
        · have hs : ∀ x y w, (binOp .eql 23 (.agg #[.int .i64 x, .int .i64 y]) (.agg #[.int .i64 x, .int .i64 y])).run Tryd.prog w = .ok (.bool true) w := fun x y w => by rw [site_eq]; simp
          go_wp2_with (go_at_call 10; refine (num_any _ _).mono ?_; rintro x wn ⟨rfl, rfl⟩)
          refine GO.out.mono ?_
          rintro x w6 ⟨rfl, hb6⟩
          have a0 := cell_bel a0 hb6
          have a1 := cell_bel a1 hb6
          have b0 := cell_bel b0 hb6
          have b1 := cell_bel b1 hb6
          have c0 := cell_bel c0 hb6
          have c1 := cell_bel c1 hb6
          have c2 := cell_bel c2 hb6
          have c3 := cell_bel c3 hb6
          have hBW := belT hBW hb6
          go_wp2_with fail
          refine (works_any _ (hE.on hBW)).mono ?_
          rintro x w7 ⟨rfl, hb7⟩
          go_wp2
          go_ret
          exact ⟨rfl, belT hBW hb7⟩
        · have hs : ∀ x y w, (binOp .eql 23 (.agg #[.int .i64 x, .int .i64 y]) (.agg #[.int .i64 x, .int .i64 y])).run Tryd.prog w = .ok (.bool true) w := fun x y w => by rw [site_eq]; simp
          have hs2 : ∀ w, (binOp .eql 23 (.agg #[.int .i64 p0, .int .i64 p1]) (.agg #[.int .i64 p2, .int .i64 p3])).run Tryd.prog w = .ok (.bool false) w := fun w => by rw [site_eq, hq]
          go_wp2_with (go_at_call 10; refine (num_any _ _).mono ?_; rintro x wn ⟨rfl, rfl⟩)
          refine GO.out.mono ?_
          rintro x w6 ⟨rfl, hb6⟩
          have a0 := cell_bel a0 hb6
          have a1 := cell_bel a1 hb6
          have b0 := cell_bel b0 hb6
          have b1 := cell_bel b1 hb6
          have c0 := cell_bel c0 hb6
          have c1 := cell_bel c1 hb6
          have c2 := cell_bel c2 hb6
          have c3 := cell_bel c3 hb6
          have hBW := belT hBW hb6
          go_wp2_with fail
          refine (works_any _ (hE.on hBW)).mono ?_
          rintro x w7 ⟨rfl, hb7⟩
          go_wp2
          go_ret
          exact ⟨rfl, belT hBW hb7⟩
      · go_wp2_with (go_at_call 10; refine (num_any _ _).mono ?_; rintro x wn ⟨rfl, rfl⟩)
        refine (works_any _ (hE.on hBW)).mono ?_
        rintro x w7 ⟨rfl, hb7⟩
        go_wp2
        go_ret
        exact ⟨rfl, belT hBW hb7⟩
end Go.Proofs.YtgjibnfdaigpkaaDoor
