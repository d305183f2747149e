/- Joined texts: The reference of layer 8: Right.; The reference of layer 8: what Right tells is what the program's tells.; Walks of the reference of layer 1: right, Fixed, ReadFixed, at four bytes.; Plain laws of instructions' bytes: what is read of them; none's begin another one's. -/
import Derived.Test.YtfnfcngkaepnjaaGreatDoorQZ17
import Derived.BigQuiet
import Derived.Test.YtfnfcngkaepnjaaGreatDoorQZ7
import Derived.Deep.OwnRows
/- The reference of layer 8: Right. -/
namespace Go.Proofs.YtfnfcngkaepnjaaGreatDoor
set_option linter.unusedVariables false
open Go Go.Proofs Go.RowKit Go.Sort

/-- Behind the first three tests. -/
def restR (op b c m : Int) : Bool :=
  if inR op 110 then decide (0 ≤ c) && decide (c ≤ 16) && decide (b + c ≤ 16) && decide (m < 32)
  else if inR op 107 then regR c true && decide (1 ≤ m) && decide (m ≤ 12)
  else if c ≠ 0 then false else if op = 4 ∨ op = 5 then decide (m < 512) else decide (m = 0) || inR op 105
/-- What the reference's Right tells. -/
def rightR (op a b c m : Int) : Bool := decide (1 ≤ op ∧ op ≤ 19) && (regR a (inR op 97) && (regR b (inR op 98) && restR op b c m))

theorem rReg_bel (n : Int) (b : Bool) (w : World) : Calls Tryz.prog 107 #[.int .i64 n, .bool b] w fun e w' => e = .returned (.bool (regR n b)) ∧ Below w.heap.size w w' :=
  (rReg_any n b w).mono (by rintro e w' ⟨rfl, rfl⟩; exact ⟨rfl, Below.refl _ _⟩)

set_option maxRecDepth 100000 in
set_option maxHeartbeats 4000000 in
theorem rRight_any (op a b c m : Int) (hm : 0 ≤ m ∧ m < 4294967296) (w : World) :
    Calls Tryz.prog 46 #[insV op a b c m] w fun e w' => e = .returned (.bool (rightR op a b c m)) ∧ Below w.heap.size w w' := by
  have hI := Bare.new op a b c m w 29
  have hB : Below w.heap.size w (w.alloc (.cells #[.int .i64 op, .int .i64 a, .int .i64 b, .int .i64 c, .int .u32 m] 29)) := bel1 _
  have i0 := hI.c0
  have I97 := Lib.hid (rIn97 op)
  have I98 := Lib.hid (rIn98 op)
  have I110 := Lib.hid (rIn110 op)
  have I107 := Lib.hid (rIn107 op)
  have I105 := Lib.hid (rIn105 op)
  unfold insV rightR
  by_cases h1 : op < 1
  · rw [decide_eq_false (by omega), Bool.false_and]
    go_enter Tryz.func46, Tryz.ntmps46
    go_wp2_with fail
    generalize w.alloc _ = V at hI hB i0 ⊢
    clear i0
    refine wp_region_quiet_below (by kernel_rfl) (by kernel_rfl) ?_
    repeat (go_big_quiet_step (fail))
    refine wpQuiet_nil ?_
    intro _ hw'
    obtain ⟨⟨dq, osq⟩, hw''⟩ := hw'
    subst hw''
    go_wp2_with fail
    go_ret
    exact ⟨rfl, belT hB (below_regrown V dq osq)⟩
  have d1 : decide (op < 1) = false := decide_eq_false h1
  by_cases h2 : 19 < op
  · rw [decide_eq_false (by omega), Bool.false_and]
    go_enter Tryz.func46, Tryz.ntmps46
    go_wp2_with fail
    generalize w.alloc _ = V at hI hB i0 ⊢
    clear i0
    refine wp_region_quiet_below (by kernel_rfl) (by kernel_rfl) ?_
    repeat (go_big_quiet_step (fail))
    refine wpQuiet_nil ?_
    intro _ hw'
    obtain ⟨⟨dq, osq⟩, hw''⟩ := hw'
    subst hw''
    go_wp2_with fail
    go_ret
    exact ⟨rfl, belT hB (below_regrown V dq osq)⟩
  have d2 : decide (19 < op) = false := decide_eq_false h2
  rw [decide_eq_true (by omega), Bool.true_and]
  cases hra : regR a (inR op 97) with
  | false =>
    rw [Bool.false_and]
    generalize inR op 97 = A at I97 hra
    have R1 := Lib.hid (rReg_bel a A)
    rw [hra] at R1
    clear hra
    go_enter Tryz.func46, Tryz.ntmps46
    go_wp2_with fail
    generalize w.alloc _ = V at hI hB i0 ⊢
    clear i0
    have CA := Lib.hid fun (d' : Nat) os => Calls.regrown_of (I97.out (grow (redrawn V d') os))
    have CRA := Lib.hid fun (d' : Nat) os => Calls.regrown_of (R1.out (grow (redrawn V d') os))
    have CB := CA
    have CRB := CRA
    have x0 := cell_regrown hI.c0
    have x1 := cell_regrown hI.c1
    have x2 := cell_regrown hI.c2
    dsimp only at x1 x2
    refine wp_region_quiet_below (by kernel_rfl) (by kernel_rfl) ?_
    repeat (go_big_quiet_step (first | with_reducible exact CA.out _ _ | with_reducible exact CB.out _ _ | with_reducible exact CRA.out _ _ | with_reducible exact CRB.out _ _))
    refine wpQuiet_nil ?_
    intro _ hw'
    obtain ⟨⟨dq, osq⟩, hw''⟩ := hw'
    subst hw''
    go_wp2_with fail
    go_ret
    exact ⟨rfl, belT hB (below_regrown V dq osq)⟩
  | true =>
    rw [Bool.true_and]
    generalize inR op 97 = A at I97 hra
    have R1 := Lib.hid (rReg_bel a A)
    rw [hra] at R1
    clear hra
    cases hrb : regR b (inR op 98) with
    | false =>
      rw [Bool.false_and]
      generalize inR op 98 = B at I98 hrb
      have R2 := Lib.hid (rReg_bel b B)
      rw [hrb] at R2
      clear hrb
      go_enter Tryz.func46, Tryz.ntmps46
      go_wp2_with fail
      generalize w.alloc _ = V at hI hB i0 ⊢
      clear i0
      have CA := Lib.hid fun (d' : Nat) os => Calls.regrown_of (I97.out (grow (redrawn V d') os))
      have CRA := Lib.hid fun (d' : Nat) os => Calls.regrown_of (R1.out (grow (redrawn V d') os))
      have CB := Lib.hid fun (d' : Nat) os => Calls.regrown_of (I98.out (grow (redrawn V d') os))
      have CRB := Lib.hid fun (d' : Nat) os => Calls.regrown_of (R2.out (grow (redrawn V d') os))
      have x0 := cell_regrown hI.c0
      have x1 := cell_regrown hI.c1
      have x2 := cell_regrown hI.c2
      dsimp only at x1 x2
      refine wp_region_quiet_below (by kernel_rfl) (by kernel_rfl) ?_
      repeat (go_big_quiet_step (first | with_reducible exact CA.out _ _ | with_reducible exact CB.out _ _ | with_reducible exact CRA.out _ _ | with_reducible exact CRB.out _ _))
      refine wpQuiet_nil ?_
      intro _ hw'
      obtain ⟨⟨dq, osq⟩, hw''⟩ := hw'
      subst hw''
      go_wp2_with fail
      go_ret
      exact ⟨rfl, belT hB (below_regrown V dq osq)⟩
    | true =>
      rw [Bool.true_and]
      have hb : 0 ≤ b ∧ b ≤ 15 := by
        unfold regR at hrb
        simp only [Bool.or_eq_true, Bool.and_eq_true, decide_eq_true_eq] at hrb
        omega
      generalize inR op 98 = B at I98 hrb
      have R2 := Lib.hid (rReg_bel b B)
      rw [hrb] at R2
      clear hrb
      obtain ⟨R, hR⟩ : ∃ R, R = restR op b c m := ⟨_, rfl⟩
      rw [← hR]
      have HR := Lib.hid hR
      clear hR
      go_enter Tryz.func46, Tryz.ntmps46
      go_wp2_with fail
      generalize w.alloc _ = V at hI hB i0 ⊢
      clear i0
      have CA := Lib.hid fun (d' : Nat) os => Calls.regrown_of (I97.out (grow (redrawn V d') os))
      have CRA := Lib.hid fun (d' : Nat) os => Calls.regrown_of (R1.out (grow (redrawn V d') os))
      have CB := Lib.hid fun (d' : Nat) os => Calls.regrown_of (I98.out (grow (redrawn V d') os))
      have CRB := Lib.hid fun (d' : Nat) os => Calls.regrown_of (R2.out (grow (redrawn V d') os))
      have x0 := cell_regrown hI.c0
      have x1 := cell_regrown hI.c1
      have x2 := cell_regrown hI.c2
      dsimp only at x1 x2
      refine wp_region_quiet_below (by kernel_rfl) (by kernel_rfl) ?_
      repeat (go_big_quiet_step (first | with_reducible exact CA.out _ _ | with_reducible exact CB.out _ _ | with_reducible exact CRA.out _ _ | with_reducible exact CRB.out _ _))
      refine wpQuiet_nil ?_
      intro _ hw'
      obtain ⟨⟨dq, osq⟩, hw''⟩ := hw'
      subst hw''
      have hI := hI.bel (below_regrown V dq osq)
      have hB := belT hB (below_regrown V dq osq)
      clear x0 x1 x2 CA CRA CB CRB I97 I98 R1 R2
      generalize grow (redrawn V dq) osq = V2 at hI hB ⊢
      clear h1 h2
      go_wp2_with fail
      refine (I110.out _).mono ?_
      rintro e w3 ⟨rfl, hb3⟩
      have hI := hI.bel hb3
      have hB := belT hB hb3
      have i2 := hI.c2
      have i3 := hI.c3
      have i4 := hI.c4
      dsimp only at i2 i3 i4
      clear hb3
      cases hN : inR op 110 with
      | true =>
        by_cases hc0 : 0 ≤ c
        · by_cases hc1 : c ≤ 16
          · by_cases hbc : b + c ≤ 16
            · have HT := Lib.hid (show R = decide (m < 32) from HR.out.trans (by unfold restR; simp [hN, hc0, hc1, hbc]))
              go_wp2
              go_ret
              exact ⟨by rw [HT.out]; rfl, hB⟩
            · have HT := Lib.hid (show R = false from HR.out.trans (by unfold restR; simp [hN, hbc]))
              have hbc : 16 < b + c := by omega
              go_wp2
              go_ret
              exact ⟨by rw [HT.out]; rfl, hB⟩
          · have HT := Lib.hid (show R = false from HR.out.trans (by unfold restR; simp [hN, hc1]))
            have hc1 : 16 < c := by omega
            go_wp2
            go_ret
            exact ⟨by rw [HT.out]; rfl, hB⟩
        · have HT := Lib.hid (show R = false from HR.out.trans (by unfold restR; simp [hN, hc0]))
          have hc0 : c < 0 := by omega
          go_wp2
          go_ret
          exact ⟨by rw [HT.out]; rfl, hB⟩
      | false =>
        go_wp2_with fail
        refine (I107.out _).mono ?_
        rintro e w3 ⟨rfl, hb3⟩
        have hI := hI.bel hb3
        have hB := belT hB hb3
        have i2 := hI.c2
        have i3 := hI.c3
        have i4 := hI.c4
        dsimp only at i2 i3 i4
        clear hb3
        cases hK : inR op 107 with
        | true =>
          have R3 := Lib.hid (rReg_bel c true)
          cases hrc : regR c true with
          | true =>
            rw [hrc] at R3
            by_cases hm1 : 1 ≤ m
            · have HT := Lib.hid (show R = decide (m ≤ 12) from HR.out.trans (by unfold restR; simp [hN, hK, hrc, hm1]))
              go_wp2_with (refine (R3.out _).mono ?_; rintro e w3 ⟨rfl, hb3⟩; have hI := hI.bel hb3; have hB := belT hB hb3; have i4 := hI.c4; dsimp only at i4; clear hb3)
              go_ret
              exact ⟨by rw [HT.out]; rfl, hB⟩
            · have HT := Lib.hid (show R = false from HR.out.trans (by unfold restR; simp [hN, hK, hm1]))
              have hm1 : m < 1 := by omega
              go_wp2_with (refine (R3.out _).mono ?_; rintro e w3 ⟨rfl, hb3⟩; have hI := hI.bel hb3; have hB := belT hB hb3; have i4 := hI.c4; dsimp only at i4; clear hb3)
              go_ret
              exact ⟨by rw [HT.out]; rfl, hB⟩
          | false =>
            rw [hrc] at R3
            have HT := Lib.hid (show R = false from HR.out.trans (by unfold restR; simp [hN, hK, hrc]))
            go_wp2_with (refine (R3.out _).mono ?_; rintro e w3 ⟨rfl, hb3⟩; have hI := hI.bel hb3; have hB := belT hB hb3; have i4 := hI.c4; dsimp only at i4; clear hb3)
            go_ret
            exact ⟨by rw [HT.out]; rfl, hB⟩
        | false =>
          by_cases hc : c = 0
          · subst hc
            by_cases h4 : op = 4
            · subst h4
              have HT := Lib.hid (show R = decide (m < 512) from HR.out.trans (by unfold restR; simp [hN, hK]))
              go_wp2
              go_ret
              exact ⟨by rw [HT.out]; rfl, hB⟩
            · by_cases h5 : op = 5
              · subst h5
                have HT := Lib.hid (show R = decide (m < 512) from HR.out.trans (by unfold restR; simp [hN, hK]))
                go_wp2
                go_ret
                exact ⟨by rw [HT.out]; rfl, hB⟩
              · have e4 : (op == 4) = false := beq_eq_false_iff_ne.2 h4
                have e5 : (op == 5) = false := beq_eq_false_iff_ne.2 h5
                by_cases hm0 : m = 0
                · subst hm0
                  have HT := Lib.hid (show R = true from HR.out.trans (by unfold restR; simp [hN, hK, h4, h5]))
                  clear h4 h5
                  go_wp2
                  go_ret
                  exact ⟨by rw [HT.out]; rfl, hB⟩
                · have em : (m == 0) = false := beq_eq_false_iff_ne.2 hm0
                  have HT := Lib.hid (show R = inR op 105 from HR.out.trans (by unfold restR; simp [hN, hK, h4, h5, hm0]))
                  clear h4 h5
                  go_wp2_with (refine (I105.out _).mono ?_; rintro e w3 ⟨rfl, hb3⟩; have hI := hI.bel hb3; have hB := belT hB hb3; have i4 := hI.c4; dsimp only at i4; clear hb3)
                  go_ret
                  exact ⟨by rw [HT.out]; rfl, hB⟩
          · have ec : (c == 0) = false := beq_eq_false_iff_ne.2 hc
            have HT := Lib.hid (show R = false from HR.out.trans (by unfold restR; simp [hN, hK, hc]))
            go_wp2
            go_ret
            exact ⟨by rw [HT.out]; rfl, hB⟩
end Go.Proofs.YtfnfcngkaepnjaaGreatDoor

/- The reference of layer 8: what Right tells is what the program's tells. -/
namespace Go.Proofs.YtfnfcngkaepnjaaGreatDoor
set_option linter.unusedVariables false
set_option linter.unusedSimpArgs false
open Go Go.Proofs Go.RowKit

theorem rf1 (a b c m : Int) : rightR 1 a b c m = rightF 1 a b c m := by
  have e1 : inR 1 97 = true := by decide +kernel
  have e2 : inR 1 98 = false := by decide +kernel
  have e3 : inR 1 110 = false := by decide +kernel
  have e4 : inR 1 107 = false := by decide +kernel
  have e5 : inR 1 105 = true := by decide +kernel
  unfold rightR rightF restR restF regR
  rw [e1, e2, e3, e4, e5, Bool.eq_iff_iff]
  simp [putsF, namedL, List.lookup, putF, pA, pB, pC, pM, pI]
  try omega
theorem rf2 (a b c m : Int) : rightR 2 a b c m = rightF 2 a b c m := by
  have e1 : inR 2 97 = true := by decide +kernel
  have e2 : inR 2 98 = true := by decide +kernel
  have e3 : inR 2 110 = false := by decide +kernel
  have e4 : inR 2 107 = false := by decide +kernel
  have e5 : inR 2 105 = false := by decide +kernel
  unfold rightR rightF restR restF regR
  rw [e1, e2, e3, e4, e5, Bool.eq_iff_iff]
  simp [putsF, namedL, List.lookup, putF, pA, pB, pC, pM, pI]
  try omega
theorem rf3 (a b c m : Int) : rightR 3 a b c m = rightF 3 a b c m := by
  have e1 : inR 3 97 = true := by decide +kernel
  have e2 : inR 3 98 = true := by decide +kernel
  have e3 : inR 3 110 = false := by decide +kernel
  have e4 : inR 3 107 = true := by decide +kernel
  have e5 : inR 3 105 = false := by decide +kernel
  unfold rightR rightF restR restF regR
  rw [e1, e2, e3, e4, e5, Bool.eq_iff_iff]
  simp [putsF, namedL, List.lookup, putF, pA, pB, pC, pM, pI]
  try omega
theorem rf4 (a b c m : Int) : rightR 4 a b c m = rightF 4 a b c m := by
  have e1 : inR 4 97 = false := by decide +kernel
  have e2 : inR 4 98 = false := by decide +kernel
  have e3 : inR 4 110 = false := by decide +kernel
  have e4 : inR 4 107 = false := by decide +kernel
  have e5 : inR 4 105 = true := by decide +kernel
  unfold rightR rightF restR restF regR
  rw [e1, e2, e3, e4, e5, Bool.eq_iff_iff]
  simp [putsF, namedL, List.lookup, putF, pA, pB, pC, pM, pI]
  try omega
theorem rf5 (a b c m : Int) : rightR 5 a b c m = rightF 5 a b c m := by
  have e1 : inR 5 97 = true := by decide +kernel
  have e2 : inR 5 98 = false := by decide +kernel
  have e3 : inR 5 110 = false := by decide +kernel
  have e4 : inR 5 107 = false := by decide +kernel
  have e5 : inR 5 105 = true := by decide +kernel
  unfold rightR rightF restR restF regR
  rw [e1, e2, e3, e4, e5, Bool.eq_iff_iff]
  simp [putsF, namedL, List.lookup, putF, pA, pB, pC, pM, pI]
  try omega
theorem rf6 (a b c m : Int) : rightR 6 a b c m = rightF 6 a b c m := by
  have e1 : inR 6 97 = true := by decide +kernel
  have e2 : inR 6 98 = true := by decide +kernel
  have e3 : inR 6 110 = false := by decide +kernel
  have e4 : inR 6 107 = false := by decide +kernel
  have e5 : inR 6 105 = false := by decide +kernel
  unfold rightR rightF restR restF regR
  rw [e1, e2, e3, e4, e5, Bool.eq_iff_iff]
  simp [putsF, namedL, List.lookup, putF, pA, pB, pC, pM, pI]
  try omega
theorem rf7 (a b c m : Int) : rightR 7 a b c m = rightF 7 a b c m := by
  have e1 : inR 7 97 = true := by decide +kernel
  have e2 : inR 7 98 = true := by decide +kernel
  have e3 : inR 7 110 = false := by decide +kernel
  have e4 : inR 7 107 = false := by decide +kernel
  have e5 : inR 7 105 = false := by decide +kernel
  unfold rightR rightF restR restF regR
  rw [e1, e2, e3, e4, e5, Bool.eq_iff_iff]
  simp [putsF, namedL, List.lookup, putF, pA, pB, pC, pM, pI]
  try omega
theorem rf8 (a b c m : Int) : rightR 8 a b c m = rightF 8 a b c m := by
  have e1 : inR 8 97 = true := by decide +kernel
  have e2 : inR 8 98 = true := by decide +kernel
  have e3 : inR 8 110 = true := by decide +kernel
  have e4 : inR 8 107 = false := by decide +kernel
  have e5 : inR 8 105 = false := by decide +kernel
  unfold rightR rightF restR restF regR
  rw [e1, e2, e3, e4, e5, Bool.eq_iff_iff]
  simp [putsF, namedL, List.lookup, putF, pA, pB, pC, pM, pI]
  try omega
theorem rf9 (a b c m : Int) : rightR 9 a b c m = rightF 9 a b c m := by
  have e1 : inR 9 97 = true := by decide +kernel
  have e2 : inR 9 98 = false := by decide +kernel
  have e3 : inR 9 110 = false := by decide +kernel
  have e4 : inR 9 107 = false := by decide +kernel
  have e5 : inR 9 105 = false := by decide +kernel
  unfold rightR rightF restR restF regR
  rw [e1, e2, e3, e4, e5, Bool.eq_iff_iff]
  simp [putsF, namedL, List.lookup, putF, pA, pB, pC, pM, pI]
  try omega
theorem rf10 (a b c m : Int) : rightR 10 a b c m = rightF 10 a b c m := by
  have e1 : inR 10 97 = false := by decide +kernel
  have e2 : inR 10 98 = true := by decide +kernel
  have e3 : inR 10 110 = true := by decide +kernel
  have e4 : inR 10 107 = false := by decide +kernel
  have e5 : inR 10 105 = false := by decide +kernel
  unfold rightR rightF restR restF regR
  rw [e1, e2, e3, e4, e5, Bool.eq_iff_iff]
  simp [putsF, namedL, List.lookup, putF, pA, pB, pC, pM, pI]
  try omega
theorem rf11 (a b c m : Int) : rightR 11 a b c m = rightF 11 a b c m := by
  have e1 : inR 11 97 = true := by decide +kernel
  have e2 : inR 11 98 = false := by decide +kernel
  have e3 : inR 11 110 = false := by decide +kernel
  have e4 : inR 11 107 = false := by decide +kernel
  have e5 : inR 11 105 = false := by decide +kernel
  unfold rightR rightF restR restF regR
  rw [e1, e2, e3, e4, e5, Bool.eq_iff_iff]
  simp [putsF, namedL, List.lookup, putF, pA, pB, pC, pM, pI]
  try omega
theorem rf12 (a b c m : Int) : rightR 12 a b c m = rightF 12 a b c m := by
  have e1 : inR 12 97 = true := by decide +kernel
  have e2 : inR 12 98 = false := by decide +kernel
  have e3 : inR 12 110 = false := by decide +kernel
  have e4 : inR 12 107 = false := by decide +kernel
  have e5 : inR 12 105 = false := by decide +kernel
  unfold rightR rightF restR restF regR
  rw [e1, e2, e3, e4, e5, Bool.eq_iff_iff]
  simp [putsF, namedL, List.lookup, putF, pA, pB, pC, pM, pI]
  try omega
theorem rf13 (a b c m : Int) : rightR 13 a b c m = rightF 13 a b c m := by
  have e1 : inR 13 97 = true := by decide +kernel
  have e2 : inR 13 98 = false := by decide +kernel
  have e3 : inR 13 110 = false := by decide +kernel
  have e4 : inR 13 107 = false := by decide +kernel
  have e5 : inR 13 105 = false := by decide +kernel
  unfold rightR rightF restR restF regR
  rw [e1, e2, e3, e4, e5, Bool.eq_iff_iff]
  simp [putsF, namedL, List.lookup, putF, pA, pB, pC, pM, pI]
  try omega
theorem rf14 (a b c m : Int) : rightR 14 a b c m = rightF 14 a b c m := by
  have e1 : inR 14 97 = true := by decide +kernel
  have e2 : inR 14 98 = false := by decide +kernel
  have e3 : inR 14 110 = false := by decide +kernel
  have e4 : inR 14 107 = false := by decide +kernel
  have e5 : inR 14 105 = false := by decide +kernel
  unfold rightR rightF restR restF regR
  rw [e1, e2, e3, e4, e5, Bool.eq_iff_iff]
  simp [putsF, namedL, List.lookup, putF, pA, pB, pC, pM, pI]
  try omega
theorem rf15 (a b c m : Int) : rightR 15 a b c m = rightF 15 a b c m := by
  have e1 : inR 15 97 = true := by decide +kernel
  have e2 : inR 15 98 = false := by decide +kernel
  have e3 : inR 15 110 = false := by decide +kernel
  have e4 : inR 15 107 = false := by decide +kernel
  have e5 : inR 15 105 = false := by decide +kernel
  unfold rightR rightF restR restF regR
  rw [e1, e2, e3, e4, e5, Bool.eq_iff_iff]
  simp [putsF, namedL, List.lookup, putF, pA, pB, pC, pM, pI]
  try omega
theorem rf16 (a b c m : Int) : rightR 16 a b c m = rightF 16 a b c m := by
  have e1 : inR 16 97 = true := by decide +kernel
  have e2 : inR 16 98 = false := by decide +kernel
  have e3 : inR 16 110 = false := by decide +kernel
  have e4 : inR 16 107 = false := by decide +kernel
  have e5 : inR 16 105 = false := by decide +kernel
  unfold rightR rightF restR restF regR
  rw [e1, e2, e3, e4, e5, Bool.eq_iff_iff]
  simp [putsF, namedL, List.lookup, putF, pA, pB, pC, pM, pI]
  try omega
theorem rf17 (a b c m : Int) : rightR 17 a b c m = rightF 17 a b c m := by
  have e1 : inR 17 97 = true := by decide +kernel
  have e2 : inR 17 98 = true := by decide +kernel
  have e3 : inR 17 110 = false := by decide +kernel
  have e4 : inR 17 107 = false := by decide +kernel
  have e5 : inR 17 105 = false := by decide +kernel
  unfold rightR rightF restR restF regR
  rw [e1, e2, e3, e4, e5, Bool.eq_iff_iff]
  simp [putsF, namedL, List.lookup, putF, pA, pB, pC, pM, pI]
  try omega
theorem rf18 (a b c m : Int) : rightR 18 a b c m = rightF 18 a b c m := by
  have e1 : inR 18 97 = true := by decide +kernel
  have e2 : inR 18 98 = false := by decide +kernel
  have e3 : inR 18 110 = false := by decide +kernel
  have e4 : inR 18 107 = false := by decide +kernel
  have e5 : inR 18 105 = false := by decide +kernel
  unfold rightR rightF restR restF regR
  rw [e1, e2, e3, e4, e5, Bool.eq_iff_iff]
  simp [putsF, namedL, List.lookup, putF, pA, pB, pC, pM, pI]
  try omega
theorem rf19 (a b c m : Int) : rightR 19 a b c m = rightF 19 a b c m := by
  have e1 : inR 19 97 = false := by decide +kernel
  have e2 : inR 19 98 = false := by decide +kernel
  have e3 : inR 19 110 = false := by decide +kernel
  have e4 : inR 19 107 = false := by decide +kernel
  have e5 : inR 19 105 = false := by decide +kernel
  unfold rightR rightF restR restF regR
  rw [e1, e2, e3, e4, e5, Bool.eq_iff_iff]
  simp [putsF, namedL, List.lookup, putF, pA, pB, pC, pM, pI]
  try omega

theorem rightR_F (op a b c m : Int) (hm : 0 ≤ m) : rightR op a b c m = rightF op a b c m := by
  by_cases h : 1 ≤ op ∧ op ≤ 19
  · have : op = 1 ∨ op = 2 ∨ op = 3 ∨ op = 4 ∨ op = 5 ∨ op = 6 ∨ op = 7 ∨ op = 8 ∨ op = 9 ∨ op = 10 ∨ op = 11 ∨ op = 12 ∨ op = 13 ∨ op = 14 ∨ op = 15 ∨ op = 16 ∨ op = 17 ∨ op = 18 ∨ op = 19 := by omega
    rcases this with rfl | rfl | rfl | rfl | rfl | rfl | rfl | rfl | rfl | rfl | rfl | rfl | rfl | rfl | rfl | rfl | rfl | rfl | rfl
    · exact rf1 ..
    · exact rf2 ..
    · exact rf3 ..
    · exact rf4 ..
    · exact rf5 ..
    · exact rf6 ..
    · exact rf7 ..
    · exact rf8 ..
    · exact rf9 ..
    · exact rf10 ..
    · exact rf11 ..
    · exact rf12 ..
    · exact rf13 ..
    · exact rf14 ..
    · exact rf15 ..
    · exact rf16 ..
    · exact rf17 ..
    · exact rf18 ..
    · exact rf19 ..
  · unfold rightR rightF
    rw [decide_eq_false h]
    simp
end Go.Proofs.YtfnfcngkaepnjaaGreatDoor

/- Walks of the reference of layer 1: right, Fixed, ReadFixed, at four bytes. -/
namespace Go.Proofs.YtfnfcngkaepnjaaGreatDoor
set_option linter.unusedVariables false
open Go Go.Proofs Go.RowKit

end Go.Proofs.YtfnfcngkaepnjaaGreatDoor

/- Plain laws of instructions' bytes: what is read of them; none's begin another one's. -/
namespace Go.Proofs.YtfnfcngkaepnjaaGreatDoor
set_option linter.unusedVariables false
open Go Go.Proofs Go.RowKit

end Go.Proofs.YtfnfcngkaepnjaaGreatDoor
