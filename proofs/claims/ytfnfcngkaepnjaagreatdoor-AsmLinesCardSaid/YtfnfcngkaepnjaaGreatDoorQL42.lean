/- Joined texts: Reference 09: Right, At.; Packages asm and its reference: Place.; Layer 11: num, works, walked.; Reference 09: are two programs the same?; Layer 11: a program's text ends with a line. -/
import Derived.Test.YtfnfcngkaepnjaaGreatDoorQL23
import Derived.Test.YtfnfcngkaepnjaaGreatDoorQL40
import Derived.Test.YtfnfcngkaepnjaaGreatDoorQL41
import Derived.Test.YtfnfcngkaepnjaaGreatDoorQL26
import Derived.Deep.RegionHeld3
import Derived.Test.YtfnfcngkaepnjaaGreatDoorQL17
/- Reference 09: Right, At. -/
namespace Go.Proofs.YtfnfcngkaepnjaaGreatDoor
set_option linter.unusedVariables false
set_option linter.unusedSimpArgs false
open Go Go.Proofs Go.RowKit

set_option maxRecDepth 100000 in
set_option maxHeartbeats 2000000 in
theorem rRightP_any (P : ProgM) (hP : P.Fits) (v : Value) (w : World) (h : ArgP w v P) :
    Calls Tryz.prog 32 #[v] w fun e w' => e = .returned (.bool (rightP P)) ∧ Below w.heap.size w w' := by
  have CN := Lib.hid fun v W h => rNumbers_any P v W h
  have CW := Lib.hid fun v W h => rWrong_any P hP v W h
  obtain ⟨vf, rfl, hF⟩ := h
  have HPG := Lib.hid (PrgB.new w 58 hF)
  have HB := Lib.hid (bel1 (W := w) (.cells #[vf, .int .i64 P.mu, .int .i64 P.rw, .int .i64 P.gr] 58))
  obtain ⟨c0, c1, c2, c3, _⟩ := HPG.out
  have HQ : Hid (numbersF P = false ∧ wrongP P = none ∧ rightP P = false ∨ numbersF P = true ∧ wrongP P = none ∧ rightP P = true ∨ ∃ f pc, numbersF P = true ∧ wrongP P = some (f, pc) ∧ rightP P = false) := Lib.hid (by
    unfold wrongP rightP
    cases numbersF P with
    | false => exact Or.inl ⟨rfl, rfl, rfl⟩
    | true =>
      cases wrongF P.funcs with
      | none => exact Or.inr (Or.inl ⟨rfl, rfl, rfl⟩)
      | some q => exact Or.inr (Or.inr ⟨q.1, q.2, rfl, rfl, rfl⟩))
  rcases HQ.out with ⟨h1, h2, h3⟩ | ⟨h1, h2, h3⟩ | ⟨f, pc, h1, h2, h3⟩
  · rw [h1] at CN
    rw [h2] at CW
    unfold wrongV at CW
    rw [h3]
    clear h1 h2 h3 HQ
    dsimp only at CW
    go_enter Tryz.func32, Tryz.ntmps32
    go_wp2_with fail
    refine (CW.out _ _ HPG.out.arg).mono ?_
    rintro e w1 ⟨rfl, hb1⟩
    clear c0 c1 c2 c3
    have HPG1 := Lib.hid ((HPG.out.bel hb1).bel (bel1 (.cells #[(.int .i64 0), (.int .i64 0)] 43)))
    have HB1 := Lib.hid (belA (belT HB.out hb1) (.cells #[(.int .i64 0), (.int .i64 0)] 43))
    obtain ⟨c0, c1, c2, c3, _⟩ := HPG1.out
    go_wp2_with (refine (CN.out _ _ HPG1.out.arg).mono ?_; rintro e w2 ⟨rfl, hb2⟩)
    go_ret
    exact ⟨rfl, belT HB1.out hb2⟩
  · rw [h1] at CN
    rw [h2] at CW
    unfold wrongV at CW
    rw [h3]
    clear h1 h2 h3 HQ
    dsimp only at CW
    go_enter Tryz.func32, Tryz.ntmps32
    go_wp2_with fail
    refine (CW.out _ _ HPG.out.arg).mono ?_
    rintro e w1 ⟨rfl, hb1⟩
    clear c0 c1 c2 c3
    have HPG1 := Lib.hid ((HPG.out.bel hb1).bel (bel1 (.cells #[(.int .i64 0), (.int .i64 0)] 43)))
    have HB1 := Lib.hid (belA (belT HB.out hb1) (.cells #[(.int .i64 0), (.int .i64 0)] 43))
    obtain ⟨c0, c1, c2, c3, _⟩ := HPG1.out
    go_wp2_with (refine (CN.out _ _ HPG1.out.arg).mono ?_; rintro e w2 ⟨rfl, hb2⟩)
    go_ret
    exact ⟨rfl, belT HB1.out hb2⟩
  · rw [h1] at CN
    rw [h2] at CW
    unfold wrongV at CW
    rw [h3]
    clear h1 h2 h3 HQ
    dsimp only at CW
    go_enter Tryz.func32, Tryz.ntmps32
    go_wp2_with fail
    refine (CW.out _ _ HPG.out.arg).mono ?_
    rintro e w1 ⟨rfl, hb1⟩
    clear c0 c1 c2 c3
    have HPG1 := Lib.hid ((HPG.out.bel hb1).bel (bel1 (.cells #[(.int .i64 f), (.int .i64 pc)] 43)))
    have HB1 := Lib.hid (belA (belT HB.out hb1) (.cells #[(.int .i64 f), (.int .i64 pc)] 43))
    obtain ⟨c0, c1, c2, c3, _⟩ := HPG1.out
    go_wp2_with (refine (CN.out _ _ HPG1.out.arg).mono ?_; rintro e w2 ⟨rfl, hb2⟩)
    go_ret
    exact ⟨rfl, belT HB1.out hb2⟩
end Go.Proofs.YtfnfcngkaepnjaaGreatDoor

/- Packages asm and its reference: Place. -/
namespace Go.Proofs.YtfnfcngkaepnjaaGreatDoor
set_option linter.unusedVariables false
set_option linter.unusedSimpArgs false
open Go Go.Proofs Go.RowKit Go.Sort

/-- What Place tells of a site. -/
noncomputable def plcN (P : ProgM) (f pc : Int) : Int := if rightP P = true then (if atB P.funcs f pc = true then placeF P.funcs f.toNat pc.toNat else 0) else 0
noncomputable def plcE (P : ProgM) (f pc : Int) : Int := if rightP P = true then (if atB P.funcs f pc = true then 0 else 4) else 2
theorem atB_yes {F : List FnM} {f pc : Int} (h : atB F f pc = true) : ∃ i j : Nat, f = i ∧ pc = j ∧ i < F.length ∧ ∃ fn, F[i]? = some fn ∧ j < fn.code.length := by
  unfold atB at h
  simp only [Bool.and_eq_true, decide_eq_true_eq] at h
  obtain ⟨⟨h1, h2⟩, h3⟩ := h
  obtain ⟨i, rfl⟩ := Int.eq_ofNat_of_zero_le h1
  obtain ⟨j, rfl⟩ := Int.eq_ofNat_of_zero_le h2
  simp only [Int.toNat_natCast] at h3
  split at h3
  · rename_i fn hfn
    exact ⟨i, j, rfl, rfl, (List.getElem?_eq_some_iff.1 hfn).1, fn, hfn, by simpa using h3⟩
  · cases h3

set_option maxRecDepth 100000 in
set_option maxHeartbeats 4000000 in
theorem asmPlc_any (P : ProgM) (hP : P.Fits) (hl : P.funcs.length ≤ 100000) (f pc : Int) (v : Value) (w : World) (h : ArgP w v P) :
    Calls Tryz.prog 34 #[v, .agg #[.int .i64 f, .int .i64 pc]] w fun e w' => e = .returned (.tuple #[.int .i64 (plcN P f pc), .int .i64 (plcE P f pc)]) ∧ Below w.heap.size w w' := by
  have CC := Lib.hid fun v W h => (pgCheck_any P hP hl) v W h
  have CA := Lib.hid fun v W h => pgAt_any P f pc v W h
  obtain ⟨vf, rfl, hF⟩ := h
  have hb2 := bel1 (W := w.alloc (.cells #[vf, .int .i64 P.mu, .int .i64 P.rw, .int .i64 P.gr] 58)) (.cells #[.int .i64 f, .int .i64 pc] 43)
  have HA := Lib.hid ((PrgB.new w 58 hF).bel hb2)
  have HS := Lib.hid (And.intro (cell_two w (.cells #[vf, .int .i64 P.mu, .int .i64 P.rw, .int .i64 P.gr] 58) #[.int .i64 f, .int .i64 pc] 43 0) (cell_two w (.cells #[vf, .int .i64 P.mu, .int .i64 P.rw, .int .i64 P.gr] 58) #[.int .i64 f, .int .i64 pc] 43 1))
  have HB := Lib.hid (belA (bel1 (W := w) (.cells #[vf, .int .i64 P.mu, .int .i64 P.rw, .int .i64 P.gr] 58)) (.cells #[.int .i64 f, .int .i64 pc] 43))
  unfold plcN plcE
  clear hF hb2
  cases r1 : rightP P with
  | false =>
    (unfold checkP at CC)
    rw [r1] at CC
    simp only [Bool.false_eq_true, if_false] at CC ⊢
    clear r1
    go_enter Tryz.func34, Tryz.ntmps34
    go_wp2_with fail
    generalize World.alloc (World.alloc _ _) _ = V at HA HB HS ⊢
    obtain ⟨a0, a1, a2, a3, -⟩ := HA.out
    refine (CC.out _ V HA.out.arg).mono ?_
    rintro e w1 ⟨rfl, hb⟩
    go_wp2_with fail
    go_ret2
    exact ⟨rfl, belT HB.out hb⟩
  | true =>
    (unfold checkP at CC)
    rw [r1] at CC
    simp only [if_true] at CC ⊢
    have HPs := Lib.hid (fun (h : atB P.funcs f pc = true) => atB_yes h)
    have HCd := Lib.hid (fun f (hf : f ∈ P.funcs) => (((numbersF_iff P).1 (right_fits r1).1).2 f hf).2.2)
    clear r1
    cases ha : atB P.funcs f pc with
    | false =>
      unfold AtQ at CA
      rw [ha] at CA
      simp only [Bool.false_eq_true, if_false] at CA ⊢
      clear ha HPs HCd
      go_enter Tryz.func34, Tryz.ntmps34
      go_wp2_with fail
      generalize World.alloc (World.alloc _ _) _ = V at HA HB HS ⊢
      obtain ⟨a0, a1, a2, a3, -⟩ := HA.out
      refine (CC.out _ V HA.out.arg).mono ?_
      rintro e w1 ⟨rfl, hb⟩
      have HB1 := Lib.hid (belT HB.out hb)
      have HA := Lib.hid (HA.out.bel hb)
      have HS := Lib.hid (And.intro (cell_bel HS.out.1 hb) (cell_bel HS.out.2 hb))
      clear hb
      obtain ⟨a0, a1, a2, a3, -⟩ := HA.out
      obtain ⟨s0, s1⟩ := HS.out
      go_wp2_with fail
      refine (CA.out _ w1 HA.out.arg).mono ?_
      rintro e w2 ⟨⟨op, a, b, c, m, rfl⟩, hb⟩
      unfold insV
      have HB2 := Lib.hid (belA (belT HB1.out hb) (.cells #[.int .i64 op, .int .i64 a, .int .i64 b, .int .i64 c, .int .u32 m] 29))
      clear hb a0 a1 a2 a3 s0 s1
      go_wp2_with fail
      go_ret2
      exact ⟨rfl, HB2.out⟩
    | true =>
      unfold AtQ at CA
      rw [ha] at CA
      simp only [if_true] at CA ⊢
      obtain ⟨i, j, rfl, rfl, hi, fn, hfn, hj⟩ := HPs.out ha
      have hcl : j ≤ 1000000 := by have := HCd.out fn (List.mem_of_getElem? hfn); omega
      have CP := Lib.hid fun v W h => asmPlace_any P i j (by omega) hl (fun g hg => by have := HCd.out g hg; omega) hcl v W h
      clear ha HPs HCd hi hfn hj hcl
      go_enter Tryz.func34, Tryz.ntmps34
      go_wp2_with fail
      generalize World.alloc (World.alloc _ _) _ = V at HA HB HS ⊢
      obtain ⟨a0, a1, a2, a3, -⟩ := HA.out
      refine (CC.out _ V HA.out.arg).mono ?_
      rintro e w1 ⟨rfl, hb⟩
      have HB1 := Lib.hid (belT HB.out hb)
      have HA := Lib.hid (HA.out.bel hb)
      have HS := Lib.hid (And.intro (cell_bel HS.out.1 hb) (cell_bel HS.out.2 hb))
      clear hb
      obtain ⟨a0, a1, a2, a3, -⟩ := HA.out
      obtain ⟨s0, s1⟩ := HS.out
      go_wp2_with fail
      refine (CA.out _ w1 HA.out.arg).mono ?_
      rintro e w2 ⟨⟨op, a, b, c, m, rfl⟩, hb⟩
      unfold insV
      have hb := belA hb (.cells #[.int .i64 op, .int .i64 a, .int .i64 b, .int .i64 c, .int .u32 m] 29)
      clear a0 a1 a2 a3 s0 s1
      have HB2 := Lib.hid (belT HB1.out hb)
      have HA := Lib.hid (HA.out.bel hb)
      have HS := Lib.hid (And.intro (cell_bel HS.out.1 hb) (cell_bel HS.out.2 hb))
      clear hb
      obtain ⟨a0, a1, a2, a3, -⟩ := HA.out
      obtain ⟨s0, s1⟩ := HS.out
      go_wp2_with fail
      refine (CP.out _ _ HA.out.arg).mono ?_
      rintro e w3 ⟨rfl, hb⟩
      have HB3 := Lib.hid (belT HB2.out hb)
      clear hb a0 a1 a2 a3 s0 s1
      go_wp2_with fail
      go_ret2
      exact ⟨by simp, HB3.out⟩
set_option maxRecDepth 100000 in
set_option maxHeartbeats 4000000 in
theorem rfPlc_any (P : ProgM) (hP : P.Fits) (hl : P.funcs.length ≤ 100000) (f pc : Int) (v : Value) (w : World) (h : ArgP w v P) :
    Calls Tryz.prog 35 #[v, .agg #[.int .i64 f, .int .i64 pc]] w fun e w' => e = .returned (.tuple #[.int .i64 (plcN P f pc), .int .i64 (plcE P f pc)]) ∧ Below w.heap.size w w' := by
  have CC := Lib.hid fun v W h => (rRightP_any P hP) v W h
  have CA := Lib.hid fun v W h => rfAt_any P f pc v W h
  obtain ⟨vf, rfl, hF⟩ := h
  have hb2 := bel1 (W := w.alloc (.cells #[vf, .int .i64 P.mu, .int .i64 P.rw, .int .i64 P.gr] 58)) (.cells #[.int .i64 f, .int .i64 pc] 43)
  have HA := Lib.hid ((PrgB.new w 58 hF).bel hb2)
  have HS := Lib.hid (And.intro (cell_two w (.cells #[vf, .int .i64 P.mu, .int .i64 P.rw, .int .i64 P.gr] 58) #[.int .i64 f, .int .i64 pc] 43 0) (cell_two w (.cells #[vf, .int .i64 P.mu, .int .i64 P.rw, .int .i64 P.gr] 58) #[.int .i64 f, .int .i64 pc] 43 1))
  have HB := Lib.hid (belA (bel1 (W := w) (.cells #[vf, .int .i64 P.mu, .int .i64 P.rw, .int .i64 P.gr] 58)) (.cells #[.int .i64 f, .int .i64 pc] 43))
  unfold plcN plcE
  clear hF hb2
  cases r1 : rightP P with
  | false =>
    skip
    rw [r1] at CC
    simp only [Bool.false_eq_true, if_false] at CC ⊢
    clear r1
    go_enter Tryz.func35, Tryz.ntmps35
    go_wp2_with fail
    generalize World.alloc (World.alloc _ _) _ = V at HA HB HS ⊢
    obtain ⟨a0, a1, a2, a3, -⟩ := HA.out
    refine (CC.out _ V HA.out.arg).mono ?_
    rintro e w1 ⟨rfl, hb⟩
    go_wp2_with fail
    go_ret2
    exact ⟨rfl, belT HB.out hb⟩
  | true =>
    skip
    rw [r1] at CC
    simp only [if_true] at CC ⊢
    have HPs := Lib.hid (fun (h : atB P.funcs f pc = true) => atB_yes h)
    have HCd := Lib.hid (fun f (hf : f ∈ P.funcs) => (((numbersF_iff P).1 (right_fits r1).1).2 f hf).2.2)
    clear r1
    cases ha : atB P.funcs f pc with
    | false =>
      unfold AtQ at CA
      rw [ha] at CA
      simp only [Bool.false_eq_true, if_false] at CA ⊢
      clear ha HPs HCd
      go_enter Tryz.func35, Tryz.ntmps35
      go_wp2_with fail
      generalize World.alloc (World.alloc _ _) _ = V at HA HB HS ⊢
      obtain ⟨a0, a1, a2, a3, -⟩ := HA.out
      refine (CC.out _ V HA.out.arg).mono ?_
      rintro e w1 ⟨rfl, hb⟩
      have HB1 := Lib.hid (belT HB.out hb)
      have HA := Lib.hid (HA.out.bel hb)
      have HS := Lib.hid (And.intro (cell_bel HS.out.1 hb) (cell_bel HS.out.2 hb))
      clear hb
      obtain ⟨a0, a1, a2, a3, -⟩ := HA.out
      obtain ⟨s0, s1⟩ := HS.out
      go_wp2_with fail
      refine (CA.out _ w1 HA.out.arg).mono ?_
      rintro e w2 ⟨⟨op, a, b, c, m, rfl⟩, hb⟩
      unfold insV
      have HB2 := Lib.hid (belA (belT HB1.out hb) (.cells #[.int .i64 op, .int .i64 a, .int .i64 b, .int .i64 c, .int .u32 m] 29))
      clear hb a0 a1 a2 a3 s0 s1
      go_wp2_with fail
      go_ret2
      exact ⟨rfl, HB2.out⟩
    | true =>
      unfold AtQ at CA
      rw [ha] at CA
      simp only [if_true] at CA ⊢
      obtain ⟨i, j, rfl, rfl, hi, fn, hfn, hj⟩ := HPs.out ha
      have hcl : j ≤ 1000000 := by have := HCd.out fn (List.mem_of_getElem? hfn); omega
      have CP := Lib.hid fun v W h => rfplace_any P i j (by omega) hl (fun g hg => by have := HCd.out g hg; omega) hcl v W h
      clear ha HPs HCd hi hfn hj hcl
      go_enter Tryz.func35, Tryz.ntmps35
      go_wp2_with fail
      generalize World.alloc (World.alloc _ _) _ = V at HA HB HS ⊢
      obtain ⟨a0, a1, a2, a3, -⟩ := HA.out
      refine (CC.out _ V HA.out.arg).mono ?_
      rintro e w1 ⟨rfl, hb⟩
      have HB1 := Lib.hid (belT HB.out hb)
      have HA := Lib.hid (HA.out.bel hb)
      have HS := Lib.hid (And.intro (cell_bel HS.out.1 hb) (cell_bel HS.out.2 hb))
      clear hb
      obtain ⟨a0, a1, a2, a3, -⟩ := HA.out
      obtain ⟨s0, s1⟩ := HS.out
      go_wp2_with fail
      refine (CA.out _ w1 HA.out.arg).mono ?_
      rintro e w2 ⟨⟨op, a, b, c, m, rfl⟩, hb⟩
      unfold insV
      have hb := belA hb (.cells #[.int .i64 op, .int .i64 a, .int .i64 b, .int .i64 c, .int .u32 m] 29)
      clear a0 a1 a2 a3 s0 s1
      have HB2 := Lib.hid (belT HB1.out hb)
      have HA := Lib.hid (HA.out.bel hb)
      have HS := Lib.hid (And.intro (cell_bel HS.out.1 hb) (cell_bel HS.out.2 hb))
      clear hb
      obtain ⟨a0, a1, a2, a3, -⟩ := HA.out
      obtain ⟨s0, s1⟩ := HS.out
      go_wp2_with fail
      refine (CP.out _ _ HA.out.arg).mono ?_
      rintro e w3 ⟨rfl, hb⟩
      have HB3 := Lib.hid (belT HB2.out hb)
      clear hb a0 a1 a2 a3 s0 s1
      go_wp2_with fail
      go_ret2
      exact ⟨by simp, HB3.out⟩
end Go.Proofs.YtfnfcngkaepnjaaGreatDoor

/- Layer 11: num, works, walked. -/
namespace Go.Proofs.YtfnfcngkaepnjaaGreatDoor
set_option linter.unusedVariables false
set_option linter.unusedSimpArgs false
open Go Go.Proofs Go.RowKit Go.Sort

theorem num11_any (n : Int) (w : World) : Calls Tryz.prog 27 #[.int .i64 n] w fun e w' => e = .returned (.int .i64 n) ∧ w = w' := by
  go_enter Tryz.func27, Tryz.ntmps27
  go_wp2
  go_ret
  exact ⟨rfl, rfl⟩

theorem prog1_arg (w : World) : ArgF ((w.alloc (.cells #[.int .i64 9, .int .i64 0, .int .i64 0, .int .i64 0, .int .u32 0] 29)).alloc (.cells #[.int .i64 1, .slice (some ⟨w.heap.size, 0, none⟩) 1 1] 114)) (.slice (some ⟨w.heap.size + 1, 0, none⟩) 1 1) P1.funcs := by
  have h1 := OwnW.made (enc := encN) (e := 29) (size := 5) (fun _ => rfl) w #[.int .i64 9, .int .i64 0, .int .i64 0, .int .i64 0, .int .u32 0] [⟨9, 0, 0, 0, 0⟩] 1 rfl (by simp) (by simp)
  have h2 := OwnW.made (enc := encF) (e := 114) (size := 2) (fun _ => rfl) (w.alloc (.cells #[.int .i64 9, .int .i64 0, .int .i64 0, .int .i64 0, .int .u32 0] 29)) #[.int .i64 1, .slice (some ⟨w.heap.size, 0, none⟩) 1 1] [(1, .slice (some ⟨w.heap.size, 0, none⟩) 1 1)] 1 rfl (by simp) (by simp)
  simp only [World.size_alloc] at h2
  refine ⟨[(1, .slice (some ⟨w.heap.size, 0, none⟩) 1 1)], h2.arg (fun _ => rfl), rfl, fun k r f hr hf => ?_⟩
  match k, hr, hf with
  | 0, hr, hf =>
    simp only [List.getElem?_cons_zero, Option.some.injEq] at hr hf
    subst hr
    subst hf
    exact ⟨rfl, (h1.bel (bel1 _)).arg (fun _ => rfl)⟩
  | k + 1, hr, hf => simp at hr

set_option maxRecDepth 100000 in
set_option maxHeartbeats 4000000 in
theorem works11_any (w : World) (hE : EnvM w) : Calls Tryz.prog 24 #[] w fun e w' => e = .returned (.bool true) ∧ Below w.heap.size w w' := by
  have b0 := belA (bel1 (W := w) (.cells #[.int .i64 9, .int .i64 0, .int .i64 0, .int .i64 0, .int .u32 0] 29)) (.cells #[.int .i64 1, .slice (some ⟨w.heap.size, 0, none⟩) 1 1] 114)
  have C1 := Lib.hid (asmPrint_any P1 ⟨fun f hf x hx => by simp at hf; subst hf; simp at hx; subst hx; decide⟩ (by decide) (progV (.slice (some ⟨w.heap.size + 1, 0, none⟩) 1 1) 1 0 0) _ (hE.env.on b0) ⟨_, rfl, prog1_arg w⟩)
  rw [print_1, show checkP P1 = 0 from by unfold checkP; rw [right_1]; rfl] at C1
  have C2 := Lib.hid fun W hE => asmParse_any tx2 (by decide) (by decide +kernel) W hE
  rw [lns_2.1, lns_2.2] at C2
  have C3 := Lib.hid fun W hE => asmParse_any tx3 (by decide) (by decide +kernel) W hE
  rw [lns_3.1, lns_3.2] at C3
  have HB0 := Lib.hid b0
  have HE := Lib.hid hE
  clear b0 hE
  go_enter Tryz.func24, Tryz.ntmps24
  go_wp2_with fail
  refine C1.out.mono ?_
  rintro e w1 ⟨rfl, hb1⟩
  have HB1 := Lib.hid (belT HB0.out hb1)
  clear C1 hb1
  go_wp2_with fail
  refine (C2.out w1 (HE.out.on HB1.out)).mono ?_
  rintro e w2 ⟨hq, hb2⟩
  rw [read_2] at hq
  obtain rfl := hq
  unfold asmV
  have HB2 := Lib.hid (belA (belT HB1.out hb2) (.cells #[.slice none 0 0, .int .i64 0, .int .i64 0, .int .i64 0] 58))
  clear C2 hb2
  go_wp2_with fail
  refine (C3.out _ (HE.out.on HB2.out)).mono ?_
  rintro e w3 ⟨hq, hb3⟩
  rw [read_3] at hq
  obtain rfl := hq
  unfold asmV
  have HB3 := Lib.hid (belA (belT HB2.out hb3) (.cells #[.slice none 0 0, .int .i64 0, .int .i64 0, .int .i64 0] 58))
  clear C3 hb3
  go_wp2_with (go_at_call 27; refine (num11_any _ _).mono ?_; rintro e wn ⟨rfl, rfl⟩)
  go_ret
  exact ⟨rfl, HB3.out⟩
end Go.Proofs.YtfnfcngkaepnjaaGreatDoor

/- Reference 09: are two programs the same? -/
namespace Go.Proofs.YtfnfcngkaepnjaaGreatDoor
set_option linter.unusedVariables false
set_option linter.unusedSimpArgs false
open Go Go.Proofs Go.RowKit Go.Sort

end Go.Proofs.YtfnfcngkaepnjaaGreatDoor

/- Layer 11: a program's text ends with a line. -/
namespace Go.Proofs.YtfnfcngkaepnjaaGreatDoor
set_option linter.unusedVariables false
set_option linter.unusedSimpArgs false
open Go Go.Proofs Go.RowKit Go.Sort

end Go.Proofs.YtfnfcngkaepnjaaGreatDoor
