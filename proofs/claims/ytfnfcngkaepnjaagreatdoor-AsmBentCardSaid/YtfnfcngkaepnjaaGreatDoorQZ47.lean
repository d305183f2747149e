/- Joined texts: Layer 11: AsmBent, walked. -/
import Derived.Test.YtfnfcngkaepnjaaGreatDoorQZ44
import Derived.Test.YtfnfcngkaepnjaaGreatDoorQZ45
import Derived.Test.YtfnfcngkaepnjaaGreatDoorQZ46
/- Layer 11: AsmBent, walked. -/
namespace Go.Proofs.YtfnfcngkaepnjaaGreatDoor
set_option linter.unusedVariables false
set_option linter.unusedSimpArgs false
open Go Go.Proofs Go.RowKit Go.Sort

set_option maxRecDepth 100000 in
set_option maxHeartbeats 4000000 in
theorem asmBent_row (u : Value) (P : ProgM) (at_ : Int) (line : ByteArray) (w : World) (hE : EnvM w) (hu : ArgP w u P) (hP : P.Fits) (hsP : fewSum (P.funcs.take 40) ≤ 4611686018427387904) (hat0 : -9223372036854775808 ≤ at_) (hat1 : at_ ≤ 9223372036854775807) (hls : line.size ≤ 9223372036854775807) :
    Calls Tryz.prog 7 #[u, .int .i64 at_, .string line] w fun e w' => e = .returned (.bool true) ∧ Below w.heap.size w w' := by
  have CF := Lib.hid fun W h => few2_any P hsP u W h
  have CRt := Lib.hid fun W h => rRightP_any P hP u W h
  obtain ⟨vf, rfl, hF⟩ := hu
  have HA := Lib.hid (PrgB.new w 58 hF)
  have HW := Lib.hid (bel1 (W := w) (.cells #[vf, .int .i64 P.mu, .int .i64 P.rw, .int .i64 P.gr] 58))
  have HE := Lib.hid hE
  have CW := Lib.hid fun W hE => works11_any W hE
  have HPF := Lib.hid hP
  clear hF hE hsP hP
  cases h1 : fewF P with
  | false =>
    rw [h1] at CF
    clear h1
    obtain ⟨a0, a1, a2, a3, -⟩ := HA.out
    go_enter Tryz.func7, Tryz.ntmps7
    go_wp2_with fail
    generalize World.alloc _ _ = V at HA HW a0 a1 a2 a3 ⊢
    refine (CF.out V HA.out.arg).mono ?_
    rintro e w1 ⟨rfl, hb1⟩
    have H1 := Lib.hid (belT HW.out hb1)
    have HA := Lib.hid (HA.out.bel hb1)
    clear hb1 a0 a1 a2 a3
    go_wp2_with fail
    refine (CW.out w1 (HE.out.on H1.out)).mono ?_
    rintro e w9 ⟨rfl, hb9⟩
    have H9 := Lib.hid (belT H1.out hb9)
    clear hb9
    go_wp2_with fail
    go_ret
    exact ⟨rfl, H9.out⟩
  | true =>
    rw [h1] at CF
    by_cases hl40 : 40 < line.size
    · have e1 : (40 : Int) < (line.size : Int) := by omega
      clear h1 hl40
      obtain ⟨a0, a1, a2, a3, -⟩ := HA.out
      go_enter Tryz.func7, Tryz.ntmps7
      go_wp2_with fail
      generalize World.alloc _ _ = V at HA HW a0 a1 a2 a3 ⊢
      refine (CF.out V HA.out.arg).mono ?_
      rintro e w1 ⟨rfl, hb1⟩
      have H1 := Lib.hid (belT HW.out hb1)
      have HA := Lib.hid (HA.out.bel hb1)
      clear hb1 a0 a1 a2 a3
      go_wp2_with fail
      refine (CW.out w1 (HE.out.on H1.out)).mono ?_
      rintro e w9 ⟨rfl, hb9⟩
      have H9 := Lib.hid (belT H1.out hb9)
      clear hb9
      go_wp2_with fail
      go_ret
      exact ⟨rfl, H9.out⟩
    have e1 : decide ((40 : Int) < (line.size : Int)) = false := decide_eq_false (by omega)
    cases r1 : rightP P with
    | false =>
      rw [r1] at CRt
      clear r1 h1
      obtain ⟨a0, a1, a2, a3, -⟩ := HA.out
      go_enter Tryz.func7, Tryz.ntmps7
      go_wp2_with fail
      generalize World.alloc _ _ = V at HA HW a0 a1 a2 a3 ⊢
      refine (CF.out V HA.out.arg).mono ?_
      rintro e w1 ⟨rfl, hb1⟩
      have H1 := Lib.hid (belT HW.out hb1)
      have HA := Lib.hid (HA.out.bel hb1)
      clear hb1 a0 a1 a2 a3
      obtain ⟨a0, a1, a2, a3, -⟩ := HA.out
      go_wp2_with fail
      refine (CRt.out w1 HA.out.arg).mono ?_
      rintro e w2 ⟨rfl, hb2⟩
      have H2 := Lib.hid (belT H1.out hb2)
      have HA := Lib.hid (HA.out.bel hb2)
      clear hb2 a0 a1 a2 a3
      go_wp2_with fail
      refine (CW.out w2 (HE.out.on H2.out)).mono ?_
      rintro e w9 ⟨rfl, hb9⟩
      have H9 := Lib.hid (belT H2.out hb9)
      clear hb9
      go_wp2_with fail
      go_ret
      exact ⟨rfl, H9.out⟩
    | true =>
      rw [r1] at CRt
      by_cases hn : at_ < 0
      · have e2 : decide (at_ < 0) = true := decide_eq_true hn
        clear h1 r1
        obtain ⟨a0, a1, a2, a3, -⟩ := HA.out
        go_enter Tryz.func7, Tryz.ntmps7
        go_wp2_with fail
        generalize World.alloc _ _ = V at HA HW a0 a1 a2 a3 ⊢
        refine (CF.out V HA.out.arg).mono ?_
        rintro e w1 ⟨rfl, hb1⟩
        have H1 := Lib.hid (belT HW.out hb1)
        have HA := Lib.hid (HA.out.bel hb1)
        clear hb1 a0 a1 a2 a3
        obtain ⟨a0, a1, a2, a3, -⟩ := HA.out
        go_wp2_with fail
        refine (CRt.out w1 HA.out.arg).mono ?_
        rintro e w2 ⟨rfl, hb2⟩
        have H2 := Lib.hid (belT H1.out hb2)
        have HA := Lib.hid (HA.out.bel hb2)
        clear hb2 a0 a1 a2 a3
        go_wp2_with fail
        refine (CW.out w2 (HE.out.on H2.out)).mono ?_
        rintro e w9 ⟨rfl, hb9⟩
        have H9 := Lib.hid (belT H2.out hb9)
        clear hb9
        go_wp2_with fail
        go_ret
        exact ⟨rfl, H9.out⟩
      obtain ⟨k, rfl⟩ := Int.eq_ofNat_of_zero_le (a := at_) (by omega)
      have CL := Lib.hid fun v W hE h => rfLines_any P HPF.out r1 v W hE h
      have HLF := Lib.hid (lines_few h1)
      have HOK := Lib.hid (lines_ok HPF.out r1)
      have e2 : decide ((k : Int) < 0) = false := decide_eq_false (by omega)
      have HL40 := Lib.hid hl40
      generalize hLL : linesF P = L at CL HLF HOK
      clear h1 r1 hn hLL hl40
      obtain ⟨a0, a1, a2, a3, -⟩ := HA.out
      go_enter Tryz.func7, Tryz.ntmps7
      go_wp2_with fail
      generalize World.alloc _ _ = V at HA HW a0 a1 a2 a3 ⊢
      refine (CF.out V HA.out.arg).mono ?_
      rintro e w1 ⟨rfl, hb1⟩
      have H1 := Lib.hid (belT HW.out hb1)
      have HA := Lib.hid (HA.out.bel hb1)
      clear hb1 a0 a1 a2 a3
      obtain ⟨a0, a1, a2, a3, -⟩ := HA.out
      go_wp2_with fail
      refine (CRt.out w1 HA.out.arg).mono ?_
      rintro e w2 ⟨rfl, hb2⟩
      have H2 := Lib.hid (belT H1.out hb2)
      have HA := Lib.hid (HA.out.bel hb2)
      clear hb2 a0 a1 a2 a3
      obtain ⟨a0, a1, a2, a3, -⟩ := HA.out
      go_wp2_with fail
      refine (CL.out _ w2 (HE.out.on H2.out).env HA.out.arg).mono ?_
      rintro e w3 ⟨vl, rfl, ho, hb3⟩
      obtain ⟨al, cl, rfl⟩ := ho.own.form
      have H3 := Lib.hid (belT H2.out hb3)
      have HO := Lib.hid ho
      have hlf := HLF.out
      have m2 : IntKind.i64.wrap (2 * (L.length : Int)) = 2 * (L.length : Int) := by rw [IntKind.wrap_i64]; omega
      clear hb3 a0 a1 a2 a3 ho HA
      by_cases hk2 : 2 * L.length ≤ k
      · have e3 : decide (2 * (L.length : Int) ≤ (k : Int)) = true := decide_eq_true (by omega)
        go_wp2_with fail
        refine (CW.out w3 (HE.out.on H3.out)).mono ?_
        rintro e w9 ⟨rfl, hb9⟩
        have H9 := Lib.hid (belT H3.out hb9)
        clear hb9
        go_wp2_with fail
        go_ret
        exact ⟨rfl, H9.out⟩
      have e3 : decide (2 * (L.length : Int) ≤ (k : Int)) = false := decide_eq_false (by omega)
      obtain ⟨g, cap, hv, hg1, -, -, hg4⟩ := HO.out.own.slice (by omega)
      simp only [Value.slice.injEq, true_and] at hv
      obtain ⟨rfl, rfl⟩ := hv
      by_cases hk1 : k < L.length
      · obtain ⟨x, hx⟩ : ∃ x, L[k]? = some x := ⟨L[k], List.getElem?_eq_getElem hk1⟩
        have c0 := OwnW.cell (enc := encS) (fun _ => rfl) HO.out.own k 0 x _ hx rfl
        have f0 := HO.out.froz k
        have hset := OwnU.set (enc := encS) (size := 1) (fun _ => rfl) HO.out k 0 x line (.string line) hx (by decide) rfl
        simp only [Nat.mul_one, Nat.add_zero] at c0 hset
        have HLa := Lib.hid (hset.own.arg rowS.len)
        have H4 := Lib.hid (H3.out.setCell (p := ⟨g, k, none⟩) (Nat.le_trans H2.out.size hg1) (.string line))
        obtain ⟨hok, hjl⟩ := okT_joined (L := L.set k line) (by rw [List.length_set]; exact hlf) (bent_set k HOK.out (by have := HL40.out; omega))
        have CT := Lib.hid fun v W h => rfText_any (L.set k line) (by rw [List.length_set]; omega) (by omega) v W h
        have HOk := Lib.hid hok
        generalize (⟨(joinedF (L.set k line)).toArray⟩ : ByteArray) = S at CT HOk
        clear hx hset hok hjl hk2 hg1 hg4
        go_wp2_with fail
        refine (CT.out _ _ HLa.out).mono ?_
        rintro e w4 ⟨rfl, hb4⟩
        have H5 := Lib.hid (belT H4.out hb4)
        clear hb4 c0 f0
        by_cases hm : line.size % 3 = 1
        · have hm' : (line.size : Int) % 3 = 1 := by omega
          by_cases hz : 0 < S.size
          · have q1 : 1 ≤ S.size := hz
            have q2 : (1 : Int) ≤ (S.size : Int) := by omega
            have q3 : wrap64 ((S.size : Int) - 1) = ((S.size - 1 : Nat) : Int) := by have := HOk.out.1; unfold wrap64; omega
            have q4 : ((S.size - 1 : Nat) : Int) ≤ (S.size : Int) := by omega
            have q5 : S.size - 1 ≤ S.size := by omega
            have HOk := Lib.hid (okT_cut HOk.out (S.size - 1))
            obtain ⟨T, hT⟩ : ∃ T, S.extract 0 (S.size - 1) = T := ⟨_, rfl⟩
            rw [hT] at HOk
            clear hm
            have CS := Lib.hid fun W hE => asmParse_any T (by have := HOk.out.1; omega) HOk.out.2 W hE
            have CR := Lib.hid fun W hE => rfParse_any T HOk.out.1 HOk.out.2 W hE
            generalize lnsO (nlF T) = LL at CS CR
            generalize endO (nlF T) = E at CS CR
            go_wp2_with fail
            refine (CS.out w4 (HE.out.on H5.out)).mono ?_
            rintro e w5 hq
            obtain ⟨vq, rfl, hFq, hb1⟩ := asmQ_all hq
            obtain ⟨aq, cq, rfl⟩ := hFq.form
            generalize hro : readO LL E = r at hFq ⊢
            generalize hP : readP r = Q at hFq ⊢
            generalize hN : readN LL.length r = n
            generalize hEr : readE r = er
            have HRO := Lib.hid hro
            have HP := Lib.hid hP
            have HNn := Lib.hid hN
            have HER := Lib.hid hEr
            unfold asmV
            have hA1 := PrgB.new (P := Q) w5 58 hFq
            have HA := Lib.hid hA1
            have H6 := Lib.hid (belT H5.out (belA hb1 (.cells #[.slice aq Q.funcs.length cq, .int .i64 Q.mu, .int .i64 Q.rw, .int .i64 Q.gr] 58)))
            clear hq hFq hb1 hA1 hro hP hN hEr
            go_wp2_with fail
            generalize w5.alloc _ = V1 at HA H6 ⊢
            refine (CR.out V1 (HE.out.on H6.out)).mono ?_
            rintro e w6 hq
            obtain ⟨vg, rfl, hFg, hb3⟩ := asmQ_all hq
            rw [HRO.out, HP.out, HNn.out, HER.out]
            rw [HRO.out, HP.out] at hFg
            obtain ⟨ag, cg, rfl⟩ := hFg.form
            unfold asmV
            have hb4 := bel1 (W := w6) (.cells #[.slice ag Q.funcs.length cg, .int .i64 Q.mu, .int .i64 Q.rw, .int .i64 Q.gr] 58)
            have HB := Lib.hid (PrgB.new (P := Q) w6 58 hFg)
            have HA := Lib.hid ((HA.out.bel hb3).bel hb4)
            have H7 := Lib.hid (belT (belT H6.out hb3) hb4)
            have CSm := Lib.hid fun u v W h k => rSame_any Q Q u v W h k
            rw [show decide (Q = Q) = true by simp] at CSm
            clear hq hFg hb3 hb4
            obtain ⟨a0, a1, a2, a3, -⟩ := HA.out
            obtain ⟨b0, b1, b2, b3, -⟩ := HB.out
            go_wp2_with fail
            generalize w6.alloc _ = V4 at HA HB H7 a0 a1 a2 a3 b0 b1 b2 b3 ⊢
            refine (CSm.out _ _ V4 HA.out.arg HB.out.arg).mono ?_
            rintro e w8 ⟨rfl, hb5⟩
            have H8 := Lib.hid (belT H7.out hb5)
            clear hb5 a0 a1 a2 a3 b0 b1 b2 b3 HB HA
            go_wp2_with (go_at_call 27; refine (num11_any _ _).mono ?_; rintro e wn ⟨rfl, rfl⟩)
            go_wp2_with fail
            refine (CW.out w8 (HE.out.on H8.out)).mono ?_
            rintro e w9 ⟨rfl, hb9⟩
            have H9 := Lib.hid (belT H8.out hb9)
            clear hb9
            go_wp2_with fail
            go_ret
            exact ⟨rfl, H9.out⟩
          · have hT : S = S := rfl
            clear hm hT
            generalize S = T at *
            have CS := Lib.hid fun W hE => asmParse_any T (by have := HOk.out.1; omega) HOk.out.2 W hE
            have CR := Lib.hid fun W hE => rfParse_any T HOk.out.1 HOk.out.2 W hE
            generalize lnsO (nlF T) = LL at CS CR
            generalize endO (nlF T) = E at CS CR
            go_wp2_with fail
            refine (CS.out w4 (HE.out.on H5.out)).mono ?_
            rintro e w5 hq
            obtain ⟨vq, rfl, hFq, hb1⟩ := asmQ_all hq
            obtain ⟨aq, cq, rfl⟩ := hFq.form
            generalize hro : readO LL E = r at hFq ⊢
            generalize hP : readP r = Q at hFq ⊢
            generalize hN : readN LL.length r = n
            generalize hEr : readE r = er
            have HRO := Lib.hid hro
            have HP := Lib.hid hP
            have HNn := Lib.hid hN
            have HER := Lib.hid hEr
            unfold asmV
            have hA1 := PrgB.new (P := Q) w5 58 hFq
            have HA := Lib.hid hA1
            have H6 := Lib.hid (belT H5.out (belA hb1 (.cells #[.slice aq Q.funcs.length cq, .int .i64 Q.mu, .int .i64 Q.rw, .int .i64 Q.gr] 58)))
            clear hq hFq hb1 hA1 hro hP hN hEr
            go_wp2_with fail
            generalize w5.alloc _ = V1 at HA H6 ⊢
            refine (CR.out V1 (HE.out.on H6.out)).mono ?_
            rintro e w6 hq
            obtain ⟨vg, rfl, hFg, hb3⟩ := asmQ_all hq
            rw [HRO.out, HP.out, HNn.out, HER.out]
            rw [HRO.out, HP.out] at hFg
            obtain ⟨ag, cg, rfl⟩ := hFg.form
            unfold asmV
            have hb4 := bel1 (W := w6) (.cells #[.slice ag Q.funcs.length cg, .int .i64 Q.mu, .int .i64 Q.rw, .int .i64 Q.gr] 58)
            have HB := Lib.hid (PrgB.new (P := Q) w6 58 hFg)
            have HA := Lib.hid ((HA.out.bel hb3).bel hb4)
            have H7 := Lib.hid (belT (belT H6.out hb3) hb4)
            have CSm := Lib.hid fun u v W h k => rSame_any Q Q u v W h k
            rw [show decide (Q = Q) = true by simp] at CSm
            clear hq hFg hb3 hb4
            obtain ⟨a0, a1, a2, a3, -⟩ := HA.out
            obtain ⟨b0, b1, b2, b3, -⟩ := HB.out
            go_wp2_with fail
            generalize w6.alloc _ = V4 at HA HB H7 a0 a1 a2 a3 b0 b1 b2 b3 ⊢
            refine (CSm.out _ _ V4 HA.out.arg HB.out.arg).mono ?_
            rintro e w8 ⟨rfl, hb5⟩
            have H8 := Lib.hid (belT H7.out hb5)
            clear hb5 a0 a1 a2 a3 b0 b1 b2 b3 HB HA
            go_wp2_with (go_at_call 27; refine (num11_any _ _).mono ?_; rintro e wn ⟨rfl, rfl⟩)
            go_wp2_with fail
            refine (CW.out w8 (HE.out.on H8.out)).mono ?_
            rintro e w9 ⟨rfl, hb9⟩
            have H9 := Lib.hid (belT H8.out hb9)
            clear hb9
            go_wp2_with fail
            go_ret
            exact ⟨rfl, H9.out⟩
        · have hm' : ¬ (line.size : Int) % 3 = 1 := by omega
          clear hm
          generalize S = T at *
          have CS := Lib.hid fun W hE => asmParse_any T (by have := HOk.out.1; omega) HOk.out.2 W hE
          have CR := Lib.hid fun W hE => rfParse_any T HOk.out.1 HOk.out.2 W hE
          generalize lnsO (nlF T) = LL at CS CR
          generalize endO (nlF T) = E at CS CR
          go_wp2_with fail
          refine (CS.out w4 (HE.out.on H5.out)).mono ?_
          rintro e w5 hq
          obtain ⟨vq, rfl, hFq, hb1⟩ := asmQ_all hq
          obtain ⟨aq, cq, rfl⟩ := hFq.form
          generalize hro : readO LL E = r at hFq ⊢
          generalize hP : readP r = Q at hFq ⊢
          generalize hN : readN LL.length r = n
          generalize hEr : readE r = er
          have HRO := Lib.hid hro
          have HP := Lib.hid hP
          have HNn := Lib.hid hN
          have HER := Lib.hid hEr
          unfold asmV
          have hA1 := PrgB.new (P := Q) w5 58 hFq
          have HA := Lib.hid hA1
          have H6 := Lib.hid (belT H5.out (belA hb1 (.cells #[.slice aq Q.funcs.length cq, .int .i64 Q.mu, .int .i64 Q.rw, .int .i64 Q.gr] 58)))
          clear hq hFq hb1 hA1 hro hP hN hEr
          go_wp2_with fail
          generalize w5.alloc _ = V1 at HA H6 ⊢
          refine (CR.out V1 (HE.out.on H6.out)).mono ?_
          rintro e w6 hq
          obtain ⟨vg, rfl, hFg, hb3⟩ := asmQ_all hq
          rw [HRO.out, HP.out, HNn.out, HER.out]
          rw [HRO.out, HP.out] at hFg
          obtain ⟨ag, cg, rfl⟩ := hFg.form
          unfold asmV
          have hb4 := bel1 (W := w6) (.cells #[.slice ag Q.funcs.length cg, .int .i64 Q.mu, .int .i64 Q.rw, .int .i64 Q.gr] 58)
          have HB := Lib.hid (PrgB.new (P := Q) w6 58 hFg)
          have HA := Lib.hid ((HA.out.bel hb3).bel hb4)
          have H7 := Lib.hid (belT (belT H6.out hb3) hb4)
          have CSm := Lib.hid fun u v W h k => rSame_any Q Q u v W h k
          rw [show decide (Q = Q) = true by simp] at CSm
          clear hq hFg hb3 hb4
          obtain ⟨a0, a1, a2, a3, -⟩ := HA.out
          obtain ⟨b0, b1, b2, b3, -⟩ := HB.out
          go_wp2_with fail
          generalize w6.alloc _ = V4 at HA HB H7 a0 a1 a2 a3 b0 b1 b2 b3 ⊢
          refine (CSm.out _ _ V4 HA.out.arg HB.out.arg).mono ?_
          rintro e w8 ⟨rfl, hb5⟩
          have H8 := Lib.hid (belT H7.out hb5)
          clear hb5 a0 a1 a2 a3 b0 b1 b2 b3 HB HA
          go_wp2_with (go_at_call 27; refine (num11_any _ _).mono ?_; rintro e wn ⟨rfl, rfl⟩)
          go_wp2_with fail
          refine (CW.out w8 (HE.out.on H8.out)).mono ?_
          rintro e w9 ⟨rfl, hb9⟩
          have H9 := Lib.hid (belT H8.out hb9)
          clear hb9
          go_wp2_with fail
          go_ret
          exact ⟨rfl, H9.out⟩
      · obtain ⟨i, hi⟩ : ∃ i, k = L.length + i := ⟨k - L.length, by omega⟩
        have hil : i < L.length := by omega
        have m5 : IntKind.i64.wrap ((k : Int) - (L.length : Int)) = (i : Int) := by rw [IntKind.wrap_i64]; omega
        have m6 : IntKind.i64.wrap ((i : Int) + 1) = (i : Int) + 1 := by rw [IntKind.wrap_i64]; omega
        have hcap : L.length ≤ cl := by
          obtain ⟨g', cap', hv', _, hc', _, _⟩ := HO.out.own.slice (by omega)
          simp only [Value.slice.injEq, Option.some.injEq, Addr.mk.injEq, and_true, true_and] at hv'
          obtain ⟨_, rfl⟩ := hv'
          exact hc'
        have hs1 := fun W => slice_str ⟨g, 0, none⟩ L.length cl i (Nat.le_of_lt hil) hcap W
        obtain ⟨o, c', ho, hs2⟩ := slice_fromS g L.length cl (i + 1) hil hcap
        rw [show ((i + 1 : Nat) : Int) = (i : Int) + 1 by omega] at hs2
        have HIL := Lib.hid hil
        have HOo := Lib.hid ho
        have HIK := Lib.hid hi
        have hbd : Below w3.heap.size w3 w3.drew := (Below.refl _ _).drew
        have HO0 := Lib.hid (HO.out.bel hbd)
        have H30 := Lib.hid (belT H3.out hbd)
        have hgl : g < w3.drew.heap.size := hg4
        have hk1' : decide ((k : Int) < (L.length : Int)) = false := decide_eq_false (by omega)
        clear hi hil ho hcap hk2 hg1 hg4 hbd
        go_wp2_with fail
        clear hk1 hk1'
        refine wp_region_R (S := fun _ => True) 16 (by kernel_rfl) (by simp) trivial (fun hHeld => ?_)
        generalize w3.drew = V0 at HO0 H30 hgl hHeld ⊢
        refine anyR_take (i := 1) (v := ?_) rfl (by kernel_rfl) (by kernel_rfl) (by kernel_rfl) (fun _ _ _ h => h) (Or.inl ⟨by rfl, ?_⟩) (by assumption) ?_
        rotate_left
        · (intro w hSw; (try dsimp only at hSw); go_simp)
          all_goals with_reducible rfl
        try simp only [Act.put, List.getElem_toArray, List.getElem_cons_succ, List.getElem_cons_zero, List.setIfInBounds_toArray, List.set_cons_zero, List.set_cons_succ]
        refine anyR_take (i := 2) (v := ?_) rfl (by kernel_rfl) (by kernel_rfl) (by kernel_rfl) (fun _ _ _ h => h) (Or.inl ⟨by rfl, ?_⟩) (by assumption) ?_
        rotate_left
        · (intro w hSw; (try dsimp only at hSw); go_simp)
          all_goals with_reducible rfl
        try simp only [Act.put, List.getElem_toArray, List.getElem_cons_succ, List.getElem_cons_zero, List.setIfInBounds_toArray, List.set_cons_zero, List.set_cons_succ]
        refine anyR_take (i := 3) (v := ?_) rfl (by kernel_rfl) (by kernel_rfl) (by kernel_rfl) (fun _ _ _ h => h) (Or.inl ⟨by rfl, ?_⟩) (by assumption) ?_
        rotate_left
        · (intro w hSw; (try dsimp only at hSw); go_simp)
          all_goals with_reducible rfl
        try simp only [Act.put, List.getElem_toArray, List.getElem_cons_succ, List.getElem_cons_zero, List.setIfInBounds_toArray, List.set_cons_zero, List.set_cons_succ]
        refine anyR_take (i := 4) (v := ?_) rfl (by kernel_rfl) (by kernel_rfl) (by kernel_rfl) (fun _ _ _ h => h) (Or.inl ⟨by rfl, ?_⟩) (by assumption) ?_
        rotate_left
        · (intro w hSw; (try dsimp only at hSw); go_simp)
          all_goals with_reducible rfl
        try simp only [Act.put, List.getElem_toArray, List.getElem_cons_succ, List.getElem_cons_zero, List.setIfInBounds_toArray, List.set_cons_zero, List.set_cons_succ]
        refine anyR_take (i := 5) (v := ?_) rfl (by kernel_rfl) (by kernel_rfl) (by kernel_rfl) (fun _ _ _ h => h) (Or.inl ⟨by rfl, ?_⟩) (by assumption) ?_
        rotate_left
        · (intro w hSw; (try dsimp only at hSw); go_simp)
          all_goals with_reducible rfl
        try simp only [Act.put, List.getElem_toArray, List.getElem_cons_succ, List.getElem_cons_zero, List.setIfInBounds_toArray, List.set_cons_zero, List.set_cons_succ]
        refine anyR_take (i := 6) (v := ?_) rfl (by kernel_rfl) (by kernel_rfl) (by kernel_rfl) (fun _ _ _ h => h) (Or.inl ⟨by rfl, ?_⟩) (by assumption) ?_
        rotate_left
        · (intro w hSw; (try dsimp only at hSw); go_simp)
          all_goals with_reducible rfl
        try simp only [Act.put, List.getElem_toArray, List.getElem_cons_succ, List.getElem_cons_zero, List.setIfInBounds_toArray, List.set_cons_zero, List.set_cons_succ]
        refine anyR_take (i := 8) (v := ?_) rfl (by kernel_rfl) (by kernel_rfl) (by kernel_rfl) (fun _ _ _ h => h) (Or.inl ⟨by rfl, ?_⟩) (by assumption) ?_
        rotate_left
        · (intro w hSw; (try dsimp only at hSw); go_simp)
          all_goals with_reducible rfl
        try simp only [Act.put, List.getElem_toArray, List.getElem_cons_succ, List.getElem_cons_zero, List.setIfInBounds_toArray, List.set_cons_zero, List.set_cons_succ]
        refine anyR_take (i := 9) (v := ?_) rfl (by kernel_rfl) (by kernel_rfl) (by kernel_rfl) (fun _ _ _ h => h) (Or.inl ⟨by rfl, ?_⟩) (by assumption) ?_
        rotate_left
        · (intro w hSw; (try dsimp only at hSw); go_simp)
          all_goals with_reducible rfl
        try simp only [Act.put, List.getElem_toArray, List.getElem_cons_succ, List.getElem_cons_zero, List.setIfInBounds_toArray, List.set_cons_zero, List.set_cons_succ]
        refine anyR_take (i := 10) (v := ?_) rfl (by kernel_rfl) (by kernel_rfl) (by kernel_rfl) (fun _ _ _ h => h) (Or.inl ⟨by rfl, ?_⟩) (by assumption) ?_
        rotate_left
        · (intro w hSw; (try dsimp only at hSw); go_simp)
          all_goals with_reducible rfl
        try simp only [Act.put, List.getElem_toArray, List.getElem_cons_succ, List.getElem_cons_zero, List.setIfInBounds_toArray, List.set_cons_zero, List.set_cons_succ]
        refine anyR_take (i := 11) (v := ?_) rfl (by kernel_rfl) (by kernel_rfl) (by kernel_rfl) (fun _ _ _ h => h) (Or.inl ⟨by rfl, ?_⟩) (by assumption) ?_
        rotate_left
        · (intro w hSw; (try dsimp only at hSw); go_simp)
          all_goals with_reducible rfl
        try simp only [Act.put, List.getElem_toArray, List.getElem_cons_succ, List.getElem_cons_zero, List.setIfInBounds_toArray, List.set_cons_zero, List.set_cons_succ]
        refine anyR_take (i := 12) (v := ?_) rfl (by kernel_rfl) (by kernel_rfl) (by kernel_rfl) (fun _ _ _ h => h) (Or.inl ⟨by rfl, ?_⟩) (by assumption) ?_
        rotate_left
        · (intro w hSw; (try dsimp only at hSw); go_simp)
          all_goals with_reducible rfl
        try simp only [Act.put, List.getElem_toArray, List.getElem_cons_succ, List.getElem_cons_zero, List.setIfInBounds_toArray, List.set_cons_zero, List.set_cons_succ]
        refine anyR_take (i := 13) (v := ?_) rfl (by kernel_rfl) (by kernel_rfl) (by kernel_rfl) (fun _ _ _ h => h) (Or.inl ⟨by rfl, ?_⟩) (by assumption) ?_
        rotate_left
        · (intro w hSw; (try dsimp only at hSw); go_simp)
          all_goals with_reducible rfl
        try simp only [Act.put, List.getElem_toArray, List.getElem_cons_succ, List.getElem_cons_zero, List.setIfInBounds_toArray, List.set_cons_zero, List.set_cons_succ]
        refine anyR_take (i := 14) (v := ?_) rfl (by kernel_rfl) (by kernel_rfl) (by kernel_rfl) (fun _ _ _ h => h) (Or.inl ⟨by rfl, ?_⟩) (by assumption) ?_
        rotate_left
        · (intro w hSw; (try dsimp only at hSw); go_simp)
          all_goals with_reducible rfl
        try simp only [Act.put, List.getElem_toArray, List.getElem_cons_succ, List.getElem_cons_zero, List.setIfInBounds_toArray, List.set_cons_zero, List.set_cons_succ]
        refine anyR_ready (rs := [0]) (by kernel_rfl) (by simp) (by decide) ?_
        refine AllReadyR.cons rfl (fun K hK => ?_) AllReadyR.nil
        go_simp
        have hE0 := OwnW.made (e := 9) rowS.len V0 #[] ([] : List ByteArray) 0 rfl rfl (by decide)
        have HO1 := Lib.hid (HO0.out.bel (bel1 (.cells #[] 9)))
        have H31 := Lib.hid (belA H30.out (.cells #[] 9))
        refine hK.out _ _ trivial (fun hHeld => ?_)
        clear hK K
        try simp only [Act.put, List.getElem_toArray, List.getElem_cons_succ, List.getElem_cons_zero, List.setIfInBounds_toArray, List.set_cons_zero, List.set_cons_succ]
        refine anyR_ready (rs := [7]) (by kernel_rfl) (by simp) (by decide) ?_
        refine AllReadyR.cons rfl (fun K hK => ?_) AllReadyR.nil
        have hti : (L.take i).length = i := by rw [List.length_take]; have := HIL.out; omega
        obtain ⟨v5, w5, r1, hO5, hg5, hb5⟩ := append_A_run rowS 67 hE0 ⟨g, 0, none⟩ cl (L.take i) (row_take HO1.out i) (by rw [hti]; have := HLF.out; have := HIL.out; simp only [List.length_nil]; omega) (by rw [World.size_alloc]; omega)
        rw [hti] at r1
        refine step_append_run rfl _ _ rfl rfl rfl r1 ?_
        refine hK.out _ _ trivial (fun hHeld => ?_)
        clear hK K
        try simp only [Act.put, List.getElem_toArray, List.getElem_cons_succ, List.getElem_cons_zero, List.setIfInBounds_toArray, List.set_cons_zero, List.set_cons_succ]
        refine anyR_ready (rs := [15]) (by kernel_rfl) (by simp) (by decide) ?_
        refine AllReadyR.cons rfl (fun K hK => ?_) AllReadyR.nil
        have hdl : (L.drop (i + 1)).length = L.length - (i + 1) := List.length_drop
        have hbase5 : V0.heap.size ≤ w5.heap.size := Nat.le_trans (by simp) hb5.size
        obtain ⟨v6, w6, r2, hO6, hg6, hb6⟩ := append_A_run rowS 67 hO5 ⟨g, o, none⟩ c' (L.drop (i + 1)) (fun j u hj => by
          have h1 := row_drop HO1.out (i + 1) o HOo.out j u hj
          rw [WideShapes.add_plain] at h1 ⊢
          exact (cell_below hb5 hgl).trans h1) (by rw [hdl, List.nil_append, hti]; have := HIL.out; omega) hbase5
        rw [hdl] at r2
        refine step_append_run rfl _ _ rfl rfl rfl r2 ?_
        refine hK.out _ _ trivial (fun hHeld => ?_)
        clear hK K hHeld
        try simp only [Act.put, List.getElem_toArray, List.getElem_cons_succ, List.getElem_cons_zero, List.setIfInBounds_toArray, List.set_cons_zero, List.set_cons_succ]
        simp only [List.nil_append] at hO6
        have H4 := Lib.hid ((H31.out.trans (hb5.mono (by have := H30.out.size; exact this))).trans (hb6.mono (by have := H30.out.size; exact this)))
        obtain ⟨hok, hjl⟩ := okT_joined (L := L.take i ++ L.drop (i + 1)) (by rw [List.length_append, hti, hdl]; have := HIL.out; omega) (bent_cut i HOK.out)
        have hlen : (L.take i ++ L.drop (i + 1)).length ≤ 643 := by rw [List.length_append, hti, hdl]; have := HIL.out; omega
        generalize L.take i ++ L.drop (i + 1) = L' at hO6 hok hjl hlen
        have HLa := Lib.hid (hO6.arg rowS.len)
        obtain ⟨a6, c6, rfl⟩ := hO6.form
        have CT := Lib.hid fun v W h => rfText_any L' (by omega) (by omega) v W h
        have HOk := Lib.hid hok
        generalize (⟨(joinedF L').toArray⟩ : ByteArray) = S at CT HOk
        clear r1 r2 hO5 hO6 hg5 hg6 hb5 hb6 hE0 hok hjl hti hdl hbase5 hs1 hs2 m5 m6 hgl hlen
        refine anyR_end (by kernel_rfl) ?_
        refine wpAny_ready (rs := [16]) (by kernel_rfl) (by simp) ?_
        refine AllReady.cons rfl (fun K hK => ?_) AllReady.nil
        go_simp
        refine hK _ _ ?_
        clear hK K
        try simp only [Act.put, List.getElem_toArray, List.getElem_cons_succ, List.getElem_cons_zero, List.setIfInBounds_toArray, List.set_cons_zero, List.set_cons_succ]
        refine wpAny_done (by kernel_rfl) ?_ _
        go_wp2_with fail
        refine (CT.out _ _ HLa.out).mono ?_
        rintro e w4 ⟨rfl, hb4⟩
        have H5 := Lib.hid (belT H4.out hb4)
        clear hb4
        by_cases hm : line.size % 3 = 1
        · have hm' : (line.size : Int) % 3 = 1 := by omega
          by_cases hz : 0 < S.size
          · have q1 : 1 ≤ S.size := hz
            have q2 : (1 : Int) ≤ (S.size : Int) := by omega
            have q3 : wrap64 ((S.size : Int) - 1) = ((S.size - 1 : Nat) : Int) := by have := HOk.out.1; unfold wrap64; omega
            have q4 : ((S.size - 1 : Nat) : Int) ≤ (S.size : Int) := by omega
            have q5 : S.size - 1 ≤ S.size := by omega
            have HOk := Lib.hid (okT_cut HOk.out (S.size - 1))
            obtain ⟨T, hT⟩ : ∃ T, S.extract 0 (S.size - 1) = T := ⟨_, rfl⟩
            rw [hT] at HOk
            clear hm
            have CS := Lib.hid fun W hE => asmParse_any T (by have := HOk.out.1; omega) HOk.out.2 W hE
            have CR := Lib.hid fun W hE => rfParse_any T HOk.out.1 HOk.out.2 W hE
            generalize lnsO (nlF T) = LL at CS CR
            generalize endO (nlF T) = E at CS CR
            go_wp2_with fail
            refine (CS.out w4 (HE.out.on H5.out)).mono ?_
            rintro e w5 hq
            obtain ⟨vq, rfl, hFq, hb1⟩ := asmQ_all hq
            obtain ⟨aq, cq, rfl⟩ := hFq.form
            generalize hro : readO LL E = r at hFq ⊢
            generalize hP : readP r = Q at hFq ⊢
            generalize hN : readN LL.length r = n
            generalize hEr : readE r = er
            have HRO := Lib.hid hro
            have HP := Lib.hid hP
            have HNn := Lib.hid hN
            have HER := Lib.hid hEr
            unfold asmV
            have hA1 := PrgB.new (P := Q) w5 58 hFq
            have HA := Lib.hid hA1
            have H6 := Lib.hid (belT H5.out (belA hb1 (.cells #[.slice aq Q.funcs.length cq, .int .i64 Q.mu, .int .i64 Q.rw, .int .i64 Q.gr] 58)))
            clear hq hFq hb1 hA1 hro hP hN hEr
            go_wp2_with fail
            generalize w5.alloc _ = V1 at HA H6 ⊢
            refine (CR.out V1 (HE.out.on H6.out)).mono ?_
            rintro e w6 hq
            obtain ⟨vg, rfl, hFg, hb3⟩ := asmQ_all hq
            rw [HRO.out, HP.out, HNn.out, HER.out]
            rw [HRO.out, HP.out] at hFg
            obtain ⟨ag, cg, rfl⟩ := hFg.form
            unfold asmV
            have hb4 := bel1 (W := w6) (.cells #[.slice ag Q.funcs.length cg, .int .i64 Q.mu, .int .i64 Q.rw, .int .i64 Q.gr] 58)
            have HB := Lib.hid (PrgB.new (P := Q) w6 58 hFg)
            have HA := Lib.hid ((HA.out.bel hb3).bel hb4)
            have H7 := Lib.hid (belT (belT H6.out hb3) hb4)
            have CSm := Lib.hid fun u v W h k => rSame_any Q Q u v W h k
            rw [show decide (Q = Q) = true by simp] at CSm
            clear hq hFg hb3 hb4
            obtain ⟨a0, a1, a2, a3, -⟩ := HA.out
            obtain ⟨b0, b1, b2, b3, -⟩ := HB.out
            go_wp2_with fail
            generalize w6.alloc _ = V4 at HA HB H7 a0 a1 a2 a3 b0 b1 b2 b3 ⊢
            refine (CSm.out _ _ V4 HA.out.arg HB.out.arg).mono ?_
            rintro e w8 ⟨rfl, hb5⟩
            have H8 := Lib.hid (belT H7.out hb5)
            clear hb5 a0 a1 a2 a3 b0 b1 b2 b3 HB HA
            go_wp2_with (go_at_call 27; refine (num11_any _ _).mono ?_; rintro e wn ⟨rfl, rfl⟩)
            go_wp2_with fail
            refine (CW.out w8 (HE.out.on H8.out)).mono ?_
            rintro e w9 ⟨rfl, hb9⟩
            have H9 := Lib.hid (belT H8.out hb9)
            clear hb9
            go_wp2_with fail
            go_ret
            exact ⟨rfl, H9.out⟩
          · have hT : S = S := rfl
            clear hm hT
            generalize S = T at *
            have CS := Lib.hid fun W hE => asmParse_any T (by have := HOk.out.1; omega) HOk.out.2 W hE
            have CR := Lib.hid fun W hE => rfParse_any T HOk.out.1 HOk.out.2 W hE
            generalize lnsO (nlF T) = LL at CS CR
            generalize endO (nlF T) = E at CS CR
            go_wp2_with fail
            refine (CS.out w4 (HE.out.on H5.out)).mono ?_
            rintro e w5 hq
            obtain ⟨vq, rfl, hFq, hb1⟩ := asmQ_all hq
            obtain ⟨aq, cq, rfl⟩ := hFq.form
            generalize hro : readO LL E = r at hFq ⊢
            generalize hP : readP r = Q at hFq ⊢
            generalize hN : readN LL.length r = n
            generalize hEr : readE r = er
            have HRO := Lib.hid hro
            have HP := Lib.hid hP
            have HNn := Lib.hid hN
            have HER := Lib.hid hEr
            unfold asmV
            have hA1 := PrgB.new (P := Q) w5 58 hFq
            have HA := Lib.hid hA1
            have H6 := Lib.hid (belT H5.out (belA hb1 (.cells #[.slice aq Q.funcs.length cq, .int .i64 Q.mu, .int .i64 Q.rw, .int .i64 Q.gr] 58)))
            clear hq hFq hb1 hA1 hro hP hN hEr
            go_wp2_with fail
            generalize w5.alloc _ = V1 at HA H6 ⊢
            refine (CR.out V1 (HE.out.on H6.out)).mono ?_
            rintro e w6 hq
            obtain ⟨vg, rfl, hFg, hb3⟩ := asmQ_all hq
            rw [HRO.out, HP.out, HNn.out, HER.out]
            rw [HRO.out, HP.out] at hFg
            obtain ⟨ag, cg, rfl⟩ := hFg.form
            unfold asmV
            have hb4 := bel1 (W := w6) (.cells #[.slice ag Q.funcs.length cg, .int .i64 Q.mu, .int .i64 Q.rw, .int .i64 Q.gr] 58)
            have HB := Lib.hid (PrgB.new (P := Q) w6 58 hFg)
            have HA := Lib.hid ((HA.out.bel hb3).bel hb4)
            have H7 := Lib.hid (belT (belT H6.out hb3) hb4)
            have CSm := Lib.hid fun u v W h k => rSame_any Q Q u v W h k
            rw [show decide (Q = Q) = true by simp] at CSm
            clear hq hFg hb3 hb4
            obtain ⟨a0, a1, a2, a3, -⟩ := HA.out
            obtain ⟨b0, b1, b2, b3, -⟩ := HB.out
            go_wp2_with fail
            generalize w6.alloc _ = V4 at HA HB H7 a0 a1 a2 a3 b0 b1 b2 b3 ⊢
            refine (CSm.out _ _ V4 HA.out.arg HB.out.arg).mono ?_
            rintro e w8 ⟨rfl, hb5⟩
            have H8 := Lib.hid (belT H7.out hb5)
            clear hb5 a0 a1 a2 a3 b0 b1 b2 b3 HB HA
            go_wp2_with (go_at_call 27; refine (num11_any _ _).mono ?_; rintro e wn ⟨rfl, rfl⟩)
            go_wp2_with fail
            refine (CW.out w8 (HE.out.on H8.out)).mono ?_
            rintro e w9 ⟨rfl, hb9⟩
            have H9 := Lib.hid (belT H8.out hb9)
            clear hb9
            go_wp2_with fail
            go_ret
            exact ⟨rfl, H9.out⟩
        · have hm' : ¬ (line.size : Int) % 3 = 1 := by omega
          clear hm
          generalize S = T at *
          have CS := Lib.hid fun W hE => asmParse_any T (by have := HOk.out.1; omega) HOk.out.2 W hE
          have CR := Lib.hid fun W hE => rfParse_any T HOk.out.1 HOk.out.2 W hE
          generalize lnsO (nlF T) = LL at CS CR
          generalize endO (nlF T) = E at CS CR
          go_wp2_with fail
          refine (CS.out w4 (HE.out.on H5.out)).mono ?_
          rintro e w5 hq
          obtain ⟨vq, rfl, hFq, hb1⟩ := asmQ_all hq
          obtain ⟨aq, cq, rfl⟩ := hFq.form
          generalize hro : readO LL E = r at hFq ⊢
          generalize hP : readP r = Q at hFq ⊢
          generalize hN : readN LL.length r = n
          generalize hEr : readE r = er
          have HRO := Lib.hid hro
          have HP := Lib.hid hP
          have HNn := Lib.hid hN
          have HER := Lib.hid hEr
          unfold asmV
          have hA1 := PrgB.new (P := Q) w5 58 hFq
          have HA := Lib.hid hA1
          have H6 := Lib.hid (belT H5.out (belA hb1 (.cells #[.slice aq Q.funcs.length cq, .int .i64 Q.mu, .int .i64 Q.rw, .int .i64 Q.gr] 58)))
          clear hq hFq hb1 hA1 hro hP hN hEr
          go_wp2_with fail
          generalize w5.alloc _ = V1 at HA H6 ⊢
          refine (CR.out V1 (HE.out.on H6.out)).mono ?_
          rintro e w6 hq
          obtain ⟨vg, rfl, hFg, hb3⟩ := asmQ_all hq
          rw [HRO.out, HP.out, HNn.out, HER.out]
          rw [HRO.out, HP.out] at hFg
          obtain ⟨ag, cg, rfl⟩ := hFg.form
          unfold asmV
          have hb4 := bel1 (W := w6) (.cells #[.slice ag Q.funcs.length cg, .int .i64 Q.mu, .int .i64 Q.rw, .int .i64 Q.gr] 58)
          have HB := Lib.hid (PrgB.new (P := Q) w6 58 hFg)
          have HA := Lib.hid ((HA.out.bel hb3).bel hb4)
          have H7 := Lib.hid (belT (belT H6.out hb3) hb4)
          have CSm := Lib.hid fun u v W h k => rSame_any Q Q u v W h k
          rw [show decide (Q = Q) = true by simp] at CSm
          clear hq hFg hb3 hb4
          obtain ⟨a0, a1, a2, a3, -⟩ := HA.out
          obtain ⟨b0, b1, b2, b3, -⟩ := HB.out
          go_wp2_with fail
          generalize w6.alloc _ = V4 at HA HB H7 a0 a1 a2 a3 b0 b1 b2 b3 ⊢
          refine (CSm.out _ _ V4 HA.out.arg HB.out.arg).mono ?_
          rintro e w8 ⟨rfl, hb5⟩
          have H8 := Lib.hid (belT H7.out hb5)
          clear hb5 a0 a1 a2 a3 b0 b1 b2 b3 HB HA
          go_wp2_with (go_at_call 27; refine (num11_any _ _).mono ?_; rintro e wn ⟨rfl, rfl⟩)
          go_wp2_with fail
          refine (CW.out w8 (HE.out.on H8.out)).mono ?_
          rintro e w9 ⟨rfl, hb9⟩
          have H9 := Lib.hid (belT H8.out hb9)
          clear hb9
          go_wp2_with fail
          go_ret
          exact ⟨rfl, H9.out⟩
end Go.Proofs.YtfnfcngkaepnjaaGreatDoor
