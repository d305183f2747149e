/- Joined texts: Package asm: Parse, of any text. -/
import Derived.Test.YtfnfcngkaepnjaaGreatDoorQL38
import Derived.StillTailTactics
/- Package asm: Parse, of any text. -/
namespace Go.Proofs.YtfnfcngkaepnjaaGreatDoor
set_option linter.unusedVariables false
set_option linter.unusedSimpArgs false
open Go Go.Proofs Go.RowKit Go.Sort

set_option maxRecDepth 100000 in
set_option maxHeartbeats 4000000 in
theorem asmParse_any (s : ByteArray) (hs : s.size < 4294967281) (hn : (nlF s).length ≤ 90001) (w : World) (hE : EnvM w) :
    Calls Tryz.prog 28 #[.string s] w (AsmQ (lnsO (nlF s)) (endO (nlF s)) w) := by
  have CS := Lib.hid fun W hE => nl_any s (by omega) W hE
  have HZ := Lib.hid (show ∀ x ∈ nlF s, x.size < 4294967281 from fun x hx => by have := nl_size s x hx; omega)
  have hl1 : 1 ≤ (nlF s).length := by rw [nl_length]; omega
  have hl2 : (nlF s).length ≤ 90001 := hn
  clear hn
  generalize nlF s = L0 at CS HZ hl1 hl2 ⊢
  obtain ⟨xl, hxl⟩ : ∃ x, L0[L0.length - 1]? = some x := ⟨L0[L0.length - 1]'(by omega), List.getElem?_eq_getElem _⟩
  have HXL := Lib.hid hxl
  clear hxl
  cases hx : xl.toList.isEmpty with
  | false =>
    obtain ⟨he, hl⟩ := lnsO_off HXL.out hx
    rw [he, hl]
    clear he hl
    have hmf : ∀ (fn : Fn) (first cap : Array Value) (w : World), (Instr.makeFunc fn first cap).run Tryz.prog w = .ok (.func fn first cap) w := fun _ _ _ _ => rfl
    go_enter_defers Tryz.func28, Tryz.ntmps28
    go_wp2_with fail
    have h0 := Lib.hid (paP_start w)
    have hE0 := Lib.hid (hE.on h0.out.bel)
    refine (CS.out _ hE0.out).mono ?_
    rintro e w1 ⟨rfl, rfl⟩
    simp only [World.size_alloc]
    have h1 := Lib.hid (h0.out.more (bel1 (.cells (L0.map Value.string).toArray 9)))
    have hW : WdL (w.heap.size + 1 + 1 + 1) L0 (World.alloc (((w.alloc (.cells #[.slice none 0 0, .int .i64 0, .int .i64 0, .int .i64 0] 58)).alloc (.cells #[.int .i64 0] 3)).alloc (.cells #[.int .i64 0] 38)) (.cells (L0.map Value.string).toArray 9)) := fun j x hj => by
      have := cell_new (((w.alloc (.cells #[.slice none 0 0, .int .i64 0, .int .i64 0, .int .i64 0] 58)).alloc (.cells #[.int .i64 0] 3)).alloc (.cells #[.int .i64 0] 38)) (L0.map Value.string).toArray 9 j
      simp only [World.size_alloc] at this
      rw [this]
      simp [hj]
    have hsz : (World.alloc (((w.alloc (.cells #[.slice none 0 0, .int .i64 0, .int .i64 0, .int .i64 0] 58)).alloc (.cells #[.int .i64 0] 3)).alloc (.cells #[.int .i64 0] 38)) (.cells (L0.map Value.string).toArray 9)).heap.size = w.heap.size + 1 + 1 + 1 + 1 := by simp
    clear h0 hE0 CS
    generalize World.alloc (World.alloc _ _) _ = W1 at h1 hW hsz ⊢
    have HSZ := Lib.hid hsz
    clear hsz
    have x0 := hW _ _ HXL.out
    have q0 : (0 : Int) ≤ (L0.length : Int) - 1 := by omega
    have q1 : (L0.length : Int) - 1 < (L0.length : Int) := by omega
    have q2 : ((L0.length : Int) - 1).toNat = L0.length - 1 := by omega
    have q3 : IntKind.i64.wrap ((L0.length : Int) - 1) = (L0.length : Int) - 1 := by rw [IntKind.wrap_i64]; omega
    have HW := Lib.hid hW
    clear hW
    have hE1 := hE.on (h1.out.bel.mono (Nat.le_refl _))
    have HE1 := Lib.hid hE1
    clear hE hE1
    have HWL := HW
    have HZL := HZ
    clear HXL HW HZ
    generalize L0 = L at *
    go_wp2_with fail
    go_loopw [32] (fun vi wr => ∃ k : Nat, vi = .int .i64 k ∧ k ≤ L.length ∧ ∃ P Q vf, Hid (linesO 0 L zeroP = linesO k (L.drop k) P) ∧ Hid (Small k P) ∧ Hid (Q.map QFn.f = P.funcs) ∧ Hid (RdB (W1.heap.size + 1) W1.heap.size Q vf P.mu P.rw P.gr wr) ∧ Hid (Below W1.heap.size W1 wr)) (fun vi _ => L.length - (intOf vi).toNat)
    case atStart => exact ⟨0, rfl, by omega, zeroP, [], _, Lib.hid rfl, Lib.hid small_zero, Lib.hid rfl, Lib.hid (RdB.new _ _), Lib.hid (bel1 _)⟩
    case round =>
      obtain ⟨k, rfl, hk, P, Q, vf, HLO, HSM, HQ, HRB, HBW⟩ := hrel
      have HP := Lib.hid (h1.out.more HBW.out)
      have HEr := Lib.hid (HE1.out.on HBW.out)
      by_cases hlt : k < L.length
      · obtain ⟨x, hx⟩ : ∃ x, L[k]? = some x := ⟨L[k], List.getElem?_eq_getElem hlt⟩
        have x0 := (HWL.out.bel HBW.out) k x hx
        have CL := Lib.hid (line_any (W1.heap.size + 1) W1.heap.size k (by omega) x (HZL.out x (List.mem_of_getElem? hx)) Q vf P HSM.out wr HEr.out HQ.out HRB.out)
        have hdr := Lib.hid (show linesO k (L.drop k) P = linesO k (x :: L.drop (k + 1)) P by
          obtain ⟨h2, h3⟩ := List.getElem?_eq_some_iff.1 hx
          rw [List.drop_eq_getElem_cons h2, h3])
        clear hx
        go_wp2_with fail
        refine CL.out.mono ?_
        rintro e w5 ⟨hq, hb5⟩
        have HP5 := Lib.hid (HP.out.below hb5 (by have := HSZ.out; omega))
        have HB5 := Lib.hid (HBW.out.trans hb5)
        cases hst : stepO k x P with
        | none =>
          rw [hst] at hq
          obtain rfl := hq
          have HRO := Lib.hid (show readO L false = .error k by
            unfold readO
            rw [HLO.out, hdr.out]
            simp only [linesO, hst])
          clear hst x0 hb5 CL
          go_wp2_with fail
          refine asmParse_panics w _ _ _ _ _ _ _ HP5.out k _ rfl rfl rfl _ (fun w' hb => ⟨?_, hb⟩)
          rw [HRO.out]
        | some P' =>
          rw [hst] at hq
          obtain ⟨rfl, Q', vf', hq1, hq2⟩ := hq
          have HQ1 := Lib.hid hq1
          have HQ2 := Lib.hid hq2
          have HLO2 := Lib.hid (show linesO 0 L zeroP = linesO (k + 1) (L.drop (k + 1)) P' by
            rw [HLO.out, hdr.out]
            simp only [linesO, hst])
          have HSM2 := Lib.hid (stepO_small HSM.out hst)
          clear hst x0 hb5 CL hq1 hq2
          go_wp2_with fail
          exact ⟨⟨k + 1, by go_num, by omega, P', Q', vf', HLO2, HSM2, HQ1, HQ2, HB5⟩, by simp [intOf]; omega⟩
      · have hk2 : k = L.length := by omega
        subst hk2
        have HLO := Lib.hid (show linesO 0 L zeroP = .ok P by
          rw [HLO.out, List.drop_of_length_le (Nat.le_refl _)]
          rfl)
        have hQP : P.funcs.length = Q.length := by rw [← HQ.out, List.length_map]
        have HQP := Lib.hid hQP
        obtain ⟨av, cv, hvf⟩ := HRB.out.fns.form
        subst hvf
        have c0 := HRB.out.c0
        by_cases hn0 : Q.length = 0
        · have e0 : decide (0 < Q.length) = false := decide_eq_false (by omega)
          have HRO := Lib.hid (show readO L false = .error L.length by
            unfold readO
            rw [HLO.out]
            simp only [hQP, hn0, if_true])
          clear hn0 hQP
          go_wp2_with (go_at_call 68; refine (asmMust_no _ _).mono ?_; rintro e w3 ⟨rfl, rfl⟩)
          refine asmParse_panics w _ _ _ _ _ _ _ HP.out L.length _ rfl rfl rfl _ (fun w' hb => ⟨?_, hb⟩)
          rw [HRO.out]
        · have e0 : decide (0 < Q.length) = true := decide_eq_true (by omega)
          have HNZ := Lib.hid (show ¬ P.funcs.length = 0 by omega)
          have HPL := Lib.hid (show P.funcs.length ≤ 100000 by have := HSM.out.len; omega)
          have hAF : ArgF wr (.slice av Q.length cv) P.funcs := (by have := HRB.out.fns.arg; rw [HQ.out] at this; exact this)
          have CW := Lib.hid (pgWrong_any P HSM.out.fits HPL.out (progV (.slice av Q.length cv) P.mu P.rw P.gr) wr ⟨_, rfl, hAF⟩)
          have c1 := HRB.out.c1
          have c2 := HRB.out.c2
          have c3 := HRB.out.c3
          have HHL := Lib.hid hk
          clear hn0 hQP hAF
          go_wp2_with (go_at_call 68; refine (asmMust_yes _ _).mono ?_; rintro e w3 ⟨rfl, rfl⟩)
          refine CW.out.mono ?_
          rintro e w6 ⟨rfl, hb6⟩
          cases hwp : wrongP P with
          | some q =>
            obtain ⟨f, pc⟩ := q
            unfold wrongV
            dsimp only
            have HRO := Lib.hid (show readO L false = .error (placeF P.funcs f pc) by
              unfold readO
              rw [HLO.out]
              simp only [HNZ.out, if_false, hwp])
            obtain ⟨fn, xi, hfn, hxi⟩ := wrongP_at hwp
            have hf1 : f < P.funcs.length := (List.getElem?_eq_some_iff.1 hfn).1
            have hpc : pc ≤ 1000000 := by
              have h1 := (List.getElem?_eq_some_iff.1 hxi).1
              have h2 := HSM.out.code fn (List.mem_of_getElem? hfn)
              omega
            have hb7 := belA hb6 (.cells #[.int .i64 f, .int .i64 pc] 43)
            have hb8 := hb7.drew
            have HR8 := Lib.hid (HRB.out.bel hb8)
            have CP := Lib.hid fun W (hW : ArgF W (.slice av Q.length cv) P.funcs) => asmPlace_any P f pc hf1 HPL.out (fun g hg => by have := HSM.out.code g hg; omega) hpc (progV (.slice av Q.length cv) P.mu P.rw P.gr) W ⟨_, rfl, hW⟩
            have HP8 := Lib.hid (HP.out.more hb8)
            have d0 := HR8.out.c0
            have d1 := HR8.out.c1
            have d2 := HR8.out.c2
            have d3 := HR8.out.c3
            have s0 : (w6.alloc (.cells #[.int .i64 f, .int .i64 pc] 43)).drew.cell? ⟨w6.heap.size, 0, none⟩ = some (.int .i64 f) := cell_new w6 _ _ 0
            have s1 : (w6.alloc (.cells #[.int .i64 f, .int .i64 pc] 43)).drew.cell? ⟨w6.heap.size, 1, none⟩ = some (.int .i64 pc) := cell_new w6 _ _ 1
            clear c0 c1 c2 c3 hb6 hb7 hb8 hwp hfn hxi hf1 hpc CW
            go_wp2_with fail
            refine wp_region_tail 5 (by kernel_rfl) (by kernel_rfl) ?_
            intro W2 hW2
            rw [hW2] at d0 d1 d2 d3 s0 s1 HR8 HP8
            clear hW2
            simp only [List.take_succ_cons, List.take_zero, List.drop_succ_cons, List.drop_zero]
            repeat still_step
            refine wpStill_nil ?_
            have hA2 : ArgF W2 (.slice av Q.length cv) P.funcs := (by have := HR8.out.fns.arg; rw [HQ.out] at this; exact this)
            have HA2 := Lib.hid hA2
            clear d0 d1 d2 d3 s0 s1 hA2
            go_wp2_with fail
            refine (CP.out W2 HA2.out).mono ?_
            rintro e w9 ⟨rfl, hb9⟩
            have HP9 := Lib.hid (HP8.out.more hb9)
            clear hb9 CP
            go_wp2_with (go_at_call 68; refine (asmMust_no _ _).mono ?_; rintro e w3 ⟨rfl, rfl⟩)
            refine asmParse_panics w _ _ _ _ _ _ _ HP9.out (placeF P.funcs f pc) _ rfl rfl rfl _ (fun w' hb => ⟨?_, hb⟩)
            rw [HRO.out]
          | none =>
            unfold wrongV
            dsimp only
            have hb7 := belA hb6 (.cells #[.int .i64 0, .int .i64 0] 43)
            have HR8 := Lib.hid (HRB.out.bel hb7)
            have HP8 := Lib.hid (HP.out.more hb7)
            have d0 := HR8.out.c0
            have d1 := HR8.out.c1
            have d2 := HR8.out.c2
            have d3 := HR8.out.c3
            have hA2 : ArgF (w6.alloc (.cells #[.int .i64 0, .int .i64 0] 43)) (.slice av Q.length cv) P.funcs := (by have := HR8.out.fns.arg; rw [HQ.out] at this; exact this)
            have CC := Lib.hid (pgCheck_any P HSM.out.fits HPL.out (progV (.slice av Q.length cv) P.mu P.rw P.gr) _ ⟨_, rfl, hA2⟩)
            have HWP := Lib.hid hwp
            clear c0 c1 c2 c3 hb6 hb7 hA2 hwp CW
            go_wp2_with fail
            refine CC.out.mono ?_
            rintro e w9 ⟨rfl, hb9⟩
            have HP9 := Lib.hid (HP8.out.more hb9)
            have HR9 := Lib.hid (HR8.out.bel hb9)
            clear d0 d1 d2 d3 hb9 CC
            unfold checkP
            cases hrp : rightP P with
            | false =>
              have HRO := Lib.hid (show readO L false = .error L.length by
                unfold readO
                rw [HLO.out]
                simp only [HNZ.out, if_false, HWP.out, hrp, Bool.false_eq_true, false_and, and_false])
              clear hrp HWP
              go_wp2_with (go_at_call 68; refine (asmMust_no _ _).mono ?_; rintro e w3 ⟨rfl, rfl⟩)
              refine asmParse_panics w _ _ _ _ _ _ _ HP9.out L.length _ rfl rfl rfl _ (fun w' hb => ⟨?_, hb⟩)
              rw [HRO.out]
            | true =>
              have HRO := Lib.hid (show readO L false = .error L.length by
                unfold readO
                rw [HLO.out]
                simp only [HNZ.out, if_false, HWP.out, hrp, Bool.false_eq_true, false_and, and_false])
              clear hrp HWP
              go_wp2_with (go_at_call 68; refine (asmMust_no _ _).mono ?_; rintro e w3 ⟨rfl, rfl⟩)
              refine asmParse_panics w _ _ _ _ _ _ _ HP9.out L.length _ rfl rfl rfl _ (fun w' hb => ⟨?_, hb⟩)
              rw [HRO.out]
  | true =>
    obtain ⟨he, hl⟩ := lnsO_on HXL.out hx
    rw [he]
    have HLn := Lib.hid (show (lnsO L0).length = L0.length - 1 by rw [hl, List.length_take]; omega)
    have HZL := Lib.hid (show ∀ x ∈ lnsO L0, x.size < 4294967281 from fun x hx => HZ.out x (by rw [hl] at hx; exact List.mem_of_mem_take hx))
    have HTK := Lib.hid (show ∀ S W, WdL S L0 W → WdL S (lnsO L0) W from fun S W h => by rw [hl]; exact h.take _)
    have HSL := Lib.hid (show ∀ ad W, (Instr.slice 67 (.slice (some ad) L0.length L0.length) none (some (.int .i64 ((L0.length : Int) - 1))) none).run Tryz.prog W = .ok (.slice (some ad) (lnsO L0).length L0.length) W from fun ad W => by
      rw [show ((L0.length : Int) - 1) = ((L0.length - 1 : Nat) : Int) by omega, hl, List.length_take, Nat.min_eq_left (by omega)]
      exact slice_str ad L0.length L0.length (L0.length - 1) (by omega) (Nat.le_refl _) W)
    clear he hl
    generalize lnsO L0 = L at HLn HZL HTK HSL ⊢
    have hmf : ∀ (fn : Fn) (first cap : Array Value) (w : World), (Instr.makeFunc fn first cap).run Tryz.prog w = .ok (.func fn first cap) w := fun _ _ _ _ => rfl
    go_enter_defers Tryz.func28, Tryz.ntmps28
    go_wp2_with fail
    have h0 := Lib.hid (paP_start w)
    have hE0 := Lib.hid (hE.on h0.out.bel)
    refine (CS.out _ hE0.out).mono ?_
    rintro e w1 ⟨rfl, rfl⟩
    simp only [World.size_alloc]
    have h1 := Lib.hid (h0.out.more (bel1 (.cells (L0.map Value.string).toArray 9)))
    have hW : WdL (w.heap.size + 1 + 1 + 1) L0 (World.alloc (((w.alloc (.cells #[.slice none 0 0, .int .i64 0, .int .i64 0, .int .i64 0] 58)).alloc (.cells #[.int .i64 0] 3)).alloc (.cells #[.int .i64 0] 38)) (.cells (L0.map Value.string).toArray 9)) := fun j x hj => by
      have := cell_new (((w.alloc (.cells #[.slice none 0 0, .int .i64 0, .int .i64 0, .int .i64 0] 58)).alloc (.cells #[.int .i64 0] 3)).alloc (.cells #[.int .i64 0] 38)) (L0.map Value.string).toArray 9 j
      simp only [World.size_alloc] at this
      rw [this]
      simp [hj]
    have hsz : (World.alloc (((w.alloc (.cells #[.slice none 0 0, .int .i64 0, .int .i64 0, .int .i64 0] 58)).alloc (.cells #[.int .i64 0] 3)).alloc (.cells #[.int .i64 0] 38)) (.cells (L0.map Value.string).toArray 9)).heap.size = w.heap.size + 1 + 1 + 1 + 1 := by simp
    clear h0 hE0 CS
    generalize World.alloc (World.alloc _ _) _ = W1 at h1 hW hsz ⊢
    have HSZ := Lib.hid hsz
    clear hsz
    have x0 := hW _ _ HXL.out
    have q0 : (0 : Int) ≤ (L0.length : Int) - 1 := by omega
    have q1 : (L0.length : Int) - 1 < (L0.length : Int) := by omega
    have q2 : ((L0.length : Int) - 1).toNat = L0.length - 1 := by omega
    have q3 : IntKind.i64.wrap ((L0.length : Int) - 1) = (L0.length : Int) - 1 := by rw [IntKind.wrap_i64]; omega
    have HW := Lib.hid hW
    clear hW
    have hE1 := hE.on (h1.out.bel.mono (Nat.le_refl _))
    have HE1 := Lib.hid hE1
    clear hE hE1
    have HWL := Lib.hid (HTK.out _ _ HW.out)
    have hsl := HSL.out
    clear HXL HW HZ HTK HSL
    have hll : L.length ≤ 90001 := by have := HLn.out; omega
    go_wp2_with fail
    go_loopw [32] (fun vi wr => ∃ k : Nat, vi = .int .i64 k ∧ k ≤ L.length ∧ ∃ P Q vf, Hid (linesO 0 L zeroP = linesO k (L.drop k) P) ∧ Hid (Small k P) ∧ Hid (Q.map QFn.f = P.funcs) ∧ Hid (RdB (W1.heap.size + 1) W1.heap.size Q vf P.mu P.rw P.gr wr) ∧ Hid (Below W1.heap.size W1 wr)) (fun vi _ => L.length - (intOf vi).toNat)
    case atStart => exact ⟨0, rfl, by omega, zeroP, [], _, Lib.hid rfl, Lib.hid small_zero, Lib.hid rfl, Lib.hid (RdB.new _ _), Lib.hid (bel1 _)⟩
    case round =>
      obtain ⟨k, rfl, hk, P, Q, vf, HLO, HSM, HQ, HRB, HBW⟩ := hrel
      have HP := Lib.hid (h1.out.more HBW.out)
      have HEr := Lib.hid (HE1.out.on HBW.out)
      by_cases hlt : k < L.length
      · obtain ⟨x, hx⟩ : ∃ x, L[k]? = some x := ⟨L[k], List.getElem?_eq_getElem hlt⟩
        have x0 := (HWL.out.bel HBW.out) k x hx
        have CL := Lib.hid (line_any (W1.heap.size + 1) W1.heap.size k (by omega) x (HZL.out x (List.mem_of_getElem? hx)) Q vf P HSM.out wr HEr.out HQ.out HRB.out)
        have hdr := Lib.hid (show linesO k (L.drop k) P = linesO k (x :: L.drop (k + 1)) P by
          obtain ⟨h2, h3⟩ := List.getElem?_eq_some_iff.1 hx
          rw [List.drop_eq_getElem_cons h2, h3])
        clear hx
        go_wp2_with fail
        refine CL.out.mono ?_
        rintro e w5 ⟨hq, hb5⟩
        have HP5 := Lib.hid (HP.out.below hb5 (by have := HSZ.out; omega))
        have HB5 := Lib.hid (HBW.out.trans hb5)
        cases hst : stepO k x P with
        | none =>
          rw [hst] at hq
          obtain rfl := hq
          have HRO := Lib.hid (show readO L true = .error k by
            unfold readO
            rw [HLO.out, hdr.out]
            simp only [linesO, hst])
          clear hst x0 hb5 CL
          go_wp2_with fail
          refine asmParse_panics w _ _ _ _ _ _ _ HP5.out k _ rfl rfl rfl _ (fun w' hb => ⟨?_, hb⟩)
          rw [HRO.out]
        | some P' =>
          rw [hst] at hq
          obtain ⟨rfl, Q', vf', hq1, hq2⟩ := hq
          have HQ1 := Lib.hid hq1
          have HQ2 := Lib.hid hq2
          have HLO2 := Lib.hid (show linesO 0 L zeroP = linesO (k + 1) (L.drop (k + 1)) P' by
            rw [HLO.out, hdr.out]
            simp only [linesO, hst])
          have HSM2 := Lib.hid (stepO_small HSM.out hst)
          clear hst x0 hb5 CL hq1 hq2
          go_wp2_with fail
          exact ⟨⟨k + 1, by go_num, by omega, P', Q', vf', HLO2, HSM2, HQ1, HQ2, HB5⟩, by simp [intOf]; omega⟩
      · have hk2 : k = L.length := by omega
        subst hk2
        have HLO := Lib.hid (show linesO 0 L zeroP = .ok P by
          rw [HLO.out, List.drop_of_length_le (Nat.le_refl _)]
          rfl)
        have hQP : P.funcs.length = Q.length := by rw [← HQ.out, List.length_map]
        have HQP := Lib.hid hQP
        obtain ⟨av, cv, hvf⟩ := HRB.out.fns.form
        subst hvf
        have c0 := HRB.out.c0
        by_cases hn0 : Q.length = 0
        · have e0 : decide (0 < Q.length) = false := decide_eq_false (by omega)
          have HRO := Lib.hid (show readO L true = .error L.length by
            unfold readO
            rw [HLO.out]
            simp only [hQP, hn0, if_true])
          clear hn0 hQP
          go_wp2_with (go_at_call 68; refine (asmMust_no _ _).mono ?_; rintro e w3 ⟨rfl, rfl⟩)
          refine asmParse_panics w _ _ _ _ _ _ _ HP.out L.length _ rfl rfl rfl _ (fun w' hb => ⟨?_, hb⟩)
          rw [HRO.out]
        · have e0 : decide (0 < Q.length) = true := decide_eq_true (by omega)
          have HNZ := Lib.hid (show ¬ P.funcs.length = 0 by omega)
          have HPL := Lib.hid (show P.funcs.length ≤ 100000 by have := HSM.out.len; omega)
          have hAF : ArgF wr (.slice av Q.length cv) P.funcs := (by have := HRB.out.fns.arg; rw [HQ.out] at this; exact this)
          have CW := Lib.hid (pgWrong_any P HSM.out.fits HPL.out (progV (.slice av Q.length cv) P.mu P.rw P.gr) wr ⟨_, rfl, hAF⟩)
          have c1 := HRB.out.c1
          have c2 := HRB.out.c2
          have c3 := HRB.out.c3
          have HHL := Lib.hid hk
          clear hn0 hQP hAF
          go_wp2_with (go_at_call 68; refine (asmMust_yes _ _).mono ?_; rintro e w3 ⟨rfl, rfl⟩)
          refine CW.out.mono ?_
          rintro e w6 ⟨rfl, hb6⟩
          cases hwp : wrongP P with
          | some q =>
            obtain ⟨f, pc⟩ := q
            unfold wrongV
            dsimp only
            have HRO := Lib.hid (show readO L true = .error (placeF P.funcs f pc) by
              unfold readO
              rw [HLO.out]
              simp only [HNZ.out, if_false, hwp])
            obtain ⟨fn, xi, hfn, hxi⟩ := wrongP_at hwp
            have hf1 : f < P.funcs.length := (List.getElem?_eq_some_iff.1 hfn).1
            have hpc : pc ≤ 1000000 := by
              have h1 := (List.getElem?_eq_some_iff.1 hxi).1
              have h2 := HSM.out.code fn (List.mem_of_getElem? hfn)
              omega
            have hb7 := belA hb6 (.cells #[.int .i64 f, .int .i64 pc] 43)
            have hb8 := hb7.drew
            have HR8 := Lib.hid (HRB.out.bel hb8)
            have CP := Lib.hid fun W (hW : ArgF W (.slice av Q.length cv) P.funcs) => asmPlace_any P f pc hf1 HPL.out (fun g hg => by have := HSM.out.code g hg; omega) hpc (progV (.slice av Q.length cv) P.mu P.rw P.gr) W ⟨_, rfl, hW⟩
            have HP8 := Lib.hid (HP.out.more hb8)
            have d0 := HR8.out.c0
            have d1 := HR8.out.c1
            have d2 := HR8.out.c2
            have d3 := HR8.out.c3
            have s0 : (w6.alloc (.cells #[.int .i64 f, .int .i64 pc] 43)).drew.cell? ⟨w6.heap.size, 0, none⟩ = some (.int .i64 f) := cell_new w6 _ _ 0
            have s1 : (w6.alloc (.cells #[.int .i64 f, .int .i64 pc] 43)).drew.cell? ⟨w6.heap.size, 1, none⟩ = some (.int .i64 pc) := cell_new w6 _ _ 1
            clear c0 c1 c2 c3 hb6 hb7 hb8 hwp hfn hxi hf1 hpc CW
            go_wp2_with fail
            refine wp_region_tail 5 (by kernel_rfl) (by kernel_rfl) ?_
            intro W2 hW2
            rw [hW2] at d0 d1 d2 d3 s0 s1 HR8 HP8
            clear hW2
            simp only [List.take_succ_cons, List.take_zero, List.drop_succ_cons, List.drop_zero]
            repeat still_step
            refine wpStill_nil ?_
            have hA2 : ArgF W2 (.slice av Q.length cv) P.funcs := (by have := HR8.out.fns.arg; rw [HQ.out] at this; exact this)
            have HA2 := Lib.hid hA2
            clear d0 d1 d2 d3 s0 s1 hA2
            go_wp2_with fail
            refine (CP.out W2 HA2.out).mono ?_
            rintro e w9 ⟨rfl, hb9⟩
            have HP9 := Lib.hid (HP8.out.more hb9)
            clear hb9 CP
            go_wp2_with (go_at_call 68; refine (asmMust_no _ _).mono ?_; rintro e w3 ⟨rfl, rfl⟩)
            refine asmParse_panics w _ _ _ _ _ _ _ HP9.out (placeF P.funcs f pc) _ rfl rfl rfl _ (fun w' hb => ⟨?_, hb⟩)
            rw [HRO.out]
          | none =>
            unfold wrongV
            dsimp only
            have hb7 := belA hb6 (.cells #[.int .i64 0, .int .i64 0] 43)
            have HR8 := Lib.hid (HRB.out.bel hb7)
            have HP8 := Lib.hid (HP.out.more hb7)
            have d0 := HR8.out.c0
            have d1 := HR8.out.c1
            have d2 := HR8.out.c2
            have d3 := HR8.out.c3
            have hA2 : ArgF (w6.alloc (.cells #[.int .i64 0, .int .i64 0] 43)) (.slice av Q.length cv) P.funcs := (by have := HR8.out.fns.arg; rw [HQ.out] at this; exact this)
            have CC := Lib.hid (pgCheck_any P HSM.out.fits HPL.out (progV (.slice av Q.length cv) P.mu P.rw P.gr) _ ⟨_, rfl, hA2⟩)
            have HWP := Lib.hid hwp
            clear c0 c1 c2 c3 hb6 hb7 hA2 hwp CW
            go_wp2_with fail
            refine CC.out.mono ?_
            rintro e w9 ⟨rfl, hb9⟩
            have HP9 := Lib.hid (HP8.out.more hb9)
            have HR9 := Lib.hid (HR8.out.bel hb9)
            clear d0 d1 d2 d3 hb9 CC
            unfold checkP
            cases hrp : rightP P with
            | false =>
              have HRO := Lib.hid (show readO L true = .error L.length by
                unfold readO
                rw [HLO.out]
                simp only [HNZ.out, if_false, HWP.out, hrp, Bool.false_eq_true, false_and, and_false])
              clear hrp HWP
              go_wp2_with (go_at_call 68; refine (asmMust_no _ _).mono ?_; rintro e w3 ⟨rfl, rfl⟩)
              refine asmParse_panics w _ _ _ _ _ _ _ HP9.out L.length _ rfl rfl rfl _ (fun w' hb => ⟨?_, hb⟩)
              rw [HRO.out]
            | true =>
              have HRO := Lib.hid (show readO L true = .ok P by
                unfold readO
                rw [HLO.out]
                simp only [HNZ.out, if_false, HWP.out, hrp, and_self, if_true])
              have HSet := Lib.hid (HP9.out.set (.slice av Q.length cv) P.mu P.rw P.gr L.length 0)
              have hT := touch_set6 w.heap.size w9 (.slice av Q.length cv) (.int .i64 P.mu) (.int .i64 P.rw) (.int .i64 P.gr) (.int .i64 L.length) (.int .i64 0) (T := fun b => b ≤ w.heap.size + 1 + 1) (by omega) (by omega) (by omega)
              have HA := Lib.hid (show ArgF (((setP w.heap.size (.slice av Q.length cv) P.mu P.rw P.gr w9).setCell ⟨w.heap.size + 1, 0, none⟩ (.int .i64 L.length)).setCell ⟨w.heap.size + 1 + 1, 0, none⟩ (.int .i64 0)) (.slice av Q.length cv) P.funcs from by
                have := (HR9.out.fns.touch hT (fun b hb => by have := HSZ.out; omega)).arg
                rw [HQ.out] at this
                exact this)
              have d0 := HR9.out.c0
              have d1 := HR9.out.c1
              have d2 := HR9.out.c2
              have d3 := HR9.out.c3
              obtain ⟨p0, p1, p2, p3, pn, pe, f0, f1, f2, f3, fn, fe, -⟩ := HP9.out
              clear hrp HWP hT
              go_wp2_with (go_at_call 68; refine (asmMust_yes _ _).mono ?_; rintro e w3 ⟨rfl, rfl⟩)
              refine asmParse_returns w _ _ _ _ _ _ _ HSet.out _ rfl rfl rfl _ ⟨?_, HSet.out.bel⟩
              rw [HRO.out]
              exact ⟨_, rfl, HA.out⟩
end Go.Proofs.YtfnfcngkaepnjaaGreatDoor
