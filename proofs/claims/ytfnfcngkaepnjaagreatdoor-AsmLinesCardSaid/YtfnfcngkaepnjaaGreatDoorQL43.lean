/- Joined texts: Layer 11: AsmLines, walked. -/
import Derived.Test.YtfnfcngkaepnjaaGreatDoorQL30
import Derived.Test.YtfnfcngkaepnjaaGreatDoorQL31
import Derived.Test.YtfnfcngkaepnjaaGreatDoorQL42
import Derived.Test.YtfnfcngkaepnjaaGreatDoorQL25
import Derived.Deep.Cut
/- Layer 11: AsmLines, walked. -/
namespace Go.Proofs.YtfnfcngkaepnjaaGreatDoor
set_option linter.unusedVariables false
set_option linter.unusedSimpArgs false
open Go Go.Proofs Go.RowKit Go.Sort

/-- What the walk of the lines leans on. -/
structure LnG (w : World) (many : Int) (WB Bo Bb : Nat) (vw vl : Value) (M : List ByteArray) (W : World) : Prop where
  bel : Below w.heap.size w W
  cm : W.cell? ⟨w.heap.size + 1 + 1, 0, none⟩ = some (.int .i64 many)
  cr : W.cell? ⟨w.heap.size + 1 + 1 + 1, 0, none⟩ = some (.bool false)
  fr : W.frozen? ⟨w.heap.size + 1 + 1 + 1, 0, none⟩ = false
  cw : W.cell? ⟨WB, 0, none⟩ = some vw
  aw : ArgW 1 encS W vw M
  cl : W.cell? ⟨Bo, 0, none⟩ = some vl
  tp : TapW W Bb vl M
  bb : Bb < W.heap.size
  sz : w.heap.size + 1 + 1 + 1 < W.heap.size
theorem LnG.more {w : World} {many : Int} {WB Bo Bb : Nat} {vw vl : Value} {M : List ByteArray} {W W' : World} (h : LnG w many WB Bo Bb vw vl M W) (hb : Below W.heap.size W W') : LnG w many WB Bo Bb vw vl M W' :=
  ⟨belT h.bel hb, cell_bel h.cm hb, cell_bel h.cr hb, froz_bel h.cr h.fr hb, cell_bel h.cw hb, h.aw.bel hb, cell_bel h.cl hb, h.tp.bel hb, Nat.lt_of_lt_of_le h.bb hb.size, Nat.lt_of_lt_of_le h.sz hb.size⟩
/-- The blocks of AsmLines' arguments. -/
structure LnV (w : World) (vf : Value) (P : ProgM) (f pc many : Int) (W : World) : Prop where
  bel : Below w.heap.size w W
  pg : PrgB w.heap.size vf P W
  s0 : W.cell? ⟨w.heap.size + 1, 0, none⟩ = some (.int .i64 f)
  s1 : W.cell? ⟨w.heap.size + 1, 1, none⟩ = some (.int .i64 pc)
  cm : W.cell? ⟨w.heap.size + 1 + 1, 0, none⟩ = some (.int .i64 many)
  cr : W.cell? ⟨w.heap.size + 1 + 1 + 1, 0, none⟩ = some (.bool false)
  fr : W.frozen? ⟨w.heap.size + 1 + 1 + 1, 0, none⟩ = false
theorem LnV.more {w : World} {vf : Value} {P : ProgM} {f pc many : Int} {W W' : World} (h : LnV w vf P f pc many W) (hb : Below W.heap.size W W') : LnV w vf P f pc many W' :=
  ⟨belT h.bel hb, h.pg.bel hb, cell_bel h.s0 hb, cell_bel h.s1 hb, cell_bel h.cm hb, cell_bel h.cr hb, froz_bel h.cr h.fr hb⟩
theorem LnV.set {w : World} {vf : Value} {P : ProgM} {f pc many : Int} {n : Nat} {W W' : World} (h : LnV w vf P f pc many W) (hF : ArgF w vf P.funcs) (hb : Below n W W') (hn : w.heap.size + 1 + 1 + 1 < n) : LnV w vf P f pc many W' :=
  have hB := h.bel.trans (hb.mono (by omega))
  ⟨hB, h.pg.below hb (by omega) (hF.bel hB), cell_belB h.s0 hb (by omega), cell_belB h.s1 hb (by omega), cell_belB h.cm hb (by omega), cell_belB h.cr hb (by omega), froz_belB h.fr hb (by omega)⟩
theorem lnV_start (w : World) (vf : Value) (P : ProgM) (f pc many : Int) (hF : ArgF w vf P.funcs) : LnV w vf P f pc many ((((w.alloc (.cells #[vf, .int .i64 P.mu, .int .i64 P.rw, .int .i64 P.gr] 58)).alloc (.cells #[.int .i64 f, .int .i64 pc] 43)).alloc (.cells #[.int .i64 many] 3)).alloc (.cells #[.bool false] 4)) := by
  have h0 := PrgB.new w 58 hF
  have b1 := bel1 (W := w.alloc (.cells #[vf, .int .i64 P.mu, .int .i64 P.rw, .int .i64 P.gr] 58)) (.cells #[.int .i64 f, .int .i64 pc] 43)
  have b2 := bel1 (W := (w.alloc (.cells #[vf, .int .i64 P.mu, .int .i64 P.rw, .int .i64 P.gr] 58)).alloc (.cells #[.int .i64 f, .int .i64 pc] 43)) (.cells #[.int .i64 many] 3)
  have b3 := bel1 (W := ((w.alloc (.cells #[vf, .int .i64 P.mu, .int .i64 P.rw, .int .i64 P.gr] 58)).alloc (.cells #[.int .i64 f, .int .i64 pc] 43)).alloc (.cells #[.int .i64 many] 3)) (.cells #[.bool false] 4)
  have s0 := cell_two w (.cells #[vf, .int .i64 P.mu, .int .i64 P.rw, .int .i64 P.gr] 58) #[.int .i64 f, .int .i64 pc] 43 0
  have s1 := cell_two w (.cells #[vf, .int .i64 P.mu, .int .i64 P.rw, .int .i64 P.gr] 58) #[.int .i64 f, .int .i64 pc] 43 1
  have m0 := cell_two (w.alloc (.cells #[vf, .int .i64 P.mu, .int .i64 P.rw, .int .i64 P.gr] 58)) (.cells #[.int .i64 f, .int .i64 pc] 43) #[.int .i64 many] 3 0
  have r0 := cell_two ((w.alloc (.cells #[vf, .int .i64 P.mu, .int .i64 P.rw, .int .i64 P.gr] 58)).alloc (.cells #[.int .i64 f, .int .i64 pc] 43)) (.cells #[.int .i64 many] 3) #[.bool false] 4 0
  have rf := froz_two ((w.alloc (.cells #[vf, .int .i64 P.mu, .int .i64 P.rw, .int .i64 P.gr] 58)).alloc (.cells #[.int .i64 f, .int .i64 pc] 43)) (.cells #[.int .i64 many] 3) #[.bool false] 4 0
  simp only [World.size_alloc] at m0 r0 rf
  exact ⟨belA (belA (belA (bel1 _) _) _) _, ((h0.bel b1).bel b2).bel b3, cell_bel (cell_bel s0 b2) b3, cell_bel (cell_bel s1 b2) b3, cell_bel m0 b3, r0, rf⟩

attribute [local go_sem] Oper.semAt_some

set_option maxRecDepth 100000 in
set_option maxHeartbeats 4000000 in
theorem asmLines_row (u : Value) (P : ProgM) (f pc many : Int) (w : World) (hE : EnvM w) (hu : ArgP w u P) (hP : P.Fits) (hsP : fewSum (P.funcs.take 40) ≤ 4611686018427387904) (m0 : -9223372036854775808 ≤ many) (m1 : many ≤ 9223372036854775807) :
    Calls Tryz.prog 9 #[u, .agg #[.int .i64 f, .int .i64 pc], .int .i64 many] w fun e w' => e = .returned (.bool true) ∧ Below w.heap.size w w' := by
  have CF := Lib.hid fun W h => few2_any P hsP u W h
  have CRt := Lib.hid fun W h => rRightP_any P hP u W h
  obtain ⟨vf, rfl, hF⟩ := hu
  have HV := Lib.hid (lnV_start w vf P f pc many hF)
  have HF0 := Lib.hid hF
  have HE := Lib.hid hE
  have CW := Lib.hid fun W hE => works11_any W hE
  have HPF := Lib.hid hP
  have HL := Lib.hid (show fewF P = true → P.funcs.length ≤ 100000 from fun h => by unfold fewF at h; simp at h; omega)
  clear hF hE hsP hP
  cases h1 : fewF P with
  | false =>
    rw [h1] at CF
    clear h1 HL
    go_enter Tryz.func9, Tryz.ntmps9
    go_wp2_with fail
    generalize World.alloc (World.alloc _ _) _ = V at HV ⊢
    obtain ⟨a0, a1, a2, a3, -⟩ := HV.out.pg
    go_wp2_with fail
    refine (CF.out V HV.out.pg.arg).mono ?_
    rintro e w1 ⟨rfl, hb1⟩
    have HV := Lib.hid (HV.out.more hb1)
    clear hb1 a0 a1 a2 a3
    go_wp2_with fail
    refine (CW.out w1 (HE.out.on HV.out.bel)).mono ?_
    rintro e w2 ⟨rfl, hb2⟩
    have HV := Lib.hid (HV.out.more hb2)
    have r0 := HV.out.cr
    have rf := HV.out.fr
    clear hb2
    go_wp2_with fail
    have c5 : (w2.setCell ⟨w.heap.size + 1 + 1 + 1, 0, none⟩ (.bool true)).cell? ⟨w.heap.size + 1 + 1 + 1, 0, none⟩ = some (.bool true) := World.cell?_setCell_same _ _ _ r0
    have hB6 := HV.out.bel.setCell (p := ⟨w.heap.size + 1 + 1 + 1, 0, none⟩) (by simp; omega) (.bool true)
    exact bodyPost_ret (v := .bool true) (by simp [results, Tryz.results9, go_sem, c5]) rfl ⟨rfl, hB6⟩
  | true =>
    rw [h1] at CF
    have CA := Lib.hid fun v W h => asmPlc_any P HPF.out (HL.out h1) f pc v W h
    have CR := Lib.hid fun v W h => rfPlc_any P HPF.out (HL.out h1) f pc v W h
    have CLn := Lib.hid fun v W hE h => asmLines_any P HPF.out (HL.out h1) v W hE h
    have CRL := Lib.hid fun hR v W hE h => rfLines_any P HPF.out hR v W hE h
    have HML := Lib.hid (show (lnsP P).length ≤ 20000 by
      unfold lnsP
      split
      · rename_i hR
        exact (lines_small HPF.out hR).1
      · simp)
    have HMR := Lib.hid (show (rightP P = true → lnsP P = linesF P) ∧ (rightP P = false → lnsP P = []) from ⟨fun h => by unfold lnsP; rw [if_pos h], fun h => by unfold lnsP; rw [h]; rfl⟩)
    have hfn : ∀ (p : Addr) (w : World), (binOp .eql 79 (.func (.func 81) #[] #[.pointer (some p)]) .nilFunc).run Tryz.prog w = .ok (.bool false) w := fun _ _ => by kernel_rfl
    clear h1 HL
    refine (callsIn_wide (n := 20)).1 ?_
    refine callsIn_of_wp_marks Tryz.func9 rfl trivial ?_ rfl
    simp only [Tryz.ntmps9, List.size_toArray, List.length_cons, List.length_nil, Nat.reduceAdd, Nat.reduceSub, Array.replicate_succ, Array.replicate_zero, List.push_toArray, List.append_toArray, List.nil_append, List.cons_append]
    refine wpIn_wide.2 ?_
    go_wp2_with fail
    generalize World.alloc (World.alloc _ _) _ = V at HV ⊢
    obtain ⟨a0, a1, a2, a3, -⟩ := HV.out.pg
    go_wp2_with fail
    refine (CF.out V HV.out.pg.arg).mono ?_
    rintro e w1 ⟨rfl, hb1⟩
    have HSz := Lib.hid (show w.heap.size + 1 + 1 + 1 < w1.heap.size from lt_of_cell (cell_bel HV.out.cr hb1))
    have hb2 := belA hb1 (.cells #[.slice none 0 0] 67)
    have HV := Lib.hid (HV.out.more hb2)
    have HWc := Lib.hid (cell_new w1 #[.slice none 0 0] 67 0)
    have HWf := Lib.hid (World.frozen?_alloc_new w1 #[.slice none 0 0] 67 0)
    clear hb1 hb2 a0 a1 a2 a3
    obtain ⟨a0, a1, a2, a3, -⟩ := HV.out.pg
    go_upto_if 22 with (refine (CRt.out _ HV.out.pg.arg).mono ?_; rintro e w2 ⟨rfl, hb⟩)
    have HV2 := Lib.hid (HV.out.more hb)
    have HWc2 := Lib.hid (cell_bel HWc.out hb)
    have HWf2 := Lib.hid (froz_bel HWc.out HWf.out hb)
    clear hb a0 a1 a2 a3 HV HWc HWf
    go_cut [] from 17 (fun wc => ∃ vw, Hid (LnV w vf P f pc many wc) ∧ Hid (wc.cell? ⟨w1.heap.size, 0, none⟩ = some vw) ∧ Hid (ArgW 1 encS wc vw (lnsP P)))
    case first =>
      have c0 := HWc2.out
      have f0 := HWf2.out
      obtain ⟨a0, a1, a2, a3, -⟩ := HV2.out.pg
      cases hR : rightP P with
      | false =>
        have hM := HMR.out.2 hR
        clear hR a0 a1 a2 a3
        go_wp2_with fail
        go_meet
        exact ⟨_, HV2, HWc2, Lib.hid (by rw [hM]; exact Or.inl ⟨rfl, rfl⟩)⟩
      | true =>
        have HM := Lib.hid (HMR.out.1 hR)
        have CL := Lib.hid fun v W hE h => CRL.out hR v W hE h
        clear hR
        go_wp2_with fail
        refine (CL.out _ w2 (HE.out.on HV2.out.bel).env HV2.out.pg.arg).mono ?_
        rintro e w3 ⟨vl, rfl, ho, hb3⟩
        obtain ⟨g, cap, rfl, hg1, -, -, -⟩ := ho.own.slice (by unfold linesF headLines; simp)
        have c0 := cell_bel c0 hb3
        have f0 := froz_bel HWc2.out f0 hb3
        have hlt := lt_of_cell HWc2.out
        have HV3 := HV2.out.more hb3
        have hA := ho.own.arg rowS.len
        have hT : TapW w3 g (.slice (some ⟨g, 0, none⟩) (linesF P).length cap) (linesF P) := ⟨hA, fun b o n c hv => by simp only [Value.slice.injEq, Option.some.injEq, Addr.mk.injEq] at hv; exact hv.1.1.symm⟩
        have hT2 := hT.touch (T := fun b => b = w1.heap.size) (Touch.setCell w3 ⟨w1.heap.size, 0, none⟩ (.slice (some ⟨g, 0, none⟩) (linesF P).length cap) rfl) (by omega)
        clear a0 a1 a2 a3 hA hT ho hb3
        go_wp2_with fail
        go_meet
        exact ⟨_, Lib.hid (HV3.set HF0.out ((Below.refl w1.heap.size w3).setCell (p := ⟨w1.heap.size, 0, none⟩) (Nat.le_refl _) _) HSz.out), Lib.hid (World.cell?_setCell_same _ _ _ c0), Lib.hid (by rw [HM.out]; exact hT2.arg)⟩
    case rest =>
      obtain ⟨vw, HV, HWc, HWa⟩ := hcut
      have HWl := Lib.hid (lt_of_cell HWc.out)
      clear HV2 HWc2 HWf2 CRt CRL HMR CF HF0 HSz
      have hMP : lnsP P = lnsP P := rfl
      unfold LinesQ at CLn
      generalize lnsP P = M at HML HWa CLn hMP
      clear hMP
      generalize hN : plcN P f pc = N at CA CR
      generalize hEn : plcE P f pc = En at CA CR
      clear hN hEn
      obtain ⟨a0, a1, a2, a3, -⟩ := HV.out.pg
      obtain ⟨s0, s1⟩ := And.intro HV.out.s0 HV.out.s1
      go_wp2_with fail
      refine (CA.out _ wc HV.out.pg.arg).mono ?_
      rintro e w2' ⟨rfl, hb⟩
      have HV := Lib.hid (HV.out.more hb)
      have HWc := Lib.hid (cell_bel HWc.out hb)
      have HWa := Lib.hid (HWa.out.bel hb)
      clear hb a0 a1 a2 a3 s0 s1
      obtain ⟨a0, a1, a2, a3, -⟩ := HV.out.pg
      obtain ⟨s0, s1⟩ := And.intro HV.out.s0 HV.out.s1
      go_wp2_with fail
      refine (CR.out _ w2' HV.out.pg.arg).mono ?_
      rintro e w2'' ⟨rfl, hb⟩
      have HV := Lib.hid (HV.out.more hb)
      have HWc := Lib.hid (cell_bel HWc.out hb)
      have HWa := Lib.hid (HWa.out.bel hb)
      clear hb a0 a1 a2 a3 s0 s1 CA CR
      obtain ⟨a0, a1, a2, a3, -⟩ := HV.out.pg
      go_wp2_with fail
      refine (CLn.out _ w2'' (HE.out.on HV.out.bel).env HV.out.pg.arg).mono ?_
      rintro e w3 ⟨vl, Bo, Bb, rfl, hcl, htp, hbo, hbb, hbb2, hb⟩
      have HVn := HV.out.more hb
      have HG := Lib.hid (show LnG w many w1.heap.size Bo Bb vw vl M w3 from ⟨HVn.bel, HVn.cm, HVn.cr, HVn.fr, cell_bel HWc.out hb, HWa.out.bel hb, hcl, htp, hbb2, lt_of_cell HVn.cr⟩)
      clear hb hcl htp hbo hbb hbb2 HVn HV HWc HWa a0 a1 a2 a3 CLn
      go_wp2_with (go_at_call 27; refine (num11_any _ _).mono ?_; rintro e wn ⟨rfl, rfl⟩)
      refine wp_loop_rounds 3 ?_
      rw [rounds_succ]
      go_wp2
      have t0 := cell_al (cell_new w3 #[.int .i64 0] 3 0) (.cells #[.int .i64 0] 3)
      have n0 := cell_two w3 (.cells #[.int .i64 0] 3) #[.int .i64 0] 3 0
      have nf := froz_two w3 (.cells #[.int .i64 0] 3) #[.int .i64 0] 3 0
      have hbU : Below w3.heap.size w3 ((w3.alloc (.cells #[.int .i64 0] 3)).alloc (.cells #[.int .i64 0] 3)) := belA (bel1 _) _
      have HsU := Lib.hid (show ((w3.alloc (.cells #[.int .i64 0] 3)).alloc (.cells #[.int .i64 0] 3)).heap.size = w3.heap.size + 2 by simp)
      generalize (w3.alloc (.cells #[.int .i64 0] 3)).alloc (.cells #[.int .i64 0] 3) = U at t0 n0 nf hbU HsU ⊢
      refine (wpIn_wide (n := 20)).1 ?_
      refine wpIn_rangeT rfl (by omega) (gf := 81) (lb := #[.pointer (some ⟨Bo, 0, none⟩)]) (by simp [go_sem]) trivial (enters_of Tryz.func81 (by kernel_rfl) rfl)
        (asmLines_in (20 - 1) Bo Bb (by omega) vl M (by have := HML.out; omega)) (fun W' hb => ⟨cell_bel HG.out.cl (belT hbU hb), HG.out.tp.bel (belT hbU hb), Nat.lt_of_lt_of_le HG.out.bb (belT hbU hb).size⟩) (fun _ => rfl)
        (fun k => k = w3.heap.size + 1) (fun k h => ⟨by have := HsU.out; omega, fun h' => by have h1 := HG.out.bb; have h2 := lt_of_cell HG.out.cl; omega⟩) (fun k h => by have := HsU.out; have h1 := HG.out.bb; have h2 := lt_of_cell HG.out.cl; omega) (fun k h => h.elim)
        (fun pre W' => Below w3.heap.size w3 W' ∧ W'.cell? ⟨w3.heap.size, 0, none⟩ = some (.int .i64 0) ∧ W'.cell? ⟨w3.heap.size + 1, 0, none⟩ = some (.int .i64 (pre.length : Nat)) ∧ W'.frozen? ⟨w3.heap.size + 1, 0, none⟩ = false ∧ (pre ≠ [] → (pre.length : Int) < many))
        (fun c pre W' => c = .exit 2 ∧ Below w3.heap.size w3 W' ∧ W'.cell? ⟨w3.heap.size, 0, none⟩ = some (.int .i64 0) ∧ W'.cell? ⟨w3.heap.size + 1, 0, none⟩ = some (.int .i64 (pre.length : Nat)) ∧ many ≤ pre.length ∧ (pre.length = 1 ∨ (pre.length : Int) - 1 < many)) ?hI ?hIx ?hs ?hround ?hdone ?hstop
      case hI =>
        rintro s A B ⟨ha, h1, h2, h3, h4⟩ hb
        have hb' := hb.below (fun _ _ h => h)
        have := HsU.out
        exact ⟨ha.trans (hb'.mono (by omega)), cell_belB h1 hb' (by omega), cell_belB h2 hb' (by omega), froz_belB h3 hb' (by omega), h4⟩
      case hIx =>
        rintro c s A B ⟨rfl, ha, h1, h2, h4, h5⟩ hb
        have hb' := hb.below (fun _ _ h => h)
        have := HsU.out
        exact ⟨rfl, ha.trans (hb'.mono (by omega)), cell_belB h1 hb' (by omega), cell_belB h2 hb' (by omega), h4, h5⟩
      case hs => exact ⟨hbU, t0, n0, nf, fun h => absurd rfl h⟩
      case hround =>
        rintro l2 pre x W2 ⟨hbx, ht, hn, hnf, hlt⟩ hsz2 hlen hsp
        have hs2 := HsU.out
        gi_wp2
        refine ⟨Touch.refl _ _, fun W3 hb3 ht3 => ?_⟩
        have hbz : Below (w3.heap.size + 2) W2 W3 := hb3.mono (by omega)
        have hb03 := hbx.trans (hbz.mono (by omega))
        have ht := cell_belB ht hbz (by omega)
        have hn := cell_belB hn hbz (by omega)
        have hnf := froz_belB hnf hbz (by omega)
        obtain ⟨jj, hj1, hj2, hj3⟩ := hsp
        obtain ⟨xi, xs⟩ := x
        obtain ⟨hj4, hx1, hat⟩ := numT_last hj2 hj3
        dsimp only at hx1 hat
        subst hx1
        have HGr := Lib.hid (HG.out.more hb03)
        obtain ⟨bw, ow, cw9, hvw, -, hHw⟩ := HGr.out.aw.at_ hat
        first | subst hvw | (simp only [Value.slice.injEq, true_and] at hvw; obtain ⟨rfl, rfl⟩ := hvw)
        have y0 := hHw pre.length 0 _ _ hat rfl
        simp only [Nat.add_zero, Nat.mul_one] at y0
        have cw := HGr.out.cw
        have cmD := HGr.out.cm
        have hq : pre.length < M.length := (List.getElem?_eq_some_iff.1 hat).1
        have q0 : (0 : Int) ≤ (pre.length : Int) := by omega
        have q1 : (pre.length : Int) < (M.length : Int) := by omega
        have q2 : ¬ (M.length : Int) ≤ (pre.length : Int) := by omega
        have q3 : decide (M.length ≤ pre.length) = false := decide_eq_false (by omega)
        have q4 : (pre.length : Int) ≤ 20000 := by have := HML.out; omega
        have hst : (xs.toList != xs.toList) = false := by simp
        have hset := hb03.setCell (p := ⟨w3.heap.size + 1, 0, none⟩) (by simp) (.int .i64 ((pre.length : Int) + 1))
        have hcs : (W3.setCell ⟨w3.heap.size + 1, 0, none⟩ (.int .i64 ((pre.length : Int) + 1))).cell? ⟨w3.heap.size + 1, 0, none⟩ = some (.int .i64 ((pre ++ [(pre.length, xs)]).length : Nat)) := by
          rw [World.cell?_setCell_same _ _ _ hn, List.length_append]
          rfl
        have hts := (World.cell?_setCell_other W3 ⟨w3.heap.size + 1, 0, none⟩ ⟨w3.heap.size, 0, none⟩ (.int .i64 ((pre.length : Int) + 1)) (by simp)).trans ht
        have hms := (World.cell?_setCell_other W3 ⟨w3.heap.size + 1, 0, none⟩ ⟨w.heap.size + 1 + 1, 0, none⟩ (.int .i64 ((pre.length : Int) + 1)) (by have := HG.out.sz; first | (simp; done) | (simp; omega))).trans cmD
        have htc : Touch (fun k => k = w3.heap.size + 1) W3 (W3.setCell ⟨w3.heap.size + 1, 0, none⟩ (.int .i64 ((pre.length : Int) + 1))) := Touch.setCell W3 ⟨w3.heap.size + 1, 0, none⟩ (.int .i64 ((pre.length : Int) + 1)) rfl
        have hlp : ((pre ++ [(pre.length, xs)]).length : Int) = pre.length + 1 := by simp
        have hlpre := Lib.hid hlp
        clear hlp hHw hat hj1 hj2 hj3 hj4 hbz ht3 hb3 hs2 hbx
        by_cases hm : many ≤ (pre.length : Int) + 1
        · gi_wp2
          refine ⟨htc, rfl, hset, hts, hcs, by rw [hlpre.out]; exact hm, ?_⟩
          by_cases hp : pre = []
          · left; simp [hp]
          · right; have := hlt hp; rw [hlpre.out]; omega
        · gi_wp2
          exact ⟨htc, hset, hts, hcs, by rw [World.frozen?_setCell]; exact hnf, fun _ => by rw [hlpre.out]; omega⟩
      case hdone =>
        rintro D xs W' hD rfl ⟨hbx, ht, hn, hnf, hlt⟩ hKD
        rw [numT_length] at hn hlt
        have hmk : min (M.length : Int) (max 1 many) = M.length := by
          by_cases hz : M.length = 0
          · rw [hz]; simp; omega
          · have := hlt (fun h => hz (by have h2 := congrArg List.length h; rw [numT_length] at h2; exact h2))
            omega
        obtain ⟨j, hj⟩ : ∃ j, j = M.length := ⟨_, rfl⟩
        rw [← hj] at hn
        have hmn : min (M.length : Int) (max 1 many) = j := by rw [hj]; exact hmk
        clear hlt hj hmk
        have hlD : D < W'.heap.size := (Array.getElem?_eq_some_iff.1 hKD).1
        have HG5 := Lib.hid (HG.out.more hbx)
        have cm5 := HG5.out.cm
        have cw5 := HG5.out.cw
        obtain ⟨a5, c5, hvw5⟩ := HG5.out.aw.form
        subst hvw5
        have HS5 := Lib.hid (show w3.heap.size + 1 < W'.heap.size ∧ w3.heap.size + 2 ≤ D from ⟨lt_of_cell hn, by have := HsU.out; omega⟩)
        have HK5 := Lib.hid hKD
        clear hbx hKD
        go_wp2
        rw [rounds_succ]
        go_wp2
        have t6 := cell_al (cell_new W' #[.int .i64 1] 3 0) (.cells #[.int .i64 0] 3)
        have n6 := cell_two W' (.cells #[.int .i64 1] 3) #[.int .i64 0] 3 0
        have nf6 := froz_two W' (.cells #[.int .i64 1] 3) #[.int .i64 0] 3 0
        have hbU6 : Below W'.heap.size W' ((W'.alloc (.cells #[.int .i64 1] 3)).alloc (.cells #[.int .i64 0] 3)) := belA (bel1 _) _
        have HsU6 := Lib.hid (show ((W'.alloc (.cells #[.int .i64 1] 3)).alloc (.cells #[.int .i64 0] 3)).heap.size = W'.heap.size + 2 by simp)
        have HGk := HG
        have HG := HG5
        clear hn ht hmn
        generalize (W'.alloc (.cells #[.int .i64 1] 3)).alloc (.cells #[.int .i64 0] 3) = U6 at t6 n6 nf6 hbU6 HsU6 ⊢
        refine (wpIn_wide (n := 20)).1 ?_
        refine wpIn_rangeT rfl (by omega) (gf := 81) (lb := #[.pointer (some ⟨Bo, 0, none⟩)]) (by simp [go_sem]) trivial (enters_of Tryz.func81 (by kernel_rfl) rfl)
          (asmLines_in (20 - 1) Bo Bb (by omega) vl M (by have := HML.out; omega)) (fun W2 hb => ⟨cell_bel HG5.out.cl (belT hbU6 hb), HG5.out.tp.bel (belT hbU6 hb), Nat.lt_of_lt_of_le HG5.out.bb (belT hbU6 hb).size⟩) (fun _ => rfl)
          (fun k => k = W'.heap.size + 1) (fun k h => ⟨by have := HsU6.out; omega, fun h' => by have h1 := HG5.out.bb; have h2 := lt_of_cell HG5.out.cl; omega⟩) (fun k h => by have := HsU6.out; have h1 := HG5.out.bb; have h2 := lt_of_cell HG5.out.cl; omega) (fun k h => h.elim)
          (fun pre Wr => Below W'.heap.size W' Wr ∧ Wr.cell? ⟨W'.heap.size, 0, none⟩ = some (.int .i64 1) ∧ Wr.cell? ⟨W'.heap.size + 1, 0, none⟩ = some (.int .i64 (pre.length : Nat)) ∧ Wr.frozen? ⟨W'.heap.size + 1, 0, none⟩ = false ∧ True)
          (fun _ _ _ => False) ?hI2 ?hIx2 ?hs2 ?hround2 ?hdone2 ?hstop2
        case hI2 =>
          rintro s A B ⟨ha, h1, h2, h3, h4⟩ hb
          have hb' := hb.below (fun _ _ h => h)
          have := HsU6.out
          exact ⟨ha.trans (hb'.mono (by omega)), cell_belB h1 hb' (by omega), cell_belB h2 hb' (by omega), froz_belB h3 hb' (by omega), h4⟩
        case hIx2 => exact fun _ _ _ _ h _ => h
        case hs2 => exact ⟨hbU6, t6, n6, nf6, trivial⟩
        case hround2 =>
          rintro l2 pre x W2 ⟨hbx, ht, hn, hnf, hlt⟩ hsz2 hlen hsp
          have hs2 := HsU6.out
          gi_wp2
          refine ⟨Touch.refl _ _, fun W3 hb3 ht3 => ?_⟩
          have hbz : Below (W'.heap.size + 2) W2 W3 := hb3.mono (by omega)
          have hb03 := hbx.trans (hbz.mono (by omega))
          have ht := cell_belB ht hbz (by omega)
          have hn := cell_belB hn hbz (by omega)
          have hnf := froz_belB hnf hbz (by omega)
          obtain ⟨jj, hj1, hj2, hj3⟩ := hsp
          obtain ⟨xi, xs⟩ := x
          obtain ⟨hj4, hx1, hat⟩ := numT_last hj2 hj3
          dsimp only at hx1 hat
          subst hx1
          have HGr := Lib.hid (HG.out.more hb03)
          obtain ⟨bw, ow, cw9, hvw, -, hHw⟩ := HGr.out.aw.at_ hat
          first | subst hvw | (simp only [Value.slice.injEq, true_and] at hvw; obtain ⟨rfl, rfl⟩ := hvw)
          have y0 := hHw pre.length 0 _ _ hat rfl
          simp only [Nat.add_zero, Nat.mul_one] at y0
          have cw := HGr.out.cw
          have cmD := HGr.out.cm
          have hq : pre.length < M.length := (List.getElem?_eq_some_iff.1 hat).1
          have q0 : (0 : Int) ≤ (pre.length : Int) := by omega
          have q1 : (pre.length : Int) < (M.length : Int) := by omega
          have q2 : ¬ (M.length : Int) ≤ (pre.length : Int) := by omega
          have q3 : decide (M.length ≤ pre.length) = false := decide_eq_false (by omega)
          have q4 : (pre.length : Int) ≤ 20000 := by have := HML.out; omega
          have hst : (xs.toList != xs.toList) = false := by simp
          have hset := hb03.setCell (p := ⟨W'.heap.size + 1, 0, none⟩) (by simp) (.int .i64 ((pre.length : Int) + 1))
          have hcs : (W3.setCell ⟨W'.heap.size + 1, 0, none⟩ (.int .i64 ((pre.length : Int) + 1))).cell? ⟨W'.heap.size + 1, 0, none⟩ = some (.int .i64 ((pre ++ [(pre.length, xs)]).length : Nat)) := by
            rw [World.cell?_setCell_same _ _ _ hn, List.length_append]
            rfl
          have hts := (World.cell?_setCell_other W3 ⟨W'.heap.size + 1, 0, none⟩ ⟨W'.heap.size, 0, none⟩ (.int .i64 ((pre.length : Int) + 1)) (by simp)).trans ht
          have hms := (World.cell?_setCell_other W3 ⟨W'.heap.size + 1, 0, none⟩ ⟨w.heap.size + 1 + 1, 0, none⟩ (.int .i64 ((pre.length : Int) + 1)) (by have := HG.out.sz; first | (simp; done) | (simp; omega))).trans cmD
          have htc : Touch (fun k => k = W'.heap.size + 1) W3 (W3.setCell ⟨W'.heap.size + 1, 0, none⟩ (.int .i64 ((pre.length : Int) + 1))) := Touch.setCell W3 ⟨W'.heap.size + 1, 0, none⟩ (.int .i64 ((pre.length : Int) + 1)) rfl
          have hlp : ((pre ++ [(pre.length, xs)]).length : Int) = pre.length + 1 := by simp
          have hlpre := Lib.hid hlp
          clear hlp hHw hat hj1 hj2 hj3 hj4 hbz ht3 hb3 hs2 hbx
          gi_wp2
          have hfz : (W3.setCell ⟨W'.heap.size + 1, 0, none⟩ (.int .i64 ((pre.length : Int) + 1))).frozen? ⟨W'.heap.size + 1, 0, none⟩ = false := by rw [World.frozen?_setCell]; exact hnf
          first | exact ⟨htc, hset, hts, hcs, hfz⟩ | exact ⟨htc, hset, hts, hcs, hfz, trivial⟩
        case hstop2 => exact fun _ _ _ _ _ _ h _ => h.elim
        case hdone2 =>
          rintro D2 xs W7 hD2 rfl ⟨hbx, ht, hn, hnf, hlt⟩ hKD2
          rw [numT_length] at hn
          have HG7 := Lib.hid (HG5.out.more hbx)
          have cw7 := HG7.out.cw
          have HK7 := Lib.hid ((hbx.block D hlD).trans HK5.out)
          have HKD := Lib.hid hKD2
          have hz7 := Lib.hid (show W'.heap.size ≤ W7.heap.size from hbx.size)
          clear hbx hKD2 t6 n6 nf6 hbU6
          go_wp2
          rw [rounds_succ]
          have hbT := bel1 (W := W7) (.cells #[.int .i64 2] 3)
          have r7 := cell_bel HG7.out.cr hbT
          have rf7 := froz_bel HG7.out.cr HG7.out.fr hbT
          have hB7 := belT HG7.out.bel hbT
          have HKa := Lib.hid ((hbT.block D (Array.getElem?_eq_some_iff.1 HK7.out).1).trans HK7.out)
          have HKb := Lib.hid ((hbT.block D2 (Array.getElem?_eq_some_iff.1 HKD.out).1).trans HKD.out)
          have t8 := cell_new W7 #[.int .i64 2] 3 0
          clear hbT cw7 hn ht hnf hlt
          generalize W7.alloc _ = W8 at t8 r7 rf7 hB7 HKa HKb ⊢
          go_wp2_with (go_at_call 24; refine (CW.out _ (HE.out.on hB7)).mono ?_; rintro e w8 ⟨rfl, hb8⟩; have r8 := cell_bel r7 hb8; have rf8 := froz_bel r7 rf7 hb8; have hB8 := belT hB7 hb8)
          have hz8 := hz7.out
          have hsw : w.heap.size + 1 + 1 + 1 < D := by have := HGk.out.sz; have := HS5.out; omega
          have hDD : D < D2 := by have := HsU6.out; omega
          have hKa := (hb8.block D (Array.getElem?_eq_some_iff.1 HKa.out).1).trans HKa.out
          have hKb := (hb8.block D2 (Array.getElem?_eq_some_iff.1 HKb.out).1).trans HKb.out
          have hB9 := hB8.setCell (p := ⟨w.heap.size + 1 + 1 + 1, 0, none⟩) (by simp; omega) (.bool true)
          have hKc := (Below.heap_setCell w8 ⟨w.heap.size + 1 + 1 + 1, 0, none⟩ (.bool true) D (by simp; omega)).trans hKa
          have hKd := (Below.heap_setCell w8 ⟨w.heap.size + 1 + 1 + 1, 0, none⟩ (.bool true) D2 (by simp; omega)).trans hKb
          have c9 : (w8.setCell ⟨w.heap.size + 1 + 1 + 1, 0, none⟩ (.bool true)).cell? ⟨w.heap.size + 1 + 1 + 1, 0, none⟩ = some (.bool true) := World.cell?_setCell_same _ _ _ r8
          have hKe := (World.putObj_heap_other (o := .deferred none) (w := w8.setCell ⟨w.heap.size + 1 + 1 + 1, 0, none⟩ (.bool true)) (r := D2) (k := D) (by omega)).trans hKc
          have hc6 := cell_kept c9 (grownBy_putObj' _ D2 (.deferred none)) (fun r e => by cases e; exact ⟨_, hKd, rfl⟩)
          have hc7 := cell_kept hc6 (grownBy_putObj' _ D (.deferred none)) (fun r e => by cases e; exact ⟨_, hKe, rfl⟩)
          refine ⟨by simp, .inl ⟨_, _, rfl, run_takeDeferred hKd, ?_⟩⟩
          refine ⟨by simp, .inl ⟨_, _, rfl, run_takeDeferred hKe, ?_⟩⟩
          have hBa := hB9.trans (below_put _ D2 (.deferred none) (by omega) hB9.size)
          exact ⟨.bool true, by simp [results, Tryz.results9, go_sem, hc7], rfl, hBa.trans (below_put _ D (.deferred none) (by omega) hBa.size)⟩
      case hstop =>
        rintro D c pre W' hD ⟨j, hj1, hj2, rfl⟩ ⟨rfl, hbx, ht, hn, hm1, hm2⟩ hKD
        rw [numT_length] at hn hm1 hm2
        have hmn : min (M.length : Int) (max 1 many) = j := by omega
        clear hm1 hm2 hj1 hj2
        have hlD : D < W'.heap.size := (Array.getElem?_eq_some_iff.1 hKD).1
        have HG5 := Lib.hid (HG.out.more hbx)
        have cm5 := HG5.out.cm
        have cw5 := HG5.out.cw
        obtain ⟨a5, c5, hvw5⟩ := HG5.out.aw.form
        subst hvw5
        have HS5 := Lib.hid (show w3.heap.size + 1 < W'.heap.size ∧ w3.heap.size + 2 ≤ D from ⟨lt_of_cell hn, by have := HsU.out; omega⟩)
        have HK5 := Lib.hid hKD
        clear hbx hKD
        refine wpIn_wide.2 ?_
        go_wp2
        rw [rounds_succ]
        go_wp2
        have t6 := cell_al (cell_new W' #[.int .i64 1] 3 0) (.cells #[.int .i64 0] 3)
        have n6 := cell_two W' (.cells #[.int .i64 1] 3) #[.int .i64 0] 3 0
        have nf6 := froz_two W' (.cells #[.int .i64 1] 3) #[.int .i64 0] 3 0
        have hbU6 : Below W'.heap.size W' ((W'.alloc (.cells #[.int .i64 1] 3)).alloc (.cells #[.int .i64 0] 3)) := belA (bel1 _) _
        have HsU6 := Lib.hid (show ((W'.alloc (.cells #[.int .i64 1] 3)).alloc (.cells #[.int .i64 0] 3)).heap.size = W'.heap.size + 2 by simp)
        have HGk := HG
        have HG := HG5
        clear hn ht hmn
        generalize (W'.alloc (.cells #[.int .i64 1] 3)).alloc (.cells #[.int .i64 0] 3) = U6 at t6 n6 nf6 hbU6 HsU6 ⊢
        refine (wpIn_wide (n := 20)).1 ?_
        refine wpIn_rangeT rfl (by omega) (gf := 81) (lb := #[.pointer (some ⟨Bo, 0, none⟩)]) (by simp [go_sem]) trivial (enters_of Tryz.func81 (by kernel_rfl) rfl)
          (asmLines_in (20 - 1) Bo Bb (by omega) vl M (by have := HML.out; omega)) (fun W2 hb => ⟨cell_bel HG5.out.cl (belT hbU6 hb), HG5.out.tp.bel (belT hbU6 hb), Nat.lt_of_lt_of_le HG5.out.bb (belT hbU6 hb).size⟩) (fun _ => rfl)
          (fun k => k = W'.heap.size + 1) (fun k h => ⟨by have := HsU6.out; omega, fun h' => by have h1 := HG5.out.bb; have h2 := lt_of_cell HG5.out.cl; omega⟩) (fun k h => by have := HsU6.out; have h1 := HG5.out.bb; have h2 := lt_of_cell HG5.out.cl; omega) (fun k h => h.elim)
          (fun pre Wr => Below W'.heap.size W' Wr ∧ Wr.cell? ⟨W'.heap.size, 0, none⟩ = some (.int .i64 1) ∧ Wr.cell? ⟨W'.heap.size + 1, 0, none⟩ = some (.int .i64 (pre.length : Nat)) ∧ Wr.frozen? ⟨W'.heap.size + 1, 0, none⟩ = false ∧ True)
          (fun _ _ _ => False) ?hI2 ?hIx2 ?hs2 ?hround2 ?hdone2 ?hstop2
        case hI2 =>
          rintro s A B ⟨ha, h1, h2, h3, h4⟩ hb
          have hb' := hb.below (fun _ _ h => h)
          have := HsU6.out
          exact ⟨ha.trans (hb'.mono (by omega)), cell_belB h1 hb' (by omega), cell_belB h2 hb' (by omega), froz_belB h3 hb' (by omega), h4⟩
        case hIx2 => exact fun _ _ _ _ h _ => h
        case hs2 => exact ⟨hbU6, t6, n6, nf6, trivial⟩
        case hround2 =>
          rintro l2 pre x W2 ⟨hbx, ht, hn, hnf, hlt⟩ hsz2 hlen hsp
          have hs2 := HsU6.out
          gi_wp2
          refine ⟨Touch.refl _ _, fun W3 hb3 ht3 => ?_⟩
          have hbz : Below (W'.heap.size + 2) W2 W3 := hb3.mono (by omega)
          have hb03 := hbx.trans (hbz.mono (by omega))
          have ht := cell_belB ht hbz (by omega)
          have hn := cell_belB hn hbz (by omega)
          have hnf := froz_belB hnf hbz (by omega)
          obtain ⟨jj, hj1, hj2, hj3⟩ := hsp
          obtain ⟨xi, xs⟩ := x
          obtain ⟨hj4, hx1, hat⟩ := numT_last hj2 hj3
          dsimp only at hx1 hat
          subst hx1
          have HGr := Lib.hid (HG.out.more hb03)
          obtain ⟨bw, ow, cw9, hvw, -, hHw⟩ := HGr.out.aw.at_ hat
          first | subst hvw | (simp only [Value.slice.injEq, true_and] at hvw; obtain ⟨rfl, rfl⟩ := hvw)
          have y0 := hHw pre.length 0 _ _ hat rfl
          simp only [Nat.add_zero, Nat.mul_one] at y0
          have cw := HGr.out.cw
          have cmD := HGr.out.cm
          have hq : pre.length < M.length := (List.getElem?_eq_some_iff.1 hat).1
          have q0 : (0 : Int) ≤ (pre.length : Int) := by omega
          have q1 : (pre.length : Int) < (M.length : Int) := by omega
          have q2 : ¬ (M.length : Int) ≤ (pre.length : Int) := by omega
          have q3 : decide (M.length ≤ pre.length) = false := decide_eq_false (by omega)
          have q4 : (pre.length : Int) ≤ 20000 := by have := HML.out; omega
          have hst : (xs.toList != xs.toList) = false := by simp
          have hset := hb03.setCell (p := ⟨W'.heap.size + 1, 0, none⟩) (by simp) (.int .i64 ((pre.length : Int) + 1))
          have hcs : (W3.setCell ⟨W'.heap.size + 1, 0, none⟩ (.int .i64 ((pre.length : Int) + 1))).cell? ⟨W'.heap.size + 1, 0, none⟩ = some (.int .i64 ((pre ++ [(pre.length, xs)]).length : Nat)) := by
            rw [World.cell?_setCell_same _ _ _ hn, List.length_append]
            rfl
          have hts := (World.cell?_setCell_other W3 ⟨W'.heap.size + 1, 0, none⟩ ⟨W'.heap.size, 0, none⟩ (.int .i64 ((pre.length : Int) + 1)) (by simp)).trans ht
          have hms := (World.cell?_setCell_other W3 ⟨W'.heap.size + 1, 0, none⟩ ⟨w.heap.size + 1 + 1, 0, none⟩ (.int .i64 ((pre.length : Int) + 1)) (by have := HG.out.sz; first | (simp; done) | (simp; omega))).trans cmD
          have htc : Touch (fun k => k = W'.heap.size + 1) W3 (W3.setCell ⟨W'.heap.size + 1, 0, none⟩ (.int .i64 ((pre.length : Int) + 1))) := Touch.setCell W3 ⟨W'.heap.size + 1, 0, none⟩ (.int .i64 ((pre.length : Int) + 1)) rfl
          have hlp : ((pre ++ [(pre.length, xs)]).length : Int) = pre.length + 1 := by simp
          have hlpre := Lib.hid hlp
          clear hlp hHw hat hj1 hj2 hj3 hj4 hbz ht3 hb3 hs2 hbx
          gi_wp2
          have hfz : (W3.setCell ⟨W'.heap.size + 1, 0, none⟩ (.int .i64 ((pre.length : Int) + 1))).frozen? ⟨W'.heap.size + 1, 0, none⟩ = false := by rw [World.frozen?_setCell]; exact hnf
          first | exact ⟨htc, hset, hts, hcs, hfz⟩ | exact ⟨htc, hset, hts, hcs, hfz, trivial⟩
        case hstop2 => exact fun _ _ _ _ _ _ h _ => h.elim
        case hdone2 =>
          rintro D2 xs W7 hD2 rfl ⟨hbx, ht, hn, hnf, hlt⟩ hKD2
          rw [numT_length] at hn
          have HG7 := Lib.hid (HG5.out.more hbx)
          have cw7 := HG7.out.cw
          have HK7 := Lib.hid ((hbx.block D hlD).trans HK5.out)
          have HKD := Lib.hid hKD2
          have hz7 := Lib.hid (show W'.heap.size ≤ W7.heap.size from hbx.size)
          clear hbx hKD2 t6 n6 nf6 hbU6
          go_wp2
          rw [rounds_succ]
          have hbT := bel1 (W := W7) (.cells #[.int .i64 2] 3)
          have r7 := cell_bel HG7.out.cr hbT
          have rf7 := froz_bel HG7.out.cr HG7.out.fr hbT
          have hB7 := belT HG7.out.bel hbT
          have HKa := Lib.hid ((hbT.block D (Array.getElem?_eq_some_iff.1 HK7.out).1).trans HK7.out)
          have HKb := Lib.hid ((hbT.block D2 (Array.getElem?_eq_some_iff.1 HKD.out).1).trans HKD.out)
          have t8 := cell_new W7 #[.int .i64 2] 3 0
          clear hbT cw7 hn ht hnf hlt
          generalize W7.alloc _ = W8 at t8 r7 rf7 hB7 HKa HKb ⊢
          go_wp2_with (go_at_call 24; refine (CW.out _ (HE.out.on hB7)).mono ?_; rintro e w8 ⟨rfl, hb8⟩; have r8 := cell_bel r7 hb8; have rf8 := froz_bel r7 rf7 hb8; have hB8 := belT hB7 hb8)
          have hz8 := hz7.out
          have hsw : w.heap.size + 1 + 1 + 1 < D := by have := HGk.out.sz; have := HS5.out; omega
          have hDD : D < D2 := by have := HsU6.out; omega
          have hKa := (hb8.block D (Array.getElem?_eq_some_iff.1 HKa.out).1).trans HKa.out
          have hKb := (hb8.block D2 (Array.getElem?_eq_some_iff.1 HKb.out).1).trans HKb.out
          have hB9 := hB8.setCell (p := ⟨w.heap.size + 1 + 1 + 1, 0, none⟩) (by simp; omega) (.bool true)
          have hKc := (Below.heap_setCell w8 ⟨w.heap.size + 1 + 1 + 1, 0, none⟩ (.bool true) D (by simp; omega)).trans hKa
          have hKd := (Below.heap_setCell w8 ⟨w.heap.size + 1 + 1 + 1, 0, none⟩ (.bool true) D2 (by simp; omega)).trans hKb
          have c9 : (w8.setCell ⟨w.heap.size + 1 + 1 + 1, 0, none⟩ (.bool true)).cell? ⟨w.heap.size + 1 + 1 + 1, 0, none⟩ = some (.bool true) := World.cell?_setCell_same _ _ _ r8
          have hKe := (World.putObj_heap_other (o := .deferred none) (w := w8.setCell ⟨w.heap.size + 1 + 1 + 1, 0, none⟩ (.bool true)) (r := D2) (k := D) (by omega)).trans hKc
          have hc6 := cell_kept c9 (grownBy_putObj' _ D2 (.deferred none)) (fun r e => by cases e; exact ⟨_, hKd, rfl⟩)
          have hc7 := cell_kept hc6 (grownBy_putObj' _ D (.deferred none)) (fun r e => by cases e; exact ⟨_, hKe, rfl⟩)
          refine ⟨by simp, .inl ⟨_, _, rfl, run_takeDeferred hKd, ?_⟩⟩
          refine ⟨by simp, .inl ⟨_, _, rfl, run_takeDeferred hKe, ?_⟩⟩
          have hBa := hB9.trans (below_put _ D2 (.deferred none) (by omega) hB9.size)
          exact ⟨.bool true, by simp [results, Tryz.results9, go_sem, hc7], rfl, hBa.trans (below_put _ D (.deferred none) (by omega) hBa.size)⟩
end Go.Proofs.YtfnfcngkaepnjaaGreatDoor
