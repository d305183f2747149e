/- Joined texts: Package program: Wrong, Check.; Package program: Check.; The reference of layer 8: plain laws of texts, of what stands between blanks, of numbers.; The reference of layers 5 and 8: lists of words; what a word is; numbers. -/
import Derived.Test.YtfnfcngkaepnjaaGreatDoorQL25
import Derived.Test.YtfnfcngkaepnjaaGreatDoorQL18
import Derived.Test.YtfnfcngkaepnjaaGreatDoorQL14
import Derived.Test.YtfnfcngkaepnjaaGreatDoorQL12
import Derived.Test.YtfnfcngkaepnjaaGreatDoorQL8
/- Package program: Wrong, Check. -/
namespace Go.Proofs.YtfnfcngkaepnjaaGreatDoor
set_option linter.unusedVariables false
set_option linter.unusedSimpArgs false
open Go Go.Proofs Go.RowKit

theorem pgEvery_any (vf : Value) (mu rw0 gr : Int) (w : World) : Calls Tryz.prog 131 #[progV vf mu rw0 gr] w fun e w' =>
    e = .returned (.func (.func 179) #[] #[.pointer (some ⟨w.heap.size, 0, none⟩)]) ∧ w' = w.alloc (.cells #[vf, .int .i64 mu, .int .i64 rw0, .int .i64 gr] 58) := by
  go_enter Tryz.func131, Tryz.ntmps131
  go_wp2
  go_ret
  exact ⟨rfl, rfl⟩

/-- A cell's block that may be written. -/
structure BolB (B : Nat) (w : World) : Prop where
  c0 : ∃ v, w.cell? ⟨B, 0, none⟩ = some v
  f0 : w.frozen? ⟨B, 0, none⟩ = false
theorem BolB.bel {B : Nat} {w w' : World} (h : BolB B w) (hb : Below w.heap.size w w') : BolB B w' := by
  obtain ⟨⟨v0, h0⟩, f0⟩ := h
  exact ⟨⟨v0, cell_bel h0 hb⟩, froz_bel h0 f0 hb⟩
theorem BolB.new (w : World) (v0 : Value) (t : TypeId) : BolB w.heap.size (w.alloc (.cells #[v0] t)) := ⟨⟨_, cell_new w _ t 0⟩, World.frozen?_alloc_new _ _ _ _⟩
/-- Both results, stored. -/
structure WrongR (w W : World) (a b c : Value) : Prop where
  e0 : W.cell? ⟨w.heap.size + 1, 0, none⟩ = some a
  e1 : W.cell? ⟨w.heap.size + 1, 1, none⟩ = some b
  e2 : W.cell? ⟨w.heap.size + 1 + 1, 0, none⟩ = some c
  bel : Below w.heap.size w W
theorem PlcB.touch {B : Nat} {rg : Int} {vc vf : Value} {mu rw gr : Int} {pc : Nat} {w w' : World} {T : Nat → Prop} (h : PlcB B rg vc vf mu rw gr pc w) (ht : Touch T w w') (hn : ¬ T B) : PlcB B rg vc vf mu rw gr pc w' :=
  ⟨cell_touch h.c0 ht hn, cell_touch h.c1 ht hn, cell_touch h.c2 ht hn, cell_touch h.c3 ht hn, cell_touch h.c4 ht hn, cell_touch h.c5 ht hn, cell_touch h.c6 ht hn⟩
theorem wrongRes {w w1 : World} (h1 : SitB (w.heap.size + 1) w1) (h2 : BolB (w.heap.size + 1 + 1) w1) (hb : Below w.heap.size w w1) (a b c : Value) :
    WrongR w (((w1.setCell ⟨w.heap.size + 1, 0, none⟩ a).setCell ⟨w.heap.size + 1, 1, none⟩ b).setCell ⟨w.heap.size + 1 + 1, 0, none⟩ c) a b c := by
  obtain ⟨⟨s0, d0⟩, ⟨s1, d1⟩, f0, f1⟩ := h1
  obtain ⟨⟨s2, d2⟩, f2⟩ := h2
  refine ⟨?_, ?_, ?_, ((hb.setCell (p := ⟨w.heap.size + 1, 0, none⟩) (by simp) _).setCell (p := ⟨w.heap.size + 1, 1, none⟩) (by simp) _).setCell (p := ⟨w.heap.size + 1 + 1, 0, none⟩) (by simp; omega) _⟩
  · exact (World.cell?_setCell_other _ _ _ _ (by simp)).trans ((World.cell?_setCell_other _ _ _ _ (by simp)).trans (World.cell?_setCell_same _ _ _ d0))
  · exact (World.cell?_setCell_other _ _ _ _ (by simp)).trans (World.cell?_setCell_same _ _ _ ((World.cell?_setCell_other _ _ _ _ (by simp)).trans d1))
  · exact World.cell?_setCell_same _ _ _ ((World.cell?_setCell_other _ _ _ _ (by simp)).trans ((World.cell?_setCell_other _ _ _ _ (by simp)).trans d2))

attribute [local go_sem] Oper.semAt_some

set_option maxRecDepth 100000 in
set_option maxHeartbeats 4000000 in
theorem pgWrong_any (P : ProgM) (hP : P.Fits) (hl0 : P.funcs.length ≤ 100000) (v : Value) (w : World) (h : ArgP w v P) :
    Calls Tryz.prog 69 #[v] w fun e w' => e = .returned (wrongV (wrongP P)) ∧ Below w.heap.size w w' := by
  have CN := Lib.hid fun v W h => pgNumbers_any P hl0 v W h
  obtain ⟨vf, rfl, hF⟩ := h
  have b1 := bel1 (W := w) (.cells #[vf, .int .i64 P.mu, .int .i64 P.rw, .int .i64 P.gr] 58)
  have b2 := belA b1 (.cells #[.int .i64 0, .int .i64 0] 43)
  have b3 := belA b2 (.cells #[.bool false] 4)
  have s1 := SitB.new (w.alloc (.cells #[vf, .int .i64 P.mu, .int .i64 P.rw, .int .i64 P.gr] 58)) (.int .i64 0) (.int .i64 0) 43
  rw [World.size_alloc] at s1
  have HPG := Lib.hid (((PrgB.new w 58 hF).bel (bel1 (.cells #[.int .i64 0, .int .i64 0] 43))).bel (bel1 (.cells #[.bool false] 4)))
  have HST := Lib.hid (s1.bel (bel1 (.cells #[.bool false] 4)))
  have HBo : Hid (BolB (w.heap.size + 1 + 1) (((w.alloc (.cells #[vf, .int .i64 P.mu, .int .i64 P.rw, .int .i64 P.gr] 58)).alloc (.cells #[.int .i64 0, .int .i64 0] 43)).alloc (.cells #[.bool false] 4))) := Lib.hid (by
    have := BolB.new ((w.alloc (.cells #[vf, .int .i64 P.mu, .int .i64 P.rw, .int .i64 P.gr] 58)).alloc (.cells #[.int .i64 0, .int .i64 0] 43)) (.bool false) 4
    simpa only [World.size_alloc] using this)
  have HB := Lib.hid b3
  clear b1 b2 b3 s1
  obtain ⟨c0, c1, c2, c3, _⟩ := HPG.out
  unfold wrongP
  cases hn : numbersF P with
  | false =>
    rw [hn] at CN
    rw [if_neg (by decide)]
    go_enter Tryz.func69, Tryz.ntmps69
    go_wp2_with fail
    refine (CN.out _ _ HPG.out.arg).mono ?_
    rintro e w1 ⟨rfl, hb1⟩
    have HR := Lib.hid (wrongRes (w := w) (w1 := w1) (HST.out.bel hb1) (HBo.out.bel hb1) (belT HB.out hb1) (.int .i64 0) (.int .i64 0) (.bool false))
    obtain ⟨⟨s0, d0⟩, ⟨s1, d1⟩, f0, f1⟩ := HST.out.bel hb1
    obtain ⟨⟨s2, d2⟩, f2⟩ := HBo.out.bel hb1
    go_wp2_with fail
    obtain ⟨e0, e1, e2, hbR⟩ := HR.out
    exact bodyPost_ret (v := .tuple #[.agg #[.int .i64 0, .int .i64 0], .bool false]) (by simp [results, Tryz.results69, go_sem, e0, e1, e2]) rfl ⟨rfl, hbR⟩
  | true =>
    rw [hn] at CN
    rw [if_pos rfl]
    have hN := (numbersF_iff P).1 hn
    obtain ⟨F, mu, rw0, gr⟩ := P
    dsimp only at hF HPG HB HST HBo hN c0 c1 c2 c3 ⊢
    obtain ⟨⟨⟨hl1, hl32⟩, _⟩, hN2⟩ := hN
    have HN2 := Lib.hid hN2
    clear hN2 hn
    obtain ⟨R, hR1, hR2⟩ := hF
    have hRF := hR2.row
    obtain ⟨av, cv, hav⟩ := hR1.form
    have hbF : ∃ bF, bF < w.heap.size ∧ ∀ b o n c, vf = .slice (some ⟨b, o, none⟩) n c → b = bF := by
      obtain ⟨r, hr⟩ : ∃ r, R[0]? = some r := ⟨R[0]'(by rw [hRF.len]; omega), List.getElem?_eq_getElem _⟩
      obtain ⟨b, o, c, hv, _, hH⟩ := hR1.at_ hr
      refine ⟨b, lt_of_cell (hH 0 0 _ _ hr rfl), fun b' o' n' c' hv' => ?_⟩
      rw [hv] at hv'
      simp only [Value.slice.injEq, Option.some.injEq, Addr.mk.injEq] at hv'
      exact hv'.1.1.symm
    obtain ⟨bF, hbFl, hbF⟩ := hbF
    have HBF := Lib.hid hbF
    have HR1 := Lib.hid hR1
    have HR2 := Lib.hid hR2
    have HRF := Lib.hid hRF
    rw [hRF.len] at hav
    subst hav
    clear hbF hR1 hR2 hRF
    refine (callsIn_wide (n := 20)).1 ?_
    refine callsIn_of_wp_marks Tryz.func69 rfl trivial ?_ rfl
    simp only [Tryz.ntmps69, List.size_toArray, List.length_cons, List.length_nil, Nat.reduceAdd, Nat.reduceSub, Array.replicate_succ, Array.replicate_zero, List.push_toArray, List.append_toArray, List.nil_append, List.cons_append]
    refine wpIn_wide.2 ?_
    go_wp2_with fail
    refine (CN.out _ _ HPG.out.arg).mono ?_
    rintro e w1 ⟨rfl, hb1⟩
    clear c0 c1 c2 c3
    have HPG := Lib.hid (HPG.out.bel hb1)
    have HST := Lib.hid (HST.out.bel hb1)
    have HBo := Lib.hid (HBo.out.bel hb1)
    have HB := Lib.hid (belT HB.out hb1)
    clear hb1 CN
    obtain ⟨c0, c1, c2, c3, _⟩ := HPG.out
    dsimp only at c1 c2 c3
    go_wp2_with fail
    refine (pgEvery_any (.slice av F.length cv) mu rw0 gr w1).mono ?_
    rintro e w2 ⟨rfl, rfl⟩
    clear c0 c1 c2 c3
    have hbE := bel1 (W := w1) (.cells #[(.slice av F.length cv), .int .i64 mu, .int .i64 rw0, .int .i64 gr] 58)
    have HEC : Hid (EvC w1.heap.size bF (.slice av F.length cv) mu rw0 gr R (w1.alloc (.cells #[(.slice av F.length cv), .int .i64 mu, .int .i64 rw0, .int .i64 gr] 58))) :=
      Lib.hid ⟨cell_new w1 _ _ 0, cell_new w1 _ _ 1, cell_new w1 _ _ 2, cell_new w1 _ _ 3, HR1.out.bel (belT HB.out hbE), HBF.out⟩
    have HSZ := Lib.hid (show w.heap.size + 1 + 1 < w1.heap.size ∧ (w1.alloc (.cells #[(.slice av F.length cv), .int .i64 mu, .int .i64 rw0, .int .i64 gr] 58)).heap.size = w1.heap.size + 1 from ⟨by obtain ⟨v, hv⟩ := HBo.out.c0; exact lt_of_cell hv, by simp⟩)
    have HST := Lib.hid (HST.out.bel hbE)
    have HBo := Lib.hid (HBo.out.bel hbE)
    have HB := Lib.hid (belT HB.out hbE)
    clear hbE HPG
    generalize w1.alloc _ = U at HEC HSZ HST HBo HB ⊢
    go_wp2_with fail
    refine (wpIn_wide (n := 20)).1 ?_
    refine wpIn_rangeT rfl (by omega) (gf := 179) (lb := #[.pointer (some ⟨w1.heap.size, 0, none⟩)]) (by simp [go_sem]) trivial (enters_of Tryz.func179 (by kernel_rfl) rfl)
      (pgEvery_in (20 - 1) w1.heap.size bF (by omega) (.slice av F.length cv) mu rw0 gr R F (by omega) (fun f hf => by have := (HN2.out f hf).2.2; omega) HRF.out) (fun W' hb => HEC.out.bel hb) (fun _ => rfl)
      (fun k => k = w.heap.size + 1 ∨ k = w.heap.size + 1 + 1) (fun k h => ⟨by have := HSZ.out; omega, fun h' => by have := HSZ.out; omega⟩) (fun k h => by have := HSZ.out; omega) (fun k h => h.elim)
      (fun pre W' => (∀ y ∈ pre, ∀ fn i, F[y.f]? = some fn → fn.code[y.pc]? = some i → fineF F fn y.pc i = true) ∧ Below U.heap.size U W')
      (fun c pre W' => c = .ret ∧ ∃ f pc : Nat, WrongAt F f pc ∧ WrongR w W' (.int .i64 f) (.int .i64 pc) (.bool true)) ?hI ?hIx ?hs ?hround ?hdone ?hstop
    case hI =>
      rintro s A B ⟨ha, hb0⟩ hb
      exact ⟨ha, hb0.trans (hb.below (fun _ _ h => h))⟩
    case hIx =>
      rintro c s A B ⟨rfl, f, pc, hw, h0, h1, h2, h3⟩ hb
      have hb' := hb.below (fun _ _ h => h)
      have := HSZ.out
      exact ⟨rfl, f, pc, hw, cell_belB h0 hb' (by omega), cell_belB h1 hb' (by omega), cell_belB h2 hb' (by omega), h3.trans (hb'.mono (by omega))⟩
    case hs => exact ⟨(fun y hy => by cases hy), Below.refl _ _⟩
    case hround =>
      rintro l2 pre x W2 ⟨hfine, hbx⟩ hsz2 hlen hsp
      obtain ⟨r, fn, hr, hf, hpc, hrg, hvc⟩ := mem_rows (y := x) (hsp.subset (by simp))
      obtain ⟨hrr, ac, cc, hrv⟩ := HRF.out.fn x.f r fn hr hf
      obtain ⟨xf, xpc, xrg, xvc⟩ := x
      dsimp only at hr hf hpc hrg hvc
      rw [hrv] at hvc
      rw [hrr] at hrg
      subst hvc hrg
      gi_wp2
      refine ⟨Touch.below (belA (bel1 _) _), fun W3 hb3 ht3 => ?_⟩
      have hszU := HSZ.out
      have hbA : Below W2.heap.size W2 ((W2.alloc (.cells #[.int .i64 xf, .int .i64 xpc] 43)).alloc (.cells #[.int .i64 fn.regs, (.slice ac fn.code.length cc), (.slice av F.length cv), .int .i64 mu, .int .i64 rw0, .int .i64 gr, .int .i64 xpc] 213)) := belA (bel1 _) _
      have hb2 : Below U.heap.size W2 W3 := (hbA.mono (by omega)).trans hb3
      have hb3' : Below U.heap.size U W3 := hbx.trans hb2
      have hS := cell_al (cell_new W2 #[.int .i64 xf, .int .i64 xpc] 43 0) (.cells #[.int .i64 fn.regs, (.slice ac fn.code.length cc), (.slice av F.length cv), .int .i64 mu, .int .i64 rw0, .int .i64 gr, .int .i64 xpc] 213)
      have hS' := cell_al (cell_new W2 #[.int .i64 xf, .int .i64 xpc] 43 1) (.cells #[.int .i64 fn.regs, (.slice ac fn.code.length cc), (.slice av F.length cv), .int .i64 mu, .int .i64 rw0, .int .i64 gr, .int .i64 xpc] 213)
      have hPl := PlcB.new (W2.alloc (.cells #[.int .i64 xf, .int .i64 xpc] 43)) fn.regs (.slice ac fn.code.length cc) (.slice av F.length cv) mu rw0 gr xpc 213
      rw [World.size_alloc] at hPl
      have t0 := cell_touch hS ht3 (by omega)
      have t1 := cell_touch hS' ht3 (by omega)
      have HPL := Lib.hid (hPl.touch ht3 (by omega))
      obtain ⟨i, hi⟩ : ∃ i, fn.code[xpc]? = some i := ⟨fn.code[xpc], List.getElem?_eq_getElem hpc⟩
      have hin := hP.imm fn (List.mem_of_getElem? hf) i (List.mem_of_getElem? hi)
      have hl5 := (HN2.out fn (List.mem_of_getElem? hf)).2.2
      have hcode := (HR2.out.fn xf r fn hr hf).2
      rw [hrv] at hcode
      have hPA : PlcA F fn (.slice ac fn.code.length cc) (.slice av F.length cv) W3 := ⟨hcode.bel (belT HB.out hb3'), ⟨R, HR1.out.bel (belT HB.out hb3'), HR2.out.bel (belT HB.out hb3')⟩⟩
      have CF := Lib.hid (plcFine_any F (.slice ac fn.code.length cc) (.slice av F.length cv) mu rw0 gr xpc fn i hi hl5 hin W3 hPA)
      have HBf := Lib.hid (before_of HRF.out.len hsp hfine)
      have HFN := Lib.hid hf
      have HIN := Lib.hid hi
      have HFI := Lib.hid hfine
      have HB3 := Lib.hid hb3'
      obtain ⟨p0, p1, p2, p3, p4, p5, p6⟩ := HPL.out
      clear hPA hcode hr hf hpc hi hin hrr hrv hfine hbA hb2 hb3' hS hS' hPl hb3 hbx hsp
      cases hfx : fineF F fn xpc i with
      | true =>
        rw [hfx] at CF
        have HFX := Lib.hid hfx
        clear hfx
        gi_wp2_with (refine ⟨trivial, ?_⟩; gi_at_call 132; refine (CallsIn.inRound l2 (callsIn_wide.2 CF.out)).mono ?_; rintro e W4 ⟨rfl, hb4⟩)
        refine ⟨Touch.below hb4, fun y hy fn' i' e1 e2 => ?_, HB3.out.trans (hb4.mono HB3.out.size)⟩
        rcases List.mem_append.1 hy with hy | hy
        · exact HFI.out y hy fn' i' e1 e2
        · obtain rfl := List.mem_singleton.1 hy
          dsimp only at e1 e2 ⊢
          rw [HFN.out] at e1
          cases e1
          rw [HIN.out] at e2
          cases e2
          exact HFX.out
      | false =>
        rw [hfx] at CF
        have HFX := Lib.hid hfx
        clear hfx
        gi_wp2_with (refine ⟨trivial, ?_⟩; gi_at_call 132; refine (CallsIn.inRound l2 (callsIn_wide.2 CF.out)).mono ?_; rintro e W4 ⟨rfl, hb4⟩; have t0 := cell_bel t0 hb4; have t1 := cell_bel t1 hb4; have HST4 := Lib.hid ((HST.out.bel HB3.out).bel hb4); have HBo4 := Lib.hid ((HBo.out.bel HB3.out).bel hb4); obtain ⟨⟨s0, d0⟩, ⟨s1, d1⟩, f0, f1⟩ := HST4.out; obtain ⟨⟨s2, d2⟩, f2⟩ := HBo4.out; have HB4 := Lib.hid (belT (belT HB.out HB3.out) hb4))
        have hR := wrongRes HST4.out HBo4.out HB4.out (.int .i64 xf) (.int .i64 xpc) (.bool true)
        have hT : Touch (fun k => k = w.heap.size + 1 ∨ k = w.heap.size + 1 + 1) W3 (((W4.setCell ⟨w.heap.size + 1, 0, none⟩ (.int .i64 xf)).setCell ⟨w.heap.size + 1, 1, none⟩ (.int .i64 xpc)).setCell ⟨w.heap.size + 1 + 1, 0, none⟩ (.bool true)) :=
          (((Touch.below hb4).trans (Touch.setCell _ _ _ (Or.inl rfl))).trans (Touch.setCell _ _ _ (Or.inl rfl))).trans (Touch.setCell _ _ _ (Or.inr rfl))
        exact ⟨hT, rfl, xf, xpc, ⟨⟨fn, i, HFN.out, HIN.out, HFX.out⟩, HBf.out⟩, hR⟩
    case hdone =>
      rintro D xs W' hD rfl ⟨hfine, hbx⟩ hKD
      have HQ := Lib.hid (wrongF_none (all_of HRF.out.len hfine))
      have HST7 := Lib.hid (HST.out.bel hbx)
      have HBo7 := Lib.hid (HBo.out.bel hbx)
      have HB7 := Lib.hid (belT HB.out hbx)
      obtain ⟨⟨s0, d0⟩, ⟨s1, d1⟩, f0, f1⟩ := HST7.out
      obtain ⟨⟨s2, d2⟩, f2⟩ := HBo7.out
      have HKD := Lib.hid hKD
      have hszD := HSZ.out
      clear hfine hbx hKD
      go_wp2
      have hR := wrongRes HST7.out HBo7.out HB7.out (.int .i64 0) (.int .i64 0) (.bool false)
      have hKx := (Below.heap_setCell ((W'.setCell ⟨w.heap.size + 1, 0, none⟩ (.int .i64 0)).setCell ⟨w.heap.size + 1, 1, none⟩ (.int .i64 0)) ⟨w.heap.size + 1 + 1, 0, none⟩ (.bool false) D (by simp; omega)).trans ((Below.heap_setCell (W'.setCell ⟨w.heap.size + 1, 0, none⟩ (.int .i64 0)) ⟨w.heap.size + 1, 1, none⟩ (.int .i64 0) D (by simp; omega)).trans ((Below.heap_setCell W' ⟨w.heap.size + 1, 0, none⟩ (.int .i64 0) D (by simp; omega)).trans HKD.out))
      generalize ((W'.setCell _ _).setCell _ _).setCell _ _ = Wx at hR hKx ⊢
      have k0 := cell_kept hR.e0 (grownBy_putObj' _ D (.deferred none)) (fun r e => by cases e; exact ⟨_, hKx, rfl⟩)
      have k1 := cell_kept hR.e1 (grownBy_putObj' _ D (.deferred none)) (fun r e => by cases e; exact ⟨_, hKx, rfl⟩)
      have k2 := cell_kept hR.e2 (grownBy_putObj' _ D (.deferred none)) (fun r e => by cases e; exact ⟨_, hKx, rfl⟩)
      refine ⟨by simp, .inl ⟨_, _, rfl, run_takeDeferred hKx, ?_⟩⟩
      exact ⟨.tuple #[.agg #[.int .i64 0, .int .i64 0], .bool false], by simp [results, Tryz.results69, go_sem, k0, k1, k2], by rw [HQ.out]; rfl, hR.bel.trans (below_put _ D (.deferred none) (by omega) hR.bel.size)⟩
    case hstop =>
      rintro D c pre W' hD hsp ⟨rfl, f, pc, hw, hWR⟩ hKD
      have HQ := Lib.hid (wrongF_some hw)
      have hszD := HSZ.out
      have HKD := Lib.hid hKD
      refine wpIn_wide.2 ?_
      go_wp2
      have hR := hWR
      have hKx := HKD.out
      have k0 := cell_kept hR.e0 (grownBy_putObj' _ D (.deferred none)) (fun r e => by cases e; exact ⟨_, hKx, rfl⟩)
      have k1 := cell_kept hR.e1 (grownBy_putObj' _ D (.deferred none)) (fun r e => by cases e; exact ⟨_, hKx, rfl⟩)
      have k2 := cell_kept hR.e2 (grownBy_putObj' _ D (.deferred none)) (fun r e => by cases e; exact ⟨_, hKx, rfl⟩)
      refine ⟨by simp, .inl ⟨_, _, rfl, run_takeDeferred hKx, ?_⟩⟩
      exact ⟨.tuple #[.agg #[.int .i64 f, .int .i64 pc], .bool true], by simp [results, Tryz.results69, go_sem, k0, k1, k2], by rw [HQ.out]; rfl, hR.bel.trans (below_put _ D (.deferred none) (by omega) hR.bel.size)⟩
end Go.Proofs.YtfnfcngkaepnjaaGreatDoor

/- Package program: Check. -/
namespace Go.Proofs.YtfnfcngkaepnjaaGreatDoor
set_option linter.unusedVariables false
set_option linter.unusedSimpArgs false
open Go Go.Proofs Go.RowKit

noncomputable def checkP (P : ProgM) : Int := if rightP P = true then 0 else 2

set_option maxRecDepth 100000 in
set_option maxHeartbeats 2000000 in
theorem pgCheck_any (P : ProgM) (hP : P.Fits) (hl0 : P.funcs.length ≤ 100000) (v : Value) (w : World) (h : ArgP w v P) :
    Calls Tryz.prog 61 #[v] w fun e w' => e = .returned (.int .i64 (checkP P)) ∧ Below w.heap.size w w' := by
  have CN := Lib.hid fun v W h => pgNumbers_any P hl0 v W h
  have CW := Lib.hid fun v W h => pgWrong_any P hP hl0 v W h
  obtain ⟨vf, rfl, hF⟩ := h
  have HPG := Lib.hid (PrgB.new w 58 hF)
  have HB := Lib.hid (bel1 (W := w) (.cells #[vf, .int .i64 P.mu, .int .i64 P.rw, .int .i64 P.gr] 58))
  obtain ⟨c0, c1, c2, c3, _⟩ := HPG.out
  have HQ : Hid (numbersF P = false ∧ rightP P = false ∨ numbersF P = true ∧ wrongP P = none ∧ rightP P = true ∨ ∃ f pc, numbersF P = true ∧ wrongP P = some (f, pc) ∧ rightP P = false) := Lib.hid (by
    unfold wrongP rightP
    cases numbersF P with
    | false => exact Or.inl ⟨rfl, rfl⟩
    | true =>
      cases wrongF P.funcs with
      | none => exact Or.inr (Or.inl ⟨rfl, rfl, rfl⟩)
      | some q => exact Or.inr (Or.inr ⟨q.1, q.2, rfl, rfl, rfl⟩))
  unfold checkP
  rcases HQ.out with ⟨h1, h3⟩ | ⟨h1, h2, h3⟩ | ⟨f, pc, h1, h2, h3⟩
  · rw [h1] at CN
    rw [h3, if_neg (by decide)]
    clear h1 h3 HQ CW
    go_enter Tryz.func61, Tryz.ntmps61
    go_wp2
    refine wp_scope_fwd 0 rfl ?_
    go_wp2_with (refine (CN.out _ _ HPG.out.arg).mono ?_; rintro e w1 ⟨rfl, hb1⟩)
    go_step3
    refine ⟨rfl, ?_⟩
    go_wp2
    rw [Exit.noGoto_ret]
    go_ret
    exact ⟨rfl, belT HB.out hb1⟩
  · rw [h1] at CN
    rw [h2] at CW
    rw [h3, if_pos rfl]
    clear h1 h2 h3 HQ
    unfold wrongV at CW
    go_enter Tryz.func61, Tryz.ntmps61
    go_wp2
    refine wp_scope_fwd 0 rfl ?_
    go_wp2_with (fail)
    refine (CN.out _ _ HPG.out.arg).mono ?_
    rintro e w1 ⟨rfl, hb1⟩
    clear c0 c1 c2 c3
    have HPG1 := Lib.hid (HPG.out.bel hb1)
    obtain ⟨c0, c1, c2, c3, _⟩ := HPG1.out
    go_wp2_with (fail)
    refine (CW.out _ _ HPG1.out.arg).mono ?_
    rintro e w2 ⟨rfl, hb2⟩
    go_wp2_with (fail)
    rw [fwd_ret]
    go_ret
    exact ⟨rfl, belA (belT (belT HB.out hb1) hb2) _⟩
  · rw [h1] at CN
    rw [h2] at CW
    rw [h3, if_neg (by decide)]
    clear h1 h2 h3 HQ
    unfold wrongV at CW
    dsimp only at CW
    go_enter Tryz.func61, Tryz.ntmps61
    go_wp2
    refine wp_scope_fwd 0 rfl ?_
    go_wp2_with (fail)
    refine (CN.out _ _ HPG.out.arg).mono ?_
    rintro e w1 ⟨rfl, hb1⟩
    clear c0 c1 c2 c3
    have HPG1 := Lib.hid (HPG.out.bel hb1)
    obtain ⟨c0, c1, c2, c3, _⟩ := HPG1.out
    go_wp2_with (fail)
    refine (CW.out _ _ HPG1.out.arg).mono ?_
    rintro e w2 ⟨rfl, hb2⟩
    go_wp2_with (fail)
    go_step3
    refine ⟨rfl, ?_⟩
    go_wp2
    rw [Exit.noGoto_ret]
    go_ret
    exact ⟨rfl, belA (belT (belT HB.out hb1) hb2) _⟩
end Go.Proofs.YtfnfcngkaepnjaaGreatDoor

/- The reference of layer 8: plain laws of texts, of what stands between blanks, of numbers. -/
namespace Go.Proofs.YtfnfcngkaepnjaaGreatDoor
set_option linter.unusedVariables false
set_option linter.unusedSimpArgs false
open Go Go.Proofs Go.RowKit

/-- What a letter adds to a text. -/
def letT (x : Nat) (a b c m : Int) : List UInt8 :=
  if x = 97 then [32, 114] ++ Lib.decDigits a.toNat else if x = 98 then [32, 114] ++ Lib.decDigits b.toNat else if x = 99 then [32, 114] ++ Lib.decDigits c.toNat
  else if x = 110 then [32] ++ Lib.decDigits c.toNat else if x = 105 then [32] ++ Lib.decDigits m.toNat else if x = 102 then [32, 102] ++ Lib.decDigits m.toNat else []
def textR (op a b c m : Int) : List UInt8 := (insN op m).data.toList ++ (namesR op).data.toList.flatMap fun x => letT x.toNat a b c m

theorem join_flat : ∀ (r : List (List UInt8)) (x : List UInt8) (c : UInt8), Lib.join (x :: r) [c] = x ++ r.flatMap fun y => [c] ++ y
  | [], x, c => by simp [Lib.join_one]
  | y :: r, x, c => by rw [join_two, join_flat r y c]; simp

def partX (a b c m : Int) (p : Part) : List UInt8 := [32] ++ (p.mark.data.toList ++ Lib.decDigits (getF p a b c m).toNat)
theorem textF_flat (op a b c m : Int) : textF op a b c m = (insN op m).data.toList ++ (textP ((namedL.lookup op).getD [])).flatMap (partX a b c m) := by
  unfold textF textL joinS
  rw [List.map_cons, join_flat, List.map_map, List.flatMap_map]
  congr 1

theorem flat_eq (a b c m : Int) : ∀ k : Nat, k < 19 → (textP ((namedL.lookup ((k : Int) + 1)).getD [])).flatMap (partX a b c m) = (namesR ((k : Int) + 1)).data.toList.flatMap (fun x => letT x.toNat a b c m)
  | 0, _ => by kernel_rfl
  | 1, _ => by kernel_rfl
  | 2, _ => by kernel_rfl
  | 3, _ => by kernel_rfl
  | 4, _ => by kernel_rfl
  | 5, _ => by kernel_rfl
  | 6, _ => by kernel_rfl
  | 7, _ => by kernel_rfl
  | 8, _ => by kernel_rfl
  | 9, _ => by kernel_rfl
  | 10, _ => by kernel_rfl
  | 11, _ => by kernel_rfl
  | 12, _ => by kernel_rfl
  | 13, _ => by kernel_rfl
  | 14, _ => by kernel_rfl
  | 15, _ => by kernel_rfl
  | 16, _ => by kernel_rfl
  | 17, _ => by kernel_rfl
  | 18, _ => by kernel_rfl
  | n + 19, h => absurd h (by omega)

theorem textR_F (op a b c m : Int) (h : 1 ≤ op ∧ op ≤ 19) : textR op a b c m = textF op a b c m := by
  obtain ⟨k, rfl⟩ : ∃ k : Nat, op = (k : Int) + 1 := ⟨(op - 1).toNat, by omega⟩
  rw [textF_flat, flat_eq a b c m k (by omega)]
  rfl

end Go.Proofs.YtfnfcngkaepnjaaGreatDoor

/- The reference of layers 5 and 8: lists of words; what a word is; numbers. -/
namespace Go.Proofs.YtfnfcngkaepnjaaGreatDoor
set_option linter.unusedVariables false
open Go Go.Proofs Go.RowKit

/-- A row of strings. -/
def RowS (B : Nat) (L : List ByteArray) (w : World) : Prop := ∀ j x, L[j]? = some x → w.cell? ⟨B, j, none⟩ = some (.string x)
theorem RowS.bel {B : Nat} {L : List ByteArray} {w w' : World} (h : RowS B L w) (hb : Below w.heap.size w w') : RowS B L w' := fun j x hj => cell_bel (h j x hj) hb
theorem rowS_new (L : List ByteArray) (w : World) (t : TypeId) : RowS w.heap.size L (w.alloc (.cells (L.map Value.string).toArray t)) := fun j x hj => by
  refine (cell_new w _ t j).trans ?_
  simp [hj]

def wordRL : List ByteArray := wordL.drop 1
/-- What Words and Names tell. -/
def RowQ (L : List ByteArray) (w : World) (e : Ending) (w' : World) : Prop := ∃ B, e = .returned (.slice (some ⟨B, 0, none⟩) L.length L.length) ∧ RowS B L w' ∧ Below w.heap.size w w'

theorem rWords_any (w : World) : Calls Tryz.prog 134 #[] w (RowQ wordRL w) := by
  have HR := Lib.hid (rowS_new wordRL w 9)
  go_enter Tryz.func134, Tryz.ntmps134
  go_wp2
  go_ret
  exact ⟨_, rfl, HR.out, bel1 _⟩
theorem rKinds_any (w : World) : Calls Tryz.prog 135 #[] w (RowQ kindL w) := by
  have HR := Lib.hid (rowS_new kindL w 9)
  go_enter Tryz.func135, Tryz.ntmps135
  go_wp2
  go_ret
  exact ⟨_, rfl, HR.out, bel1 _⟩

theorem rWords19 (w : World) : Calls Tryz.prog 134 #[] w fun e w' => ∃ B, e = .returned (.slice (some ⟨B, 0, none⟩) 19 19) ∧ RowS B wordRL w' ∧ Below w.heap.size w w' := rWords_any w
theorem rKinds12 (w : World) : Calls Tryz.prog 135 #[] w fun e w' => ∃ B, e = .returned (.slice (some ⟨B, 0, none⟩) 12 12) ∧ RowS B kindL w' ∧ Below w.heap.size w w' := rKinds_any w

theorem kindN_at (j : Nat) (h : j < 12) : kindL[j]? = some (kindN j) := by
  unfold kindN
  rw [List.getD_eq_getElem?_getD, List.getElem?_eq_getElem (show j < kindL.length from h)]
  rfl

end Go.Proofs.YtfnfcngkaepnjaaGreatDoor
