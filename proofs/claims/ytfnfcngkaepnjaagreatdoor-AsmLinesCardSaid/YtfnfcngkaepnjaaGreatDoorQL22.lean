/- Joined texts: Reference 09: may an instruction be at a place of a function? -/
import Derived.Test.YtfnfcngkaepnjaaGreatDoorQL21
import Derived.Test.YtfnfcngkaepnjaaGreatDoorQL17
import Derived.BigQuiet
/- Reference 09: may an instruction be at a place of a function? -/
namespace Go.Proofs.YtfnfcngkaepnjaaGreatDoor
set_option linter.unusedVariables false
set_option linter.unusedSimpArgs false
open Go Go.Proofs Go.RowKit Go.Sort

/-- A call's target, and what is handed to it. -/
def callsF (F : List FnM) (x : InsM) : Bool := match F[x.m.toNat]? with | none => false | some g => decide (x.c ≤ g.regs)
def fitsF (f : FnM) (x : InsM) : Bool := rightF x.op x.a x.b x.c x.m && decide (regsF x.op x.a x.b x.c x.m ≤ f.regs)
def jumpsF (f : FnM) (x : InsM) : Bool := !(decide (x.op = 4) || decide (x.op = 5)) || decide (x.m < f.code.length)
def callF (F : List FnM) (x : InsM) : Bool := !(decide (x.op = 8) || decide (x.op = 10)) || callsF F x
def endsF (f : FnM) (pc : Nat) (x : InsM) : Bool := decide (pc + 1 < f.code.length) || leavesF x.op x.a x.b x.c x.m
/-- May an instruction be there? -/
def fineF (F : List FnM) (f : FnM) (pc : Nat) (x : InsM) : Bool := fitsF f x && (jumpsF f x && (callF F x && endsF f pc x))

theorem ArgF.reg {w : World} {b o n c : Nat} {F : List FnM} {k : Nat} {f : FnM} (h : ArgF w (.slice (some ⟨b, o, none⟩) n c) F) (hf : F[k]? = some f) : w.cell? ⟨b, o + k * 2, none⟩ = some (.int .i64 f.regs) := by
  obtain ⟨b', o', c', vc, hv, _, h0, _⟩ := h.at_ hf
  simp only [Value.slice.injEq, Option.some.injEq, Addr.mk.injEq, and_true] at hv
  obtain ⟨⟨rfl, rfl⟩, _, _⟩ := hv
  exact h0

/-- Fine's world: the program, the instruction. -/
structure FinV (w : World) (b o c : Nat) (F : List FnM) (op a bb cc m : Int) (V : World) : Prop where
  bel : Below w.heap.size w V
  ins : Bare (w.heap.size + 1) op (a, bb, cc, m) V
  p0 : V.cell? ⟨w.heap.size, 0, none⟩ = some (.slice (some ⟨b, o, none⟩) F.length c)
  fns : ArgF V (.slice (some ⟨b, o, none⟩) F.length c) F
theorem FinV.more {w : World} {b o c : Nat} {F : List FnM} {op a bb cc m : Int} {V V' : World} (h : FinV w b o c F op a bb cc m V) (hb : Below V.heap.size V V') : FinV w b o c F op a bb cc m V' :=
  ⟨belT h.bel hb, h.ins.bel hb, cell_bel h.p0 hb, h.fns.bel hb⟩

set_option maxRecDepth 100000 in
set_option maxHeartbeats 4000000 in
theorem rFine_any (P : ProgM) (hP : P.Fits) (k pc : Nat) (f : FnM) (x : InsM) (hk : P.funcs[k]? = some f) (hx : f.code[pc]? = some x) (hl : f.code.length ≤ 512) (v : Value) (w : World) (h : ArgP w v P) :
    Calls Tryz.prog 139 #[v, .int .i64 k, .int .i64 pc] w fun e w' => e = .returned (.bool (fineF P.funcs f pc x)) ∧ Below w.heap.size w w' := by
  have hm := hP.imm f (List.mem_of_getElem? hk) x (List.mem_of_getElem? hx)
  obtain ⟨vf, rfl, hF⟩ := h
  obtain ⟨F, mu, rw0, gr⟩ := P
  dsimp only at hF hk ⊢
  obtain ⟨b, o, c, vc, rfl, hc, x0, x1, hcd⟩ := hF.at_ hk
  obtain ⟨b2, o2, c2, rfl, hc2, y0, y1, y2, y3, y4⟩ := code_at hcd hx
  have hkl : k < F.length := (List.getElem?_eq_some_iff.1 hk).1
  have hpl : pc < f.code.length := (List.getElem?_eq_some_iff.1 hx).1
  have HF := Lib.hid hF
  obtain ⟨op, a, bb, cc, m⟩ := x
  dsimp only at y0 y1 y2 y3 y4 hm
  have CR := Lib.hid fun W => rRight_F op a bb cc m hm W
  have CG := Lib.hid fun W => rRegs_any op a bb cc m hm W
  have CL := Lib.hid fun W => rLeaves_any op a bb cc m hm W
  unfold insV at CR CG CL
  have B1 := bel1 (W := w) (.cells #[.slice (some ⟨b, o, none⟩) F.length c, .int .i64 mu, .int .i64 rw0, .int .i64 gr] 58)
  have x0 := cell_bel x0 B1
  have x1 := cell_bel x1 B1
  have y0 := cell_bel y0 B1
  have y1 := cell_bel y1 B1
  have y2 := cell_bel y2 B1
  have y3 := cell_bel y3 B1
  have y4 := cell_bel y4 B1
  have p0 := cell_new w #[.slice (some ⟨b, o, none⟩) F.length c, .int .i64 mu, .int .i64 rw0, .int .i64 gr] 58 0
  have HK := Lib.hid hk
  clear hcd hF hk hx
  go_enter Tryz.func139, Tryz.ntmps139
  have HV : Hid (FinV w b o c F op a bb cc m ((w.alloc (.cells #[.slice (some ⟨b, o, none⟩) F.length c, .int .i64 mu, .int .i64 rw0, .int .i64 gr] 58)).alloc (.cells #[.int .i64 op, .int .i64 a, .int .i64 bb, .int .i64 cc, .int .u32 m] 29))) := Lib.hid (by
    have hI := Bare.new op a bb cc m (w.alloc (.cells #[.slice (some ⟨b, o, none⟩) F.length c, .int .i64 mu, .int .i64 rw0, .int .i64 gr] 58)) 29
    simp only [World.size_alloc] at hI
    exact ⟨belA B1 _, hI, cell_al p0 _, (HF.out.bel B1).bel (bel1 _)⟩)
  have hli : (f.code.length : Int) ≤ 512 := by omega
  have hkn : ((k : Int)).toNat = k := by omega
  have hk0 : (0 : Int) ≤ (k : Int) := by omega
  have hk1 : (k : Int) < (F.length : Int) := by omega
  have HM := Lib.hid hm
  have hq : fineF F f pc ⟨op, a, bb, cc, m⟩ = (fitsF f ⟨op, a, bb, cc, m⟩ && (jumpsF f ⟨op, a, bb, cc, m⟩ && (callF F ⟨op, a, bb, cc, m⟩ && endsF f pc ⟨op, a, bb, cc, m⟩))) := rfl
  have HQ := Lib.hid hq
  clear hq
  go_wp2_with fail
  generalize (w.alloc _).alloc _ = V at HV ⊢
  clear B1 p0 x0 x1 y0 y1 y2 y3 y4
  cases hr : rightF op a bb cc m with
  | false =>
    rw [hr] at CR
    have CR2 := Lib.hid fun (d' : Nat) os => Calls.regrown_of (CR.out (grow (redrawn V d') os))
    have HQ := Lib.hid (show fineF F f pc ⟨op, a, bb, cc, m⟩ = false by rw [HQ.out]; unfold fitsF; dsimp only; rw [hr, Bool.false_and, Bool.false_and])
    clear hr CR CG CL
    obtain ⟨j0, j1, j2, j3, j4, _, _, _, _⟩ := HV.out.ins
    dsimp only at j1 j2 j3 j4
    have i0 := cell_regrown j0
    have i1 := cell_regrown j1
    have i2 := cell_regrown j2
    have i3 := cell_regrown j3
    have i4 := cell_regrown j4
    have p3 := cell_regrown HV.out.p0
    have z3 := cell_regrown (HV.out.fns.reg HK.out)
    clear j0 j1 j2 j3 j4
    refine wp_region_quiet_below (by kernel_rfl) (by kernel_rfl) ?_
    repeat (go_big_quiet_step (with_reducible exact CR2.out _ _))
    refine wpQuiet_nil ?_
    intro _ hw'
    obtain ⟨⟨dq, osq⟩, hw''⟩ := hw'
    subst hw''
    go_wp2_with fail
    go_ret
    exact ⟨ret_bool HQ.out.symm, belT HV.out.bel (below_regrown V dq osq)⟩
  | true =>
    rw [hr] at CR
    have CR2 := Lib.hid fun (d' : Nat) os => Calls.regrown_of (CR.out (grow (redrawn V d') os))
    have CG2 := Lib.hid fun (d' : Nat) os => Calls.regrown_of (CG.out (grow (redrawn V d') os))
    obtain ⟨hop, ha, hb, hcc⟩ := rightF_bd hr
    have HR := Lib.hid hr
    clear hr
    generalize hrg : regsF op a bb cc m = rg at CG2
    have HRG := Lib.hid hrg
    clear hrg CR CG
    by_cases hrl : rg ≤ f.regs
    · have hd : decide (f.regs < rg) = false := decide_eq_false (by omega)
      have HQ := Lib.hid (show fineF F f pc ⟨op, a, bb, cc, m⟩ = (jumpsF f ⟨op, a, bb, cc, m⟩ && (callF F ⟨op, a, bb, cc, m⟩ && endsF f pc ⟨op, a, bb, cc, m⟩)) by rw [HQ.out]; unfold fitsF; dsimp only; rw [HR.out, HRG.out, decide_eq_true hrl, Bool.true_and, Bool.true_and])
      clear hrl
      obtain ⟨j0, j1, j2, j3, j4, _, _, _, _⟩ := HV.out.ins
      dsimp only at j1 j2 j3 j4
      have i0 := cell_regrown j0
      have i1 := cell_regrown j1
      have i2 := cell_regrown j2
      have i3 := cell_regrown j3
      have i4 := cell_regrown j4
      have p3 := cell_regrown HV.out.p0
      have z3 := cell_regrown (HV.out.fns.reg HK.out)
      clear j0 j1 j2 j3 j4
      refine wp_region_quiet_below (by kernel_rfl) (by kernel_rfl) ?_
      repeat (go_big_quiet_step (first | with_reducible exact CR2.out _ _ | with_reducible exact CG2.out _ _))
      refine wpQuiet_nil ?_
      intro _ hw'
      obtain ⟨⟨dq, osq⟩, hw''⟩ := hw'
      subst hw''
      have HV := Lib.hid (HV.out.more (below_regrown V dq osq))
      clear i0 i1 i2 i3 i4 p3 z3 CR2 CG2 hd
      generalize grow (redrawn V dq) osq = V1 at HV ⊢
      have hcs : op = 4 ∨ op = 5 ∨ op = 8 ∨ op = 10 ∨ (op ≠ 4 ∧ op ≠ 5 ∧ op ≠ 8 ∧ op ≠ 10) := by omega
      rcases hcs with rfl | rfl | rfl | rfl | ⟨n4, n5, n8, n10⟩
      · by_cases hml : m < f.code.length
        · have HQ := Lib.hid (HQ.out.trans (show _ = endsF f pc _ by unfold jumpsF callF; dsimp only; rw [decide_eq_true hml]; rfl))
          have hmi : ¬ (f.code.length : Int) ≤ m := by omega
          obtain ⟨i0, i1, i2, i3, i4, _, _, _, _⟩ := HV.out.ins
          dsimp only at i1 i2 i3 i4
          have p3 := HV.out.p0
          go_wp2_with fail
          clear i0 i1 i2 i3 i4 p3
          obtain ⟨j0, j1, j2, j3, j4, _, _, _, _⟩ := HV.out.ins
          dsimp only at j1 j2 j3 j4
          have i3 := cell_regrown j3
          have i4 := cell_regrown j4
          have p3 := cell_regrown HV.out.p0
          clear j0 j1 j2 j3 j4
          refine wp_region_quiet_below (by kernel_rfl) (by kernel_rfl) ?_
          repeat (go_big_quiet_step (fail))
          refine wpQuiet_nil ?_
          intro _ hw'
          obtain ⟨⟨dq, osq⟩, hw''⟩ := hw'
          subst hw''
          have HV := Lib.hid (HV.out.more (below_regrown V1 dq osq))
          clear i3 i4 p3
          generalize grow (redrawn V1 dq) osq = V2 at HV ⊢
          by_cases hpe : pc + 1 < f.code.length
          · have hpi : (pc : Int) < (f.code.length : Int) - 1 := by omega
            have HQ := Lib.hid (show _ = true from HQ.out.trans (by unfold endsF; rw [decide_eq_true hpe, Bool.true_or]))
            clear hpe
            go_wp2_with fail
            go_ret
            exact ⟨ret_bool HQ.out.symm, HV.out.bel⟩
          · have hpi : ¬ (pc : Int) < (f.code.length : Int) - 1 := by omega
            have HQ := Lib.hid (HQ.out.trans (by unfold endsF; rw [decide_eq_false hpe, Bool.false_or]))
            clear hpe
            dsimp only at HQ
            obtain ⟨i0, i1, i2, i3, i4, _, _, _, _⟩ := HV.out.ins
            dsimp only at i1 i2 i3 i4
            have p3 := HV.out.p0
            go_wp2_with (refine (CL.out _).mono ?_; rintro e w9 ⟨rfl, hb9⟩)
            go_ret
            exact ⟨ret_bool HQ.out.symm, belT HV.out.bel hb9⟩
        · have HQ := Lib.hid (HQ.out.trans (show _ = false by unfold jumpsF; dsimp only; rw [decide_eq_false hml]; rfl))
          have hmi : (f.code.length : Int) ≤ m := by omega
          obtain ⟨i0, i1, i2, i3, i4, _, _, _, _⟩ := HV.out.ins
          dsimp only at i1 i2 i3 i4
          have p3 := HV.out.p0
          go_wp2_with fail
          go_ret
          exact ⟨ret_bool HQ.out.symm, HV.out.bel⟩
      · by_cases hml : m < f.code.length
        · have HQ := Lib.hid (HQ.out.trans (show _ = endsF f pc _ by unfold jumpsF callF; dsimp only; rw [decide_eq_true hml]; rfl))
          have hmi : ¬ (f.code.length : Int) ≤ m := by omega
          obtain ⟨i0, i1, i2, i3, i4, _, _, _, _⟩ := HV.out.ins
          dsimp only at i1 i2 i3 i4
          have p3 := HV.out.p0
          go_wp2_with fail
          clear i0 i1 i2 i3 i4 p3
          obtain ⟨j0, j1, j2, j3, j4, _, _, _, _⟩ := HV.out.ins
          dsimp only at j1 j2 j3 j4
          have i3 := cell_regrown j3
          have i4 := cell_regrown j4
          have p3 := cell_regrown HV.out.p0
          clear j0 j1 j2 j3 j4
          refine wp_region_quiet_below (by kernel_rfl) (by kernel_rfl) ?_
          repeat (go_big_quiet_step (fail))
          refine wpQuiet_nil ?_
          intro _ hw'
          obtain ⟨⟨dq, osq⟩, hw''⟩ := hw'
          subst hw''
          have HV := Lib.hid (HV.out.more (below_regrown V1 dq osq))
          clear i3 i4 p3
          generalize grow (redrawn V1 dq) osq = V2 at HV ⊢
          by_cases hpe : pc + 1 < f.code.length
          · have hpi : (pc : Int) < (f.code.length : Int) - 1 := by omega
            have HQ := Lib.hid (show _ = true from HQ.out.trans (by unfold endsF; rw [decide_eq_true hpe, Bool.true_or]))
            clear hpe
            go_wp2_with fail
            go_ret
            exact ⟨ret_bool HQ.out.symm, HV.out.bel⟩
          · have hpi : ¬ (pc : Int) < (f.code.length : Int) - 1 := by omega
            have HQ := Lib.hid (HQ.out.trans (by unfold endsF; rw [decide_eq_false hpe, Bool.false_or]))
            clear hpe
            dsimp only at HQ
            obtain ⟨i0, i1, i2, i3, i4, _, _, _, _⟩ := HV.out.ins
            dsimp only at i1 i2 i3 i4
            have p3 := HV.out.p0
            go_wp2_with (refine (CL.out _).mono ?_; rintro e w9 ⟨rfl, hb9⟩)
            go_ret
            exact ⟨ret_bool HQ.out.symm, belT HV.out.bel hb9⟩
        · have HQ := Lib.hid (HQ.out.trans (show _ = false by unfold jumpsF; dsimp only; rw [decide_eq_false hml]; rfl))
          have hmi : (f.code.length : Int) ≤ m := by omega
          obtain ⟨i0, i1, i2, i3, i4, _, _, _, _⟩ := HV.out.ins
          dsimp only at i1 i2 i3 i4
          have p3 := HV.out.p0
          go_wp2_with fail
          go_ret
          exact ⟨ret_bool HQ.out.symm, HV.out.bel⟩
      · by_cases hml : m.toNat < F.length
        · obtain ⟨g, hg⟩ : ∃ g, F[m.toNat]? = some g := ⟨F[m.toNat], List.getElem?_eq_getElem hml⟩
          have hmi : ¬ (F.length : Int) ≤ m := by omega
          have hmj : m < (F.length : Int) := by omega
          have hm0 : 0 ≤ m := hm.1
          have hdm : decide ((F.length : Int) ≤ m) = false := decide_eq_false hmi
          by_cases hcg : cc ≤ g.regs
          · have HQ := Lib.hid (HQ.out.trans (show _ = endsF f pc _ by unfold jumpsF callF callsF; dsimp only; rw [hg]; dsimp only; rw [decide_eq_true hcg]; rfl))
            have hdc : decide (g.regs < cc) = false := decide_eq_false (by omega)
            have HG := Lib.hid hg
            clear hg hcg
            go_wp2_with fail
            obtain ⟨j0, j1, j2, j3, j4, _, _, _, _⟩ := HV.out.ins
            dsimp only at j1 j2 j3 j4
            have i3 := cell_regrown j3
            have i4 := cell_regrown j4
            have p3 := cell_regrown HV.out.p0
            clear j0 j1 j2 j3 j4
            have z8 := cell_regrown (HV.out.fns.reg HG.out)
            refine wp_region_quiet_below (by kernel_rfl) (by kernel_rfl) ?_
            repeat (go_big_quiet_step (fail))
            refine wpQuiet_nil ?_
            intro _ hw'
            obtain ⟨⟨dq, osq⟩, hw''⟩ := hw'
            subst hw''
            have HV := Lib.hid (HV.out.more (below_regrown V1 dq osq))
            clear i3 i4 p3
            generalize grow (redrawn V1 dq) osq = V2 at HV ⊢
            clear z8
            by_cases hpe : pc + 1 < f.code.length
            · have hpi : (pc : Int) < (f.code.length : Int) - 1 := by omega
              have HQ := Lib.hid (show _ = true from HQ.out.trans (by unfold endsF; rw [decide_eq_true hpe, Bool.true_or]))
              clear hpe
              go_wp2_with fail
              go_ret
              exact ⟨ret_bool HQ.out.symm, HV.out.bel⟩
            · have hpi : ¬ (pc : Int) < (f.code.length : Int) - 1 := by omega
              have HQ := Lib.hid (HQ.out.trans (by unfold endsF; rw [decide_eq_false hpe, Bool.false_or]))
              clear hpe
              dsimp only at HQ
              obtain ⟨i0, i1, i2, i3, i4, _, _, _, _⟩ := HV.out.ins
              dsimp only at i1 i2 i3 i4
              have p3 := HV.out.p0
              go_wp2_with (refine (CL.out _).mono ?_; rintro e w9 ⟨rfl, hb9⟩)
              go_ret
              exact ⟨ret_bool HQ.out.symm, belT HV.out.bel hb9⟩
          · have HQ := Lib.hid (HQ.out.trans (show _ = false by unfold jumpsF callF callsF; dsimp only; rw [hg]; dsimp only; rw [decide_eq_false hcg]; rfl))
            have hdc : decide (g.regs < cc) = true := decide_eq_true (by omega)
            have HG := Lib.hid hg
            clear hg hcg CL
            go_wp2_with fail
            obtain ⟨j0, j1, j2, j3, j4, _, _, _, _⟩ := HV.out.ins
            dsimp only at j1 j2 j3 j4
            have i3 := cell_regrown j3
            have i4 := cell_regrown j4
            have p3 := cell_regrown HV.out.p0
            clear j0 j1 j2 j3 j4
            have z8 := cell_regrown (HV.out.fns.reg HG.out)
            refine wp_region_quiet_below (by kernel_rfl) (by kernel_rfl) ?_
            repeat (go_big_quiet_step (fail))
            refine wpQuiet_nil ?_
            intro _ hw'
            obtain ⟨⟨dq, osq⟩, hw''⟩ := hw'
            subst hw''
            go_wp2_with fail
            go_ret
            exact ⟨ret_bool HQ.out.symm, belT HV.out.bel (below_regrown V1 dq osq)⟩
        · have hg : F[m.toNat]? = none := List.getElem?_eq_none (by omega)
          have hmi : (F.length : Int) ≤ m := by omega
          have hdm : decide ((F.length : Int) ≤ m) = true := decide_eq_true hmi
          have HQ := Lib.hid (HQ.out.trans (show _ = false by unfold jumpsF callF callsF; dsimp only; rw [hg]; rfl))
          clear hg CL
          go_wp2_with fail
          obtain ⟨j0, j1, j2, j3, j4, _, _, _, _⟩ := HV.out.ins
          dsimp only at j1 j2 j3 j4
          have i3 := cell_regrown j3
          have i4 := cell_regrown j4
          have p3 := cell_regrown HV.out.p0
          clear j0 j1 j2 j3 j4
          refine wp_region_quiet_below (by kernel_rfl) (by kernel_rfl) ?_
          repeat (go_big_quiet_step (fail))
          refine wpQuiet_nil ?_
          intro _ hw'
          obtain ⟨⟨dq, osq⟩, hw''⟩ := hw'
          subst hw''
          go_wp2_with fail
          go_ret
          exact ⟨ret_bool HQ.out.symm, belT HV.out.bel (below_regrown V1 dq osq)⟩
      · by_cases hml : m.toNat < F.length
        · obtain ⟨g, hg⟩ : ∃ g, F[m.toNat]? = some g := ⟨F[m.toNat], List.getElem?_eq_getElem hml⟩
          have hmi : ¬ (F.length : Int) ≤ m := by omega
          have hmj : m < (F.length : Int) := by omega
          have hm0 : 0 ≤ m := hm.1
          have hdm : decide ((F.length : Int) ≤ m) = false := decide_eq_false hmi
          by_cases hcg : cc ≤ g.regs
          · have HQ := Lib.hid (HQ.out.trans (show _ = endsF f pc _ by unfold jumpsF callF callsF; dsimp only; rw [hg]; dsimp only; rw [decide_eq_true hcg]; rfl))
            have hdc : decide (g.regs < cc) = false := decide_eq_false (by omega)
            have HG := Lib.hid hg
            clear hg hcg
            go_wp2_with fail
            obtain ⟨j0, j1, j2, j3, j4, _, _, _, _⟩ := HV.out.ins
            dsimp only at j1 j2 j3 j4
            have i3 := cell_regrown j3
            have i4 := cell_regrown j4
            have p3 := cell_regrown HV.out.p0
            clear j0 j1 j2 j3 j4
            have z8 := cell_regrown (HV.out.fns.reg HG.out)
            refine wp_region_quiet_below (by kernel_rfl) (by kernel_rfl) ?_
            repeat (go_big_quiet_step (fail))
            refine wpQuiet_nil ?_
            intro _ hw'
            obtain ⟨⟨dq, osq⟩, hw''⟩ := hw'
            subst hw''
            have HV := Lib.hid (HV.out.more (below_regrown V1 dq osq))
            clear i3 i4 p3
            generalize grow (redrawn V1 dq) osq = V2 at HV ⊢
            clear z8
            by_cases hpe : pc + 1 < f.code.length
            · have hpi : (pc : Int) < (f.code.length : Int) - 1 := by omega
              have HQ := Lib.hid (show _ = true from HQ.out.trans (by unfold endsF; rw [decide_eq_true hpe, Bool.true_or]))
              clear hpe
              go_wp2_with fail
              go_ret
              exact ⟨ret_bool HQ.out.symm, HV.out.bel⟩
            · have hpi : ¬ (pc : Int) < (f.code.length : Int) - 1 := by omega
              have HQ := Lib.hid (HQ.out.trans (by unfold endsF; rw [decide_eq_false hpe, Bool.false_or]))
              clear hpe
              dsimp only at HQ
              obtain ⟨i0, i1, i2, i3, i4, _, _, _, _⟩ := HV.out.ins
              dsimp only at i1 i2 i3 i4
              have p3 := HV.out.p0
              go_wp2_with (refine (CL.out _).mono ?_; rintro e w9 ⟨rfl, hb9⟩)
              go_ret
              exact ⟨ret_bool HQ.out.symm, belT HV.out.bel hb9⟩
          · have HQ := Lib.hid (HQ.out.trans (show _ = false by unfold jumpsF callF callsF; dsimp only; rw [hg]; dsimp only; rw [decide_eq_false hcg]; rfl))
            have hdc : decide (g.regs < cc) = true := decide_eq_true (by omega)
            have HG := Lib.hid hg
            clear hg hcg CL
            go_wp2_with fail
            obtain ⟨j0, j1, j2, j3, j4, _, _, _, _⟩ := HV.out.ins
            dsimp only at j1 j2 j3 j4
            have i3 := cell_regrown j3
            have i4 := cell_regrown j4
            have p3 := cell_regrown HV.out.p0
            clear j0 j1 j2 j3 j4
            have z8 := cell_regrown (HV.out.fns.reg HG.out)
            refine wp_region_quiet_below (by kernel_rfl) (by kernel_rfl) ?_
            repeat (go_big_quiet_step (fail))
            refine wpQuiet_nil ?_
            intro _ hw'
            obtain ⟨⟨dq, osq⟩, hw''⟩ := hw'
            subst hw''
            go_wp2_with fail
            go_ret
            exact ⟨ret_bool HQ.out.symm, belT HV.out.bel (below_regrown V1 dq osq)⟩
        · have hg : F[m.toNat]? = none := List.getElem?_eq_none (by omega)
          have hmi : (F.length : Int) ≤ m := by omega
          have hdm : decide ((F.length : Int) ≤ m) = true := decide_eq_true hmi
          have HQ := Lib.hid (HQ.out.trans (show _ = false by unfold jumpsF callF callsF; dsimp only; rw [hg]; rfl))
          clear hg CL
          go_wp2_with fail
          obtain ⟨j0, j1, j2, j3, j4, _, _, _, _⟩ := HV.out.ins
          dsimp only at j1 j2 j3 j4
          have i3 := cell_regrown j3
          have i4 := cell_regrown j4
          have p3 := cell_regrown HV.out.p0
          clear j0 j1 j2 j3 j4
          refine wp_region_quiet_below (by kernel_rfl) (by kernel_rfl) ?_
          repeat (go_big_quiet_step (fail))
          refine wpQuiet_nil ?_
          intro _ hw'
          obtain ⟨⟨dq, osq⟩, hw''⟩ := hw'
          subst hw''
          go_wp2_with fail
          go_ret
          exact ⟨ret_bool HQ.out.symm, belT HV.out.bel (below_regrown V1 dq osq)⟩
      · have HQ := Lib.hid (HQ.out.trans (show _ = endsF f pc _ by unfold jumpsF callF; dsimp only; rw [decide_eq_false n4, decide_eq_false n5, decide_eq_false n8, decide_eq_false n10]; rfl))
        have e4 : (op == 4) = false := beq_eq_false_iff_ne.2 n4
        have e5 : (op == 5) = false := beq_eq_false_iff_ne.2 n5
        have e8 : (op == 8) = false := beq_eq_false_iff_ne.2 n8
        have e10 : (op == 10) = false := beq_eq_false_iff_ne.2 n10
        go_wp2_with fail
        obtain ⟨j0, j1, j2, j3, j4, _, _, _, _⟩ := HV.out.ins
        dsimp only at j1 j2 j3 j4
        have i3 := cell_regrown j3
        have i4 := cell_regrown j4
        have p3 := cell_regrown HV.out.p0
        clear j0 j1 j2 j3 j4
        refine wp_region_quiet_below (by kernel_rfl) (by kernel_rfl) ?_
        repeat (go_big_quiet_step (fail))
        refine wpQuiet_nil ?_
        intro _ hw'
        obtain ⟨⟨dq, osq⟩, hw''⟩ := hw'
        subst hw''
        have HV := Lib.hid (HV.out.more (below_regrown V1 dq osq))
        clear i3 i4 p3
        generalize grow (redrawn V1 dq) osq = V2 at HV ⊢
        by_cases hpe : pc + 1 < f.code.length
        · have hpi : (pc : Int) < (f.code.length : Int) - 1 := by omega
          have HQ := Lib.hid (show _ = true from HQ.out.trans (by unfold endsF; rw [decide_eq_true hpe, Bool.true_or]))
          clear hpe
          go_wp2_with fail
          go_ret
          exact ⟨ret_bool HQ.out.symm, HV.out.bel⟩
        · have hpi : ¬ (pc : Int) < (f.code.length : Int) - 1 := by omega
          have HQ := Lib.hid (HQ.out.trans (by unfold endsF; rw [decide_eq_false hpe, Bool.false_or]))
          clear hpe
          dsimp only at HQ
          obtain ⟨i0, i1, i2, i3, i4, _, _, _, _⟩ := HV.out.ins
          dsimp only at i1 i2 i3 i4
          have p3 := HV.out.p0
          go_wp2_with (refine (CL.out _).mono ?_; rintro e w9 ⟨rfl, hb9⟩)
          go_ret
          exact ⟨ret_bool HQ.out.symm, belT HV.out.bel hb9⟩
    · have hd : decide (f.regs < rg) = true := decide_eq_true (by omega)
      have HQ := Lib.hid (show fineF F f pc ⟨op, a, bb, cc, m⟩ = false by rw [HQ.out]; unfold fitsF; dsimp only; rw [HRG.out, decide_eq_false hrl, Bool.and_false, Bool.false_and])
      clear CL hrl
      obtain ⟨j0, j1, j2, j3, j4, _, _, _, _⟩ := HV.out.ins
      dsimp only at j1 j2 j3 j4
      have i0 := cell_regrown j0
      have i1 := cell_regrown j1
      have i2 := cell_regrown j2
      have i3 := cell_regrown j3
      have i4 := cell_regrown j4
      have p3 := cell_regrown HV.out.p0
      have z3 := cell_regrown (HV.out.fns.reg HK.out)
      clear j0 j1 j2 j3 j4
      refine wp_region_quiet_below (by kernel_rfl) (by kernel_rfl) ?_
      repeat (go_big_quiet_step (first | with_reducible exact CR2.out _ _ | with_reducible exact CG2.out _ _))
      refine wpQuiet_nil ?_
      intro _ hw'
      obtain ⟨⟨dq, osq⟩, hw''⟩ := hw'
      subst hw''
      go_wp2_with fail
      go_ret
      exact ⟨ret_bool HQ.out.symm, belT HV.out.bel (below_regrown V dq osq)⟩
end Go.Proofs.YtfnfcngkaepnjaaGreatDoor
