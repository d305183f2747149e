/- Joined texts: Package program: asks of a place. -/
import Derived.Test.YtfnfcngkaepnjaaGreatDoorQL23
/- Package program: asks of a place. -/
namespace Go.Proofs.YtfnfcngkaepnjaaGreatDoor
set_option linter.unusedVariables false
set_option linter.unusedSimpArgs false
open Go Go.Proofs Go.RowKit Go.Sort

/-- A place's value: a function, the program, where. -/
abbrev plcV (rg : Int) (vc vf : Value) (mu rw gr : Int) (pc : Nat) : Value := .agg #[.int .i64 rg, vc, vf, .int .i64 mu, .int .i64 rw, .int .i64 gr, .int .i64 pc]
/-- What a place leans on. -/
structure PlcA (F : List FnM) (f : FnM) (vc vf : Value) (w : World) : Prop where
  code : ArgW 5 encN w vc f.code
  fns : ArgF w vf F
theorem PlcA.bel {F : List FnM} {f : FnM} {vc vf : Value} {w w' : World} (h : PlcA F f vc vf w) (hb : Below w.heap.size w w') : PlcA F f vc vf w' := ⟨h.code.bel hb, h.fns.bel hb⟩

set_option maxRecDepth 100000 in
set_option maxHeartbeats 1000000 in
theorem plcIns_any (rg : Int) (vc vf : Value) (mu rw0 gr : Int) (pc : Nat) (f : FnM) (x : InsM) (hx : f.code[pc]? = some x) (w : World) (h : ArgW 5 encN w vc f.code) :
    Calls Tryz.prog 225 #[plcV rg vc vf mu rw0 gr pc] w fun e w' => e = .returned (insV x.op x.a x.b x.c x.m) ∧ Below w.heap.size w w' := by
  obtain ⟨b2, o2, c2, rfl, hc2, y0, y1, y2, y3, y4⟩ := code_at h hx
  have hpl : pc < f.code.length := (List.getElem?_eq_some_iff.1 hx).1
  have B1 := belA (bel1 (W := w) (.cells #[.int .i64 rg, .slice (some ⟨b2, o2, none⟩) f.code.length c2, vf, .int .i64 mu, .int .i64 rw0, .int .i64 gr, .int .i64 pc] 213)) (.cells #[.int .i64 0, .int .i64 0, .int .i64 0, .int .i64 0, .int .u32 0] 29)
  have y0 := cell_bel y0 B1
  have y1 := cell_bel y1 B1
  have y2 := cell_bel y2 B1
  have y3 := cell_bel y3 B1
  have y4 := cell_bel y4 B1
  have hp0 : (0 : Int) ≤ (pc : Int) := by omega
  clear h hx hc2
  go_enter Tryz.func225, Tryz.ntmps225
  go_wp2_with fail
  have e := fun j => cell_two w (.cells #[.int .i64 rg, .slice (some ⟨b2, o2, none⟩) f.code.length c2, vf, .int .i64 mu, .int .i64 rw0, .int .i64 gr, .int .i64 pc] 213) #[.int .i64 x.op, .int .i64 x.a, .int .i64 x.b, .int .i64 x.c, .int .u32 x.m] 29 j
  have e0 := e 0
  have e1 := e 1
  have e2 := e 2
  have e3 := e 3
  have e4 := e 4
  clear e
  exact bodyPost_ret (v := insV x.op x.a x.b x.c x.m) (by unfold insV; simp [results, Tryz.results225, go_sem, e0, e1, e2, e3, e4]) rfl ⟨rfl, belA (bel1 _) _⟩

/-- A place's block. -/
structure PlcB (B : Nat) (rg : Int) (vc vf : Value) (mu rw gr : Int) (pc : Nat) (w : World) : Prop where
  c0 : w.cell? ⟨B, 0, none⟩ = some (.int .i64 rg)
  c1 : w.cell? ⟨B, 1, none⟩ = some vc
  c2 : w.cell? ⟨B, 2, none⟩ = some vf
  c3 : w.cell? ⟨B, 3, none⟩ = some (.int .i64 mu)
  c4 : w.cell? ⟨B, 4, none⟩ = some (.int .i64 rw)
  c5 : w.cell? ⟨B, 5, none⟩ = some (.int .i64 gr)
  c6 : w.cell? ⟨B, 6, none⟩ = some (.int .i64 pc)
theorem PlcB.bel {B : Nat} {rg : Int} {vc vf : Value} {mu rw gr : Int} {pc : Nat} {w w' : World} (h : PlcB B rg vc vf mu rw gr pc w) (hb : Below w.heap.size w w') : PlcB B rg vc vf mu rw gr pc w' :=
  ⟨cell_bel h.c0 hb, cell_bel h.c1 hb, cell_bel h.c2 hb, cell_bel h.c3 hb, cell_bel h.c4 hb, cell_bel h.c5 hb, cell_bel h.c6 hb⟩
theorem PlcB.new (w : World) (rg : Int) (vc vf : Value) (mu rw gr : Int) (pc : Nat) (t : TypeId) : PlcB w.heap.size rg vc vf mu rw gr pc (w.alloc (.cells #[.int .i64 rg, vc, vf, .int .i64 mu, .int .i64 rw, .int .i64 gr, .int .i64 pc] t)) :=
  ⟨cell_new w _ t 0, cell_new w _ t 1, cell_new w _ t 2, cell_new w _ t 3, cell_new w _ t 4, cell_new w _ t 5, cell_new w _ t 6⟩

set_option maxRecDepth 100000 in
set_option maxHeartbeats 4000000 in
theorem plcFits_any (F : List FnM) (vc vf : Value) (mu rw0 gr : Int) (pc : Nat) (f : FnM) (x : InsM) (hx : f.code[pc]? = some x) (hm : 0 ≤ x.m ∧ x.m < 4294967296) (w : World) (h : PlcA F f vc vf w) :
    Calls Tryz.prog 180 #[plcV f.regs vc vf mu rw0 gr pc] w fun e w' => e = .returned (.bool (fitsF f x)) ∧ Below w.heap.size w w' := by
  have HP := Lib.hid (PlcB.new w f.regs vc vf mu rw0 gr pc 213)
  have HB := Lib.hid (bel1 (W := w) (.cells #[.int .i64 f.regs, vc, vf, .int .i64 mu, .int .i64 rw0, .int .i64 gr, .int .i64 pc] 213))
  have HC := Lib.hid (h.code.bel HB.out)
  have CI := Lib.hid fun (W : World) h => plcIns_any f.regs vc vf mu rw0 gr pc f x hx W h
  have CC := Lib.hid fun (W : World) => insCheck_any x.op x.a x.b x.c x.m hm W
  have CG := Lib.hid fun (W : World) => insRegs_any x.op x.a x.b x.c x.m hm W
  unfold insCheckF at CC
  unfold fitsF
  unfold insV at CI CC CG
  cases hr : rightF x.op x.a x.b x.c x.m with
  | false =>
    rw [hr, if_neg (by decide)] at CC
    rw [Bool.false_and]
    go_enter Tryz.func180, Tryz.ntmps180
    go_wp2_with fail
    generalize w.alloc _ = V at HP HB HC ⊢
    have CI2 := Lib.hid fun (d' : Nat) os => Calls.regrown_of (CI.out (grow (redrawn V d') os) (HC.out.bel (below_regrown V d' os)))
    have CG2 := Lib.hid fun (d' : Nat) os => Calls.regrown_of (CG.out (grow (redrawn V d') os))
    have CC2 := Lib.hid fun (d' : Nat) os => Calls.regrown_of (CC.out (grow (redrawn V d') os))
    clear hr CC CI CG CG2
    obtain ⟨j0, j1, j2, j3, j4, j5, j6⟩ := HP.out
    have p0 := cell_regrown j0
    have p1 := cell_regrown j1
    have p2 := cell_regrown j2
    have p3 := cell_regrown j3
    have p4 := cell_regrown j4
    have p5 := cell_regrown j5
    have p6 := cell_regrown j6
    clear j0 j1 j2 j3 j4 j5 j6
    refine wp_region_quiet_below (by kernel_rfl) (by kernel_rfl) ?_
    repeat (go_big_quiet_step (first | with_reducible exact CI2.out _ _ | with_reducible exact CC2.out _ _))
    refine wpQuiet_nil ?_
    intro _ hw'
    obtain ⟨⟨dq, osq⟩, hw''⟩ := hw'
    subst hw''
    go_wp2_with fail
    go_ret
    exact ⟨rfl, belT HB.out (below_regrown V dq osq)⟩
  | true =>
    rw [hr, if_pos rfl] at CC
    rw [Bool.true_and]
    go_enter Tryz.func180, Tryz.ntmps180
    go_wp2_with fail
    generalize w.alloc _ = V at HP HB HC ⊢
    have CI2 := Lib.hid fun (d' : Nat) os => Calls.regrown_of (CI.out (grow (redrawn V d') os) (HC.out.bel (below_regrown V d' os)))
    have CG2 := Lib.hid fun (d' : Nat) os => Calls.regrown_of (CG.out (grow (redrawn V d') os))
    have CC2 := Lib.hid fun (d' : Nat) os => Calls.regrown_of (CC.out (grow (redrawn V d') os))
    clear hr CC CI CG
    obtain ⟨j0, j1, j2, j3, j4, j5, j6⟩ := HP.out
    have p0 := cell_regrown j0
    have p1 := cell_regrown j1
    have p2 := cell_regrown j2
    have p3 := cell_regrown j3
    have p4 := cell_regrown j4
    have p5 := cell_regrown j5
    have p6 := cell_regrown j6
    clear j0 j1 j2 j3 j4 j5 j6
    refine wp_region_quiet_below (by kernel_rfl) (by kernel_rfl) ?_
    repeat (go_big_quiet_step (first | with_reducible exact CI2.out _ _ | with_reducible exact CC2.out _ _ | with_reducible exact CG2.out _ _))
    refine wpQuiet_nil ?_
    intro _ hw'
    obtain ⟨⟨dq, osq⟩, hw''⟩ := hw'
    subst hw''
    go_wp2_with fail
    go_ret
    exact ⟨rfl, belT HB.out (below_regrown V dq osq)⟩

theorem field_op (op a b c m : Int) (w : World) : (Instr.field 29 (.agg #[.int .i64 op, .int .i64 a, .int .i64 b, .int .i64 c, .int .u32 m]) 0).run Tryz.prog w = .ok (.int .i64 op) w := by kernel_rfl
theorem field_m (op a b c m : Int) (w : World) : (Instr.field 29 (.agg #[.int .i64 op, .int .i64 a, .int .i64 b, .int .i64 c, .int .u32 m]) 4).run Tryz.prog w = .ok (.int .u32 m) w := by kernel_rfl

set_option maxRecDepth 100000 in
set_option maxHeartbeats 4000000 in
theorem plcJumps_any (F : List FnM) (vc vf : Value) (mu rw0 gr : Int) (pc : Nat) (f : FnM) (x : InsM) (hx : f.code[pc]? = some x) (hm : 0 ≤ x.m ∧ x.m < 4294967296) (w : World) (h : PlcA F f vc vf w) :
    Calls Tryz.prog 181 #[plcV f.regs vc vf mu rw0 gr pc] w fun e w' => e = .returned (.bool (jumpsF f x)) ∧ Below w.heap.size w w' := by
  have HP := Lib.hid (PlcB.new w f.regs vc vf mu rw0 gr pc 213)
  have HB := Lib.hid (bel1 (W := w) (.cells #[.int .i64 f.regs, vc, vf, .int .i64 mu, .int .i64 rw0, .int .i64 gr, .int .i64 pc] 213))
  have HC := Lib.hid (h.code.bel HB.out)
  obtain ⟨av, cv, rfl⟩ := h.code.form
  have CI := Lib.hid fun (W : World) h => plcIns_any f.regs (.slice av f.code.length cv) vf mu rw0 gr pc f x hx W h
  obtain ⟨op, a, b, c, m⟩ := x
  dsimp only at hm CI
  unfold insV at CI
  have h1 : jumpsF f ⟨op, a, b, c, m⟩ = (!(decide (op = 4) || decide (op = 5)) || decide (m < f.code.length)) := rfl
  rw [h1]
  clear h1
  have hcs : op = 4 ∨ op = 5 ∨ (op ≠ 4 ∧ op ≠ 5) := by omega
  rcases hcs with rfl | rfl | ⟨n4, n5⟩
  · have hf0 := fun OP W => field_op OP a b c m W
    have hf4 := fun OP W => field_m OP a b c m W
    go_enter Tryz.func181, Tryz.ntmps181
    obtain ⟨p0, p1, p2, p3, p4, p5, p6⟩ := HP.out
    go_wp2_with fail
    refine (CI.out _ HC.out).mono ?_
    rintro e w1 ⟨rfl, hb1⟩
    clear p0 p1 p2 p3 p4 p5 p6
    have HC := Lib.hid (HC.out.bel hb1)
    have HP := Lib.hid (HP.out.bel hb1)
    have HB := Lib.hid (belT HB.out hb1)
    clear hb1
    go_wp2_with fail
    obtain ⟨j0, j1, j2, j3, j4, j5, j6⟩ := HP.out
    have p0 := cell_regrown j0
    have p1 := cell_regrown j1
    have p2 := cell_regrown j2
    have p3 := cell_regrown j3
    have p4 := cell_regrown j4
    have p5 := cell_regrown j5
    have p6 := cell_regrown j6
    clear j0 j1 j2 j3 j4 j5 j6
    have CI2 := Lib.hid fun (d' : Nat) os => Calls.regrown_of (CI.out (grow (redrawn w1 d') os) (HC.out.bel (below_regrown w1 d' os)))
    refine wp_region_quiet_below (by kernel_rfl) (by kernel_rfl) ?_
    repeat (go_big_quiet_step (with_reducible exact CI2.out _ _))
    refine wpQuiet_nil ?_
    intro _ hw'
    obtain ⟨⟨dq, osq⟩, hw''⟩ := hw'
    subst hw''
    go_wp2_with fail
    go_ret
    exact ⟨ret_bool (by simp), belT HB.out (below_regrown w1 dq osq)⟩
  · have hf0 := fun OP W => field_op OP a b c m W
    have hf4 := fun OP W => field_m OP a b c m W
    go_enter Tryz.func181, Tryz.ntmps181
    obtain ⟨p0, p1, p2, p3, p4, p5, p6⟩ := HP.out
    go_wp2_with fail
    refine (CI.out _ HC.out).mono ?_
    rintro e w1 ⟨rfl, hb1⟩
    clear p0 p1 p2 p3 p4 p5 p6
    have HC := Lib.hid (HC.out.bel hb1)
    have HP := Lib.hid (HP.out.bel hb1)
    have HB := Lib.hid (belT HB.out hb1)
    clear hb1
    go_wp2_with fail
    obtain ⟨j0, j1, j2, j3, j4, j5, j6⟩ := HP.out
    have p0 := cell_regrown j0
    have p1 := cell_regrown j1
    have p2 := cell_regrown j2
    have p3 := cell_regrown j3
    have p4 := cell_regrown j4
    have p5 := cell_regrown j5
    have p6 := cell_regrown j6
    clear j0 j1 j2 j3 j4 j5 j6
    have CI2 := Lib.hid fun (d' : Nat) os => Calls.regrown_of (CI.out (grow (redrawn w1 d') os) (HC.out.bel (below_regrown w1 d' os)))
    refine wp_region_quiet_below (by kernel_rfl) (by kernel_rfl) ?_
    repeat (go_big_quiet_step (with_reducible exact CI2.out _ _))
    refine wpQuiet_nil ?_
    intro _ hw'
    obtain ⟨⟨dq, osq⟩, hw''⟩ := hw'
    subst hw''
    go_wp2_with fail
    go_ret
    exact ⟨ret_bool (by simp), belT HB.out (below_regrown w1 dq osq)⟩
  · have e4 : (op != 4) = true := by rw [bne, beq_eq_false_iff_ne.2 n4]; rfl
    have e5 : (op != 5) = true := by rw [bne, beq_eq_false_iff_ne.2 n5]; rfl
    rw [decide_eq_false n4, decide_eq_false n5]
    have hf0 := fun OP W => field_op OP a b c m W
    have hf4 := fun OP W => field_m OP a b c m W
    go_enter Tryz.func181, Tryz.ntmps181
    obtain ⟨p0, p1, p2, p3, p4, p5, p6⟩ := HP.out
    go_wp2_with fail
    refine (CI.out _ HC.out).mono ?_
    rintro e w1 ⟨rfl, hb1⟩
    clear p0 p1 p2 p3 p4 p5 p6
    have HC := Lib.hid (HC.out.bel hb1)
    have HP := Lib.hid (HP.out.bel hb1)
    have HB := Lib.hid (belT HB.out hb1)
    clear hb1
    go_wp2_with fail
    obtain ⟨j0, j1, j2, j3, j4, j5, j6⟩ := HP.out
    have p0 := cell_regrown j0
    have p1 := cell_regrown j1
    have p2 := cell_regrown j2
    have p3 := cell_regrown j3
    have p4 := cell_regrown j4
    have p5 := cell_regrown j5
    have p6 := cell_regrown j6
    clear j0 j1 j2 j3 j4 j5 j6
    have CI2 := Lib.hid fun (d' : Nat) os => Calls.regrown_of (CI.out (grow (redrawn w1 d') os) (HC.out.bel (below_regrown w1 d' os)))
    refine wp_region_quiet_below (by kernel_rfl) (by kernel_rfl) ?_
    repeat (go_big_quiet_step (with_reducible exact CI2.out _ _))
    refine wpQuiet_nil ?_
    intro _ hw'
    obtain ⟨⟨dq, osq⟩, hw''⟩ := hw'
    subst hw''
    go_wp2_with fail
    go_ret
    exact ⟨ret_bool (by simp), belT HB.out (below_regrown w1 dq osq)⟩

set_option maxRecDepth 100000 in
set_option maxHeartbeats 4000000 in
theorem plcEnds_any (F : List FnM) (vc vf : Value) (mu rw0 gr : Int) (pc : Nat) (f : FnM) (x : InsM) (hx : f.code[pc]? = some x) (hl : f.code.length ≤ 512) (hm : 0 ≤ x.m ∧ x.m < 4294967296) (w : World) (h : PlcA F f vc vf w) :
    Calls Tryz.prog 183 #[plcV f.regs vc vf mu rw0 gr pc] w fun e w' => e = .returned (.bool (endsF f pc x)) ∧ Below w.heap.size w w' := by
  have HP := Lib.hid (PlcB.new w f.regs vc vf mu rw0 gr pc 213)
  have HB := Lib.hid (bel1 (W := w) (.cells #[.int .i64 f.regs, vc, vf, .int .i64 mu, .int .i64 rw0, .int .i64 gr, .int .i64 pc] 213))
  have HC := Lib.hid (h.code.bel HB.out)
  have hpl : pc < f.code.length := (List.getElem?_eq_some_iff.1 hx).1
  obtain ⟨av, cv, rfl⟩ := h.code.form
  have CI := Lib.hid fun (W : World) h => plcIns_any f.regs (.slice av f.code.length cv) vf mu rw0 gr pc f x hx W h
  have CL := Lib.hid fun (W : World) => insLeaves_any x.op x.a x.b x.c x.m hm W
  unfold insV at CI CL
  unfold endsF
  obtain ⟨p0, p1, p2, p3, p4, p5, p6⟩ := HP.out
  have hli : (f.code.length : Int) ≤ 512 := by omega
  have hl0 : (1 : Int) ≤ (f.code.length : Int) := by omega
  by_cases hpe : pc + 1 < f.code.length
  · have hpi : (pc : Int) < (f.code.length : Int) - 1 := by omega
    rw [decide_eq_true hpe, Bool.true_or]
    clear hpe
    go_enter Tryz.func183, Tryz.ntmps183
    go_wp2_with fail
    go_ret
    exact ⟨rfl, HB.out⟩
  · have hpi : ¬ (pc : Int) < (f.code.length : Int) - 1 := by omega
    rw [decide_eq_false hpe, Bool.false_or]
    clear hpe
    go_enter Tryz.func183, Tryz.ntmps183
    go_wp2_with fail
    refine (CI.out _ HC.out).mono ?_
    rintro e w1 ⟨rfl, hb1⟩
    go_wp2_with fail
    refine (CL.out _).mono ?_
    rintro e w2 ⟨rfl, hb2⟩
    go_wp2_with fail
    go_ret
    exact ⟨rfl, belT (belT HB.out hb1) hb2⟩

set_option maxRecDepth 100000 in
set_option maxHeartbeats 4000000 in
theorem plcCalls_any (F : List FnM) (vc vf : Value) (mu rw0 gr : Int) (pc : Nat) (f : FnM) (x : InsM) (hx : f.code[pc]? = some x) (hm : 0 ≤ x.m ∧ x.m < 4294967296) (w : World) (h : PlcA F f vc vf w) :
    Calls Tryz.prog 182 #[plcV f.regs vc vf mu rw0 gr pc] w fun e w' => e = .returned (.bool (callF F x)) ∧ Below w.heap.size w w' := by
  have HP := Lib.hid (PlcB.new w f.regs vc vf mu rw0 gr pc 213)
  have HB := Lib.hid (bel1 (W := w) (.cells #[.int .i64 f.regs, vc, vf, .int .i64 mu, .int .i64 rw0, .int .i64 gr, .int .i64 pc] 213))
  have HC := Lib.hid (h.code.bel HB.out)
  obtain ⟨av, cv, hav⟩ := h.fns.form
  have HF := Lib.hid (h.fns.bel HB.out)
  subst hav
  have CI := Lib.hid fun (W : World) h => plcIns_any f.regs vc (.slice av F.length cv) mu rw0 gr pc f x hx W h
  obtain ⟨op, a, b, c, m⟩ := x
  dsimp only at hm CI
  unfold insV at CI
  have h1 : callF F ⟨op, a, b, c, m⟩ = (!(decide (op = 8) || decide (op = 10)) || callsF F ⟨op, a, b, c, m⟩) := rfl
  rw [h1]
  clear h1
  have hcs : op = 8 ∨ op = 10 ∨ (op ≠ 8 ∧ op ≠ 10) := by omega
  rcases hcs with rfl | rfl | ⟨n8, n10⟩
  · go_enter Tryz.func182, Tryz.ntmps182
    obtain ⟨p0, p1, p2, p3, p4, p5, p6⟩ := HP.out
    go_wp2_with fail
    refine (CI.out _ HC.out).mono ?_
    rintro e w1 ⟨rfl, hb1⟩
    clear p0 p1 p2 p3 p4 p5 p6
    have HP := Lib.hid (HP.out.bel hb1)
    have HB := Lib.hid (belT HB.out hb1)
    have HF := Lib.hid (HF.out.bel hb1)
    clear hb1
    have HB2 := Lib.hid (belA HB.out (.cells #[.int .i64 8, .int .i64 a, .int .i64 b, .int .i64 c, .int .u32 m] 29))
    have HI2 := Lib.hid (Bare.new 8 a b c m w1 29)
    have HP2 := Lib.hid (HP.out.bel (bel1 (.cells #[.int .i64 8, .int .i64 a, .int .i64 b, .int .i64 c, .int .u32 m] 29)))
    have HF2 := Lib.hid (HF.out.bel (bel1 (.cells #[.int .i64 8, .int .i64 a, .int .i64 b, .int .i64 c, .int .u32 m] 29)))
    go_wp2_with fail
    generalize w1.alloc _ = W1 at HB2 HI2 HP2 HF2 ⊢
    clear HP HB HF
    by_cases hml : m.toNat < F.length
    · obtain ⟨g, hg⟩ : ∃ g, F[m.toNat]? = some g := ⟨F[m.toNat], List.getElem?_eq_getElem hml⟩
      obtain ⟨bb, oo, c', vc', hv, _, x0, _, _⟩ := HF2.out.at_ hg
      simp only [Value.slice.injEq, true_and] at hv
      obtain ⟨hao, hcc⟩ := hv
      subst hao hcc
      have x0 := cell_regrown x0
      have hmi : m < (F.length : Int) := by omega
      have hm0 : 0 ≤ m := hm.1
      have hdm : decide (m < (F.length : Int)) = true := decide_eq_true hmi
      have HQ := Lib.hid (show (!(decide ((8 : Int) = 8) || decide ((8 : Int) = 10)) || callsF F ⟨8, a, b, c, m⟩) = decide (c ≤ g.regs) by unfold callsF; dsimp only; rw [hg]; rfl)
      clear hg
      obtain ⟨j0, j1, j2, j3, j4, j5, j6⟩ := HP2.out
      obtain ⟨l0, l1, l2, l3, l4, _, _, _, _⟩ := HI2.out
      dsimp only at l1 l2 l3 l4
      have p2 := cell_regrown j2
      have i3 := cell_regrown l3
      have i4 := cell_regrown l4
      clear j0 j1 j2 j3 j4 j5 j6 l0 l1 l2 l3 l4
      refine wp_region_quiet_below (by kernel_rfl) (by kernel_rfl) ?_
      repeat (go_big_quiet_step (fail))
      refine wpQuiet_nil ?_
      intro _ hw'
      obtain ⟨⟨dq, osq⟩, hw''⟩ := hw'
      subst hw''
      go_wp2_with fail
      go_ret
      exact ⟨ret_bool HQ.out.symm, belT HB2.out (below_regrown W1 dq osq)⟩
    · have hmi : ¬ m < (F.length : Int) := by omega
      have hdm : decide (m < (F.length : Int)) = false := decide_eq_false hmi
      have HQ := Lib.hid (show (!(decide ((8 : Int) = 8) || decide ((8 : Int) = 10)) || callsF F ⟨8, a, b, c, m⟩) = false by unfold callsF; dsimp only; rw [List.getElem?_eq_none (by omega)]; rfl)
      obtain ⟨j0, j1, j2, j3, j4, j5, j6⟩ := HP2.out
      obtain ⟨l0, l1, l2, l3, l4, _, _, _, _⟩ := HI2.out
      dsimp only at l1 l2 l3 l4
      have p2 := cell_regrown j2
      have i3 := cell_regrown l3
      have i4 := cell_regrown l4
      clear j0 j1 j2 j3 j4 j5 j6 l0 l1 l2 l3 l4
      refine wp_region_quiet_below (by kernel_rfl) (by kernel_rfl) ?_
      repeat (go_big_quiet_step (fail))
      refine wpQuiet_nil ?_
      intro _ hw'
      obtain ⟨⟨dq, osq⟩, hw''⟩ := hw'
      subst hw''
      go_wp2_with fail
      go_ret
      exact ⟨ret_bool HQ.out.symm, belT HB2.out (below_regrown W1 dq osq)⟩
  · go_enter Tryz.func182, Tryz.ntmps182
    obtain ⟨p0, p1, p2, p3, p4, p5, p6⟩ := HP.out
    go_wp2_with fail
    refine (CI.out _ HC.out).mono ?_
    rintro e w1 ⟨rfl, hb1⟩
    clear p0 p1 p2 p3 p4 p5 p6
    have HP := Lib.hid (HP.out.bel hb1)
    have HB := Lib.hid (belT HB.out hb1)
    have HF := Lib.hid (HF.out.bel hb1)
    clear hb1
    have HB2 := Lib.hid (belA HB.out (.cells #[.int .i64 10, .int .i64 a, .int .i64 b, .int .i64 c, .int .u32 m] 29))
    have HI2 := Lib.hid (Bare.new 10 a b c m w1 29)
    have HP2 := Lib.hid (HP.out.bel (bel1 (.cells #[.int .i64 10, .int .i64 a, .int .i64 b, .int .i64 c, .int .u32 m] 29)))
    have HF2 := Lib.hid (HF.out.bel (bel1 (.cells #[.int .i64 10, .int .i64 a, .int .i64 b, .int .i64 c, .int .u32 m] 29)))
    go_wp2_with fail
    generalize w1.alloc _ = W1 at HB2 HI2 HP2 HF2 ⊢
    clear HP HB HF
    by_cases hml : m.toNat < F.length
    · obtain ⟨g, hg⟩ : ∃ g, F[m.toNat]? = some g := ⟨F[m.toNat], List.getElem?_eq_getElem hml⟩
      obtain ⟨bb, oo, c', vc', hv, _, x0, _, _⟩ := HF2.out.at_ hg
      simp only [Value.slice.injEq, true_and] at hv
      obtain ⟨hao, hcc⟩ := hv
      subst hao hcc
      have x0 := cell_regrown x0
      have hmi : m < (F.length : Int) := by omega
      have hm0 : 0 ≤ m := hm.1
      have hdm : decide (m < (F.length : Int)) = true := decide_eq_true hmi
      have HQ := Lib.hid (show (!(decide ((10 : Int) = 8) || decide ((10 : Int) = 10)) || callsF F ⟨10, a, b, c, m⟩) = decide (c ≤ g.regs) by unfold callsF; dsimp only; rw [hg]; rfl)
      clear hg
      obtain ⟨j0, j1, j2, j3, j4, j5, j6⟩ := HP2.out
      obtain ⟨l0, l1, l2, l3, l4, _, _, _, _⟩ := HI2.out
      dsimp only at l1 l2 l3 l4
      have p2 := cell_regrown j2
      have i3 := cell_regrown l3
      have i4 := cell_regrown l4
      clear j0 j1 j2 j3 j4 j5 j6 l0 l1 l2 l3 l4
      refine wp_region_quiet_below (by kernel_rfl) (by kernel_rfl) ?_
      repeat (go_big_quiet_step (fail))
      refine wpQuiet_nil ?_
      intro _ hw'
      obtain ⟨⟨dq, osq⟩, hw''⟩ := hw'
      subst hw''
      go_wp2_with fail
      go_ret
      exact ⟨ret_bool HQ.out.symm, belT HB2.out (below_regrown W1 dq osq)⟩
    · have hmi : ¬ m < (F.length : Int) := by omega
      have hdm : decide (m < (F.length : Int)) = false := decide_eq_false hmi
      have HQ := Lib.hid (show (!(decide ((10 : Int) = 8) || decide ((10 : Int) = 10)) || callsF F ⟨10, a, b, c, m⟩) = false by unfold callsF; dsimp only; rw [List.getElem?_eq_none (by omega)]; rfl)
      obtain ⟨j0, j1, j2, j3, j4, j5, j6⟩ := HP2.out
      obtain ⟨l0, l1, l2, l3, l4, _, _, _, _⟩ := HI2.out
      dsimp only at l1 l2 l3 l4
      have p2 := cell_regrown j2
      have i3 := cell_regrown l3
      have i4 := cell_regrown l4
      clear j0 j1 j2 j3 j4 j5 j6 l0 l1 l2 l3 l4
      refine wp_region_quiet_below (by kernel_rfl) (by kernel_rfl) ?_
      repeat (go_big_quiet_step (fail))
      refine wpQuiet_nil ?_
      intro _ hw'
      obtain ⟨⟨dq, osq⟩, hw''⟩ := hw'
      subst hw''
      go_wp2_with fail
      go_ret
      exact ⟨ret_bool HQ.out.symm, belT HB2.out (below_regrown W1 dq osq)⟩
  · have e8 : (op != 8) = true := by rw [bne, beq_eq_false_iff_ne.2 n8]; rfl
    have e10 : (op != 10) = true := by rw [bne, beq_eq_false_iff_ne.2 n10]; rfl
    rw [decide_eq_false n8, decide_eq_false n10]
    go_enter Tryz.func182, Tryz.ntmps182
    obtain ⟨p0, p1, p2, p3, p4, p5, p6⟩ := HP.out
    go_wp2_with fail
    refine (CI.out _ HC.out).mono ?_
    rintro e w1 ⟨rfl, hb1⟩
    clear p0 p1 p2 p3 p4 p5 p6
    have HP := Lib.hid (HP.out.bel hb1)
    have HB := Lib.hid (belT HB.out hb1)
    have HF := Lib.hid (HF.out.bel hb1)
    clear hb1
    have HB2 := Lib.hid (belA HB.out (.cells #[.int .i64 op, .int .i64 a, .int .i64 b, .int .i64 c, .int .u32 m] 29))
    go_wp2_with fail
    go_ret
    exact ⟨rfl, HB2.out⟩
end Go.Proofs.YtfnfcngkaepnjaaGreatDoor
