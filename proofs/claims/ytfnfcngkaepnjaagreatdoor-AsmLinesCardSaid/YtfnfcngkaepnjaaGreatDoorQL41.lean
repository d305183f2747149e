/- Joined texts: Packages program and its reference: At. -/
import Derived.Test.YtfnfcngkaepnjaaGreatDoorQL37
import Derived.StillTailTactics
/- Packages program and its reference: At. -/
namespace Go.Proofs.YtfnfcngkaepnjaaGreatDoor
set_option linter.unusedVariables false
set_option linter.unusedSimpArgs false
open Go Go.Proofs Go.RowKit Go.Sort

/-- Is a place one of a program? -/
def atB (F : List FnM) (f pc : Int) : Bool := decide (0 ≤ f) && decide (0 ≤ pc) && (match F[f.toNat]? with | some fn => decide (pc.toNat < fn.code.length) | none => false)
def AtQ (F : List FnM) (f pc : Int) (w : World) (e : Ending) (w' : World) : Prop := (∃ op a b c m, e = .returned (.tuple #[insV op a b c m, .int .i64 (if atB F f pc = true then 0 else 4)])) ∧ Below w.heap.size w w'

set_option maxRecDepth 100000 in
set_option maxHeartbeats 4000000 in
theorem pgAt_any (P : ProgM) (f pc : Int) (v : Value) (w : World) (h : ArgP w v P) :
    Calls Tryz.prog 79 #[v, .agg #[.int .i64 f, .int .i64 pc]] w (AtQ P.funcs f pc w) := by
  obtain ⟨vf, rfl, hF⟩ := h
  obtain ⟨F, mu, rw0, gr⟩ := P
  dsimp only at hF ⊢
  have hPG := PrgB.new (P := ⟨F, mu, rw0, gr⟩) w 58 hF
  obtain ⟨av, cv, rfl⟩ := hF.form
  dsimp only at hPG
  have hb2 := bel1 (W := w.alloc (.cells #[.slice av F.length cv, .int .i64 mu, .int .i64 rw0, .int .i64 gr] 58)) (.cells #[.int .i64 f, .int .i64 pc] 43)
  have hb3 := bel1 (W := (w.alloc (.cells #[.slice av F.length cv, .int .i64 mu, .int .i64 rw0, .int .i64 gr] 58)).alloc (.cells #[.int .i64 f, .int .i64 pc] 43)) (.cells #[.int .i64 0, .int .i64 0, .int .i64 0, .int .i64 0, .int .u32 0] 29)
  have HPG := Lib.hid ((hPG.bel hb2).bel hb3)
  have HS := Lib.hid (And.intro (cell_bel (cell_two w (.cells #[.slice av F.length cv, .int .i64 mu, .int .i64 rw0, .int .i64 gr] 58) #[.int .i64 f, .int .i64 pc] 43 0) hb3) (cell_bel (cell_two w (.cells #[.slice av F.length cv, .int .i64 mu, .int .i64 rw0, .int .i64 gr] 58) #[.int .i64 f, .int .i64 pc] 43 1) hb3))
  have HI := Lib.hid (Bare.new 0 0 0 0 0 ((w.alloc (.cells #[.slice av F.length cv, .int .i64 mu, .int .i64 rw0, .int .i64 gr] 58)).alloc (.cells #[.int .i64 f, .int .i64 pc] 43)) 29)
  have HI0 := Lib.hid (World.frozen?_alloc_new ((w.alloc (.cells #[.slice av F.length cv, .int .i64 mu, .int .i64 rw0, .int .i64 gr] 58)).alloc (.cells #[.int .i64 f, .int .i64 pc] 43)) #[.int .i64 0, .int .i64 0, .int .i64 0, .int .i64 0, .int .u32 0] 29 0)
  have HB := Lib.hid (((bel1 (W := w) (.cells #[.slice av F.length cv, .int .i64 mu, .int .i64 rw0, .int .i64 gr] 58)).trans (hb2.mono (by simp))).trans (hb3.mono (by simp; omega)))
  simp only [World.size_alloc] at HI HI0
  clear hPG hb2 hb3 hF
  by_cases h1 : f < 0
  · have e1 : decide (f < 0) = true := decide_eq_true h1
    have HAT := Lib.hid (show atB F f pc = false by unfold atB; rw [decide_eq_false (by omega : ¬ 0 ≤ f)]; rfl)
    clear h1
    obtain ⟨c0, -, -, -, -⟩ := HPG.out
    obtain ⟨s0, s1⟩ := HS.out
    (try dsimp only at c0)
    go_enter Tryz.func79, Tryz.ntmps79
    go_wp2_with fail
    generalize World.alloc (World.alloc (World.alloc _ _) _) _ = V at HPG HS HI HI0 HB c0 s0 s1 ⊢
    go_quiet (fail)
    have hbq := bel_drewN V nq
    have HIq := Lib.hid ((HI.out.bel hbq).set 0 0 0 0 0)
    have rf0 := froz_bel HI.out.c0 HI0.out hbq
    obtain ⟨r0, r1, r2, r3, r4, rf1, rf2, rf3, rf4⟩ := HI.out.bel hbq
    dsimp only at r1 r2 r3 r4
    have HBq := Lib.hid (HB.out.trans (hbq.mono HB.out.size))
    clear hbq c0 s0 s1
    go_wp2_with fail
    obtain ⟨e0, e1, e2, e3, e4, -, -, -, -⟩ := HIq.out
    have hBS := (((((HBq.out.setCell (p := ⟨w.heap.size + 1 + 1, 0, none⟩) (by simp; omega) (.int .i64 0)).setCell (p := ⟨w.heap.size + 1 + 1, 1, none⟩) (by simp; omega) (.int .i64 0)).setCell (p := ⟨w.heap.size + 1 + 1, 2, none⟩) (by simp; omega) (.int .i64 0)).setCell (p := ⟨w.heap.size + 1 + 1, 3, none⟩) (by simp; omega) (.int .i64 0)).setCell (p := ⟨w.heap.size + 1 + 1, 4, none⟩) (by simp; omega) (.int .u32 0))
    generalize ((((World.setCell _ _ _).setCell _ _).setCell _ _).setCell _ _).setCell _ _ = W5 at e0 e1 e2 e3 e4 hBS ⊢
    exact bodyPost_ret (v := .tuple #[insV 0 0 0 0 0, .int .i64 4]) (by unfold insV; simp [results, Tryz.results79, go_sem, e0, e1, e2, e3, e4]) rfl ⟨⟨0, 0, 0, 0, 0, by rw [HAT.out]; rfl⟩, hBS⟩
  obtain ⟨i, rfl⟩ := Int.eq_ofNat_of_zero_le (a := f) (by omega)
  have e1 : decide ((i : Int) < 0) = false := decide_eq_false (by omega)
  by_cases h2 : F.length ≤ i
  · have e2 : decide ((F.length : Int) ≤ (i : Int)) = true := decide_eq_true (by omega)
    have e2' : decide (F.length ≤ i) = true := decide_eq_true h2
    have HAT := Lib.hid (show atB F i pc = false by
      unfold atB
      rw [show F[((i : Int)).toNat]? = none from List.getElem?_eq_none (by simpa using h2)]
      simp)
    clear h1 h2
    obtain ⟨c0, -, -, -, -⟩ := HPG.out
    obtain ⟨s0, s1⟩ := HS.out
    (try dsimp only at c0)
    go_enter Tryz.func79, Tryz.ntmps79
    go_wp2_with fail
    generalize World.alloc (World.alloc (World.alloc _ _) _) _ = V at HPG HS HI HI0 HB c0 s0 s1 ⊢
    go_quiet (fail)
    have hbq := bel_drewN V nq
    have HIq := Lib.hid ((HI.out.bel hbq).set 0 0 0 0 0)
    have rf0 := froz_bel HI.out.c0 HI0.out hbq
    obtain ⟨r0, r1, r2, r3, r4, rf1, rf2, rf3, rf4⟩ := HI.out.bel hbq
    dsimp only at r1 r2 r3 r4
    have HBq := Lib.hid (HB.out.trans (hbq.mono HB.out.size))
    clear hbq c0 s0 s1
    go_wp2_with fail
    obtain ⟨e0, e1, e2, e3, e4, -, -, -, -⟩ := HIq.out
    have hBS := (((((HBq.out.setCell (p := ⟨w.heap.size + 1 + 1, 0, none⟩) (by simp; omega) (.int .i64 0)).setCell (p := ⟨w.heap.size + 1 + 1, 1, none⟩) (by simp; omega) (.int .i64 0)).setCell (p := ⟨w.heap.size + 1 + 1, 2, none⟩) (by simp; omega) (.int .i64 0)).setCell (p := ⟨w.heap.size + 1 + 1, 3, none⟩) (by simp; omega) (.int .i64 0)).setCell (p := ⟨w.heap.size + 1 + 1, 4, none⟩) (by simp; omega) (.int .u32 0))
    generalize ((((World.setCell _ _ _).setCell _ _).setCell _ _).setCell _ _).setCell _ _ = W5 at e0 e1 e2 e3 e4 hBS ⊢
    exact bodyPost_ret (v := .tuple #[insV 0 0 0 0 0, .int .i64 4]) (by unfold insV; simp [results, Tryz.results79, go_sem, e0, e1, e2, e3, e4]) rfl ⟨⟨0, 0, 0, 0, 0, by rw [HAT.out]; rfl⟩, hBS⟩
  have e2 : decide ((F.length : Int) ≤ (i : Int)) = false := decide_eq_false (by omega)
  have e2' : decide (F.length ≤ i) = false := decide_eq_false h2
  by_cases h3 : pc < 0
  · have e3 : decide (pc < 0) = true := decide_eq_true h3
    have HAT := Lib.hid (show atB F i pc = false by unfold atB; rw [decide_eq_false (by omega : ¬ 0 ≤ pc)]; simp)
    clear h1 h2 h3
    obtain ⟨c0, -, -, -, -⟩ := HPG.out
    obtain ⟨s0, s1⟩ := HS.out
    (try dsimp only at c0)
    go_enter Tryz.func79, Tryz.ntmps79
    go_wp2_with fail
    generalize World.alloc (World.alloc (World.alloc _ _) _) _ = V at HPG HS HI HI0 HB c0 s0 s1 ⊢
    go_quiet (fail)
    have hbq := bel_drewN V nq
    have HIq := Lib.hid ((HI.out.bel hbq).set 0 0 0 0 0)
    have rf0 := froz_bel HI.out.c0 HI0.out hbq
    obtain ⟨r0, r1, r2, r3, r4, rf1, rf2, rf3, rf4⟩ := HI.out.bel hbq
    dsimp only at r1 r2 r3 r4
    have HBq := Lib.hid (HB.out.trans (hbq.mono HB.out.size))
    clear hbq c0 s0 s1
    go_wp2_with fail
    obtain ⟨e0, e1, e2, e3, e4, -, -, -, -⟩ := HIq.out
    have hBS := (((((HBq.out.setCell (p := ⟨w.heap.size + 1 + 1, 0, none⟩) (by simp; omega) (.int .i64 0)).setCell (p := ⟨w.heap.size + 1 + 1, 1, none⟩) (by simp; omega) (.int .i64 0)).setCell (p := ⟨w.heap.size + 1 + 1, 2, none⟩) (by simp; omega) (.int .i64 0)).setCell (p := ⟨w.heap.size + 1 + 1, 3, none⟩) (by simp; omega) (.int .i64 0)).setCell (p := ⟨w.heap.size + 1 + 1, 4, none⟩) (by simp; omega) (.int .u32 0))
    generalize ((((World.setCell _ _ _).setCell _ _).setCell _ _).setCell _ _).setCell _ _ = W5 at e0 e1 e2 e3 e4 hBS ⊢
    exact bodyPost_ret (v := .tuple #[insV 0 0 0 0 0, .int .i64 4]) (by unfold insV; simp [results, Tryz.results79, go_sem, e0, e1, e2, e3, e4]) rfl ⟨⟨0, 0, 0, 0, 0, by rw [HAT.out]; rfl⟩, hBS⟩
  obtain ⟨j, rfl⟩ := Int.eq_ofNat_of_zero_le (a := pc) (by omega)
  have e3 : decide ((j : Int) < 0) = false := decide_eq_false (by omega)
  obtain ⟨fn, hfn⟩ : ∃ fn, F[i]? = some fn := ⟨F[i]'(by omega), List.getElem?_eq_getElem _⟩
  have hil : i < F.length := by omega
  have HFn := Lib.hid hfn
  by_cases h4 : fn.code.length ≤ j
  · have e4 : decide ((fn.code.length : Int) ≤ (j : Int)) = true := decide_eq_true (by omega)
    have e4' : decide (fn.code.length ≤ j) = true := decide_eq_true h4
    have HAT := Lib.hid (show atB F i j = false by
      unfold atB
      rw [show F[((i : Int)).toNat]? = some fn from by simpa using hfn]
      simp
      omega)
    clear h1 h2 h3 h4 hfn
    obtain ⟨c0, -, -, -, -⟩ := HPG.out
    obtain ⟨s0, s1⟩ := HS.out
    (try dsimp only at c0)
    go_enter Tryz.func79, Tryz.ntmps79
    go_wp2_with fail
    generalize World.alloc (World.alloc (World.alloc _ _) _) _ = V at HPG HS HI HI0 HB c0 s0 s1 ⊢
    obtain ⟨b, o, c', vc, hv, -, x0, x1, hcd⟩ := HPG.out.fns.at_ HFn.out
    simp only [Value.slice.injEq, true_and] at hv
    obtain ⟨rfl, rfl⟩ := hv
    obtain ⟨ac, cc, rfl⟩ := hcd.form
    have HCD := Lib.hid hcd
    clear hcd
    go_quiet (fail)
    have hbq := bel_drewN V nq
    have HIq := Lib.hid ((HI.out.bel hbq).set 0 0 0 0 0)
    have rf0 := froz_bel HI.out.c0 HI0.out hbq
    obtain ⟨r0, r1, r2, r3, r4, rf1, rf2, rf3, rf4⟩ := HI.out.bel hbq
    dsimp only at r1 r2 r3 r4
    have HBq := Lib.hid (HB.out.trans (hbq.mono HB.out.size))
    clear hbq c0 s0 s1
    go_wp2_with fail
    obtain ⟨e0, e1, e2, e3, e4, -, -, -, -⟩ := HIq.out
    have hBS := (((((HBq.out.setCell (p := ⟨w.heap.size + 1 + 1, 0, none⟩) (by simp; omega) (.int .i64 0)).setCell (p := ⟨w.heap.size + 1 + 1, 1, none⟩) (by simp; omega) (.int .i64 0)).setCell (p := ⟨w.heap.size + 1 + 1, 2, none⟩) (by simp; omega) (.int .i64 0)).setCell (p := ⟨w.heap.size + 1 + 1, 3, none⟩) (by simp; omega) (.int .i64 0)).setCell (p := ⟨w.heap.size + 1 + 1, 4, none⟩) (by simp; omega) (.int .u32 0))
    generalize ((((World.setCell _ _ _).setCell _ _).setCell _ _).setCell _ _).setCell _ _ = W5 at e0 e1 e2 e3 e4 hBS ⊢
    exact bodyPost_ret (v := .tuple #[insV 0 0 0 0 0, .int .i64 4]) (by unfold insV; simp [results, Tryz.results79, go_sem, e0, e1, e2, e3, e4]) rfl ⟨⟨0, 0, 0, 0, 0, by rw [HAT.out]; rfl⟩, hBS⟩
  have e4 : decide ((fn.code.length : Int) ≤ (j : Int)) = false := decide_eq_false (by omega)
  have e4' : decide (fn.code.length ≤ j) = false := decide_eq_false h4
  have hjl : j < fn.code.length := by omega
  have HAT := Lib.hid (show atB F i j = true by
    unfold atB
    rw [show F[((i : Int)).toNat]? = some fn from by simpa using hfn]
    simp
    omega)
  obtain ⟨x, hx⟩ : ∃ x, fn.code[j]? = some x := ⟨fn.code[j], List.getElem?_eq_getElem hjl⟩
  have HXx := Lib.hid hx
  clear h1 h2 h3 h4 hfn hx
  obtain ⟨c0, -, -, -, -⟩ := HPG.out
  obtain ⟨s0, s1⟩ := HS.out
  (try dsimp only at c0)
  go_enter Tryz.func79, Tryz.ntmps79
  go_wp2_with fail
  generalize World.alloc (World.alloc (World.alloc _ _) _) _ = V at HPG HS HI HI0 HB c0 s0 s1 ⊢
  obtain ⟨b, o, c', vc, hv, -, x0, x1, hcd⟩ := HPG.out.fns.at_ HFn.out
  simp only [Value.slice.injEq, true_and] at hv
  obtain ⟨rfl, rfl⟩ := hv
  obtain ⟨ac, cc, rfl⟩ := hcd.form
  have HCD := Lib.hid hcd
  clear hcd
  go_quiet (fail)
  have hbq := bel_drewN V nq
  have c0 := cell_bel c0 hbq
  have s0 := cell_bel s0 hbq
  have s1 := cell_bel s1 hbq
  have x1 := cell_bel x1 hbq
  obtain ⟨b2, o2, c2, hv, -, y0, y1, y2, y3, y4⟩ := code_at (HCD.out.bel hbq) HXx.out
  simp only [Value.slice.injEq, true_and] at hv
  obtain ⟨rfl, rfl⟩ := hv
  have HIq := Lib.hid (HI.out.bel hbq)
  have HIf := Lib.hid (froz_bel HI.out.c0 HI0.out hbq)
  have HBq := Lib.hid (HB.out.trans (hbq.mono HB.out.size))
  clear hbq x0
  go_wp2_with fail
  refine wp_region_tail 11 (by kernel_rfl) (by kernel_rfl) ?_
  intro W2 hW2
  have hb2 : Below (V.drewN nq).heap.size (V.drewN nq) W2 := by rw [← hW2]; exact (Below.refl _ _).drew
  have c0 := cell_bel c0 hb2
  have s0 := cell_bel s0 hb2
  have s1 := cell_bel s1 hb2
  have x1 := cell_bel x1 hb2
  have y0 := cell_bel y0 hb2
  have y1 := cell_bel y1 hb2
  have y2 := cell_bel y2 hb2
  have y3 := cell_bel y3 hb2
  have y4 := cell_bel y4 hb2
  have HI2 := Lib.hid (HIq.out.bel hb2)
  have rf0 := froz_bel HIq.out.c0 HIf.out hb2
  have HB2 := Lib.hid (HBq.out.trans (hb2.mono HBq.out.size))
  have HS2 := Lib.hid (HI2.out.set x.op x.a x.b x.c x.m)
  clear hb2 hW2 HIq HIf HBq HPG HS HI HI0 HB HCD
  generalize (V.drewN nq).drew = V9 at *
  simp only [List.take_succ_cons, List.take_zero, List.drop_succ_cons, List.drop_zero]
  repeat still_step
  refine wpStill_nil ?_
  obtain ⟨r0, r1, r2, r3, r4, rf1, rf2, rf3, rf4⟩ := HI2.out
  dsimp only at r1 r2 r3 r4
  clear c0 s0 s1 x1 y0 y1 y2 y3 y4
  go_wp2_with fail
  obtain ⟨e0, e1, e2, e3, e4, -, -, -, -⟩ := HS2.out
  have hBS := (((((HB2.out.setCell (p := ⟨w.heap.size + 1 + 1, 0, none⟩) (by simp; omega) (.int .i64 x.op)).setCell (p := ⟨w.heap.size + 1 + 1, 1, none⟩) (by simp; omega) (.int .i64 x.a)).setCell (p := ⟨w.heap.size + 1 + 1, 2, none⟩) (by simp; omega) (.int .i64 x.b)).setCell (p := ⟨w.heap.size + 1 + 1, 3, none⟩) (by simp; omega) (.int .i64 x.c)).setCell (p := ⟨w.heap.size + 1 + 1, 4, none⟩) (by simp; omega) (.int .u32 x.m))
  generalize ((((World.setCell _ _ _).setCell _ _).setCell _ _).setCell _ _).setCell _ _ = W5 at e0 e1 e2 e3 e4 hBS ⊢
  exact bodyPost_ret (v := .tuple #[insV x.op x.a x.b x.c x.m, .int .i64 0]) (by unfold insV; simp [results, Tryz.results79, go_sem, e0, e1, e2, e3, e4]) rfl ⟨⟨x.op, x.a, x.b, x.c, x.m, by rw [HAT.out]; rfl⟩, hBS⟩
set_option maxRecDepth 100000 in
set_option maxHeartbeats 4000000 in
theorem rfAt_any (P : ProgM) (f pc : Int) (v : Value) (w : World) (h : ArgP w v P) :
    Calls Tryz.prog 80 #[v, .agg #[.int .i64 f, .int .i64 pc]] w (AtQ P.funcs f pc w) := by
  obtain ⟨vf, rfl, hF⟩ := h
  obtain ⟨F, mu, rw0, gr⟩ := P
  dsimp only at hF ⊢
  have hPG := PrgB.new (P := ⟨F, mu, rw0, gr⟩) w 58 hF
  obtain ⟨av, cv, rfl⟩ := hF.form
  dsimp only at hPG
  have hb2 := bel1 (W := w.alloc (.cells #[.slice av F.length cv, .int .i64 mu, .int .i64 rw0, .int .i64 gr] 58)) (.cells #[.int .i64 f, .int .i64 pc] 43)
  have hb3 := bel1 (W := (w.alloc (.cells #[.slice av F.length cv, .int .i64 mu, .int .i64 rw0, .int .i64 gr] 58)).alloc (.cells #[.int .i64 f, .int .i64 pc] 43)) (.cells #[.int .i64 0, .int .i64 0, .int .i64 0, .int .i64 0, .int .u32 0] 29)
  have HPG := Lib.hid ((hPG.bel hb2).bel hb3)
  have HS := Lib.hid (And.intro (cell_bel (cell_two w (.cells #[.slice av F.length cv, .int .i64 mu, .int .i64 rw0, .int .i64 gr] 58) #[.int .i64 f, .int .i64 pc] 43 0) hb3) (cell_bel (cell_two w (.cells #[.slice av F.length cv, .int .i64 mu, .int .i64 rw0, .int .i64 gr] 58) #[.int .i64 f, .int .i64 pc] 43 1) hb3))
  have HI := Lib.hid (Bare.new 0 0 0 0 0 ((w.alloc (.cells #[.slice av F.length cv, .int .i64 mu, .int .i64 rw0, .int .i64 gr] 58)).alloc (.cells #[.int .i64 f, .int .i64 pc] 43)) 29)
  have HI0 := Lib.hid (World.frozen?_alloc_new ((w.alloc (.cells #[.slice av F.length cv, .int .i64 mu, .int .i64 rw0, .int .i64 gr] 58)).alloc (.cells #[.int .i64 f, .int .i64 pc] 43)) #[.int .i64 0, .int .i64 0, .int .i64 0, .int .i64 0, .int .u32 0] 29 0)
  have HB := Lib.hid (((bel1 (W := w) (.cells #[.slice av F.length cv, .int .i64 mu, .int .i64 rw0, .int .i64 gr] 58)).trans (hb2.mono (by simp))).trans (hb3.mono (by simp; omega)))
  simp only [World.size_alloc] at HI HI0
  clear hPG hb2 hb3 hF
  by_cases h1 : f < 0
  · have e1 : decide (f < 0) = true := decide_eq_true h1
    have HAT := Lib.hid (show atB F f pc = false by unfold atB; rw [decide_eq_false (by omega : ¬ 0 ≤ f)]; rfl)
    clear h1
    obtain ⟨c0, -, -, -, -⟩ := HPG.out
    obtain ⟨s0, s1⟩ := HS.out
    (try dsimp only at c0)
    go_enter Tryz.func80, Tryz.ntmps80
    go_wp2_with fail
    generalize World.alloc (World.alloc (World.alloc _ _) _) _ = V at HPG HS HI HI0 HB c0 s0 s1 ⊢
    go_quiet (fail)
    have hbq := bel_drewN V nq
    have HIq := Lib.hid ((HI.out.bel hbq).set 0 0 0 0 0)
    have rf0 := froz_bel HI.out.c0 HI0.out hbq
    obtain ⟨r0, r1, r2, r3, r4, rf1, rf2, rf3, rf4⟩ := HI.out.bel hbq
    dsimp only at r1 r2 r3 r4
    have HBq := Lib.hid (HB.out.trans (hbq.mono HB.out.size))
    clear hbq c0 s0 s1
    go_wp2_with fail
    obtain ⟨e0, e1, e2, e3, e4, -, -, -, -⟩ := HIq.out
    have hBS := (((((HBq.out.setCell (p := ⟨w.heap.size + 1 + 1, 0, none⟩) (by simp; omega) (.int .i64 0)).setCell (p := ⟨w.heap.size + 1 + 1, 1, none⟩) (by simp; omega) (.int .i64 0)).setCell (p := ⟨w.heap.size + 1 + 1, 2, none⟩) (by simp; omega) (.int .i64 0)).setCell (p := ⟨w.heap.size + 1 + 1, 3, none⟩) (by simp; omega) (.int .i64 0)).setCell (p := ⟨w.heap.size + 1 + 1, 4, none⟩) (by simp; omega) (.int .u32 0))
    generalize ((((World.setCell _ _ _).setCell _ _).setCell _ _).setCell _ _).setCell _ _ = W5 at e0 e1 e2 e3 e4 hBS ⊢
    exact bodyPost_ret (v := .tuple #[insV 0 0 0 0 0, .int .i64 4]) (by unfold insV; simp [results, Tryz.results80, go_sem, e0, e1, e2, e3, e4]) rfl ⟨⟨0, 0, 0, 0, 0, by rw [HAT.out]; rfl⟩, hBS⟩
  obtain ⟨i, rfl⟩ := Int.eq_ofNat_of_zero_le (a := f) (by omega)
  have e1 : decide ((i : Int) < 0) = false := decide_eq_false (by omega)
  by_cases h2 : F.length ≤ i
  · have e2 : decide ((F.length : Int) ≤ (i : Int)) = true := decide_eq_true (by omega)
    have e2' : decide (F.length ≤ i) = true := decide_eq_true h2
    have HAT := Lib.hid (show atB F i pc = false by
      unfold atB
      rw [show F[((i : Int)).toNat]? = none from List.getElem?_eq_none (by simpa using h2)]
      simp)
    clear h1 h2
    obtain ⟨c0, -, -, -, -⟩ := HPG.out
    obtain ⟨s0, s1⟩ := HS.out
    (try dsimp only at c0)
    go_enter Tryz.func80, Tryz.ntmps80
    go_wp2_with fail
    generalize World.alloc (World.alloc (World.alloc _ _) _) _ = V at HPG HS HI HI0 HB c0 s0 s1 ⊢
    go_quiet (fail)
    have hbq := bel_drewN V nq
    have HIq := Lib.hid ((HI.out.bel hbq).set 0 0 0 0 0)
    have rf0 := froz_bel HI.out.c0 HI0.out hbq
    obtain ⟨r0, r1, r2, r3, r4, rf1, rf2, rf3, rf4⟩ := HI.out.bel hbq
    dsimp only at r1 r2 r3 r4
    have HBq := Lib.hid (HB.out.trans (hbq.mono HB.out.size))
    clear hbq c0 s0 s1
    go_wp2_with fail
    obtain ⟨e0, e1, e2, e3, e4, -, -, -, -⟩ := HIq.out
    have hBS := (((((HBq.out.setCell (p := ⟨w.heap.size + 1 + 1, 0, none⟩) (by simp; omega) (.int .i64 0)).setCell (p := ⟨w.heap.size + 1 + 1, 1, none⟩) (by simp; omega) (.int .i64 0)).setCell (p := ⟨w.heap.size + 1 + 1, 2, none⟩) (by simp; omega) (.int .i64 0)).setCell (p := ⟨w.heap.size + 1 + 1, 3, none⟩) (by simp; omega) (.int .i64 0)).setCell (p := ⟨w.heap.size + 1 + 1, 4, none⟩) (by simp; omega) (.int .u32 0))
    generalize ((((World.setCell _ _ _).setCell _ _).setCell _ _).setCell _ _).setCell _ _ = W5 at e0 e1 e2 e3 e4 hBS ⊢
    exact bodyPost_ret (v := .tuple #[insV 0 0 0 0 0, .int .i64 4]) (by unfold insV; simp [results, Tryz.results80, go_sem, e0, e1, e2, e3, e4]) rfl ⟨⟨0, 0, 0, 0, 0, by rw [HAT.out]; rfl⟩, hBS⟩
  have e2 : decide ((F.length : Int) ≤ (i : Int)) = false := decide_eq_false (by omega)
  have e2' : decide (F.length ≤ i) = false := decide_eq_false h2
  by_cases h3 : pc < 0
  · have e3 : decide (pc < 0) = true := decide_eq_true h3
    have HAT := Lib.hid (show atB F i pc = false by unfold atB; rw [decide_eq_false (by omega : ¬ 0 ≤ pc)]; simp)
    clear h1 h2 h3
    obtain ⟨c0, -, -, -, -⟩ := HPG.out
    obtain ⟨s0, s1⟩ := HS.out
    (try dsimp only at c0)
    go_enter Tryz.func80, Tryz.ntmps80
    go_wp2_with fail
    generalize World.alloc (World.alloc (World.alloc _ _) _) _ = V at HPG HS HI HI0 HB c0 s0 s1 ⊢
    go_quiet (fail)
    have hbq := bel_drewN V nq
    have HIq := Lib.hid ((HI.out.bel hbq).set 0 0 0 0 0)
    have rf0 := froz_bel HI.out.c0 HI0.out hbq
    obtain ⟨r0, r1, r2, r3, r4, rf1, rf2, rf3, rf4⟩ := HI.out.bel hbq
    dsimp only at r1 r2 r3 r4
    have HBq := Lib.hid (HB.out.trans (hbq.mono HB.out.size))
    clear hbq c0 s0 s1
    go_wp2_with fail
    obtain ⟨e0, e1, e2, e3, e4, -, -, -, -⟩ := HIq.out
    have hBS := (((((HBq.out.setCell (p := ⟨w.heap.size + 1 + 1, 0, none⟩) (by simp; omega) (.int .i64 0)).setCell (p := ⟨w.heap.size + 1 + 1, 1, none⟩) (by simp; omega) (.int .i64 0)).setCell (p := ⟨w.heap.size + 1 + 1, 2, none⟩) (by simp; omega) (.int .i64 0)).setCell (p := ⟨w.heap.size + 1 + 1, 3, none⟩) (by simp; omega) (.int .i64 0)).setCell (p := ⟨w.heap.size + 1 + 1, 4, none⟩) (by simp; omega) (.int .u32 0))
    generalize ((((World.setCell _ _ _).setCell _ _).setCell _ _).setCell _ _).setCell _ _ = W5 at e0 e1 e2 e3 e4 hBS ⊢
    exact bodyPost_ret (v := .tuple #[insV 0 0 0 0 0, .int .i64 4]) (by unfold insV; simp [results, Tryz.results80, go_sem, e0, e1, e2, e3, e4]) rfl ⟨⟨0, 0, 0, 0, 0, by rw [HAT.out]; rfl⟩, hBS⟩
  obtain ⟨j, rfl⟩ := Int.eq_ofNat_of_zero_le (a := pc) (by omega)
  have e3 : decide ((j : Int) < 0) = false := decide_eq_false (by omega)
  obtain ⟨fn, hfn⟩ : ∃ fn, F[i]? = some fn := ⟨F[i]'(by omega), List.getElem?_eq_getElem _⟩
  have hil : i < F.length := by omega
  have HFn := Lib.hid hfn
  by_cases h4 : fn.code.length ≤ j
  · have e4 : decide ((fn.code.length : Int) ≤ (j : Int)) = true := decide_eq_true (by omega)
    have e4' : decide (fn.code.length ≤ j) = true := decide_eq_true h4
    have HAT := Lib.hid (show atB F i j = false by
      unfold atB
      rw [show F[((i : Int)).toNat]? = some fn from by simpa using hfn]
      simp
      omega)
    clear h1 h2 h3 h4 hfn
    obtain ⟨c0, -, -, -, -⟩ := HPG.out
    obtain ⟨s0, s1⟩ := HS.out
    (try dsimp only at c0)
    go_enter Tryz.func80, Tryz.ntmps80
    go_wp2_with fail
    generalize World.alloc (World.alloc (World.alloc _ _) _) _ = V at HPG HS HI HI0 HB c0 s0 s1 ⊢
    obtain ⟨b, o, c', vc, hv, -, x0, x1, hcd⟩ := HPG.out.fns.at_ HFn.out
    simp only [Value.slice.injEq, true_and] at hv
    obtain ⟨rfl, rfl⟩ := hv
    obtain ⟨ac, cc, rfl⟩ := hcd.form
    have HCD := Lib.hid hcd
    clear hcd
    go_quiet (fail)
    have hbq := bel_drewN V nq
    have HIq := Lib.hid ((HI.out.bel hbq).set 0 0 0 0 0)
    have rf0 := froz_bel HI.out.c0 HI0.out hbq
    obtain ⟨r0, r1, r2, r3, r4, rf1, rf2, rf3, rf4⟩ := HI.out.bel hbq
    dsimp only at r1 r2 r3 r4
    have HBq := Lib.hid (HB.out.trans (hbq.mono HB.out.size))
    clear hbq c0 s0 s1
    go_wp2_with fail
    obtain ⟨e0, e1, e2, e3, e4, -, -, -, -⟩ := HIq.out
    have hBS := (((((HBq.out.setCell (p := ⟨w.heap.size + 1 + 1, 0, none⟩) (by simp; omega) (.int .i64 0)).setCell (p := ⟨w.heap.size + 1 + 1, 1, none⟩) (by simp; omega) (.int .i64 0)).setCell (p := ⟨w.heap.size + 1 + 1, 2, none⟩) (by simp; omega) (.int .i64 0)).setCell (p := ⟨w.heap.size + 1 + 1, 3, none⟩) (by simp; omega) (.int .i64 0)).setCell (p := ⟨w.heap.size + 1 + 1, 4, none⟩) (by simp; omega) (.int .u32 0))
    generalize ((((World.setCell _ _ _).setCell _ _).setCell _ _).setCell _ _).setCell _ _ = W5 at e0 e1 e2 e3 e4 hBS ⊢
    exact bodyPost_ret (v := .tuple #[insV 0 0 0 0 0, .int .i64 4]) (by unfold insV; simp [results, Tryz.results80, go_sem, e0, e1, e2, e3, e4]) rfl ⟨⟨0, 0, 0, 0, 0, by rw [HAT.out]; rfl⟩, hBS⟩
  have e4 : decide ((fn.code.length : Int) ≤ (j : Int)) = false := decide_eq_false (by omega)
  have e4' : decide (fn.code.length ≤ j) = false := decide_eq_false h4
  have hjl : j < fn.code.length := by omega
  have HAT := Lib.hid (show atB F i j = true by
    unfold atB
    rw [show F[((i : Int)).toNat]? = some fn from by simpa using hfn]
    simp
    omega)
  obtain ⟨x, hx⟩ : ∃ x, fn.code[j]? = some x := ⟨fn.code[j], List.getElem?_eq_getElem hjl⟩
  have HXx := Lib.hid hx
  clear h1 h2 h3 h4 hfn hx
  obtain ⟨c0, -, -, -, -⟩ := HPG.out
  obtain ⟨s0, s1⟩ := HS.out
  (try dsimp only at c0)
  go_enter Tryz.func80, Tryz.ntmps80
  go_wp2_with fail
  generalize World.alloc (World.alloc (World.alloc _ _) _) _ = V at HPG HS HI HI0 HB c0 s0 s1 ⊢
  obtain ⟨b, o, c', vc, hv, -, x0, x1, hcd⟩ := HPG.out.fns.at_ HFn.out
  simp only [Value.slice.injEq, true_and] at hv
  obtain ⟨rfl, rfl⟩ := hv
  obtain ⟨ac, cc, rfl⟩ := hcd.form
  have HCD := Lib.hid hcd
  clear hcd
  go_quiet (fail)
  have hbq := bel_drewN V nq
  have c0 := cell_bel c0 hbq
  have s0 := cell_bel s0 hbq
  have s1 := cell_bel s1 hbq
  have x1 := cell_bel x1 hbq
  obtain ⟨b2, o2, c2, hv, -, y0, y1, y2, y3, y4⟩ := code_at (HCD.out.bel hbq) HXx.out
  simp only [Value.slice.injEq, true_and] at hv
  obtain ⟨rfl, rfl⟩ := hv
  have HIq := Lib.hid (HI.out.bel hbq)
  have HIf := Lib.hid (froz_bel HI.out.c0 HI0.out hbq)
  have HBq := Lib.hid (HB.out.trans (hbq.mono HB.out.size))
  clear hbq x0
  go_wp2_with fail
  refine wp_region_tail 11 (by kernel_rfl) (by kernel_rfl) ?_
  intro W2 hW2
  have hb2 : Below (V.drewN nq).heap.size (V.drewN nq) W2 := by rw [← hW2]; exact (Below.refl _ _).drew
  have c0 := cell_bel c0 hb2
  have s0 := cell_bel s0 hb2
  have s1 := cell_bel s1 hb2
  have x1 := cell_bel x1 hb2
  have y0 := cell_bel y0 hb2
  have y1 := cell_bel y1 hb2
  have y2 := cell_bel y2 hb2
  have y3 := cell_bel y3 hb2
  have y4 := cell_bel y4 hb2
  have HI2 := Lib.hid (HIq.out.bel hb2)
  have rf0 := froz_bel HIq.out.c0 HIf.out hb2
  have HB2 := Lib.hid (HBq.out.trans (hb2.mono HBq.out.size))
  have HS2 := Lib.hid (HI2.out.set x.op x.a x.b x.c x.m)
  clear hb2 hW2 HIq HIf HBq HPG HS HI HI0 HB HCD
  generalize (V.drewN nq).drew = V9 at *
  simp only [List.take_succ_cons, List.take_zero, List.drop_succ_cons, List.drop_zero]
  repeat still_step
  refine wpStill_nil ?_
  obtain ⟨r0, r1, r2, r3, r4, rf1, rf2, rf3, rf4⟩ := HI2.out
  dsimp only at r1 r2 r3 r4
  clear c0 s0 s1 x1 y0 y1 y2 y3 y4
  go_wp2_with fail
  obtain ⟨e0, e1, e2, e3, e4, -, -, -, -⟩ := HS2.out
  have hBS := (((((HB2.out.setCell (p := ⟨w.heap.size + 1 + 1, 0, none⟩) (by simp; omega) (.int .i64 x.op)).setCell (p := ⟨w.heap.size + 1 + 1, 1, none⟩) (by simp; omega) (.int .i64 x.a)).setCell (p := ⟨w.heap.size + 1 + 1, 2, none⟩) (by simp; omega) (.int .i64 x.b)).setCell (p := ⟨w.heap.size + 1 + 1, 3, none⟩) (by simp; omega) (.int .i64 x.c)).setCell (p := ⟨w.heap.size + 1 + 1, 4, none⟩) (by simp; omega) (.int .u32 x.m))
  generalize ((((World.setCell _ _ _).setCell _ _).setCell _ _).setCell _ _).setCell _ _ = W5 at e0 e1 e2 e3 e4 hBS ⊢
  exact bodyPost_ret (v := .tuple #[insV x.op x.a x.b x.c x.m, .int .i64 0]) (by unfold insV; simp [results, Tryz.results80, go_sem, e0, e1, e2, e3, e4]) rfl ⟨⟨x.op, x.a, x.b, x.c, x.m, by rw [HAT.out]; rfl⟩, hBS⟩
end Go.Proofs.YtfnfcngkaepnjaaGreatDoor
