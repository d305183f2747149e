/- Joined texts: Package asm: all lines of a program.; Plain laws of instructions' texts: how long; Parse of one. -/
import Derived.Test.YtfnfcngkaepnjaaGreatDoorQL28
import Derived.Deep.RegionHeld3
import Derived.Test.YtfnfcngkaepnjaaGreatDoorQL20
import Derived.Test.YtfnfcngkaepnjaaGreatDoorQL19
import Derived.Test.YtfnfcngkaepnjaaGreatDoorQL27
/- Package asm: all lines of a program. -/
namespace Go.Proofs.YtfnfcngkaepnjaaGreatDoor
set_option linter.unusedVariables false
set_option linter.unusedSimpArgs false
open Go Go.Proofs Go.RowKit

theorem PrgB.below {B n : Nat} {vf : Value} {P : ProgM} {w w' : World} (h : PrgB B vf P w) (hb : Below n w w') (hB : B < n) (hf : ArgF w' vf P.funcs) : PrgB B vf P w' :=
  ⟨cell_belB h.c0 hb hB, cell_belB h.c1 hb hB, cell_belB h.c2 hb hB, cell_belB h.c3 hb hB, hf⟩

set_option maxRecDepth 100000 in
set_option maxHeartbeats 8000000 in
theorem asmAll_any (P : ProgM) (hP : P.Fits) (hR : rightP P = true) (v : Value) (w : World) (hE : Env w) (h : ArgP w v P) :
    Calls Tryz.prog 63 #[v] w fun e w' => ∃ v', e = .returned v' ∧ OwnW 9 1 encS w.heap.size v' (linesF P) w' ∧ Below w.heap.size w w' := by
  obtain ⟨hn, haf⟩ := right_fits hR
  obtain ⟨⟨⟨hl1, hl32⟩, hmu, hrw, hgr⟩, hN2⟩ := (numbersF_iff P).1 hn
  obtain ⟨vf, rfl, hF⟩ := h
  obtain ⟨F, mu, rw0, gr⟩ := P
  dsimp only at hF hl1 hl32 hmu hrw hgr hN2 haf ⊢
  have HAF := Lib.hid haf
  have HN2 := Lib.hid hN2
  obtain ⟨av, cv, rfl⟩ := hF.form
  have HFw := Lib.hid hF
  have B1 := bel1 (W := w) (.cells #[.slice av F.length cv, .int .i64 mu, .int .i64 rw0, .int .i64 gr] 58)
  have b0 := cell_new w #[.slice av F.length cv, .int .i64 mu, .int .i64 rw0, .int .i64 gr] 58 0
  have b1 := cell_new w #[.slice av F.length cv, .int .i64 mu, .int .i64 rw0, .int .i64 gr] 58 1
  have b2 := cell_new w #[.slice av F.length cv, .int .i64 mu, .int .i64 rw0, .int .i64 gr] 58 2
  have b3 := cell_new w #[.slice av F.length cv, .int .i64 mu, .int .i64 rw0, .int .i64 gr] 58 3
  have HB := Lib.hid B1
  clear hn haf hN2 hF B1 hR
  go_enter Tryz.func63, Tryz.ntmps63
  go_wp2_with fail
  have HPG : Hid (PrgB w.heap.size (.slice av F.length cv) ⟨F, mu, rw0, gr⟩ (w.alloc (.cells #[.slice av F.length cv, .int .i64 mu, .int .i64 rw0, .int .i64 gr] 58))) := Lib.hid ⟨b0, b1, b2, b3, HFw.out.bel HB.out⟩
  have hsz := Lib.hid (show w.heap.size + 1 ≤ (w.alloc (.cells #[.slice av F.length cv, .int .i64 mu, .int .i64 rw0, .int .i64 gr] 58)).heap.size by simp)
  have HO : Hid (OwnW 9 1 encS (w.heap.size + 1) (.slice none 0 0) [] (w.alloc (.cells #[.slice av F.length cv, .int .i64 mu, .int .i64 rw0, .int .i64 gr] 58))) := Lib.hid OwnW.nil
  clear b0 b1 b2 b3
  generalize w.alloc _ = V at HPG hsz HO HB ⊢
  refine (heads_any V).mono ?_
  rintro e w1 ⟨rfl, hb1⟩
  have HPG := Lib.hid (HPG.out.bel hb1)
  have HO := Lib.hid (HO.out.bel hb1)
  have HB := Lib.hid (belT HB.out hb1)
  have hsz := Lib.hid (Nat.le_trans hsz.out hb1.size)
  clear hb1
  have hI := heads_at
  have I0 := Lib.hid fun w => (hI w).1
  have I1 := Lib.hid fun w => (hI w).2.1
  have I2 := Lib.hid fun w => (hI w).2.2
  clear hI
  go_wp2_with fail
  refine wp_loop_rounds 4 ?_
  rw [rounds_succ]
  have hi := I0.out
  go_wp2_with fail
  clear hi
  have hbh := (bel1 (W := w1) (.cells #[.string ⟨#[109,117,116,101,120,101,115]⟩, .func (.func 169) #[] #[]] 196)).drew
  have z0 := cell_new w1 #[.string ⟨#[109,117,116,101,120,101,115]⟩, .func (.func 169) #[] #[]] 196 0
  have z1 := cell_new w1 #[.string ⟨#[109,117,116,101,120,101,115]⟩, .func (.func 169) #[] #[]] 196 1
  have N1 := Lib.hid HO.out.lt
  have HPG := Lib.hid (HPG.out.bel hbh)
  have HO := Lib.hid (HO.out.bel hbh)
  have HB := Lib.hid (belT HB.out hbh)
  have hsz := Lib.hid (Nat.le_trans hsz.out hbh.size)
  clear hbh
  obtain ⟨k1, k2, k3⟩ : (w1.alloc (.cells #[.string ⟨#[109,117,116,101,120,101,115]⟩, .func (.func 169) #[] #[]] 196)).drew.cell? ⟨w1.heap.size, 0, none⟩ = some (.string ⟨#[109,117,116,101,120,101,115]⟩) ∧ (w1.alloc (.cells #[.string ⟨#[109,117,116,101,120,101,115]⟩, .func (.func 169) #[] #[]] 196)).drew.cell? ⟨w1.heap.size, 1, none⟩ = some (.func (.func 169) #[] #[]) ∧ (w1.alloc (.cells #[.string ⟨#[109,117,116,101,120,101,115]⟩, .func (.func 169) #[] #[]] 196)).drew.cell? ⟨w.heap.size, 1, none⟩ = some (.int .i64 mu) := ⟨z0, z1, by obtain ⟨c0, c1, c2, c3, -⟩ := HPG.out; first | exact c1 | exact c2 | exact c3⟩
  have CL := Lib.hid (asmLine_any ⟨#[109,117,116,101,120,101,115]⟩ (by decide) mu (by omega) (by omega) _ (hE.on HB.out))
  clear z0 z1
  go_region_held3 (fun W' => W'.cell? ⟨w1.heap.size, 0, none⟩ = some (.string ⟨#[109,117,116,101,120,101,115]⟩) ∧ W'.cell? ⟨w1.heap.size, 1, none⟩ = some (.func (.func 169) #[] #[]) ∧ W'.cell? ⟨w.heap.size, 1, none⟩ = some (.int .i64 mu))
    (first
      | go_keep
      | (exact ⟨cell_touch (cell_al k1 _) (Touch.grown hg8) (fun h => by have := N1.out _ h; omega), cell_touch (cell_al k2 _) (Touch.grown hg8) (fun h => by have := N1.out _ h; omega), cell_touch (cell_al k3 _) (Touch.grown hg8) (fun h => by have := N1.out _ h; omega)⟩))
    (first
      | ((with_reducible refine (head1_any w.heap.size _).mono ?_); rintro e w5 ⟨rfl, rfl⟩)
      | ((with_reducible refine CL.out.mono ?_); rintro e w6 ⟨rfl, hb6⟩; have k1 := cell_bel (w := World.drew _) k1 hb6; have k2 := cell_bel (w := World.drew _) k2 hb6; have k3 := cell_bel (w := World.drew _) k3 hb6)
      | (refine step_append_W rowS rfl _ _ rfl rfl ((HO.out.bel hb6).bel (bel1 _)) w6.heap.size 1 (lineF ⟨#[109,117,116,101,120,101,115]⟩ mu) rfl (fun j u hj => (cell_new w6 _ 9 j).trans (by simpa using hj)) (by simp) (by have h1 := hb6.size; have h2 := hsz.out; simp at h1 h2 ⊢; omega) ?_; intro v4 w4 hO8 hg8 hb8))
  have q2 := belA hb6 (.cells #[.string (lineF ⟨#[109,117,116,101,120,101,115]⟩ mu)] 9)
  have HB := Lib.hid ((belT HB.out q2).trans (hb8.mono (by omega)))
  have HPG := Lib.hid ((HPG.out.bel q2).below hb8 (by omega) (HFw.out.bel HB.out))
  have hsz := Lib.hid (Nat.le_trans hsz.out (Nat.le_trans q2.size hb8.size))
  have HO := Lib.hid hO8
  obtain ⟨_, _, h9⟩ := hO8.form
  subst h9
  clear k1 k2 k3 q2 hb6 hO8 hg8 hb8 CL N1
  go_wp2_with fail
  rw [rounds_succ]
  have hi := I1.out
  go_wp2_with fail
  clear hi
  have hbh := (bel1 (W := w4) (.cells #[.string ⟨#[114,119,108,111,99,107,115]⟩, .func (.func 170) #[] #[]] 196)).drew
  have z0 := cell_new w4 #[.string ⟨#[114,119,108,111,99,107,115]⟩, .func (.func 170) #[] #[]] 196 0
  have z1 := cell_new w4 #[.string ⟨#[114,119,108,111,99,107,115]⟩, .func (.func 170) #[] #[]] 196 1
  have N1 := Lib.hid HO.out.lt
  have HPG := Lib.hid (HPG.out.bel hbh)
  have HO := Lib.hid (HO.out.bel hbh)
  have HB := Lib.hid (belT HB.out hbh)
  have hsz := Lib.hid (Nat.le_trans hsz.out hbh.size)
  clear hbh
  obtain ⟨k1, k2, k3⟩ : (w4.alloc (.cells #[.string ⟨#[114,119,108,111,99,107,115]⟩, .func (.func 170) #[] #[]] 196)).drew.cell? ⟨w4.heap.size, 0, none⟩ = some (.string ⟨#[114,119,108,111,99,107,115]⟩) ∧ (w4.alloc (.cells #[.string ⟨#[114,119,108,111,99,107,115]⟩, .func (.func 170) #[] #[]] 196)).drew.cell? ⟨w4.heap.size, 1, none⟩ = some (.func (.func 170) #[] #[]) ∧ (w4.alloc (.cells #[.string ⟨#[114,119,108,111,99,107,115]⟩, .func (.func 170) #[] #[]] 196)).drew.cell? ⟨w.heap.size, 2, none⟩ = some (.int .i64 rw0) := ⟨z0, z1, by obtain ⟨c0, c1, c2, c3, -⟩ := HPG.out; first | exact c1 | exact c2 | exact c3⟩
  have CL := Lib.hid (asmLine_any ⟨#[114,119,108,111,99,107,115]⟩ (by decide) rw0 (by omega) (by omega) _ (hE.on HB.out))
  clear z0 z1
  go_region_held3 (fun W' => W'.cell? ⟨w4.heap.size, 0, none⟩ = some (.string ⟨#[114,119,108,111,99,107,115]⟩) ∧ W'.cell? ⟨w4.heap.size, 1, none⟩ = some (.func (.func 170) #[] #[]) ∧ W'.cell? ⟨w.heap.size, 2, none⟩ = some (.int .i64 rw0))
    (first
      | go_keep
      | (exact ⟨cell_touch (cell_al k1 _) (Touch.grown hg8) (fun h => by have := N1.out _ h; omega), cell_touch (cell_al k2 _) (Touch.grown hg8) (fun h => by have := N1.out _ h; omega), cell_touch (cell_al k3 _) (Touch.grown hg8) (fun h => by have := N1.out _ h; omega)⟩))
    (first
      | ((with_reducible refine (head2_any w.heap.size _).mono ?_); rintro e w5 ⟨rfl, rfl⟩)
      | ((with_reducible refine CL.out.mono ?_); rintro e w6 ⟨rfl, hb6⟩; have k1 := cell_bel (w := World.drew _) k1 hb6; have k2 := cell_bel (w := World.drew _) k2 hb6; have k3 := cell_bel (w := World.drew _) k3 hb6)
      | (refine step_append_W rowS rfl _ _ rfl rfl ((HO.out.bel hb6).bel (bel1 _)) w6.heap.size 1 (lineF ⟨#[114,119,108,111,99,107,115]⟩ rw0) rfl (fun j u hj => (cell_new w6 _ 9 j).trans (by simpa using hj)) (by simp) (by have h1 := hb6.size; have h2 := hsz.out; simp at h1 h2 ⊢; omega) ?_; intro v5 w5 hO8 hg8 hb8))
  have q2 := belA hb6 (.cells #[.string (lineF ⟨#[114,119,108,111,99,107,115]⟩ rw0)] 9)
  have HB := Lib.hid ((belT HB.out q2).trans (hb8.mono (by omega)))
  have HPG := Lib.hid ((HPG.out.bel q2).below hb8 (by omega) (HFw.out.bel HB.out))
  have hsz := Lib.hid (Nat.le_trans hsz.out (Nat.le_trans q2.size hb8.size))
  have HO := Lib.hid hO8
  obtain ⟨_, _, h9⟩ := hO8.form
  subst h9
  clear k1 k2 k3 q2 hb6 hO8 hg8 hb8 CL N1
  go_wp2_with fail
  rw [rounds_succ]
  have hi := I2.out
  go_wp2_with fail
  clear hi
  have hbh := (bel1 (W := w5) (.cells #[.string ⟨#[103,114,111,117,112,115]⟩, .func (.func 171) #[] #[]] 196)).drew
  have z0 := cell_new w5 #[.string ⟨#[103,114,111,117,112,115]⟩, .func (.func 171) #[] #[]] 196 0
  have z1 := cell_new w5 #[.string ⟨#[103,114,111,117,112,115]⟩, .func (.func 171) #[] #[]] 196 1
  have N1 := Lib.hid HO.out.lt
  have HPG := Lib.hid (HPG.out.bel hbh)
  have HO := Lib.hid (HO.out.bel hbh)
  have HB := Lib.hid (belT HB.out hbh)
  have hsz := Lib.hid (Nat.le_trans hsz.out hbh.size)
  clear hbh
  obtain ⟨k1, k2, k3⟩ : (w5.alloc (.cells #[.string ⟨#[103,114,111,117,112,115]⟩, .func (.func 171) #[] #[]] 196)).drew.cell? ⟨w5.heap.size, 0, none⟩ = some (.string ⟨#[103,114,111,117,112,115]⟩) ∧ (w5.alloc (.cells #[.string ⟨#[103,114,111,117,112,115]⟩, .func (.func 171) #[] #[]] 196)).drew.cell? ⟨w5.heap.size, 1, none⟩ = some (.func (.func 171) #[] #[]) ∧ (w5.alloc (.cells #[.string ⟨#[103,114,111,117,112,115]⟩, .func (.func 171) #[] #[]] 196)).drew.cell? ⟨w.heap.size, 3, none⟩ = some (.int .i64 gr) := ⟨z0, z1, by obtain ⟨c0, c1, c2, c3, -⟩ := HPG.out; first | exact c1 | exact c2 | exact c3⟩
  have CL := Lib.hid (asmLine_any ⟨#[103,114,111,117,112,115]⟩ (by decide) gr (by omega) (by omega) _ (hE.on HB.out))
  clear z0 z1
  go_region_held3 (fun W' => W'.cell? ⟨w5.heap.size, 0, none⟩ = some (.string ⟨#[103,114,111,117,112,115]⟩) ∧ W'.cell? ⟨w5.heap.size, 1, none⟩ = some (.func (.func 171) #[] #[]) ∧ W'.cell? ⟨w.heap.size, 3, none⟩ = some (.int .i64 gr))
    (first
      | go_keep
      | (exact ⟨cell_touch (cell_al k1 _) (Touch.grown hg8) (fun h => by have := N1.out _ h; omega), cell_touch (cell_al k2 _) (Touch.grown hg8) (fun h => by have := N1.out _ h; omega), cell_touch (cell_al k3 _) (Touch.grown hg8) (fun h => by have := N1.out _ h; omega)⟩))
    (first
      | ((with_reducible refine (head3_any w.heap.size _).mono ?_); rintro e w5 ⟨rfl, rfl⟩)
      | ((with_reducible refine CL.out.mono ?_); rintro e w6 ⟨rfl, hb6⟩; have k1 := cell_bel (w := World.drew _) k1 hb6; have k2 := cell_bel (w := World.drew _) k2 hb6; have k3 := cell_bel (w := World.drew _) k3 hb6)
      | (refine step_append_W rowS rfl _ _ rfl rfl ((HO.out.bel hb6).bel (bel1 _)) w6.heap.size 1 (lineF ⟨#[103,114,111,117,112,115]⟩ gr) rfl (fun j u hj => (cell_new w6 _ 9 j).trans (by simpa using hj)) (by simp) (by have h1 := hb6.size; have h2 := hsz.out; simp at h1 h2 ⊢; omega) ?_; intro v6 w6 hO8 hg8 hb8))
  have q2 := belA hb6 (.cells #[.string (lineF ⟨#[103,114,111,117,112,115]⟩ gr)] 9)
  have HB := Lib.hid ((belT HB.out q2).trans (hb8.mono (by omega)))
  have HPG := Lib.hid ((HPG.out.bel q2).below hb8 (by omega) (HFw.out.bel HB.out))
  have hsz := Lib.hid (Nat.le_trans hsz.out (Nat.le_trans q2.size hb8.size))
  have HO := Lib.hid hO8
  obtain ⟨_, _, h9⟩ := hO8.form
  subst h9
  clear k1 k2 k3 q2 hb6 hO8 hg8 hb8 CL N1
  go_wp2_with fail
  rw [rounds_succ]
  obtain ⟨c0, c1, c2, c3, -⟩ := HPG.out
  clear c1 c2 c3 I0 I1 I2
  go_wp2_with fail
  have HO : Hid (OwnW 9 1 encS (w.heap.size + 1) _ (headLines ⟨F, mu, rw0, gr⟩ ++ (F.take 0).flatMap fnLines) w6) := Lib.hid HO.out
  clear c0
  go_loopw [2, 30] (fun vl vi wr => ∃ k : Nat, vi = .int .i64 k ∧ k ≤ F.length ∧ Hid (OwnW 9 1 encS (w.heap.size + 1) vl (headLines ⟨F, mu, rw0, gr⟩ ++ (F.take k).flatMap fnLines) wr) ∧ Hid (Below w.heap.size w wr) ∧ Hid (w.heap.size + 1 ≤ wr.heap.size)) (fun _ vi _ => F.length - (intOf vi).toNat)
  case atStart => exact ⟨0, rfl, by omega, HO, HB, hsz⟩
  case round =>
    clear HO HB hsz HPG
    obtain ⟨k, rfl, hk, HO, HB, hsz⟩ := hrel
    by_cases hlt : k < F.length
    · obtain ⟨f, hf⟩ : ∃ f, F[k]? = some f := ⟨F[k], List.getElem?_eq_getElem hlt⟩
      obtain ⟨b, o, c', vc, hv, -, x0, x1, hcd⟩ := (HFw.out.bel HB.out).at_ hf
      simp only [Value.slice.injEq, true_and] at hv
      obtain ⟨hao, hcc⟩ := hv
      subst hao hcc
      obtain ⟨ac, cc, rfl⟩ := hcd.form
      obtain ⟨hrg, hl1', hl5⟩ := HN2.out f (List.mem_of_getElem? hf)
      have HKf := Lib.hid hf
      have HCD := Lib.hid ((show ArgW 5 encN w (.slice ac f.code.length cc) f.code from by
        obtain ⟨b9, o9, c9, vc9, hv9, -, h90, h91, h9c⟩ := HFw.out.at_ hf
        simp only [Value.slice.injEq, Option.some.injEq, Addr.mk.injEq, and_true, true_and] at hv9
        obtain ⟨⟨rfl, rfl⟩, rfl⟩ := hv9
        have h92 := cell_bel h91 HB.out
        rw [x1] at h92
        cases h92
        exact h9c))
      have hlen := Lib.hid (show (headLines ⟨F, mu, rw0, gr⟩ ++ (F.take k).flatMap fnLines).length ≤ 20000 by
        have := fnLines_len F k (fun f hf => (HN2.out f hf).2.2) (by omega)
        rw [List.length_append]
        have : (headLines ⟨F, mu, rw0, gr⟩).length = 3 := rfl
        omega)
      have HT := Lib.hid (fnLines_take F k f hf)
      generalize hLL : headLines ⟨F, mu, rw0, gr⟩ ++ (F.take k).flatMap fnLines = LL at HO hlen
      have HLL := Lib.hid hLL
      clear hLL hcd hf
      obtain ⟨al, cl, hal⟩ := HO.out.form
      subst hal
      have hbF := bel1 (W := wr) (.cells #[.int .i64 f.regs, .slice ac f.code.length cc] 114)
      have y0 := cell_new wr #[.int .i64 f.regs, .slice ac f.code.length cc] 114 0
      have y1 := cell_new wr #[.int .i64 f.regs, .slice ac f.code.length cc] 114 1
      have HO1 := Lib.hid (HO.out.bel hbF)
      have HB1 := Lib.hid (belT HB.out hbF)
      have hsz1 := Lib.hid (Nat.le_trans hsz.out hbF.size)
      have N1 := Lib.hid HO.out.lt
      have CL := Lib.hid (asmLine_any ⟨#[102, 117, 110, 99]⟩ (by decide) f.regs (by omega) (by omega) _ (hE.on HB1.out))
      clear HO HB hsz hbF
      go_wp2_with fail
      generalize wr.alloc _ = V at y0 y1 HO1 HB1 hsz1 CL ⊢
      refine CL.out.mono ?_
      rintro e w7 ⟨rfl, hb7⟩
      have q2 := belA hb7 (.cells #[.string (lineF ⟨#[102, 117, 110, 99]⟩ f.regs)] 9)
      have y1 := cell_bel y1 q2
      have hwr : wr.heap.size < V.heap.size := lt_of_cell y0
      go_wp2_with (at_builtin; refine append_W rowS rfl _ _ rfl rfl ((HO1.out.bel hb7).bel (bel1 _)) w7.heap.size 1 (lineF ⟨#[102, 117, 110, 99]⟩ f.regs) rfl (fun j u hj => (cell_new w7 _ 9 j).trans (by simpa using hj)) (by have := hlen.out; omega) (by have h1 := q2.size; have h2 := hsz1.out; omega) ?_; intro v8 w8 hO8 hg8 hb8; have y1 := cell_touch y1 (Touch.grown hg8) (fun h => by have := N1.out _ h; omega))
      have HB8 := Lib.hid ((belT HB1.out q2).trans (hb8.mono (by omega)))
      have hsz8 := Lib.hid (Nat.le_trans (Nat.le_trans hsz1.out q2.size) hb8.size)
      have HO8 : Hid (OwnW 9 1 encS (w.heap.size + 1) v8 (LL ++ [lineF ⟨#[102, 117, 110, 99]⟩ f.regs] ++ (f.code.take 0).map insTx) w8) := Lib.hid (by simpa using hO8)
      have hln8 : LL.length ≤ 20000 := hlen.out
      clear y0 y1 q2 hb7 hO8 hg8 hb8 HO1 HB1 hsz1 CL N1 hwr x0 x1
      go_loopw [2, 43] (fun vl vi wi => ∃ j : Nat, vi = .int .i64 j ∧ j ≤ f.code.length ∧ Hid (OwnW 9 1 encS (w.heap.size + 1) vl (LL ++ [lineF ⟨#[102, 117, 110, 99]⟩ f.regs] ++ (f.code.take j).map insTx) wi) ∧ Hid (Below w.heap.size w wi) ∧ Hid (w.heap.size + 1 ≤ wi.heap.size)) (fun _ vi _ => f.code.length - (intOf vi).toNat)
      case atStart => exact ⟨0, rfl, by omega, HO8, HB8, hsz8⟩
      case round =>
        clear HO8 HB8 hsz8
        obtain ⟨j, rfl, hj, HO, HB, hsz⟩ := hrel
        by_cases hlj : j < f.code.length
        · obtain ⟨x, hx⟩ : ∃ x, f.code[j]? = some x := ⟨f.code[j], List.getElem?_eq_getElem hlj⟩
          obtain ⟨b2, o2, c2, hv, -, x0, x1, x2, x3, x4⟩ := code_at (HCD.out.bel HB.out) hx
          simp only [Value.slice.injEq, true_and] at hv
          obtain ⟨hac, hcc⟩ := hv
          subst hac hcc
          have hm := hP.imm f (List.mem_of_getElem? HKf.out) x (List.mem_of_getElem? hx)
          have hr : rightF x.op x.a x.b x.c x.m = true := by
            have := HAF.out k j f x HKf.out hx
            unfold fineF fitsF at this
            simp only [Bool.and_eq_true] at this
            exact this.1.1
          have CT := Lib.hid fun W hE => insText_yes x.op x.a x.b x.c x.m hm hr W hE
          unfold insV at CT
          have HTx := Lib.hid (insTx_take f.code j x hx)
          have htx : (⟨(textF x.op x.a x.b x.c x.m).toArray⟩ : ByteArray) = insTx x := rfl
          rw [htx] at CT
          generalize insTx x = tx at CT HTx
          obtain ⟨op, a, bb, c0, m⟩ := x
          dsimp only at CT x0 x1 x2 x3 x4
          have hlj8 := Lib.hid (show (LL ++ [lineF ⟨#[102, 117, 110, 99]⟩ f.regs] ++ (f.code.take j).map insTx).length ≤ 30000 by
            simp only [List.length_append, List.length_cons, List.length_nil, List.length_map, List.length_take]
            omega)
          generalize hL9 : LL ++ [lineF ⟨#[102, 117, 110, 99]⟩ f.regs] ++ (f.code.take j).map insTx = L9 at HO hlj8
          have HL9 := Lib.hid hL9
          obtain ⟨al, cl, hal⟩ := HO.out.form
          subst hal
          have hbI := bel1 (W := wr) (.cells #[.int .i64 op, .int .i64 a, .int .i64 bb, .int .i64 c0, .int .u32 m] 29)
          have HO1 := Lib.hid (HO.out.bel hbI)
          have HB1 := Lib.hid (belT HB.out hbI)
          have hsz1 := Lib.hid (Nat.le_trans hsz.out hbI.size)
          clear HO HB hsz hbI hx hm hr htx hL9
          go_wp2_with fail
          generalize wr.alloc _ = V at HO1 HB1 hsz1 ⊢
          refine (CT.out _ (hE.on HB1.out)).mono ?_
          rintro e w7 ⟨rfl, hb7⟩
          have q2 := belA hb7 (.cells #[.string tx] 9)
          go_wp2_with (at_builtin; refine append_W rowS rfl _ _ rfl rfl ((HO1.out.bel hb7).bel (bel1 _)) w7.heap.size 1 tx rfl (fun j u hj => (cell_new w7 _ 9 j).trans (by simpa using hj)) (by have := hlj8.out; omega) (by have h1 := q2.size; have h2 := hsz1.out; omega) ?_; intro v8 w8 hO8 hg8 hb8)
          exact ⟨⟨j + 1, by go_num, by omega, Lib.hid (by rw [HTx.out, ← List.append_assoc, HL9.out]; exact hO8), Lib.hid ((belT HB1.out q2).trans (hb8.mono (by omega))), Lib.hid (Nat.le_trans (Nat.le_trans hsz1.out q2.size) hb8.size)⟩, by simp [intOf]; omega⟩
        · have hj2 : j = f.code.length := by omega
          subst hj2
          go_wp2_with fail
          refine ⟨?_, by simp [intOf]; omega⟩
          (repeat apply Exists.intro)
          refine ⟨?rel, rfl⟩
          refine ⟨k + 1, by go_num, by omega, Lib.hid ?_, HB, hsz⟩
          have h9 := HO.out
          rw [List.take_length, ← HLL.out] at h9
          rw [HT.out]
          simpa [fnLines, wFn] using h9
    · have hk2 : k = F.length := by omega
      subst hk2
      rw [List.take_length] at HO
      go_wp2_with fail
      go_ret
      exact ⟨_, rfl, HO.out.base_le (by omega), HB.out⟩
end Go.Proofs.YtfnfcngkaepnjaaGreatDoor

/- Plain laws of instructions' texts: how long; Parse of one. -/
namespace Go.Proofs.YtfnfcngkaepnjaaGreatDoor
set_option linter.unusedVariables false
set_option linter.unusedSimpArgs false
open Go Go.Proofs Go.RowKit

theorem flat_len2 {α β : Type} (f : α → List β) (B : Nat) (h : ∀ x, (f x).length ≤ B) : ∀ l : List α, (l.flatMap f).length ≤ B * l.length
  | [] => by simp
  | x :: l => by
    have h1 := flat_len2 f B h l
    have h2 := h x
    rw [List.flatMap_cons, List.length_append, List.length_cons, Nat.mul_succ]
    omega
theorem textF_len {op a b c m : Int} (hm : 0 ≤ m ∧ m < 4294967296) (hr : rightF op a b c m = true) : (textF op a b c m).length ≤ 200 := by
  obtain ⟨h19, ha, hb, hc⟩ := rightF_bd hr
  rw [← textR_F op a b c m h19]
  unfold textR
  rw [List.length_append]
  have h1 := insN_small op m
  have h2 := namesR_size op
  have h3 := flat_len2 (fun x : UInt8 => letT x.toNat a b c m) 25 (fun x => letT_len x.toNat a b c m ⟨ha.1, by omega⟩ ⟨hb.1, by omega⟩ ⟨hc.1, by omega⟩ hm) (namesR op).data.toList
  rw [← Lib.size_eq] at h3
  rw [← Lib.size_eq]
  have h4 : 25 * (namesR op).size ≤ 25 * 4 := Nat.mul_le_mul_left _ h2
  omega

end Go.Proofs.YtfnfcngkaepnjaaGreatDoor
