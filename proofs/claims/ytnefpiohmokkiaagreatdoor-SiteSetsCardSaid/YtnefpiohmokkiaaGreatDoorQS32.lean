/- Joined texts: Layer 7: SiteSets, walked. -/
import Derived.Test.YtnefpiohmokkiaaGreatDoorQS26
import Derived.Test.YtnefpiohmokkiaaGreatDoorQS30
import Derived.Test.YtnefpiohmokkiaaGreatDoorQS31
import Derived.Test.YtnefpiohmokkiaaGreatDoorQS11
import Derived.Deep.Cut
/- Layer 7: SiteSets, walked. -/
namespace Go.Proofs.YtnefpiohmokkiaaGreatDoor
set_option linter.unusedVariables false
set_option linter.unusedSimpArgs false
open Go Go.Proofs Go.RowKit Go.Sort

set_option maxRecDepth 100000 in
set_option maxHeartbeats 2000000 in
theorem siteSets_long (lv : Value) (l : List PaM) (hl : 30 < l.length) (many : Int) (w : World) (hE : Env w) (hv : ArgW 4 encPa w lv l) :
    Calls Tryz.prog 3 #[lv, .int .i64 many] w fun e w' => e = .returned (.bool true) ∧ Below w.heap.size w w' := by
  have h30 : (30 : Int) < (l.length : Int) := by omega
  obtain ⟨ao, cp, rfl⟩ := hv.form
  have r0 := cell_two w (.cells #[.int .i64 many] 3) #[.bool false] 4 0
  have rf := froz_two w (.cells #[.int .i64 many] 3) #[.bool false] 4 0
  have hb : Below w.heap.size w ((w.alloc (.cells #[.int .i64 many] 3)).alloc (.cells #[.bool false] 4)) := belA (bel1 _) _
  clear hv hl
  go_enter Tryz.func3, Tryz.ntmps3
  go_wp2_with fail
  generalize World.alloc (World.alloc _ _) _ = V at r0 rf hb ⊢
  refine (works_any V (hE.on hb)).mono ?_
  rintro e w2 ⟨rfl, hb2⟩
  have rf := froz_bel r0 rf hb2
  have r0 := cell_bel r0 hb2
  have hB := belT hb hb2
  clear hb hb2
  go_wp2_with fail
  have c5 : (w2.setCell ⟨w.heap.size + 1, 0, none⟩ (.bool true)).cell? ⟨w.heap.size + 1, 0, none⟩ = some (.bool true) := World.cell?_setCell_same _ _ _ r0
  have hB6 := hB.setCell (p := ⟨w.heap.size + 1, 0, none⟩) (by simp) (.bool true)
  exact bodyPost_ret (v := .bool true) (by simp [results, Tryz.results3, go_sem, c5]) rfl ⟨rfl, hB6⟩

theorem pair_ne (p : PaM) (w : World) : (binOp .neq 32 p.v p.v).run Tryz.prog w = .ok (.bool false) w := by
  obtain ⟨a, b, c, d⟩ := p
  simp [go_sem]

attribute [local go_sem] Oper.semAt_some

set_option maxRecDepth 100000 in
set_option maxHeartbeats 4000000 in
theorem siteSets_short (lv : Value) (l : List PaM) (hl : l.length ≤ 30) (hI : ∀ p ∈ l, p.In) (many : Int) (hmm : -9223372036854775808 ≤ many ∧ many ≤ 9223372036854775807) (w : World) (hE : Env w) (hv : ArgW 4 encPa w lv l) :
    Calls Tryz.prog 3 #[lv, .int .i64 many] w fun e w' => e = .returned (.bool true) ∧ Below w.heap.size w w' := by
  have h30 : ¬ (30 : Int) < (l.length : Int) := by omega
  obtain ⟨ao, cp, rfl⟩ := hv.form
  have m0 := cell_al (cell_new w #[.int .i64 many] 3 0) (.cells #[.bool false] 4)
  have r0 := cell_two w (.cells #[.int .i64 many] 3) #[.bool false] 4 0
  have rf := froz_two w (.cells #[.int .i64 many] 3) #[.bool false] 4 0
  have hb : Below w.heap.size w ((w.alloc (.cells #[.int .i64 many] 3)).alloc (.cells #[.bool false] 4)) := belA (bel1 _) _
  have HS0 := Lib.hid (show ((w.alloc (.cells #[.int .i64 many] 3)).alloc (.cells #[.bool false] 4)).heap.size = w.heap.size + 2 by simp)
  have HL := Lib.hid hv
  have HI := Lib.hid hI
  have HE := Lib.hid hE
  have HM := Lib.hid hmm
  clear hv hI hE hmm
  refine (callsIn_wide (n := 20)).1 ?_
  refine callsIn_of_wp_marks Tryz.func3 rfl trivial ?_ rfl
  simp only [Tryz.ntmps3, List.size_toArray, List.length_cons, List.length_nil, Nat.reduceAdd, Nat.reduceSub, Array.replicate_succ, Array.replicate_zero, List.push_toArray, List.append_toArray, List.nil_append, List.cons_append]
  refine wpIn_wide.2 ?_
  go_wp2_with fail
  generalize World.alloc (World.alloc _ _) _ = V at m0 r0 rf hb HS0 ⊢
  refine (siNew_nil V).mono ?_
  rintro e w1 ⟨B, M, rfl, hs, hM, hB, hb1⟩
  have HG : Hid (GatP w many B M w1.heap.size (.slice ao l.length cp) l [] [] (.slice none 0 0) (w1.alloc (.cells #[.slice none 0 0] 22))) := Lib.hid (by
    have hz := HS0.out
    have h2 := bel1 (W := w1) (.cells #[.slice none 0 0] 22)
    have h3 := hb1.trans (h2.mono hb1.size)
    have l1 := lt_of_cell hs.c0
    have l2 := (Array.getElem?_eq_some_iff.1 hs.mp).1
    exact ⟨cell_bel m0 h3, cell_bel r0 h3, froz_bel r0 rf h3, hs.bel h2, cell_new w1 #[.slice none 0 0] 22 0, World.frozen?_alloc_new w1 #[.slice none 0 0] 22 0, Or.inl ⟨rfl, rfl⟩, fun b hq => (by cases hq), HL.out.bel (belT hb h3), ⟨by omega, by omega, by have := hb1.size; omega, by omega, by omega⟩, belT hb h3⟩)
  have HF := Lib.hid (FldP.start l)
  clear m0 r0 rf hb HS0 hs hM hB hb1
  go_wp2_with fail
  generalize w1.alloc _ = V1 at HG ⊢
  generalize w1.heap.size = WB at HG ⊢
  go_loopw [8, 9] (fun vf vi wr => ∃ (k : Nat) (L : List (PaM × Int)) (K : List PaM) (vw : Value), vi = .int .i64 k ∧ vf = .bool ((l.take k).all PaM.right) ∧ k ≤ l.length ∧ Hid (GatP w many B M WB (.slice ao l.length cp) l L K vw wr) ∧ Hid (FldP l k L K)) (fun _ vi _ => l.length - (intOf vi).toNat)
  case atStart => exact ⟨0, [], [], _, rfl, rfl, by omega, HG, HF⟩
  case round =>
    clear HG HF
    obtain ⟨k, L, K, vw, rfl, rfl, hk, HG, HF⟩ := hrel
    by_cases hlt : k < l.length
    · obtain ⟨p, hp⟩ : ∃ p, l[k]? = some p := ⟨l[k], List.getElem?_eq_getElem hlt⟩
      have HP := Lib.hid hp
      have HPI := Lib.hid (HI.out p (List.mem_of_getElem? hp))
      have HAT := Lib.hid (show (l.take (k + 1)).all PaM.right = ((l.take k).all PaM.right && p.right) by
        obtain ⟨h1, h2⟩ := List.getElem?_eq_some_iff.1 hp
        rw [← List.take_append_getElem h1, List.all_append, h2]
        simp)
      have HKl := Lib.hid (show K.length ≤ 30 by have := HF.out.len; omega)
      have hk1 : (k : Int) < (l.length : Int) := by omega
      generalize (l.take k).all PaM.right = fine at HAT
      clear hp
      obtain ⟨aw, cw', hvw⟩ := HG.out.aw.form
      subst hvw
      obtain ⟨b, o, c', hv, -, x0, x1, x2, x3⟩ := pair_at (HG.out.al) HP.out
      simp only [Value.slice.injEq, Option.some.injEq, Addr.mk.injEq, and_true, true_and] at hv
      obtain ⟨⟨rfl, rfl⟩, rfl⟩ := hv
      go_wp2_with fail
      have CH := Lib.hid fun (d' : Nat) os => Calls.regrown_of (sHas_any K (by have := HKl.out; omega) p (.slice aw K.length cw') (grow (redrawn wr d') os) (HG.out.aw.bel (below_regrown wr d' os)))
      have y0 := cell_regrown x0
      have y1 := cell_regrown x1
      have y2 := cell_regrown x2
      have y3 := cell_regrown x3
      have y4 := cell_regrown HG.out.cw
      clear x0 x1 x2 x3
      refine wp_region_quiet_below (by kernel_rfl) (by kernel_rfl) ?_
      repeat (go_big_quiet_step (with_reducible exact CH.out _ _))
      refine wpQuiet_nil ?_
      intro _ hw'
      obtain ⟨⟨dq, osq⟩, hw''⟩ := hw'
      subst hw''
      have HG1 := Lib.hid (HG.out.more (below_regrown wr dq osq))
      clear y0 y1 y2 y3 y4 CH HG
      generalize grow (redrawn wr dq) osq = W1 at HG1 ⊢
      obtain ⟨b, o, c', hv, -, x0, x1, x2, x3⟩ := pair_at (HG1.out.al) HP.out
      simp only [Value.slice.injEq, Option.some.injEq, Addr.mk.injEq, and_true, true_and] at hv
      obtain ⟨⟨rfl, rfl⟩, rfl⟩ := hv
      cases hr : p.right with
      | false =>
        have CP := Lib.hid (sPair_any p)
        have CHs := Lib.hid fun W (h : SetB B M L W) => siHas_any B M L k HF.out.ok p HPI.out W h
        rw [hr] at CP
        rw [HF.out.not hr] at CHs
        have HR := Lib.hid hr
        clear hr
        go_wp2_with fail
        refine (siAdd_no B M L p HR.out W1 HG1.out.st).mono ?_
        rintro e w2 ⟨rfl, hb2⟩
        have HG2 := Lib.hid (HG1.out.more hb2)
        clear hb2 x0 x1 x2 x3 HG1
        obtain ⟨b, o, c', hv, -, x0, x1, x2, x3⟩ := pair_at (HG2.out.al) HP.out
        simp only [Value.slice.injEq, Option.some.injEq, Addr.mk.injEq, and_true, true_and] at hv
        obtain ⟨⟨rfl, rfl⟩, rfl⟩ := hv
        go_wp2_with fail
        refine (CP.out w2).mono ?_
        rintro e w3 ⟨rfl, hb3⟩
        have HG3 := Lib.hid (HG2.out.more hb3)
        clear hb3 x0 x1 x2 x3 HG2 CP
        obtain ⟨b, o, c', hv, -, x0, x1, x2, x3⟩ := pair_at (HG3.out.al) HP.out
        simp only [Value.slice.injEq, Option.some.injEq, Addr.mk.injEq, and_true, true_and] at hv
        obtain ⟨⟨rfl, rfl⟩, rfl⟩ := hv
        go_wp2_with (go_at_call 10; refine (num_any _ _).mono ?_; rintro e wn ⟨rfl, rfl⟩)
        refine (CHs.out w3 HG3.out.st).mono ?_
        rintro e w4 ⟨rfl, hb4⟩
        have HG4 := Lib.hid (HG3.out.more hb4)
        clear hb4 x0 x1 x2 x3 HG3 CHs
        have HRl := Lib.hid (show ∃ (k' : Nat) (L' : List (PaM × Int)) (K' : List PaM) (vw : Value), (.int .i64 ((k : Int) + 1) : Value) = .int .i64 k' ∧ (.bool false : Value) = .bool ((l.take k').all PaM.right) ∧ k' ≤ l.length ∧ Hid (GatP w many B M WB (.slice (some ⟨b, o, none⟩) l.length cp) l L' K' vw w4) ∧ Hid (FldP l k' L' K') from
          ⟨k + 1, L, K, _, by simp, by rw [HAT.out, HR.out, Bool.and_false], hlt, HG4, Lib.hid HF.out.no⟩)
        go_wp2_with fail
        exact ⟨HRl.out, by simp only [intOf]; omega⟩
      | true =>
        have CP := Lib.hid (sPair_any p)
        rw [hr] at CP
        have hdd := HF.out.had p
        generalize decide (p ∈ K) = d at hdd ⊢
        have HD := Lib.hid hdd
        have HR := Lib.hid hr
        clear hr hdd
        go_wp2_with fail
        refine (siAdd_yes B M (w.heap.size + 2) k (by omega) L HF.out.ok p HPI.out HR.out W1 HG1.out.st (by have := HG1.out.bd.1; omega)).mono ?_
        rintro e w2 ⟨L', rfl, hs, hok, hk', ht, hb⟩
        rw [HD.out]
        have HG2 := Lib.hid (HG1.out.add HL.out hs ht hb)
        have HF2 := Lib.hid (HF.out.yes HR.out hok hk')
        have HHa := Lib.hid (FldP.has (l := l) (k := k) hk')
        have HSz := Lib.hid HF2.out.size
        clear hs hok hk' ht hb x0 x1 x2 x3 HG1 HD HF
        obtain ⟨b, o, c', hv, -, x0, x1, x2, x3⟩ := pair_at (HG2.out.al) HP.out
        simp only [Value.slice.injEq, Option.some.injEq, Addr.mk.injEq, and_true, true_and] at hv
        obtain ⟨⟨rfl, rfl⟩, rfl⟩ := hv
        go_wp2_with fail
        refine (CP.out w2).mono ?_
        rintro e w3 ⟨rfl, hb3⟩
        have HG3 := Lib.hid (HG2.out.more hb3)
        clear hb3 x0 x1 x2 x3 HG2 CP
        go_wp2_with fail
        refine wp_region_late 5 #[true, true, true, true, true, false, false] (by kernel_rfl) (by kernel_rfl) ?_
        intro W hW
        have HG4 : Hid (GatP w many B M WB (.slice (some ⟨b, o, none⟩) l.length cp) l L' K (.slice aw K.length cw') W) := Lib.hid (by rw [← hW]; exact HG3.out.more (Below.refl _ _).drew)
        clear hW HG3
        obtain ⟨b, o, c', hv, -, x0, x1, x2, x3⟩ := pair_at (HG4.out.al) HP.out
        simp only [Value.slice.injEq, Option.some.injEq, Addr.mk.injEq, and_true, true_and] at hv
        obtain ⟨⟨rfl, rfl⟩, rfl⟩ := hv
        have y4 := HG4.out.cw
        have CA := Lib.hid fun W h => sAdd_any K (by have := HKl.out; omega) p (.slice aw K.length cw') W h
        simp only [List.take_succ_cons, List.take_zero]
        repeat still_step
        refine wpStill_nil ?_
        simp only [List.size_toArray, List.length_cons, List.length_nil, Nat.reduceAdd, Nat.reduceSub]
        refine wpAny_ready (rs := [5]) (by kernel_rfl) (by simp) ?_
        refine AllReady.cons rfl (fun K hK => ?_) AllReady.nil
        go_simp
        refine (CA.out W HG4.out.aw).mono ?_
        rintro e w5 ⟨v', rfl, hA', hob, hb5⟩
        have HG5 := Lib.hid (HG4.out.more hb5)
        have HG6 := Lib.hid (HG5.out.want HL.out hA' (fun b' hb' => by
          rcases hob b' hb' with h | h
          · exact HG4.out.ow b' h
          · have h1 := (Array.getElem?_eq_some_iff.1 HG4.out.st.mp).1
            have h2 := lt_of_cell HG4.out.cw
            exact ⟨by omega, by omega⟩))
        have y5 := HG5.out.cw
        have f5 := HG5.out.fw
        obtain ⟨a9, c9, hv9⟩ := hA'.form
        subst hv9
        clear hob hb5 hA' x0 x1 x2 x3 y4 HG4 HG5
        go_wp2_with fail
        refine wpAny_ready (rs := [6]) (by kernel_rfl) (by simp) ?_
        refine AllReady.cons rfl (fun K hK => ?_) AllReady.nil
        go_simp
        refine hK _ _ ?_
        refine wpAny_done (by kernel_rfl) ?_ _
        clear hK K y5 f5
        generalize w5.setCell _ _ = W6 at HG6 ⊢
        go_wp2_with fail
        obtain ⟨b, o, c', hv, -, x0, x1, x2, x3⟩ := pair_at (HG6.out.al) HP.out
        simp only [Value.slice.injEq, Option.some.injEq, Addr.mk.injEq, and_true, true_and] at hv
        obtain ⟨⟨rfl, rfl⟩, rfl⟩ := hv
        have y0 := cell_regrown x0
        have y1 := cell_regrown x1
        have y2 := cell_regrown x2
        have y3 := cell_regrown x3
        have y4 := cell_regrown HG6.out.cw
        have CNu := Lib.hid fun (d' : Nat) os => Calls.regrown_of ((num_any 0 (grow (redrawn W6 d') os)).mono (R' := fun e w' => e = .returned (.int .i64 0) ∧ Below (grow (redrawn W6 d') os).heap.size (grow (redrawn W6 d') os) w') (by rintro e w' ⟨rfl, rfl⟩; exact ⟨rfl, Below.refl _ _⟩))
        have CHs := Lib.hid fun (d' : Nat) os => Calls.regrown_of (siHas_any B M L' (k + 1) HF2.out.ok p HPI.out (grow (redrawn W6 d') os) (HG6.out.st.bel (below_regrown W6 d' os)))
        rw [HHa.out] at CHs
        have CLe := Lib.hid fun (d' : Nat) os => Calls.regrown_of ((siLen_any B M _ _ (grow (redrawn W6 d') os) (HG6.out.st.bel (below_regrown W6 d' os)).c0 (HG6.out.st.bel (below_regrown W6 d' os)).mp).mono (R' := fun e w' => e = .returned (.int .i64 L'.length) ∧ Below (grow (redrawn W6 d') os).heap.size (grow (redrawn W6 d') os) w') (by rintro e w' ⟨rfl, rfl⟩; exact ⟨by rw [List.size_toArray, esL_length], Below.refl _ _⟩))
        rw [HSz.out] at CLe
        clear x0 x1 x2 x3
        refine wp_region_quiet_below (by kernel_rfl) (by kernel_rfl) ?_
        repeat (go_big_quiet_step (first | (with_reducible exact CNu.out _ _) | (with_reducible exact CHs.out _ _) | (with_reducible exact CLe.out _ _)))
        refine wpQuiet_nil ?_
        intro _ hw'
        obtain ⟨⟨dq, osq⟩, hw''⟩ := hw'
        subst hw''
        have HG7 := Lib.hid (HG6.out.more (below_regrown W6 dq osq))
        clear y0 y1 y2 y3 y4 CNu CHs CLe HG6 HSz HHa
        generalize grow (redrawn W6 dq) osq = W7 at HG7 ⊢
        have HRl := Lib.hid (show ∃ (k' : Nat) (L' : List (PaM × Int)) (K' : List PaM) (vw : Value), (.int .i64 ((k : Int) + 1) : Value) = .int .i64 k' ∧ (.bool fine : Value) = .bool ((l.take k').all PaM.right) ∧ k' ≤ l.length ∧ Hid (GatP w many B M WB (.slice (some ⟨b, o, none⟩) l.length cp) l L' K' vw W7) ∧ Hid (FldP l k' L' K') from
          ⟨k + 1, L', _, _, by simp, by rw [HAT.out, HR.out, Bool.and_true], hlt, HG7, HF2⟩)
        go_wp2_with fail
        exact ⟨HRl.out, by simp only [intOf]; omega⟩
    · obtain rfl : k = l.length := by omega
      have hnk : ¬ (l.length : Int) < (l.length : Int) := by omega
      have HKl := Lib.hid (show K.length ≤ 30 by have := HF.out.len; omega)
      rw [List.take_length]
      have CN := Lib.hid fun W h => siNew_any l (by omega) HI.out (.slice ao l.length cp) W h
      unfold NewQ at CN
      have hfn : ∀ (p : Addr) (w : World), (binOp .eql 40 (.func (.func 39) #[] #[.pointer (some p)]) .nilFunc).run Tryz.prog w = .ok (.bool false) w := fun _ _ => by kernel_rfl
      cases hall : l.all PaM.right with
      | true =>
        rw [hall] at CN
        clear hall hk hlt
        go_wp2_with fail
        refine (CN.out wr HG.out.al).mono ?_
        rintro e w2 ⟨hq, hb2⟩
        simp only [if_true] at hq
        obtain ⟨B2, M2, L2, rfl, -, -, -, -, -⟩ := hq
        have HG := Lib.hid (HG.out.more hb2)
        clear hb2 CN
        go_wp2_with fail
        refine (siAll_any B M L (by have := HF.out.size; have := HKl.out; omega) w2 HG.out.st).mono ?_
        rintro e w3 ⟨vl, xs, Bo, Bb, rfl, hxs, hcl, htp, hbb, hb3⟩
        rw [HF.out.all hxs] at htp
        have HG0 := HG
        have HG := Lib.hid (HG0.out.more hb3)
        have HTp := Lib.hid htp
        have HCl := Lib.hid hcl
        have HBb := Lib.hid hbb
        have HZw := Lib.hid (show w.heap.size + 1 < w3.heap.size from lt_of_cell HG.out.cr)
        clear hxs hcl htp hbb hb3 HG0
        go_wp2_with (go_at_call 10; refine (num_any _ _).mono ?_; rintro e wn ⟨rfl, rfl⟩)
        refine wp_loop_rounds 3 ?_
        rw [rounds_succ]
        go_wp2
        have t0 := cell_al (cell_new w3 #[.int .i64 0] 3 0) (.cells #[.int .i64 0] 3)
        have n0 := cell_two w3 (.cells #[.int .i64 0] 3) #[.int .i64 0] 3 0
        have nf := froz_two w3 (.cells #[.int .i64 0] 3) #[.int .i64 0] 3 0
        have hbU : Below w3.heap.size w3 ((w3.alloc (.cells #[.int .i64 0] 3)).alloc (.cells #[.int .i64 0] 3)) := belA (bel1 _) _
        have HsU := Lib.hid (show ((w3.alloc (.cells #[.int .i64 0] 3)).alloc (.cells #[.int .i64 0] 3)).heap.size = w3.heap.size + 2 by simp)
        generalize (w3.alloc (.cells #[.int .i64 0] 3)).alloc (.cells #[.int .i64 0] 3) = U at t0 n0 nf hbU HsU ⊢
        refine (wpIn_wide (n := 20)).1 ?_
        refine wpIn_rangeT rfl (by omega) (gf := 39) (lb := #[.pointer (some ⟨Bo, 0, none⟩)]) (by simp [go_sem]) trivial (enters_of Tryz.func39 (by kernel_rfl) rfl)
          (all_in (20 - 1) Bo Bb (by omega) vl K (by have := HKl.out; omega)) (fun W' hb => ⟨cell_bel HCl.out (belT hbU hb), HTp.out.bel (belT hbU hb), Nat.lt_of_lt_of_le HBb.out (belT hbU hb).size⟩) (fun _ => rfl)
          (fun k => k = w3.heap.size + 1) (fun k h => ⟨by have := HsU.out; omega, fun h' => by have h1 := HBb.out; have h2 := lt_of_cell HCl.out; omega⟩) (fun k h => by have := HsU.out; have h1 := HBb.out; have h2 := lt_of_cell HCl.out; omega) (fun k h => h.elim)
          (fun pre W' => Below w3.heap.size w3 W' ∧ W'.cell? ⟨w3.heap.size, 0, none⟩ = some (.int .i64 0) ∧ W'.cell? ⟨w3.heap.size + 1, 0, none⟩ = some (.int .i64 (pre.length : Nat)) ∧ W'.frozen? ⟨w3.heap.size + 1, 0, none⟩ = false ∧ (pre ≠ [] → (pre.length : Int) < many))
          (fun c pre W' => c = .exit 4 ∧ Below w3.heap.size w3 W' ∧ W'.cell? ⟨w3.heap.size, 0, none⟩ = some (.int .i64 0) ∧ W'.cell? ⟨w3.heap.size + 1, 0, none⟩ = some (.int .i64 (pre.length : Nat)) ∧ many ≤ pre.length ∧ (pre.length = 1 ∨ (pre.length : Int) - 1 < many)) ?hI ?hIx ?hs ?hround ?hdone ?hstop
        case hI =>
          rintro s A B' ⟨ha, h1, h2, h3, h4⟩ hb
          have hb' := hb.below (fun _ _ h => h)
          have := HsU.out
          exact ⟨ha.trans (hb'.mono (by omega)), cell_belB h1 hb' (by omega), cell_belB h2 hb' (by omega), froz_belB h3 hb' (by omega), h4⟩
        case hIx =>
          rintro c s A B' ⟨rfl, ha, h1, h2, h4, h5⟩ hb
          have hb' := hb.below (fun _ _ h => h)
          have := HsU.out
          exact ⟨rfl, ha.trans (hb'.mono (by omega)), cell_belB h1 hb' (by omega), cell_belB h2 hb' (by omega), h4, h5⟩
        case hs => exact ⟨hbU, t0, n0, nf, fun h => absurd rfl h⟩
        case hround =>
          rintro l2 pre x W2 ⟨hbx, ht, hn, hnf, hlt⟩ hsz2 hlen hsp
          have hs2 := HsU.out
          gi_wp2
          refine ⟨Touch.below (bel1 _), fun W3 hb3 ht3 => ?_⟩
          obtain ⟨p, xi⟩ := x
          obtain ⟨jj, hj2, hj3⟩ := hsp
          obtain ⟨hj4, hx1, hat⟩ := ixP_last hj2 hj3
          dsimp only at hx1 hat
          subst hx1
          have hbz : Below (w3.heap.size + 2) W2 W3 := ((bel1 (W := W2) (.cells #[.int .i64 p.a, .int .i64 p.b, .int .i64 p.c, .int .i64 p.d] 32)).mono (by omega)).trans (hb3.mono (by omega))
          have hb03 := hbx.trans (hbz.mono (by omega))
          have ht := cell_belB ht hbz (by omega)
          have hn := cell_belB hn hbz (by omega)
          have hnf := froz_belB hnf hbz (by omega)
          have p0 := cell_touch (cell_new W2 #[.int .i64 p.a, .int .i64 p.b, .int .i64 p.c, .int .i64 p.d] 32 0) ht3 (by omega)
          have p1 := cell_touch (cell_new W2 #[.int .i64 p.a, .int .i64 p.b, .int .i64 p.c, .int .i64 p.d] 32 1) ht3 (by omega)
          have p2 := cell_touch (cell_new W2 #[.int .i64 p.a, .int .i64 p.b, .int .i64 p.c, .int .i64 p.d] 32 2) ht3 (by omega)
          have p3 := cell_touch (cell_new W2 #[.int .i64 p.a, .int .i64 p.b, .int .i64 p.c, .int .i64 p.d] 32 3) ht3 (by omega)
          have HGr := Lib.hid (HG.out.more hb03)
          obtain ⟨bw, ow, cw9, hvw, -, y0, y1, y2, y3⟩ := pair_at HGr.out.aw hat
          first | subst hvw | (simp only [Value.slice.injEq, true_and] at hvw; obtain ⟨rfl, rfl⟩ := hvw)
          have cw := HGr.out.cw
          have hne : ∀ w, (binOp .neq 32 (.agg #[.int .i64 p.a, .int .i64 p.b, .int .i64 p.c, .int .i64 p.d]) (.agg #[.int .i64 p.a, .int .i64 p.b, .int .i64 p.c, .int .i64 p.d])).run Tryz.prog w = .ok (.bool false) w := fun w => pair_ne p w
          have hq : pre.length < K.length := (List.getElem?_eq_some_iff.1 hat).1
          have q0 : (0 : Int) ≤ (pre.length : Int) := by omega
          have q1 : (pre.length : Int) < (K.length : Int) := by omega
          have q2 : ¬ (K.length : Int) ≤ (pre.length : Int) := by omega
          have q3 : decide (K.length ≤ pre.length) = false := decide_eq_false (by omega)
          have q4 : (pre.length : Int) ≤ 30 := by have := HKl.out; omega
          clear hat hj2 hj3 hj4 hbz ht3 hb3 hs2 hbx
          gi_wp2
          refine region_round_quiet l2 (by kernel_rfl) (by kernel_rfl) (by kernel_rfl) ?_
          repeat (gi_big_quiet_step (fail))
          refine wpQuietIn_nil ?_
          intro _ hw'
          obtain ⟨nq, hw''⟩ := hw'
          subst hw''
          have hbD := bel_drewN W3 nq
          have ht := cell_bel ht hbD
          have hnf := froz_bel hn hnf hbD
          have hn := cell_bel hn hbD
          have hbW : Below w3.heap.size w3 (W3.drewN nq) := hb03.trans (hbD.mono hb03.size)
          have cmD := cell_bel HGr.out.cm hbD
          clear cw y0 y1 y2 y3 p0 p1 p2 p3 q2 q3
          have hset := hbW.setCell (p := ⟨w3.heap.size + 1, 0, none⟩) (by simp) (.int .i64 ((pre.length : Int) + 1))
          have hcs : ((W3.drewN nq).setCell ⟨w3.heap.size + 1, 0, none⟩ (.int .i64 ((pre.length : Int) + 1))).cell? ⟨w3.heap.size + 1, 0, none⟩ = some (.int .i64 ((pre ++ [(p, pre.length)]).length : Nat)) := by
            rw [World.cell?_setCell_same _ _ _ hn, List.length_append]
            rfl
          have hts := (World.cell?_setCell_other (W3.drewN nq) ⟨w3.heap.size + 1, 0, none⟩ ⟨w3.heap.size, 0, none⟩ (.int .i64 ((pre.length : Int) + 1)) (by simp)).trans ht
          have hms := (World.cell?_setCell_other (W3.drewN nq) ⟨w3.heap.size + 1, 0, none⟩ ⟨w.heap.size, 0, none⟩ (.int .i64 ((pre.length : Int) + 1)) (by first | (have h8 := HZw.out; intro he; have he := congrArg Addr.block he; dsimp only at he; omega) | (have h8 := HZw.out; have h9 := HS5.out; intro he; have he := congrArg Addr.block he; dsimp only at he; omega))).trans cmD
          have htc := (Touch.below (T := fun k => k = w3.heap.size + 1) hbD).trans (Touch.setCell (W3.drewN nq) ⟨w3.heap.size + 1, 0, none⟩ (.int .i64 ((pre.length : Int) + 1)) rfl)
          have hlp : ((pre ++ [(p, pre.length)]).length : Int) = pre.length + 1 := by simp
          have hlpre := Lib.hid hlp
          clear hlp
          by_cases hm : many ≤ (pre.length : Int) + 1
          · gi_wp2
            refine ⟨htc, rfl, hset, hts, hcs, by rw [hlpre.out]; exact hm, ?_⟩
            by_cases hp : pre = []
            · left; simp [hp]
            · right; have := hlt hp; rw [hlpre.out]; omega
          · gi_wp2
            exact ⟨htc, hset, hts, hcs, by rw [World.frozen?_setCell]; exact hnf, fun _ => by rw [hlpre.out]; omega⟩
        case hdone =>
          rintro D xs W' hD rfl ⟨hbx, ht, hn, hnf, hlt⟩ hKD
          rw [ixP_length] at hn hlt
          have hmk : min (K.length : Int) (max 1 many) = K.length := by
            by_cases hz : K.length = 0
            · rw [hz]; simp; omega
            · have := hlt (fun h => hz (by have h2 := congrArg List.length h; rw [ixP_length] at h2; exact h2))
              omega
          obtain ⟨j, hj⟩ : ∃ j, j = K.length := ⟨_, rfl⟩
          rw [← hj] at hn
          have hmn : min (K.length : Int) (max 1 many) = j := by rw [hj]; exact hmk
          clear hlt hj hmk
          have hlD : D < W'.heap.size := (Array.getElem?_eq_some_iff.1 hKD).1
          have HG5 := Lib.hid (HG.out.more hbx)
          have HTp5 := Lib.hid (HTp.out.bel hbx)
          have HCl5 := Lib.hid (cell_bel HCl.out hbx)
          have cm5 := HG5.out.cm
          have cw5 := HG5.out.cw
          obtain ⟨a5, c5, hvw5⟩ := HG5.out.aw.form
          first | subst hvw5 | (simp only [Value.slice.injEq, true_and] at hvw5; obtain ⟨rfl, rfl⟩ := hvw5)
          have HS5 := Lib.hid (show w3.heap.size + 1 < W'.heap.size ∧ w3.heap.size + 2 ≤ D ∧ Bb < W'.heap.size from ⟨lt_of_cell hn, by have := HsU.out; omega, Nat.lt_of_lt_of_le HBb.out hbx.size⟩)
          have HK5 := Lib.hid hKD
          clear hbx hKD
          go_wp2
          rw [rounds_succ]
          go_wp2
          have t6 := cell_al (cell_new W' #[.int .i64 1] 3 0) (.cells #[.int .i64 0] 3)
          have n6 := cell_two W' (.cells #[.int .i64 1] 3) #[.int .i64 0] 3 0
          have nf6 := froz_two W' (.cells #[.int .i64 1] 3) #[.int .i64 0] 3 0
          have hbU6 : Below W'.heap.size W' ((W'.alloc (.cells #[.int .i64 1] 3)).alloc (.cells #[.int .i64 0] 3)) := belA (bel1 _) _
          have HsU6 := Lib.hid (show ((W'.alloc (.cells #[.int .i64 1] 3)).alloc (.cells #[.int .i64 0] 3)).heap.size = W'.heap.size + 2 by simp)
          have HGk := HG
          have HG := HG5
          clear hn ht hmn
          generalize (W'.alloc (.cells #[.int .i64 1] 3)).alloc (.cells #[.int .i64 0] 3) = U6 at t6 n6 nf6 hbU6 HsU6 ⊢
          refine (wpIn_wide (n := 20)).1 ?_
          refine wpIn_rangeT rfl (by omega) (gf := 39) (lb := #[.pointer (some ⟨Bo, 0, none⟩)]) (by simp [go_sem]) trivial (enters_of Tryz.func39 (by kernel_rfl) rfl)
            (all_in (20 - 1) Bo Bb (by omega) vl K (by have := HKl.out; omega)) (fun W2 hb => ⟨cell_bel HCl5.out (belT hbU6 hb), HTp5.out.bel (belT hbU6 hb), Nat.lt_of_lt_of_le HS5.out.2.2 (belT hbU6 hb).size⟩) (fun _ => rfl)
            (fun k => k = W'.heap.size + 1) (fun k h => ⟨by have := HsU6.out; omega, fun h' => by have h1 := HS5.out.2.2; have h2 := lt_of_cell HCl5.out; omega⟩) (fun k h => by have := HsU6.out; have h1 := HS5.out.2.2; have h2 := lt_of_cell HCl5.out; omega) (fun k h => h.elim)
            (fun pre Wr => Below W'.heap.size W' Wr ∧ Wr.cell? ⟨W'.heap.size, 0, none⟩ = some (.int .i64 1) ∧ Wr.cell? ⟨W'.heap.size + 1, 0, none⟩ = some (.int .i64 (pre.length : Nat)) ∧ Wr.frozen? ⟨W'.heap.size + 1, 0, none⟩ = false ∧ True)
            (fun _ _ _ => False) ?hI2 ?hIx2 ?hs2 ?hround2 ?hdone2 ?hstop2
          case hI2 =>
            rintro s A B' ⟨ha, h1, h2, h3, h4⟩ hb
            have hb' := hb.below (fun _ _ h => h)
            have := HsU6.out
            exact ⟨ha.trans (hb'.mono (by omega)), cell_belB h1 hb' (by omega), cell_belB h2 hb' (by omega), froz_belB h3 hb' (by omega), h4⟩
          case hIx2 => exact fun _ _ _ _ h _ => h
          case hs2 => exact ⟨hbU6, t6, n6, nf6, trivial⟩
          case hround2 =>
            rintro l2 pre x W2 ⟨hbx, ht, hn, hnf, hlt⟩ hsz2 hlen hsp
            have hs2 := HsU6.out
            gi_wp2
            refine ⟨Touch.below (bel1 _), fun W3 hb3 ht3 => ?_⟩
            obtain ⟨p, xi⟩ := x
            obtain ⟨jj, hj2, hj3⟩ := hsp
            obtain ⟨hj4, hx1, hat⟩ := ixP_last hj2 hj3
            dsimp only at hx1 hat
            subst hx1
            have hbz : Below (W'.heap.size + 2) W2 W3 := ((bel1 (W := W2) (.cells #[.int .i64 p.a, .int .i64 p.b, .int .i64 p.c, .int .i64 p.d] 32)).mono (by omega)).trans (hb3.mono (by omega))
            have hb03 := hbx.trans (hbz.mono (by omega))
            have ht := cell_belB ht hbz (by omega)
            have hn := cell_belB hn hbz (by omega)
            have hnf := froz_belB hnf hbz (by omega)
            have p0 := cell_touch (cell_new W2 #[.int .i64 p.a, .int .i64 p.b, .int .i64 p.c, .int .i64 p.d] 32 0) ht3 (by omega)
            have p1 := cell_touch (cell_new W2 #[.int .i64 p.a, .int .i64 p.b, .int .i64 p.c, .int .i64 p.d] 32 1) ht3 (by omega)
            have p2 := cell_touch (cell_new W2 #[.int .i64 p.a, .int .i64 p.b, .int .i64 p.c, .int .i64 p.d] 32 2) ht3 (by omega)
            have p3 := cell_touch (cell_new W2 #[.int .i64 p.a, .int .i64 p.b, .int .i64 p.c, .int .i64 p.d] 32 3) ht3 (by omega)
            have HGr := Lib.hid (HG.out.more hb03)
            obtain ⟨bw, ow, cw9, hvw, -, y0, y1, y2, y3⟩ := pair_at HGr.out.aw hat
            first | subst hvw | (simp only [Value.slice.injEq, true_and] at hvw; obtain ⟨rfl, rfl⟩ := hvw)
            have cw := HGr.out.cw
            have hne : ∀ w, (binOp .neq 32 (.agg #[.int .i64 p.a, .int .i64 p.b, .int .i64 p.c, .int .i64 p.d]) (.agg #[.int .i64 p.a, .int .i64 p.b, .int .i64 p.c, .int .i64 p.d])).run Tryz.prog w = .ok (.bool false) w := fun w => pair_ne p w
            have hq : pre.length < K.length := (List.getElem?_eq_some_iff.1 hat).1
            have q0 : (0 : Int) ≤ (pre.length : Int) := by omega
            have q1 : (pre.length : Int) < (K.length : Int) := by omega
            have q2 : ¬ (K.length : Int) ≤ (pre.length : Int) := by omega
            have q3 : decide (K.length ≤ pre.length) = false := decide_eq_false (by omega)
            have q4 : (pre.length : Int) ≤ 30 := by have := HKl.out; omega
            clear hat hj2 hj3 hj4 hbz ht3 hb3 hs2 hbx
            gi_wp2
            refine region_round_quiet l2 (by kernel_rfl) (by kernel_rfl) (by kernel_rfl) ?_
            repeat (gi_big_quiet_step (fail))
            refine wpQuietIn_nil ?_
            intro _ hw'
            obtain ⟨nq, hw''⟩ := hw'
            subst hw''
            have hbD := bel_drewN W3 nq
            have ht := cell_bel ht hbD
            have hnf := froz_bel hn hnf hbD
            have hn := cell_bel hn hbD
            have hbW : Below W'.heap.size W' (W3.drewN nq) := hb03.trans (hbD.mono hb03.size)
            have cmD := cell_bel HGr.out.cm hbD
            clear cw y0 y1 y2 y3 p0 p1 p2 p3 q2 q3
            have hset := hbW.setCell (p := ⟨W'.heap.size + 1, 0, none⟩) (by simp) (.int .i64 ((pre.length : Int) + 1))
            have hcs : ((W3.drewN nq).setCell ⟨W'.heap.size + 1, 0, none⟩ (.int .i64 ((pre.length : Int) + 1))).cell? ⟨W'.heap.size + 1, 0, none⟩ = some (.int .i64 ((pre ++ [(p, pre.length)]).length : Nat)) := by
              rw [World.cell?_setCell_same _ _ _ hn, List.length_append]
              rfl
            have hts := (World.cell?_setCell_other (W3.drewN nq) ⟨W'.heap.size + 1, 0, none⟩ ⟨W'.heap.size, 0, none⟩ (.int .i64 ((pre.length : Int) + 1)) (by simp)).trans ht
            have hms := (World.cell?_setCell_other (W3.drewN nq) ⟨W'.heap.size + 1, 0, none⟩ ⟨w.heap.size, 0, none⟩ (.int .i64 ((pre.length : Int) + 1)) (by first | (have h8 := HZw.out; intro he; have he := congrArg Addr.block he; dsimp only at he; omega) | (have h8 := HZw.out; have h9 := HS5.out; intro he; have he := congrArg Addr.block he; dsimp only at he; omega))).trans cmD
            have htc := (Touch.below (T := fun k => k = W'.heap.size + 1) hbD).trans (Touch.setCell (W3.drewN nq) ⟨W'.heap.size + 1, 0, none⟩ (.int .i64 ((pre.length : Int) + 1)) rfl)
            have hlp : ((pre ++ [(p, pre.length)]).length : Int) = pre.length + 1 := by simp
            have hlpre := Lib.hid hlp
            clear hlp
            gi_wp2
            have hfz : ((W3.drewN nq).setCell ⟨W'.heap.size + 1, 0, none⟩ (.int .i64 ((pre.length : Int) + 1))).frozen? ⟨W'.heap.size + 1, 0, none⟩ = false := by rw [World.frozen?_setCell]; exact hnf
            first | exact ⟨htc, hset, hts, hcs, hfz⟩ | exact ⟨htc, hset, hts, hcs, hfz, trivial⟩
          case hstop2 => exact fun _ _ _ _ _ _ h _ => h.elim
          case hdone2 =>
            rintro D2 xs W7 hD2 rfl ⟨hbx, ht, hn, hnf, hlt⟩ hKD2
            rw [ixP_length] at hn
            have HG7 := Lib.hid (HG5.out.more hbx)
            have cw7 := HG7.out.cw
            have HK7 := Lib.hid ((hbx.block D hlD).trans HK5.out)
            have HKD := Lib.hid hKD2
            have hz7 := Lib.hid (show W'.heap.size ≤ W7.heap.size from hbx.size)
            clear hbx hKD2 t6 n6 nf6 hbU6
            go_wp2
            rw [rounds_succ]
            have hbT := bel1 (W := W7) (.cells #[.int .i64 2] 3)
            have r7 := cell_bel HG7.out.cr hbT
            have rf7 := froz_bel HG7.out.cr HG7.out.fr hbT
            have hB7 := belT HG7.out.bel hbT
            have HKa := Lib.hid ((hbT.block D (Array.getElem?_eq_some_iff.1 HK7.out).1).trans HK7.out)
            have HKb := Lib.hid ((hbT.block D2 (Array.getElem?_eq_some_iff.1 HKD.out).1).trans HKD.out)
            have t8 := cell_new W7 #[.int .i64 2] 3 0
            clear hbT cw7 hn ht hnf hlt
            generalize W7.alloc _ = W8 at t8 r7 rf7 hB7 HKa HKb ⊢
            go_wp2_with (go_at_call 5; refine (works_any _ (HE.out.on hB7)).mono ?_; rintro e w8 ⟨rfl, hb8⟩; have r8 := cell_bel r7 hb8; have rf8 := froz_bel r7 rf7 hb8; have hB8 := belT hB7 hb8)
            have hz8 := hz7.out
            have hsw : w.heap.size + 1 < D := by have := HZw.out; have := HS5.out; omega
            have hDD : D < D2 := by have := HsU6.out; omega
            have hKa := (hb8.block D (Array.getElem?_eq_some_iff.1 HKa.out).1).trans HKa.out
            have hKb := (hb8.block D2 (Array.getElem?_eq_some_iff.1 HKb.out).1).trans HKb.out
            have hB9 := hB8.setCell (p := ⟨w.heap.size + 1, 0, none⟩) (by simp) (.bool true)
            have hKc := (Below.heap_setCell w8 ⟨w.heap.size + 1, 0, none⟩ (.bool true) D (by simp; omega)).trans hKa
            have hKd := (Below.heap_setCell w8 ⟨w.heap.size + 1, 0, none⟩ (.bool true) D2 (by simp; omega)).trans hKb
            have c9 : (w8.setCell ⟨w.heap.size + 1, 0, none⟩ (.bool true)).cell? ⟨w.heap.size + 1, 0, none⟩ = some (.bool true) := World.cell?_setCell_same _ _ _ r8
            have hKe := (World.putObj_heap_other (o := .deferred none) (w := w8.setCell ⟨w.heap.size + 1, 0, none⟩ (.bool true)) (r := D2) (k := D) (by omega)).trans hKc
            have hc6 := cell_kept c9 (grownBy_putObj' _ D2 (.deferred none)) (fun r e => by cases e; exact ⟨_, hKd, rfl⟩)
            have hc7 := cell_kept hc6 (grownBy_putObj' _ D (.deferred none)) (fun r e => by cases e; exact ⟨_, hKe, rfl⟩)
            refine ⟨by simp, .inl ⟨_, _, rfl, run_takeDeferred hKd, ?_⟩⟩
            refine ⟨by simp, .inl ⟨_, _, rfl, run_takeDeferred hKe, ?_⟩⟩
            have hBa := hB9.trans (below_put _ D2 (.deferred none) (by omega) hB9.size)
            exact ⟨.bool true, by simp [results, Tryz.results3, go_sem, hc7], rfl, hBa.trans (below_put _ D (.deferred none) (by omega) hBa.size)⟩
        case hstop =>
          rintro D c pre W' hD ⟨j, hj1, rfl⟩ ⟨rfl, hbx, ht, hn, hm1, hm2⟩ hKD
          rw [ixP_pre hj1] at hn hm1 hm2
          have hmn : min (K.length : Int) (max 1 many) = ((j + 1 : Nat) : Int) := by omega
          clear hm1 hm2 hj1
          have hlD : D < W'.heap.size := (Array.getElem?_eq_some_iff.1 hKD).1
          have HG5 := Lib.hid (HG.out.more hbx)
          have HTp5 := Lib.hid (HTp.out.bel hbx)
          have HCl5 := Lib.hid (cell_bel HCl.out hbx)
          have cm5 := HG5.out.cm
          have cw5 := HG5.out.cw
          obtain ⟨a5, c5, hvw5⟩ := HG5.out.aw.form
          first | subst hvw5 | (simp only [Value.slice.injEq, true_and] at hvw5; obtain ⟨rfl, rfl⟩ := hvw5)
          have HS5 := Lib.hid (show w3.heap.size + 1 < W'.heap.size ∧ w3.heap.size + 2 ≤ D ∧ Bb < W'.heap.size from ⟨lt_of_cell hn, by have := HsU.out; omega, Nat.lt_of_lt_of_le HBb.out hbx.size⟩)
          have HK5 := Lib.hid hKD
          clear hbx hKD
          refine wpIn_wide.2 ?_
          go_wp2
          rw [rounds_succ]
          go_wp2
          have t6 := cell_al (cell_new W' #[.int .i64 1] 3 0) (.cells #[.int .i64 0] 3)
          have n6 := cell_two W' (.cells #[.int .i64 1] 3) #[.int .i64 0] 3 0
          have nf6 := froz_two W' (.cells #[.int .i64 1] 3) #[.int .i64 0] 3 0
          have hbU6 : Below W'.heap.size W' ((W'.alloc (.cells #[.int .i64 1] 3)).alloc (.cells #[.int .i64 0] 3)) := belA (bel1 _) _
          have HsU6 := Lib.hid (show ((W'.alloc (.cells #[.int .i64 1] 3)).alloc (.cells #[.int .i64 0] 3)).heap.size = W'.heap.size + 2 by simp)
          have HGk := HG
          have HG := HG5
          clear hn ht hmn
          generalize (W'.alloc (.cells #[.int .i64 1] 3)).alloc (.cells #[.int .i64 0] 3) = U6 at t6 n6 nf6 hbU6 HsU6 ⊢
          refine (wpIn_wide (n := 20)).1 ?_
          refine wpIn_rangeT rfl (by omega) (gf := 39) (lb := #[.pointer (some ⟨Bo, 0, none⟩)]) (by simp [go_sem]) trivial (enters_of Tryz.func39 (by kernel_rfl) rfl)
            (all_in (20 - 1) Bo Bb (by omega) vl K (by have := HKl.out; omega)) (fun W2 hb => ⟨cell_bel HCl5.out (belT hbU6 hb), HTp5.out.bel (belT hbU6 hb), Nat.lt_of_lt_of_le HS5.out.2.2 (belT hbU6 hb).size⟩) (fun _ => rfl)
            (fun k => k = W'.heap.size + 1) (fun k h => ⟨by have := HsU6.out; omega, fun h' => by have h1 := HS5.out.2.2; have h2 := lt_of_cell HCl5.out; omega⟩) (fun k h => by have := HsU6.out; have h1 := HS5.out.2.2; have h2 := lt_of_cell HCl5.out; omega) (fun k h => h.elim)
            (fun pre Wr => Below W'.heap.size W' Wr ∧ Wr.cell? ⟨W'.heap.size, 0, none⟩ = some (.int .i64 1) ∧ Wr.cell? ⟨W'.heap.size + 1, 0, none⟩ = some (.int .i64 (pre.length : Nat)) ∧ Wr.frozen? ⟨W'.heap.size + 1, 0, none⟩ = false ∧ True)
            (fun _ _ _ => False) ?hI2 ?hIx2 ?hs2 ?hround2 ?hdone2 ?hstop2
          case hI2 =>
            rintro s A B' ⟨ha, h1, h2, h3, h4⟩ hb
            have hb' := hb.below (fun _ _ h => h)
            have := HsU6.out
            exact ⟨ha.trans (hb'.mono (by omega)), cell_belB h1 hb' (by omega), cell_belB h2 hb' (by omega), froz_belB h3 hb' (by omega), h4⟩
          case hIx2 => exact fun _ _ _ _ h _ => h
          case hs2 => exact ⟨hbU6, t6, n6, nf6, trivial⟩
          case hround2 =>
            rintro l2 pre x W2 ⟨hbx, ht, hn, hnf, hlt⟩ hsz2 hlen hsp
            have hs2 := HsU6.out
            gi_wp2
            refine ⟨Touch.below (bel1 _), fun W3 hb3 ht3 => ?_⟩
            obtain ⟨p, xi⟩ := x
            obtain ⟨jj, hj2, hj3⟩ := hsp
            obtain ⟨hj4, hx1, hat⟩ := ixP_last hj2 hj3
            dsimp only at hx1 hat
            subst hx1
            have hbz : Below (W'.heap.size + 2) W2 W3 := ((bel1 (W := W2) (.cells #[.int .i64 p.a, .int .i64 p.b, .int .i64 p.c, .int .i64 p.d] 32)).mono (by omega)).trans (hb3.mono (by omega))
            have hb03 := hbx.trans (hbz.mono (by omega))
            have ht := cell_belB ht hbz (by omega)
            have hn := cell_belB hn hbz (by omega)
            have hnf := froz_belB hnf hbz (by omega)
            have p0 := cell_touch (cell_new W2 #[.int .i64 p.a, .int .i64 p.b, .int .i64 p.c, .int .i64 p.d] 32 0) ht3 (by omega)
            have p1 := cell_touch (cell_new W2 #[.int .i64 p.a, .int .i64 p.b, .int .i64 p.c, .int .i64 p.d] 32 1) ht3 (by omega)
            have p2 := cell_touch (cell_new W2 #[.int .i64 p.a, .int .i64 p.b, .int .i64 p.c, .int .i64 p.d] 32 2) ht3 (by omega)
            have p3 := cell_touch (cell_new W2 #[.int .i64 p.a, .int .i64 p.b, .int .i64 p.c, .int .i64 p.d] 32 3) ht3 (by omega)
            have HGr := Lib.hid (HG.out.more hb03)
            obtain ⟨bw, ow, cw9, hvw, -, y0, y1, y2, y3⟩ := pair_at HGr.out.aw hat
            first | subst hvw | (simp only [Value.slice.injEq, true_and] at hvw; obtain ⟨rfl, rfl⟩ := hvw)
            have cw := HGr.out.cw
            have hne : ∀ w, (binOp .neq 32 (.agg #[.int .i64 p.a, .int .i64 p.b, .int .i64 p.c, .int .i64 p.d]) (.agg #[.int .i64 p.a, .int .i64 p.b, .int .i64 p.c, .int .i64 p.d])).run Tryz.prog w = .ok (.bool false) w := fun w => pair_ne p w
            have hq : pre.length < K.length := (List.getElem?_eq_some_iff.1 hat).1
            have q0 : (0 : Int) ≤ (pre.length : Int) := by omega
            have q1 : (pre.length : Int) < (K.length : Int) := by omega
            have q2 : ¬ (K.length : Int) ≤ (pre.length : Int) := by omega
            have q3 : decide (K.length ≤ pre.length) = false := decide_eq_false (by omega)
            have q4 : (pre.length : Int) ≤ 30 := by have := HKl.out; omega
            clear hat hj2 hj3 hj4 hbz ht3 hb3 hs2 hbx
            gi_wp2
            refine region_round_quiet l2 (by kernel_rfl) (by kernel_rfl) (by kernel_rfl) ?_
            repeat (gi_big_quiet_step (fail))
            refine wpQuietIn_nil ?_
            intro _ hw'
            obtain ⟨nq, hw''⟩ := hw'
            subst hw''
            have hbD := bel_drewN W3 nq
            have ht := cell_bel ht hbD
            have hnf := froz_bel hn hnf hbD
            have hn := cell_bel hn hbD
            have hbW : Below W'.heap.size W' (W3.drewN nq) := hb03.trans (hbD.mono hb03.size)
            have cmD := cell_bel HGr.out.cm hbD
            clear cw y0 y1 y2 y3 p0 p1 p2 p3 q2 q3
            have hset := hbW.setCell (p := ⟨W'.heap.size + 1, 0, none⟩) (by simp) (.int .i64 ((pre.length : Int) + 1))
            have hcs : ((W3.drewN nq).setCell ⟨W'.heap.size + 1, 0, none⟩ (.int .i64 ((pre.length : Int) + 1))).cell? ⟨W'.heap.size + 1, 0, none⟩ = some (.int .i64 ((pre ++ [(p, pre.length)]).length : Nat)) := by
              rw [World.cell?_setCell_same _ _ _ hn, List.length_append]
              rfl
            have hts := (World.cell?_setCell_other (W3.drewN nq) ⟨W'.heap.size + 1, 0, none⟩ ⟨W'.heap.size, 0, none⟩ (.int .i64 ((pre.length : Int) + 1)) (by simp)).trans ht
            have hms := (World.cell?_setCell_other (W3.drewN nq) ⟨W'.heap.size + 1, 0, none⟩ ⟨w.heap.size, 0, none⟩ (.int .i64 ((pre.length : Int) + 1)) (by first | (have h8 := HZw.out; intro he; have he := congrArg Addr.block he; dsimp only at he; omega) | (have h8 := HZw.out; have h9 := HS5.out; intro he; have he := congrArg Addr.block he; dsimp only at he; omega))).trans cmD
            have htc := (Touch.below (T := fun k => k = W'.heap.size + 1) hbD).trans (Touch.setCell (W3.drewN nq) ⟨W'.heap.size + 1, 0, none⟩ (.int .i64 ((pre.length : Int) + 1)) rfl)
            have hlp : ((pre ++ [(p, pre.length)]).length : Int) = pre.length + 1 := by simp
            have hlpre := Lib.hid hlp
            clear hlp
            gi_wp2
            have hfz : ((W3.drewN nq).setCell ⟨W'.heap.size + 1, 0, none⟩ (.int .i64 ((pre.length : Int) + 1))).frozen? ⟨W'.heap.size + 1, 0, none⟩ = false := by rw [World.frozen?_setCell]; exact hnf
            first | exact ⟨htc, hset, hts, hcs, hfz⟩ | exact ⟨htc, hset, hts, hcs, hfz, trivial⟩
          case hstop2 => exact fun _ _ _ _ _ _ h _ => h.elim
          case hdone2 =>
            rintro D2 xs W7 hD2 rfl ⟨hbx, ht, hn, hnf, hlt⟩ hKD2
            rw [ixP_length] at hn
            have HG7 := Lib.hid (HG5.out.more hbx)
            have cw7 := HG7.out.cw
            have HK7 := Lib.hid ((hbx.block D hlD).trans HK5.out)
            have HKD := Lib.hid hKD2
            have hz7 := Lib.hid (show W'.heap.size ≤ W7.heap.size from hbx.size)
            clear hbx hKD2 t6 n6 nf6 hbU6
            go_wp2
            rw [rounds_succ]
            have hbT := bel1 (W := W7) (.cells #[.int .i64 2] 3)
            have r7 := cell_bel HG7.out.cr hbT
            have rf7 := froz_bel HG7.out.cr HG7.out.fr hbT
            have hB7 := belT HG7.out.bel hbT
            have HKa := Lib.hid ((hbT.block D (Array.getElem?_eq_some_iff.1 HK7.out).1).trans HK7.out)
            have HKb := Lib.hid ((hbT.block D2 (Array.getElem?_eq_some_iff.1 HKD.out).1).trans HKD.out)
            have t8 := cell_new W7 #[.int .i64 2] 3 0
            clear hbT cw7 hn ht hnf hlt
            generalize W7.alloc _ = W8 at t8 r7 rf7 hB7 HKa HKb ⊢
            go_wp2_with (go_at_call 5; refine (works_any _ (HE.out.on hB7)).mono ?_; rintro e w8 ⟨rfl, hb8⟩; have r8 := cell_bel r7 hb8; have rf8 := froz_bel r7 rf7 hb8; have hB8 := belT hB7 hb8)
            have hz8 := hz7.out
            have hsw : w.heap.size + 1 < D := by have := HZw.out; have := HS5.out; omega
            have hDD : D < D2 := by have := HsU6.out; omega
            have hKa := (hb8.block D (Array.getElem?_eq_some_iff.1 HKa.out).1).trans HKa.out
            have hKb := (hb8.block D2 (Array.getElem?_eq_some_iff.1 HKb.out).1).trans HKb.out
            have hB9 := hB8.setCell (p := ⟨w.heap.size + 1, 0, none⟩) (by simp) (.bool true)
            have hKc := (Below.heap_setCell w8 ⟨w.heap.size + 1, 0, none⟩ (.bool true) D (by simp; omega)).trans hKa
            have hKd := (Below.heap_setCell w8 ⟨w.heap.size + 1, 0, none⟩ (.bool true) D2 (by simp; omega)).trans hKb
            have c9 : (w8.setCell ⟨w.heap.size + 1, 0, none⟩ (.bool true)).cell? ⟨w.heap.size + 1, 0, none⟩ = some (.bool true) := World.cell?_setCell_same _ _ _ r8
            have hKe := (World.putObj_heap_other (o := .deferred none) (w := w8.setCell ⟨w.heap.size + 1, 0, none⟩ (.bool true)) (r := D2) (k := D) (by omega)).trans hKc
            have hc6 := cell_kept c9 (grownBy_putObj' _ D2 (.deferred none)) (fun r e => by cases e; exact ⟨_, hKd, rfl⟩)
            have hc7 := cell_kept hc6 (grownBy_putObj' _ D (.deferred none)) (fun r e => by cases e; exact ⟨_, hKe, rfl⟩)
            refine ⟨by simp, .inl ⟨_, _, rfl, run_takeDeferred hKd, ?_⟩⟩
            refine ⟨by simp, .inl ⟨_, _, rfl, run_takeDeferred hKe, ?_⟩⟩
            have hBa := hB9.trans (below_put _ D2 (.deferred none) (by omega) hB9.size)
            exact ⟨.bool true, by simp [results, Tryz.results3, go_sem, hc7], rfl, hBa.trans (below_put _ D (.deferred none) (by omega) hBa.size)⟩
      | false =>
        rw [hall] at CN
        clear hall hk hlt
        go_wp2_with fail
        refine (CN.out wr HG.out.al).mono ?_
        rintro e w2 ⟨hq, hb2⟩
        simp only [Bool.false_eq_true, if_false] at hq
        subst hq
        have HG := Lib.hid (HG.out.more hb2)
        clear hb2 CN
        go_wp2_with fail
        refine (siAll_any B M L (by have := HF.out.size; have := HKl.out; omega) w2 HG.out.st).mono ?_
        rintro e w3 ⟨vl, xs, Bo, Bb, rfl, hxs, hcl, htp, hbb, hb3⟩
        rw [HF.out.all hxs] at htp
        have HG0 := HG
        have HG := Lib.hid (HG0.out.more hb3)
        have HTp := Lib.hid htp
        have HCl := Lib.hid hcl
        have HBb := Lib.hid hbb
        have HZw := Lib.hid (show w.heap.size + 1 < w3.heap.size from lt_of_cell HG.out.cr)
        clear hxs hcl htp hbb hb3 HG0
        go_wp2_with (go_at_call 10; refine (num_any _ _).mono ?_; rintro e wn ⟨rfl, rfl⟩)
        refine wp_loop_rounds 3 ?_
        rw [rounds_succ]
        go_wp2
        have t0 := cell_al (cell_new w3 #[.int .i64 0] 3 0) (.cells #[.int .i64 0] 3)
        have n0 := cell_two w3 (.cells #[.int .i64 0] 3) #[.int .i64 0] 3 0
        have nf := froz_two w3 (.cells #[.int .i64 0] 3) #[.int .i64 0] 3 0
        have hbU : Below w3.heap.size w3 ((w3.alloc (.cells #[.int .i64 0] 3)).alloc (.cells #[.int .i64 0] 3)) := belA (bel1 _) _
        have HsU := Lib.hid (show ((w3.alloc (.cells #[.int .i64 0] 3)).alloc (.cells #[.int .i64 0] 3)).heap.size = w3.heap.size + 2 by simp)
        generalize (w3.alloc (.cells #[.int .i64 0] 3)).alloc (.cells #[.int .i64 0] 3) = U at t0 n0 nf hbU HsU ⊢
        refine (wpIn_wide (n := 20)).1 ?_
        refine wpIn_rangeT rfl (by omega) (gf := 39) (lb := #[.pointer (some ⟨Bo, 0, none⟩)]) (by simp [go_sem]) trivial (enters_of Tryz.func39 (by kernel_rfl) rfl)
          (all_in (20 - 1) Bo Bb (by omega) vl K (by have := HKl.out; omega)) (fun W' hb => ⟨cell_bel HCl.out (belT hbU hb), HTp.out.bel (belT hbU hb), Nat.lt_of_lt_of_le HBb.out (belT hbU hb).size⟩) (fun _ => rfl)
          (fun k => k = w3.heap.size + 1) (fun k h => ⟨by have := HsU.out; omega, fun h' => by have h1 := HBb.out; have h2 := lt_of_cell HCl.out; omega⟩) (fun k h => by have := HsU.out; have h1 := HBb.out; have h2 := lt_of_cell HCl.out; omega) (fun k h => h.elim)
          (fun pre W' => Below w3.heap.size w3 W' ∧ W'.cell? ⟨w3.heap.size, 0, none⟩ = some (.int .i64 0) ∧ W'.cell? ⟨w3.heap.size + 1, 0, none⟩ = some (.int .i64 (pre.length : Nat)) ∧ W'.frozen? ⟨w3.heap.size + 1, 0, none⟩ = false ∧ (pre ≠ [] → (pre.length : Int) < many))
          (fun c pre W' => c = .exit 4 ∧ Below w3.heap.size w3 W' ∧ W'.cell? ⟨w3.heap.size, 0, none⟩ = some (.int .i64 0) ∧ W'.cell? ⟨w3.heap.size + 1, 0, none⟩ = some (.int .i64 (pre.length : Nat)) ∧ many ≤ pre.length ∧ (pre.length = 1 ∨ (pre.length : Int) - 1 < many)) ?hI ?hIx ?hs ?hround ?hdone ?hstop
        case hI =>
          rintro s A B' ⟨ha, h1, h2, h3, h4⟩ hb
          have hb' := hb.below (fun _ _ h => h)
          have := HsU.out
          exact ⟨ha.trans (hb'.mono (by omega)), cell_belB h1 hb' (by omega), cell_belB h2 hb' (by omega), froz_belB h3 hb' (by omega), h4⟩
        case hIx =>
          rintro c s A B' ⟨rfl, ha, h1, h2, h4, h5⟩ hb
          have hb' := hb.below (fun _ _ h => h)
          have := HsU.out
          exact ⟨rfl, ha.trans (hb'.mono (by omega)), cell_belB h1 hb' (by omega), cell_belB h2 hb' (by omega), h4, h5⟩
        case hs => exact ⟨hbU, t0, n0, nf, fun h => absurd rfl h⟩
        case hround =>
          rintro l2 pre x W2 ⟨hbx, ht, hn, hnf, hlt⟩ hsz2 hlen hsp
          have hs2 := HsU.out
          gi_wp2
          refine ⟨Touch.below (bel1 _), fun W3 hb3 ht3 => ?_⟩
          obtain ⟨p, xi⟩ := x
          obtain ⟨jj, hj2, hj3⟩ := hsp
          obtain ⟨hj4, hx1, hat⟩ := ixP_last hj2 hj3
          dsimp only at hx1 hat
          subst hx1
          have hbz : Below (w3.heap.size + 2) W2 W3 := ((bel1 (W := W2) (.cells #[.int .i64 p.a, .int .i64 p.b, .int .i64 p.c, .int .i64 p.d] 32)).mono (by omega)).trans (hb3.mono (by omega))
          have hb03 := hbx.trans (hbz.mono (by omega))
          have ht := cell_belB ht hbz (by omega)
          have hn := cell_belB hn hbz (by omega)
          have hnf := froz_belB hnf hbz (by omega)
          have p0 := cell_touch (cell_new W2 #[.int .i64 p.a, .int .i64 p.b, .int .i64 p.c, .int .i64 p.d] 32 0) ht3 (by omega)
          have p1 := cell_touch (cell_new W2 #[.int .i64 p.a, .int .i64 p.b, .int .i64 p.c, .int .i64 p.d] 32 1) ht3 (by omega)
          have p2 := cell_touch (cell_new W2 #[.int .i64 p.a, .int .i64 p.b, .int .i64 p.c, .int .i64 p.d] 32 2) ht3 (by omega)
          have p3 := cell_touch (cell_new W2 #[.int .i64 p.a, .int .i64 p.b, .int .i64 p.c, .int .i64 p.d] 32 3) ht3 (by omega)
          have HGr := Lib.hid (HG.out.more hb03)
          obtain ⟨bw, ow, cw9, hvw, -, y0, y1, y2, y3⟩ := pair_at HGr.out.aw hat
          first | subst hvw | (simp only [Value.slice.injEq, true_and] at hvw; obtain ⟨rfl, rfl⟩ := hvw)
          have cw := HGr.out.cw
          have hne : ∀ w, (binOp .neq 32 (.agg #[.int .i64 p.a, .int .i64 p.b, .int .i64 p.c, .int .i64 p.d]) (.agg #[.int .i64 p.a, .int .i64 p.b, .int .i64 p.c, .int .i64 p.d])).run Tryz.prog w = .ok (.bool false) w := fun w => pair_ne p w
          have hq : pre.length < K.length := (List.getElem?_eq_some_iff.1 hat).1
          have q0 : (0 : Int) ≤ (pre.length : Int) := by omega
          have q1 : (pre.length : Int) < (K.length : Int) := by omega
          have q2 : ¬ (K.length : Int) ≤ (pre.length : Int) := by omega
          have q3 : decide (K.length ≤ pre.length) = false := decide_eq_false (by omega)
          have q4 : (pre.length : Int) ≤ 30 := by have := HKl.out; omega
          clear hat hj2 hj3 hj4 hbz ht3 hb3 hs2 hbx
          gi_wp2
          refine region_round_quiet l2 (by kernel_rfl) (by kernel_rfl) (by kernel_rfl) ?_
          repeat (gi_big_quiet_step (fail))
          refine wpQuietIn_nil ?_
          intro _ hw'
          obtain ⟨nq, hw''⟩ := hw'
          subst hw''
          have hbD := bel_drewN W3 nq
          have ht := cell_bel ht hbD
          have hnf := froz_bel hn hnf hbD
          have hn := cell_bel hn hbD
          have hbW : Below w3.heap.size w3 (W3.drewN nq) := hb03.trans (hbD.mono hb03.size)
          have cmD := cell_bel HGr.out.cm hbD
          clear cw y0 y1 y2 y3 p0 p1 p2 p3 q2 q3
          have hset := hbW.setCell (p := ⟨w3.heap.size + 1, 0, none⟩) (by simp) (.int .i64 ((pre.length : Int) + 1))
          have hcs : ((W3.drewN nq).setCell ⟨w3.heap.size + 1, 0, none⟩ (.int .i64 ((pre.length : Int) + 1))).cell? ⟨w3.heap.size + 1, 0, none⟩ = some (.int .i64 ((pre ++ [(p, pre.length)]).length : Nat)) := by
            rw [World.cell?_setCell_same _ _ _ hn, List.length_append]
            rfl
          have hts := (World.cell?_setCell_other (W3.drewN nq) ⟨w3.heap.size + 1, 0, none⟩ ⟨w3.heap.size, 0, none⟩ (.int .i64 ((pre.length : Int) + 1)) (by simp)).trans ht
          have hms := (World.cell?_setCell_other (W3.drewN nq) ⟨w3.heap.size + 1, 0, none⟩ ⟨w.heap.size, 0, none⟩ (.int .i64 ((pre.length : Int) + 1)) (by first | (have h8 := HZw.out; intro he; have he := congrArg Addr.block he; dsimp only at he; omega) | (have h8 := HZw.out; have h9 := HS5.out; intro he; have he := congrArg Addr.block he; dsimp only at he; omega))).trans cmD
          have htc := (Touch.below (T := fun k => k = w3.heap.size + 1) hbD).trans (Touch.setCell (W3.drewN nq) ⟨w3.heap.size + 1, 0, none⟩ (.int .i64 ((pre.length : Int) + 1)) rfl)
          have hlp : ((pre ++ [(p, pre.length)]).length : Int) = pre.length + 1 := by simp
          have hlpre := Lib.hid hlp
          clear hlp
          by_cases hm : many ≤ (pre.length : Int) + 1
          · gi_wp2
            refine ⟨htc, rfl, hset, hts, hcs, by rw [hlpre.out]; exact hm, ?_⟩
            by_cases hp : pre = []
            · left; simp [hp]
            · right; have := hlt hp; rw [hlpre.out]; omega
          · gi_wp2
            exact ⟨htc, hset, hts, hcs, by rw [World.frozen?_setCell]; exact hnf, fun _ => by rw [hlpre.out]; omega⟩
        case hdone =>
          rintro D xs W' hD rfl ⟨hbx, ht, hn, hnf, hlt⟩ hKD
          rw [ixP_length] at hn hlt
          have hmk : min (K.length : Int) (max 1 many) = K.length := by
            by_cases hz : K.length = 0
            · rw [hz]; simp; omega
            · have := hlt (fun h => hz (by have h2 := congrArg List.length h; rw [ixP_length] at h2; exact h2))
              omega
          obtain ⟨j, hj⟩ : ∃ j, j = K.length := ⟨_, rfl⟩
          rw [← hj] at hn
          have hmn : min (K.length : Int) (max 1 many) = j := by rw [hj]; exact hmk
          clear hlt hj hmk
          have hlD : D < W'.heap.size := (Array.getElem?_eq_some_iff.1 hKD).1
          have HG5 := Lib.hid (HG.out.more hbx)
          have HTp5 := Lib.hid (HTp.out.bel hbx)
          have HCl5 := Lib.hid (cell_bel HCl.out hbx)
          have cm5 := HG5.out.cm
          have cw5 := HG5.out.cw
          obtain ⟨a5, c5, hvw5⟩ := HG5.out.aw.form
          first | subst hvw5 | (simp only [Value.slice.injEq, true_and] at hvw5; obtain ⟨rfl, rfl⟩ := hvw5)
          have HS5 := Lib.hid (show w3.heap.size + 1 < W'.heap.size ∧ w3.heap.size + 2 ≤ D ∧ Bb < W'.heap.size from ⟨lt_of_cell hn, by have := HsU.out; omega, Nat.lt_of_lt_of_le HBb.out hbx.size⟩)
          have HK5 := Lib.hid hKD
          clear hbx hKD
          go_wp2
          rw [rounds_succ]
          go_wp2
          have t6 := cell_al (cell_new W' #[.int .i64 1] 3 0) (.cells #[.int .i64 0] 3)
          have n6 := cell_two W' (.cells #[.int .i64 1] 3) #[.int .i64 0] 3 0
          have nf6 := froz_two W' (.cells #[.int .i64 1] 3) #[.int .i64 0] 3 0
          have hbU6 : Below W'.heap.size W' ((W'.alloc (.cells #[.int .i64 1] 3)).alloc (.cells #[.int .i64 0] 3)) := belA (bel1 _) _
          have HsU6 := Lib.hid (show ((W'.alloc (.cells #[.int .i64 1] 3)).alloc (.cells #[.int .i64 0] 3)).heap.size = W'.heap.size + 2 by simp)
          have HGk := HG
          have HG := HG5
          clear hn ht hmn
          generalize (W'.alloc (.cells #[.int .i64 1] 3)).alloc (.cells #[.int .i64 0] 3) = U6 at t6 n6 nf6 hbU6 HsU6 ⊢
          refine (wpIn_wide (n := 20)).1 ?_
          refine wpIn_rangeT rfl (by omega) (gf := 39) (lb := #[.pointer (some ⟨Bo, 0, none⟩)]) (by simp [go_sem]) trivial (enters_of Tryz.func39 (by kernel_rfl) rfl)
            (all_in (20 - 1) Bo Bb (by omega) vl K (by have := HKl.out; omega)) (fun W2 hb => ⟨cell_bel HCl5.out (belT hbU6 hb), HTp5.out.bel (belT hbU6 hb), Nat.lt_of_lt_of_le HS5.out.2.2 (belT hbU6 hb).size⟩) (fun _ => rfl)
            (fun k => k = W'.heap.size + 1) (fun k h => ⟨by have := HsU6.out; omega, fun h' => by have h1 := HS5.out.2.2; have h2 := lt_of_cell HCl5.out; omega⟩) (fun k h => by have := HsU6.out; have h1 := HS5.out.2.2; have h2 := lt_of_cell HCl5.out; omega) (fun k h => h.elim)
            (fun pre Wr => Below W'.heap.size W' Wr ∧ Wr.cell? ⟨W'.heap.size, 0, none⟩ = some (.int .i64 1) ∧ Wr.cell? ⟨W'.heap.size + 1, 0, none⟩ = some (.int .i64 (pre.length : Nat)) ∧ Wr.frozen? ⟨W'.heap.size + 1, 0, none⟩ = false ∧ True)
            (fun _ _ _ => False) ?hI2 ?hIx2 ?hs2 ?hround2 ?hdone2 ?hstop2
          case hI2 =>
            rintro s A B' ⟨ha, h1, h2, h3, h4⟩ hb
            have hb' := hb.below (fun _ _ h => h)
            have := HsU6.out
            exact ⟨ha.trans (hb'.mono (by omega)), cell_belB h1 hb' (by omega), cell_belB h2 hb' (by omega), froz_belB h3 hb' (by omega), h4⟩
          case hIx2 => exact fun _ _ _ _ h _ => h
          case hs2 => exact ⟨hbU6, t6, n6, nf6, trivial⟩
          case hround2 =>
            rintro l2 pre x W2 ⟨hbx, ht, hn, hnf, hlt⟩ hsz2 hlen hsp
            have hs2 := HsU6.out
            gi_wp2
            refine ⟨Touch.below (bel1 _), fun W3 hb3 ht3 => ?_⟩
            obtain ⟨p, xi⟩ := x
            obtain ⟨jj, hj2, hj3⟩ := hsp
            obtain ⟨hj4, hx1, hat⟩ := ixP_last hj2 hj3
            dsimp only at hx1 hat
            subst hx1
            have hbz : Below (W'.heap.size + 2) W2 W3 := ((bel1 (W := W2) (.cells #[.int .i64 p.a, .int .i64 p.b, .int .i64 p.c, .int .i64 p.d] 32)).mono (by omega)).trans (hb3.mono (by omega))
            have hb03 := hbx.trans (hbz.mono (by omega))
            have ht := cell_belB ht hbz (by omega)
            have hn := cell_belB hn hbz (by omega)
            have hnf := froz_belB hnf hbz (by omega)
            have p0 := cell_touch (cell_new W2 #[.int .i64 p.a, .int .i64 p.b, .int .i64 p.c, .int .i64 p.d] 32 0) ht3 (by omega)
            have p1 := cell_touch (cell_new W2 #[.int .i64 p.a, .int .i64 p.b, .int .i64 p.c, .int .i64 p.d] 32 1) ht3 (by omega)
            have p2 := cell_touch (cell_new W2 #[.int .i64 p.a, .int .i64 p.b, .int .i64 p.c, .int .i64 p.d] 32 2) ht3 (by omega)
            have p3 := cell_touch (cell_new W2 #[.int .i64 p.a, .int .i64 p.b, .int .i64 p.c, .int .i64 p.d] 32 3) ht3 (by omega)
            have HGr := Lib.hid (HG.out.more hb03)
            obtain ⟨bw, ow, cw9, hvw, -, y0, y1, y2, y3⟩ := pair_at HGr.out.aw hat
            first | subst hvw | (simp only [Value.slice.injEq, true_and] at hvw; obtain ⟨rfl, rfl⟩ := hvw)
            have cw := HGr.out.cw
            have hne : ∀ w, (binOp .neq 32 (.agg #[.int .i64 p.a, .int .i64 p.b, .int .i64 p.c, .int .i64 p.d]) (.agg #[.int .i64 p.a, .int .i64 p.b, .int .i64 p.c, .int .i64 p.d])).run Tryz.prog w = .ok (.bool false) w := fun w => pair_ne p w
            have hq : pre.length < K.length := (List.getElem?_eq_some_iff.1 hat).1
            have q0 : (0 : Int) ≤ (pre.length : Int) := by omega
            have q1 : (pre.length : Int) < (K.length : Int) := by omega
            have q2 : ¬ (K.length : Int) ≤ (pre.length : Int) := by omega
            have q3 : decide (K.length ≤ pre.length) = false := decide_eq_false (by omega)
            have q4 : (pre.length : Int) ≤ 30 := by have := HKl.out; omega
            clear hat hj2 hj3 hj4 hbz ht3 hb3 hs2 hbx
            gi_wp2
            refine region_round_quiet l2 (by kernel_rfl) (by kernel_rfl) (by kernel_rfl) ?_
            repeat (gi_big_quiet_step (fail))
            refine wpQuietIn_nil ?_
            intro _ hw'
            obtain ⟨nq, hw''⟩ := hw'
            subst hw''
            have hbD := bel_drewN W3 nq
            have ht := cell_bel ht hbD
            have hnf := froz_bel hn hnf hbD
            have hn := cell_bel hn hbD
            have hbW : Below W'.heap.size W' (W3.drewN nq) := hb03.trans (hbD.mono hb03.size)
            have cmD := cell_bel HGr.out.cm hbD
            clear cw y0 y1 y2 y3 p0 p1 p2 p3 q2 q3
            have hset := hbW.setCell (p := ⟨W'.heap.size + 1, 0, none⟩) (by simp) (.int .i64 ((pre.length : Int) + 1))
            have hcs : ((W3.drewN nq).setCell ⟨W'.heap.size + 1, 0, none⟩ (.int .i64 ((pre.length : Int) + 1))).cell? ⟨W'.heap.size + 1, 0, none⟩ = some (.int .i64 ((pre ++ [(p, pre.length)]).length : Nat)) := by
              rw [World.cell?_setCell_same _ _ _ hn, List.length_append]
              rfl
            have hts := (World.cell?_setCell_other (W3.drewN nq) ⟨W'.heap.size + 1, 0, none⟩ ⟨W'.heap.size, 0, none⟩ (.int .i64 ((pre.length : Int) + 1)) (by simp)).trans ht
            have hms := (World.cell?_setCell_other (W3.drewN nq) ⟨W'.heap.size + 1, 0, none⟩ ⟨w.heap.size, 0, none⟩ (.int .i64 ((pre.length : Int) + 1)) (by first | (have h8 := HZw.out; intro he; have he := congrArg Addr.block he; dsimp only at he; omega) | (have h8 := HZw.out; have h9 := HS5.out; intro he; have he := congrArg Addr.block he; dsimp only at he; omega))).trans cmD
            have htc := (Touch.below (T := fun k => k = W'.heap.size + 1) hbD).trans (Touch.setCell (W3.drewN nq) ⟨W'.heap.size + 1, 0, none⟩ (.int .i64 ((pre.length : Int) + 1)) rfl)
            have hlp : ((pre ++ [(p, pre.length)]).length : Int) = pre.length + 1 := by simp
            have hlpre := Lib.hid hlp
            clear hlp
            gi_wp2
            have hfz : ((W3.drewN nq).setCell ⟨W'.heap.size + 1, 0, none⟩ (.int .i64 ((pre.length : Int) + 1))).frozen? ⟨W'.heap.size + 1, 0, none⟩ = false := by rw [World.frozen?_setCell]; exact hnf
            first | exact ⟨htc, hset, hts, hcs, hfz⟩ | exact ⟨htc, hset, hts, hcs, hfz, trivial⟩
          case hstop2 => exact fun _ _ _ _ _ _ h _ => h.elim
          case hdone2 =>
            rintro D2 xs W7 hD2 rfl ⟨hbx, ht, hn, hnf, hlt⟩ hKD2
            rw [ixP_length] at hn
            have HG7 := Lib.hid (HG5.out.more hbx)
            have cw7 := HG7.out.cw
            have HK7 := Lib.hid ((hbx.block D hlD).trans HK5.out)
            have HKD := Lib.hid hKD2
            have hz7 := Lib.hid (show W'.heap.size ≤ W7.heap.size from hbx.size)
            clear hbx hKD2 t6 n6 nf6 hbU6
            go_wp2
            rw [rounds_succ]
            have hbT := bel1 (W := W7) (.cells #[.int .i64 2] 3)
            have r7 := cell_bel HG7.out.cr hbT
            have rf7 := froz_bel HG7.out.cr HG7.out.fr hbT
            have hB7 := belT HG7.out.bel hbT
            have HKa := Lib.hid ((hbT.block D (Array.getElem?_eq_some_iff.1 HK7.out).1).trans HK7.out)
            have HKb := Lib.hid ((hbT.block D2 (Array.getElem?_eq_some_iff.1 HKD.out).1).trans HKD.out)
            have t8 := cell_new W7 #[.int .i64 2] 3 0
            clear hbT cw7 hn ht hnf hlt
            generalize W7.alloc _ = W8 at t8 r7 rf7 hB7 HKa HKb ⊢
            go_wp2_with (go_at_call 5; refine (works_any _ (HE.out.on hB7)).mono ?_; rintro e w8 ⟨rfl, hb8⟩; have r8 := cell_bel r7 hb8; have rf8 := froz_bel r7 rf7 hb8; have hB8 := belT hB7 hb8)
            have hz8 := hz7.out
            have hsw : w.heap.size + 1 < D := by have := HZw.out; have := HS5.out; omega
            have hDD : D < D2 := by have := HsU6.out; omega
            have hKa := (hb8.block D (Array.getElem?_eq_some_iff.1 HKa.out).1).trans HKa.out
            have hKb := (hb8.block D2 (Array.getElem?_eq_some_iff.1 HKb.out).1).trans HKb.out
            have hB9 := hB8.setCell (p := ⟨w.heap.size + 1, 0, none⟩) (by simp) (.bool true)
            have hKc := (Below.heap_setCell w8 ⟨w.heap.size + 1, 0, none⟩ (.bool true) D (by simp; omega)).trans hKa
            have hKd := (Below.heap_setCell w8 ⟨w.heap.size + 1, 0, none⟩ (.bool true) D2 (by simp; omega)).trans hKb
            have c9 : (w8.setCell ⟨w.heap.size + 1, 0, none⟩ (.bool true)).cell? ⟨w.heap.size + 1, 0, none⟩ = some (.bool true) := World.cell?_setCell_same _ _ _ r8
            have hKe := (World.putObj_heap_other (o := .deferred none) (w := w8.setCell ⟨w.heap.size + 1, 0, none⟩ (.bool true)) (r := D2) (k := D) (by omega)).trans hKc
            have hc6 := cell_kept c9 (grownBy_putObj' _ D2 (.deferred none)) (fun r e => by cases e; exact ⟨_, hKd, rfl⟩)
            have hc7 := cell_kept hc6 (grownBy_putObj' _ D (.deferred none)) (fun r e => by cases e; exact ⟨_, hKe, rfl⟩)
            refine ⟨by simp, .inl ⟨_, _, rfl, run_takeDeferred hKd, ?_⟩⟩
            refine ⟨by simp, .inl ⟨_, _, rfl, run_takeDeferred hKe, ?_⟩⟩
            have hBa := hB9.trans (below_put _ D2 (.deferred none) (by omega) hB9.size)
            exact ⟨.bool true, by simp [results, Tryz.results3, go_sem, hc7], rfl, hBa.trans (below_put _ D (.deferred none) (by omega) hBa.size)⟩
        case hstop =>
          rintro D c pre W' hD ⟨j, hj1, rfl⟩ ⟨rfl, hbx, ht, hn, hm1, hm2⟩ hKD
          rw [ixP_pre hj1] at hn hm1 hm2
          have hmn : min (K.length : Int) (max 1 many) = ((j + 1 : Nat) : Int) := by omega
          clear hm1 hm2 hj1
          have hlD : D < W'.heap.size := (Array.getElem?_eq_some_iff.1 hKD).1
          have HG5 := Lib.hid (HG.out.more hbx)
          have HTp5 := Lib.hid (HTp.out.bel hbx)
          have HCl5 := Lib.hid (cell_bel HCl.out hbx)
          have cm5 := HG5.out.cm
          have cw5 := HG5.out.cw
          obtain ⟨a5, c5, hvw5⟩ := HG5.out.aw.form
          first | subst hvw5 | (simp only [Value.slice.injEq, true_and] at hvw5; obtain ⟨rfl, rfl⟩ := hvw5)
          have HS5 := Lib.hid (show w3.heap.size + 1 < W'.heap.size ∧ w3.heap.size + 2 ≤ D ∧ Bb < W'.heap.size from ⟨lt_of_cell hn, by have := HsU.out; omega, Nat.lt_of_lt_of_le HBb.out hbx.size⟩)
          have HK5 := Lib.hid hKD
          clear hbx hKD
          refine wpIn_wide.2 ?_
          go_wp2
          rw [rounds_succ]
          go_wp2
          have t6 := cell_al (cell_new W' #[.int .i64 1] 3 0) (.cells #[.int .i64 0] 3)
          have n6 := cell_two W' (.cells #[.int .i64 1] 3) #[.int .i64 0] 3 0
          have nf6 := froz_two W' (.cells #[.int .i64 1] 3) #[.int .i64 0] 3 0
          have hbU6 : Below W'.heap.size W' ((W'.alloc (.cells #[.int .i64 1] 3)).alloc (.cells #[.int .i64 0] 3)) := belA (bel1 _) _
          have HsU6 := Lib.hid (show ((W'.alloc (.cells #[.int .i64 1] 3)).alloc (.cells #[.int .i64 0] 3)).heap.size = W'.heap.size + 2 by simp)
          have HGk := HG
          have HG := HG5
          clear hn ht hmn
          generalize (W'.alloc (.cells #[.int .i64 1] 3)).alloc (.cells #[.int .i64 0] 3) = U6 at t6 n6 nf6 hbU6 HsU6 ⊢
          refine (wpIn_wide (n := 20)).1 ?_
          refine wpIn_rangeT rfl (by omega) (gf := 39) (lb := #[.pointer (some ⟨Bo, 0, none⟩)]) (by simp [go_sem]) trivial (enters_of Tryz.func39 (by kernel_rfl) rfl)
            (all_in (20 - 1) Bo Bb (by omega) vl K (by have := HKl.out; omega)) (fun W2 hb => ⟨cell_bel HCl5.out (belT hbU6 hb), HTp5.out.bel (belT hbU6 hb), Nat.lt_of_lt_of_le HS5.out.2.2 (belT hbU6 hb).size⟩) (fun _ => rfl)
            (fun k => k = W'.heap.size + 1) (fun k h => ⟨by have := HsU6.out; omega, fun h' => by have h1 := HS5.out.2.2; have h2 := lt_of_cell HCl5.out; omega⟩) (fun k h => by have := HsU6.out; have h1 := HS5.out.2.2; have h2 := lt_of_cell HCl5.out; omega) (fun k h => h.elim)
            (fun pre Wr => Below W'.heap.size W' Wr ∧ Wr.cell? ⟨W'.heap.size, 0, none⟩ = some (.int .i64 1) ∧ Wr.cell? ⟨W'.heap.size + 1, 0, none⟩ = some (.int .i64 (pre.length : Nat)) ∧ Wr.frozen? ⟨W'.heap.size + 1, 0, none⟩ = false ∧ True)
            (fun _ _ _ => False) ?hI2 ?hIx2 ?hs2 ?hround2 ?hdone2 ?hstop2
          case hI2 =>
            rintro s A B' ⟨ha, h1, h2, h3, h4⟩ hb
            have hb' := hb.below (fun _ _ h => h)
            have := HsU6.out
            exact ⟨ha.trans (hb'.mono (by omega)), cell_belB h1 hb' (by omega), cell_belB h2 hb' (by omega), froz_belB h3 hb' (by omega), h4⟩
          case hIx2 => exact fun _ _ _ _ h _ => h
          case hs2 => exact ⟨hbU6, t6, n6, nf6, trivial⟩
          case hround2 =>
            rintro l2 pre x W2 ⟨hbx, ht, hn, hnf, hlt⟩ hsz2 hlen hsp
            have hs2 := HsU6.out
            gi_wp2
            refine ⟨Touch.below (bel1 _), fun W3 hb3 ht3 => ?_⟩
            obtain ⟨p, xi⟩ := x
            obtain ⟨jj, hj2, hj3⟩ := hsp
            obtain ⟨hj4, hx1, hat⟩ := ixP_last hj2 hj3
            dsimp only at hx1 hat
            subst hx1
            have hbz : Below (W'.heap.size + 2) W2 W3 := ((bel1 (W := W2) (.cells #[.int .i64 p.a, .int .i64 p.b, .int .i64 p.c, .int .i64 p.d] 32)).mono (by omega)).trans (hb3.mono (by omega))
            have hb03 := hbx.trans (hbz.mono (by omega))
            have ht := cell_belB ht hbz (by omega)
            have hn := cell_belB hn hbz (by omega)
            have hnf := froz_belB hnf hbz (by omega)
            have p0 := cell_touch (cell_new W2 #[.int .i64 p.a, .int .i64 p.b, .int .i64 p.c, .int .i64 p.d] 32 0) ht3 (by omega)
            have p1 := cell_touch (cell_new W2 #[.int .i64 p.a, .int .i64 p.b, .int .i64 p.c, .int .i64 p.d] 32 1) ht3 (by omega)
            have p2 := cell_touch (cell_new W2 #[.int .i64 p.a, .int .i64 p.b, .int .i64 p.c, .int .i64 p.d] 32 2) ht3 (by omega)
            have p3 := cell_touch (cell_new W2 #[.int .i64 p.a, .int .i64 p.b, .int .i64 p.c, .int .i64 p.d] 32 3) ht3 (by omega)
            have HGr := Lib.hid (HG.out.more hb03)
            obtain ⟨bw, ow, cw9, hvw, -, y0, y1, y2, y3⟩ := pair_at HGr.out.aw hat
            first | subst hvw | (simp only [Value.slice.injEq, true_and] at hvw; obtain ⟨rfl, rfl⟩ := hvw)
            have cw := HGr.out.cw
            have hne : ∀ w, (binOp .neq 32 (.agg #[.int .i64 p.a, .int .i64 p.b, .int .i64 p.c, .int .i64 p.d]) (.agg #[.int .i64 p.a, .int .i64 p.b, .int .i64 p.c, .int .i64 p.d])).run Tryz.prog w = .ok (.bool false) w := fun w => pair_ne p w
            have hq : pre.length < K.length := (List.getElem?_eq_some_iff.1 hat).1
            have q0 : (0 : Int) ≤ (pre.length : Int) := by omega
            have q1 : (pre.length : Int) < (K.length : Int) := by omega
            have q2 : ¬ (K.length : Int) ≤ (pre.length : Int) := by omega
            have q3 : decide (K.length ≤ pre.length) = false := decide_eq_false (by omega)
            have q4 : (pre.length : Int) ≤ 30 := by have := HKl.out; omega
            clear hat hj2 hj3 hj4 hbz ht3 hb3 hs2 hbx
            gi_wp2
            refine region_round_quiet l2 (by kernel_rfl) (by kernel_rfl) (by kernel_rfl) ?_
            repeat (gi_big_quiet_step (fail))
            refine wpQuietIn_nil ?_
            intro _ hw'
            obtain ⟨nq, hw''⟩ := hw'
            subst hw''
            have hbD := bel_drewN W3 nq
            have ht := cell_bel ht hbD
            have hnf := froz_bel hn hnf hbD
            have hn := cell_bel hn hbD
            have hbW : Below W'.heap.size W' (W3.drewN nq) := hb03.trans (hbD.mono hb03.size)
            have cmD := cell_bel HGr.out.cm hbD
            clear cw y0 y1 y2 y3 p0 p1 p2 p3 q2 q3
            have hset := hbW.setCell (p := ⟨W'.heap.size + 1, 0, none⟩) (by simp) (.int .i64 ((pre.length : Int) + 1))
            have hcs : ((W3.drewN nq).setCell ⟨W'.heap.size + 1, 0, none⟩ (.int .i64 ((pre.length : Int) + 1))).cell? ⟨W'.heap.size + 1, 0, none⟩ = some (.int .i64 ((pre ++ [(p, pre.length)]).length : Nat)) := by
              rw [World.cell?_setCell_same _ _ _ hn, List.length_append]
              rfl
            have hts := (World.cell?_setCell_other (W3.drewN nq) ⟨W'.heap.size + 1, 0, none⟩ ⟨W'.heap.size, 0, none⟩ (.int .i64 ((pre.length : Int) + 1)) (by simp)).trans ht
            have hms := (World.cell?_setCell_other (W3.drewN nq) ⟨W'.heap.size + 1, 0, none⟩ ⟨w.heap.size, 0, none⟩ (.int .i64 ((pre.length : Int) + 1)) (by first | (have h8 := HZw.out; intro he; have he := congrArg Addr.block he; dsimp only at he; omega) | (have h8 := HZw.out; have h9 := HS5.out; intro he; have he := congrArg Addr.block he; dsimp only at he; omega))).trans cmD
            have htc := (Touch.below (T := fun k => k = W'.heap.size + 1) hbD).trans (Touch.setCell (W3.drewN nq) ⟨W'.heap.size + 1, 0, none⟩ (.int .i64 ((pre.length : Int) + 1)) rfl)
            have hlp : ((pre ++ [(p, pre.length)]).length : Int) = pre.length + 1 := by simp
            have hlpre := Lib.hid hlp
            clear hlp
            gi_wp2
            have hfz : ((W3.drewN nq).setCell ⟨W'.heap.size + 1, 0, none⟩ (.int .i64 ((pre.length : Int) + 1))).frozen? ⟨W'.heap.size + 1, 0, none⟩ = false := by rw [World.frozen?_setCell]; exact hnf
            first | exact ⟨htc, hset, hts, hcs, hfz⟩ | exact ⟨htc, hset, hts, hcs, hfz, trivial⟩
          case hstop2 => exact fun _ _ _ _ _ _ h _ => h.elim
          case hdone2 =>
            rintro D2 xs W7 hD2 rfl ⟨hbx, ht, hn, hnf, hlt⟩ hKD2
            rw [ixP_length] at hn
            have HG7 := Lib.hid (HG5.out.more hbx)
            have cw7 := HG7.out.cw
            have HK7 := Lib.hid ((hbx.block D hlD).trans HK5.out)
            have HKD := Lib.hid hKD2
            have hz7 := Lib.hid (show W'.heap.size ≤ W7.heap.size from hbx.size)
            clear hbx hKD2 t6 n6 nf6 hbU6
            go_wp2
            rw [rounds_succ]
            have hbT := bel1 (W := W7) (.cells #[.int .i64 2] 3)
            have r7 := cell_bel HG7.out.cr hbT
            have rf7 := froz_bel HG7.out.cr HG7.out.fr hbT
            have hB7 := belT HG7.out.bel hbT
            have HKa := Lib.hid ((hbT.block D (Array.getElem?_eq_some_iff.1 HK7.out).1).trans HK7.out)
            have HKb := Lib.hid ((hbT.block D2 (Array.getElem?_eq_some_iff.1 HKD.out).1).trans HKD.out)
            have t8 := cell_new W7 #[.int .i64 2] 3 0
            clear hbT cw7 hn ht hnf hlt
            generalize W7.alloc _ = W8 at t8 r7 rf7 hB7 HKa HKb ⊢
            go_wp2_with (go_at_call 5; refine (works_any _ (HE.out.on hB7)).mono ?_; rintro e w8 ⟨rfl, hb8⟩; have r8 := cell_bel r7 hb8; have rf8 := froz_bel r7 rf7 hb8; have hB8 := belT hB7 hb8)
            have hz8 := hz7.out
            have hsw : w.heap.size + 1 < D := by have := HZw.out; have := HS5.out; omega
            have hDD : D < D2 := by have := HsU6.out; omega
            have hKa := (hb8.block D (Array.getElem?_eq_some_iff.1 HKa.out).1).trans HKa.out
            have hKb := (hb8.block D2 (Array.getElem?_eq_some_iff.1 HKb.out).1).trans HKb.out
            have hB9 := hB8.setCell (p := ⟨w.heap.size + 1, 0, none⟩) (by simp) (.bool true)
            have hKc := (Below.heap_setCell w8 ⟨w.heap.size + 1, 0, none⟩ (.bool true) D (by simp; omega)).trans hKa
            have hKd := (Below.heap_setCell w8 ⟨w.heap.size + 1, 0, none⟩ (.bool true) D2 (by simp; omega)).trans hKb
            have c9 : (w8.setCell ⟨w.heap.size + 1, 0, none⟩ (.bool true)).cell? ⟨w.heap.size + 1, 0, none⟩ = some (.bool true) := World.cell?_setCell_same _ _ _ r8
            have hKe := (World.putObj_heap_other (o := .deferred none) (w := w8.setCell ⟨w.heap.size + 1, 0, none⟩ (.bool true)) (r := D2) (k := D) (by omega)).trans hKc
            have hc6 := cell_kept c9 (grownBy_putObj' _ D2 (.deferred none)) (fun r e => by cases e; exact ⟨_, hKd, rfl⟩)
            have hc7 := cell_kept hc6 (grownBy_putObj' _ D (.deferred none)) (fun r e => by cases e; exact ⟨_, hKe, rfl⟩)
            refine ⟨by simp, .inl ⟨_, _, rfl, run_takeDeferred hKd, ?_⟩⟩
            refine ⟨by simp, .inl ⟨_, _, rfl, run_takeDeferred hKe, ?_⟩⟩
            have hBa := hB9.trans (below_put _ D2 (.deferred none) (by omega) hB9.size)
            exact ⟨.bool true, by simp [results, Tryz.results3, go_sem, hc7], rfl, hBa.trans (below_put _ D (.deferred none) (by omega) hBa.size)⟩
end Go.Proofs.YtnefpiohmokkiaaGreatDoor
