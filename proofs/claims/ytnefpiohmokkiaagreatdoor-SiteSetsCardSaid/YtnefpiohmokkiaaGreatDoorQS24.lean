/- Joined texts: The reference of layer 7: Add. -/
import Derived.Test.YtnefpiohmokkiaaGreatDoorQS17
/- The reference of layer 7: Add. -/
namespace Go.Proofs.YtnefpiohmokkiaaGreatDoor
set_option linter.unusedVariables false
set_option linter.unusedSimpArgs false
open Go Go.Proofs Go.RowKit Go.Sort

theorem step_append_runP {t : TypeId} {v u v' : Value} {w w' : World} {ops : Array Oper} {o : Oper} {a : Act} {K : Act → World → Prop} {Q : Exit → Act → World → Prop} {E : Prop} (hgd : o.guard = none) (s x : Operand)
    (ho : o.op = .call { callee := .builtin .append, args := #[s, x], argTypes := #[t, t] })
    (hs : a.eval s = v) (hx : a.eval x = u) (hr : (Builtin.append_ #[t, t] o.type #[v, u]).run Tryz.prog w = .ok v' w') (h : K (a.put o.dst v') w') : if Region.wanted o (yielded ops a.tmps) = true then Oper.wp Tryz.prog o a w K Q else E := by
  have hw : Region.wanted o (yielded ops a.tmps) = true := by simp [Region.wanted, hgd]
  rw [if_pos hw]
  unfold Oper.wp
  simp [execOp, ho, resolve, invoke, builtin, hs, hx, hr, Result.andThen]
  exact h
theorem arg_one {w : World} {g : Nat} {p : PaM} (h : ∀ j u, (encPa p)[j]? = some u → w.cell? ⟨g, j, none⟩ = some u) : ArgW 4 encPa w (.slice (some ⟨g, 0, none⟩) 1 1) [p] :=
  Or.inr ⟨⟨g, 0, none⟩, 1, rfl, by simp, by omega, fun _ => ⟨g, 0, rfl, fun k j x u hk hj => by
    match k, hk with
    | 0, hk =>
      simp only [List.getElem?_cons_zero, Option.some.injEq] at hk
      subst hk
      simpa using h j u hj
    | k + 1, hk => simp at hk⟩⟩
theorem own_ne {V W : World} {b : Obj} (h : V.alloc b = W) (hh : some W.heap.size = some V.heap.size) : False := by
  have h9 : W.heap.size = V.heap.size + 1 := by rw [← h]; simp
  injection hh
  omega
theorem own_ne' {V W : World} {b : Obj} (h : V.alloc b = W) (hh : some V.heap.size = some W.heap.size) : False := own_ne h hh.symm
theorem cell_below {B b o : Nat} {v : Value} {w w' : World} (hb : Below B w w') (hlt : b < B) (h : w.cell? ⟨b, o, none⟩ = some v) : w'.cell? ⟨b, o, none⟩ = some v := (hb.cell (p := ⟨b, o, none⟩) hlt).trans h
theorem atP_of {K : List PaM} {p : PaM} {k : Nat} (hk : k ≤ K.length) (h1 : ∀ q ∈ K.take k, ltP q p = true) (h2 : ∀ q, K[k]? = some q → ltP q p = false) : atP K p = k := by
  unfold atP
  have h3 : K = K.take k ++ K.drop k := (List.take_append_drop k K).symm
  rw [h3, List.takeWhile_append_of_pos h1]
  have h4 : (K.drop k).takeWhile (fun q => ltP q p) = [] := by
    cases hd : K.drop k with
    | nil => rfl
    | cons q r =>
      have hq : K[k]? = some q := by
        have := congrArg (fun l : List PaM => l[0]?) hd
        simpa [List.getElem?_drop] using this
      rw [List.takeWhile_cons, h2 q hq]
      rfl
  rw [h4, List.append_nil, List.length_take]
  omega

set_option maxRecDepth 100000 in
set_option maxHeartbeats 4000000 in
theorem sAdd_any (K : List PaM) (hK : K.length ≤ 1000) (p : PaM) (v : Value) (w : World) (h : ArgW 4 encPa w v K) :
    Calls Tryz.prog 12 #[v, p.v] w fun e w' => ∃ v', e = .returned v' ∧ ArgW 4 encPa w' v' (insP K p) ∧ (∀ k, v'.ownBlock = some k → v.ownBlock = some k ∨ w.heap.size ≤ k) ∧ Below w.heap.size w w' := by
  obtain ⟨ak, ck, rfl⟩ := h.form
  have CH := Lib.hid fun W h => sHas_any K (by omega) p (.slice ak K.length ck) W h
  have k0 := cell_new w #[.int .i64 p.a, .int .i64 p.b, .int .i64 p.c, .int .i64 p.d] 32 0
  have k1 := cell_new w #[.int .i64 p.a, .int .i64 p.b, .int .i64 p.c, .int .i64 p.d] 32 1
  have k2 := cell_new w #[.int .i64 p.a, .int .i64 p.b, .int .i64 p.c, .int .i64 p.d] 32 2
  have k3 := cell_new w #[.int .i64 p.a, .int .i64 p.b, .int .i64 p.c, .int .i64 p.d] 32 3
  have hb1 := bel1 (W := w) (.cells #[.int .i64 p.a, .int .i64 p.b, .int .i64 p.c, .int .i64 p.d] 32)
  have HB := Lib.hid hb1
  have HKa := Lib.hid (h.bel hb1)
  have HKl := Lib.hid hK
  clear h hb1
  by_cases hp : p ∈ K
  · have HI := Lib.hid (show insP K p = K by unfold insP; rw [if_pos hp])
    rw [decide_eq_true hp] at CH
    clear hp
    go_enter Tryz.func12, Tryz.ntmps12
    go_wp2_with fail
    generalize w.alloc _ = V at HB HKa k0 k1 k2 k3 ⊢
    refine (CH.out V HKa.out).mono ?_
    rintro e w1 ⟨rfl, hb1⟩
    go_wp2_with fail
    go_ret
    exact ⟨_, rfl, by rw [HI.out]; exact HKa.out.bel hb1, fun k hk => Or.inl hk, belT HB.out hb1⟩
  · have HI := Lib.hid (show ∀ k, atP K p = k → insP K p = K.take k ++ [p] ++ K.drop k from fun k hk => by unfold insP; rw [if_neg hp, hk])
    rw [decide_eq_false hp] at CH
    clear hp
    go_enter Tryz.func12, Tryz.ntmps12
    go_wp2_with fail
    generalize w.alloc _ = V at HB HKa k0 k1 k2 k3 ⊢
    refine (CH.out V HKa.out).mono ?_
    rintro e w1 ⟨rfl, hb1⟩
    have HB1 := Lib.hid (belT HB.out hb1)
    have HKa := Lib.hid (HKa.out.bel hb1)
    have HC := Lib.hid (And.intro (cell_bel k0 hb1) (And.intro (cell_bel k1 hb1) (And.intro (cell_bel k2 hb1) (cell_bel k3 hb1))))
    clear hb1 k0 k1 k2 k3 HB CH
    go_wp2_with fail
    go_loopw [5] (fun va wr => ∃ k : Nat, va = .int .i64 k ∧ k ≤ K.length ∧ Hid (∀ q ∈ K.take k, ltP q p = true) ∧ Hid (Below w1.heap.size w1 wr)) (fun va _ => K.length - (intOf va).toNat)
    case atStart => exact ⟨0, rfl, by omega, Lib.hid (by simp), Lib.hid (Below.refl _ _)⟩
    case round =>
      obtain ⟨k, rfl, hk, HN, HBr⟩ := hrel
      obtain ⟨k0, k1, k2, k3⟩ := HC.out
      have k0 := cell_regrown (cell_bel k0 HBr.out)
      have k1 := cell_regrown (cell_bel k1 HBr.out)
      have k2 := cell_regrown (cell_bel k2 HBr.out)
      have k3 := cell_regrown (cell_bel k3 HBr.out)
      by_cases hlt : k < K.length
      · obtain ⟨q, hq⟩ : ∃ q, K[k]? = some q := ⟨K[k], List.getElem?_eq_getElem hlt⟩
        obtain ⟨b, o, c', hv, -, x0, x1, x2, x3⟩ := pair_at (HKa.out.bel HBr.out) hq
        simp only [Value.slice.injEq, true_and] at hv
        obtain ⟨rfl, rfl⟩ := hv
        have x0 := cell_regrown x0
        have x1 := cell_regrown x1
        have x2 := cell_regrown x2
        have x3 := cell_regrown x3
        have C1 := Lib.hid fun (d' : Nat) os => Calls.regrown_of (sOrder_any q.a q.b p.a p.b (grow (redrawn wr d') os))
        have C2 := Lib.hid fun (d' : Nat) os => Calls.regrown_of (sOrder_any q.c q.d p.c p.d (grow (redrawn wr d') os))
        have hqe := site_eq q.a q.b p.a p.b
        have HLT := Lib.hid (show ltP q p = (decide (ordF q.a q.b p.a p.b < 0) || ((decide (q.a = p.a) && decide (q.b = p.b)) && decide (ordF q.c q.d p.c p.d < 0))) from rfl)
        have HNx := Lib.hid (show ltP q p = true → ∀ q' ∈ K.take (k + 1), ltP q' p = true from fun hl q' hq' => by
          obtain ⟨h1, h2⟩ := List.getElem?_eq_some_iff.1 hq
          rw [← List.take_append_getElem h1, List.mem_append, h2] at hq'
          rcases hq' with hq' | hq'
          · exact HN.out q' hq'
          · rw [List.mem_singleton.1 hq']; exact hl)
        have HAt := Lib.hid (show ltP q p = false → atP K p = k from fun hl => atP_of (Nat.le_of_lt hlt) HN.out (fun q' hq' => by rw [hq] at hq'; cases hq'; exact hl))
        have e0 : decide ((k : Int) < (K.length : Int)) = true := decide_eq_true (by omega)
        generalize ordF q.a q.b p.a p.b = o1 at C1 HLT
        generalize ordF q.c q.d p.c p.d = o2 at C2 HLT
        generalize (decide (q.a = p.a) && decide (q.b = p.b)) = be at hqe HLT
        clear hq
        by_cases h1 : o1 < 0
        · have e1 : decide (o1 < 0) = true := decide_eq_true h1
          have HLy := Lib.hid (show ltP q p = true by rw [HLT.out, e1]; rfl)
          clear h1
          go_wp2_with fail
          refine wp_region_quiet_below (by kernel_rfl) (by kernel_rfl) ?_
          repeat (go_big_quiet_step (first | with_reducible exact C1.out _ _ | with_reducible exact C2.out _ _))
          refine wpQuiet_nil ?_
          intro _ hw'
          obtain ⟨⟨dq, osq⟩, hw''⟩ := hw'
          subst hw''
          have HBq := Lib.hid (HBr.out.trans ((below_regrown wr dq osq).mono HBr.out.size))
          clear x0 x1 x2 x3 k0 k1 k2 k3 C1 C2
          go_wp2_with fail
          exact ⟨⟨k + 1, by go_num, by omega, Lib.hid (HNx.out HLy.out), HBq⟩, by simp [intOf]; omega⟩
        · have e1 : decide (o1 < 0) = false := decide_eq_false h1
          clear h1
          cases be with
          | false =>
            have HAk := Lib.hid (HAt.out (by rw [HLT.out, e1]; rfl))
            go_wp2_with fail
            refine wp_region_quiet_below (by kernel_rfl) (by kernel_rfl) ?_
            repeat (go_big_quiet_step (first | with_reducible exact C1.out _ _ | with_reducible exact C2.out _ _))
            refine wpQuiet_nil ?_
            intro _ hw'
            obtain ⟨⟨dq, osq⟩, hw''⟩ := hw'
            subst hw''
            have HBq := Lib.hid (HBr.out.trans ((below_regrown wr dq osq).mono HBr.out.size))
            clear x0 x1 x2 x3 k0 k1 k2 k3 C1 C2
            generalize grow (redrawn wr dq) osq = W4 at HBq ⊢
            have HIn := Lib.hid (HI.out k HAk.out)
            have hbd : Below W4.heap.size W4 W4.drew := (Below.refl _ _).drew
            have hB4 := (HB1.out.trans (HBq.out.mono HB1.out.size)).trans (hbd.mono (HB1.out.trans (HBq.out.mono HB1.out.size)).size)
            have HB4 := Lib.hid hB4
            have hKd := (HKa.out.bel HBq.out).bel hbd
            obtain ⟨va, hs1, ha⟩ := pairs_upto hKd k hk
            obtain ⟨vb, hs2, hbv⟩ := pairs_from hKd k hk
            have HLs := Lib.hid (show (K.take k).length + (K.drop k).length ≤ 1000 by rw [List.length_take, List.length_drop]; have := HKl.out; omega)
            clear HKl
            (try clear HAt HN HNx)
            generalize K.take k = U at ha HIn HLs
            generalize K.drop k = R at hbv HIn HLs
            have HUp := Lib.hid ha
            have HFr := Lib.hid hbv
            obtain ⟨aa, ca, hva⟩ := ha.form
            obtain ⟨ab, cb, hvb⟩ := hbv.form
            subst hva hvb
            obtain ⟨m0, m1, m2, m3⟩ := HC.out
            have m0 := cell_bel (cell_bel m0 HBq.out) hbd
            have m1 := cell_bel (cell_bel m1 HBq.out) hbd
            have m2 := cell_bel (cell_bel m2 HBq.out) hbd
            have m3 := cell_bel (cell_bel m3 HBq.out) hbd
            have HPB := Lib.hid (lt_of_cell m0)
            have HBc := Lib.hid (Below.refl W4.drew.heap.size W4.drew)
            clear hbd hB4 hKd ha hbv
            go_wp2_with fail
            refine wp_region_R (S := fun W => W.cell? ⟨w.heap.size, 0, none⟩ = some (.int .i64 p.a) ∧ W.cell? ⟨w.heap.size, 1, none⟩ = some (.int .i64 p.b) ∧ W.cell? ⟨w.heap.size, 2, none⟩ = some (.int .i64 p.c) ∧ W.cell? ⟨w.heap.size, 3, none⟩ = some (.int .i64 p.d)) 12 (by kernel_rfl) (by simp) ⟨m0, m1, m2, m3⟩ (fun hHeld => ?_)
            clear m0 m1 m2 m3
            generalize W4.drew = V0 at HB4 HUp HFr HPB HBc hHeld ⊢
            refine anyR_take (i := 1) (v := ?_) rfl (by kernel_rfl) (by kernel_rfl) (by kernel_rfl) (fun _ _ _ h => h) (Or.inl ⟨by rfl, ?_⟩) (by assumption) ?_
            rotate_left
            · (intro w hSw; (try dsimp only at hSw); go_simp)
              all_goals with_reducible rfl
            try simp only [Act.put, List.getElem_toArray, List.getElem_cons_succ, List.getElem_cons_zero, List.setIfInBounds_toArray, List.set_cons_zero, List.set_cons_succ]
            refine anyR_take (i := 2) (v := ?_) rfl (by kernel_rfl) (by kernel_rfl) (by kernel_rfl) (fun _ _ _ h => h) (Or.inl ⟨by rfl, ?_⟩) (by assumption) ?_
            rotate_left
            · (intro w hSw; (try dsimp only at hSw); go_simp)
              all_goals with_reducible rfl
            try simp only [Act.put, List.getElem_toArray, List.getElem_cons_succ, List.getElem_cons_zero, List.setIfInBounds_toArray, List.set_cons_zero, List.set_cons_succ]
            refine anyR_take (i := 3) (v := ?_) rfl (by kernel_rfl) (by kernel_rfl) (by kernel_rfl) (fun _ _ _ h => h) (Or.inl ⟨by rfl, ?_⟩) (by assumption) ?_
            rotate_left
            · (intro w hSw; (try dsimp only at hSw); go_simp)
              all_goals with_reducible rfl
            try simp only [Act.put, List.getElem_toArray, List.getElem_cons_succ, List.getElem_cons_zero, List.setIfInBounds_toArray, List.set_cons_zero, List.set_cons_succ]
            refine anyR_take (i := 5) (v := ?_) rfl (by kernel_rfl) (by kernel_rfl) (by kernel_rfl) (fun _ _ _ h => h) (Or.inl ⟨by rfl, ?_⟩) (by assumption) ?_
            rotate_left
            · (intro w hSw; (try dsimp only at hSw); go_simp)
              all_goals with_reducible rfl
            try simp only [Act.put, List.getElem_toArray, List.getElem_cons_succ, List.getElem_cons_zero, List.setIfInBounds_toArray, List.set_cons_zero, List.set_cons_succ]
            refine anyR_take (i := 8) (v := ?_) rfl (by kernel_rfl) (by kernel_rfl) (by kernel_rfl) (fun _ _ _ h => h) (Or.inl ⟨by rfl, ?_⟩) (by assumption) ?_
            rotate_left
            · (intro w hSw; (try dsimp only at hSw); go_simp)
              all_goals with_reducible rfl
            try simp only [Act.put, List.getElem_toArray, List.getElem_cons_succ, List.getElem_cons_zero, List.setIfInBounds_toArray, List.set_cons_zero, List.set_cons_succ]
            refine anyR_take (i := 9) (v := ?_) rfl (by kernel_rfl) (by kernel_rfl) (by kernel_rfl) (fun _ _ _ h => h) (Or.inl ⟨by rfl, ?_⟩) (by assumption) ?_
            rotate_left
            · (intro w hSw; (try dsimp only at hSw); go_simp)
              all_goals with_reducible rfl
            try simp only [Act.put, List.getElem_toArray, List.getElem_cons_succ, List.getElem_cons_zero, List.setIfInBounds_toArray, List.set_cons_zero, List.set_cons_succ]
            refine anyR_take (i := 10) (v := ?_) rfl (by kernel_rfl) (by kernel_rfl) (by kernel_rfl) (fun _ _ _ h => h) (Or.inl ⟨by rfl, ?_⟩) (by assumption) ?_
            rotate_left
            · (intro w hSw; (try dsimp only at hSw); go_simp)
              all_goals with_reducible rfl
            try simp only [Act.put, List.getElem_toArray, List.getElem_cons_succ, List.getElem_cons_zero, List.setIfInBounds_toArray, List.set_cons_zero, List.set_cons_succ]
            refine anyR_ready (rs := [0, 6]) (by kernel_rfl) (by simp) (by decide) ?_
            refine AllReadyR.cons rfl (fun K hK => ?_) (AllReadyR.cons rfl (fun K hK => ?_) AllReadyR.nil)
            · go_simp
              refine hK.out _ _ ?_ (fun hHeld => ?_)
              · exact ⟨cell_al hHeld.1 _, cell_al hHeld.2.1 _, cell_al hHeld.2.2.1 _, cell_al hHeld.2.2.2 _⟩
              clear hK K
              try simp only [Act.put, List.getElem_toArray, List.getElem_cons_succ, List.getElem_cons_zero, List.setIfInBounds_toArray, List.set_cons_zero, List.set_cons_succ]
              have hE := (OwnW.made (e := 32) rowPa.len V0 #[] ([] : List PaM) 0 rfl rfl (by decide)).base_le HBc.out.size
              have HBc := Lib.hid (HBc.out.trans ((bel1 (W := V0) (.cells #[] 32)).mono HBc.out.size))
              refine anyR_ready (rs := [4, 6]) (by kernel_rfl) (by simp) (by decide) ?_
              refine AllReadyR.cons rfl (fun K hK => ?_) (AllReadyR.cons rfl (fun K hK => ?_) AllReadyR.nil)
              · obtain ⟨vA, wA, r4, hA, hT4, hb4⟩ := append_pairs 22 hE (HUp.out.bel HBc.out) (by simp only [List.length_nil]; have := HLs.out; omega) HBc.out.size
                refine step_append_runP rfl _ _ rfl rfl rfl r4 ?_
                refine hK.out _ _ ?_ (fun hHeld => ?_)
                · exact ⟨cell_below hb4 HPB.out hHeld.1, cell_below hb4 HPB.out hHeld.2.1, cell_below hb4 HPB.out hHeld.2.2.1, cell_below hb4 HPB.out hHeld.2.2.2⟩
                clear hK K
                try simp only [Act.put, List.getElem_toArray, List.getElem_cons_succ, List.getElem_cons_zero, List.setIfInBounds_toArray, List.set_cons_zero, List.set_cons_succ]
                rw [List.nil_append] at hA
                have HBc := Lib.hid (HBc.out.trans hb4)
                obtain ⟨aA, nA, cA, hvA⟩ : ∃ a n c, vA = .slice a n c := (by obtain ⟨a, c, h⟩ := hA.form; exact ⟨a, _, c, h⟩)
                subst hvA
                clear r4
                refine anyR_ready (rs := [6]) (by kernel_rfl) (by simp) (by decide) ?_
                refine AllReadyR.cons rfl (fun K hK => ?_) AllReadyR.nil
                go_simp
                refine hK.out _ _ ?_ (fun hHeld => ?_)
                · exact ⟨cell_al hHeld.1 _, cell_al hHeld.2.1 _, cell_al hHeld.2.2.1 _, cell_al hHeld.2.2.2 _⟩
                clear hK K
                try simp only [Act.put, List.getElem_toArray, List.getElem_cons_succ, List.getElem_cons_zero, List.setIfInBounds_toArray, List.set_cons_zero, List.set_cons_succ]
                have hY : ∀ j u, (encPa p)[j]? = some u → (wA.alloc (.cells #[.int .i64 p.a, .int .i64 p.b, .int .i64 p.c, .int .i64 p.d] 32)).cell? ⟨wA.heap.size, j, none⟩ = some u := fun j u hj => (cell_new wA #[.int .i64 p.a, .int .i64 p.b, .int .i64 p.c, .int .i64 p.d] 32 j).trans (by simpa using hj)
                have HBc := Lib.hid (HBc.out.trans ((bel1 (W := wA) (.cells #[.int .i64 p.a, .int .i64 p.b, .int .i64 p.c, .int .i64 p.d] 32)).mono HBc.out.size))
                have hA := hA.bel (bel1 (.cells #[.int .i64 p.a, .int .i64 p.b, .int .i64 p.c, .int .i64 p.d] 32))
                refine anyR_ready (rs := [7]) (by kernel_rfl) (by simp) (by decide) ?_
                refine AllReadyR.cons rfl (fun K hK => ?_) AllReadyR.nil
                obtain ⟨vP, wP, r7, hP, hT7, hb7⟩ := append_pairs 22 hA (arg_one hY) (by simp only [List.length_singleton]; have := HLs.out; omega) HBc.out.size
                refine step_append_runP rfl _ _ rfl rfl rfl r7 ?_
                refine hK.out _ _ ?_ (fun hHeld => ?_)
                · exact ⟨cell_below hb7 HPB.out hHeld.1, cell_below hb7 HPB.out hHeld.2.1, cell_below hb7 HPB.out hHeld.2.2.1, cell_below hb7 HPB.out hHeld.2.2.2⟩
                clear hK K
                try simp only [Act.put, List.getElem_toArray, List.getElem_cons_succ, List.getElem_cons_zero, List.setIfInBounds_toArray, List.set_cons_zero, List.set_cons_succ]
                have HBc := Lib.hid (HBc.out.trans hb7)
                obtain ⟨aP, nP, cP, hvP⟩ : ∃ a n c, vP = .slice a n c := (by obtain ⟨a, c, h⟩ := hP.form; exact ⟨a, _, c, h⟩)
                subst hvP
                refine anyR_ready (rs := [11]) (by kernel_rfl) (by simp) (by decide) ?_
                refine AllReadyR.cons rfl (fun K hK => ?_) AllReadyR.nil
                obtain ⟨vF, wF, r11, hF, hT11, hb11⟩ := append_pairs 22 hP (HFr.out.bel HBc.out) (by simp only [List.length_append, List.length_singleton]; have := HLs.out; omega) HBc.out.size
                refine step_append_runP rfl _ _ rfl rfl rfl r11 ?_
                refine hK.out _ _ ?_ (fun hHeld => ?_)
                · exact ⟨cell_below hb11 HPB.out hHeld.1, cell_below hb11 HPB.out hHeld.2.1, cell_below hb11 HPB.out hHeld.2.2.1, cell_below hb11 HPB.out hHeld.2.2.2⟩
                clear hK K hHeld
                try simp only [Act.put, List.getElem_toArray, List.getElem_cons_succ, List.getElem_cons_zero, List.setIfInBounds_toArray, List.set_cons_zero, List.set_cons_succ]
                have HBc := Lib.hid (HBc.out.trans hb11)
                rw [← HIn.out] at hF
                have HFa := Lib.hid (hF.arg rowPa.len)
                have HFk := Lib.hid (show ∀ k, vF.ownBlock = some k → w.heap.size ≤ k from fun k hk => Nat.le_trans HB4.out.size (hF.lt k hk).1)
                clear r7 r11 hP hA hF hT7 hT11 hb7 hb11
                refine anyR_end (by kernel_rfl) ?_
                refine wpAny_ready (rs := [12]) (by kernel_rfl) (by simp) ?_
                refine AllReady.cons rfl (fun K hK => ?_) AllReady.nil
                go_simp
                refine hK _ _ ?_
                clear hK K
                try simp only [Act.put, List.getElem_toArray, List.getElem_cons_succ, List.getElem_cons_zero, List.setIfInBounds_toArray, List.set_cons_zero, List.set_cons_succ]
                refine wpAny_done (by kernel_rfl) ?_ _
                go_wp2_with fail
                go_ret
                exact ⟨_, rfl, HFa.out, fun k hk => Or.inr (HFk.out k hk), HB4.out.trans (HBc.out.mono HB4.out.size)⟩
              · have hEz := hE
                generalize hWE : V0.alloc (.cells #[] 32) = WE at *
                go_simp
                refine hK.out _ _ ?_ (fun hHeld => ?_)
                · exact ⟨cell_al hHeld.1 _, cell_al hHeld.2.1 _, cell_al hHeld.2.2.1 _, cell_al hHeld.2.2.2 _⟩
                clear hK K
                try simp only [Act.put, List.getElem_toArray, List.getElem_cons_succ, List.getElem_cons_zero, List.setIfInBounds_toArray, List.set_cons_zero, List.set_cons_succ]
                have hY : ∀ j u, (encPa p)[j]? = some u → (WE.alloc (.cells #[.int .i64 p.a, .int .i64 p.b, .int .i64 p.c, .int .i64 p.d] 32)).cell? ⟨WE.heap.size, j, none⟩ = some u := fun j u hj => (cell_new WE #[.int .i64 p.a, .int .i64 p.b, .int .i64 p.c, .int .i64 p.d] 32 j).trans (by simpa using hj)
                have HBc := Lib.hid (HBc.out.trans ((bel1 (W := WE) (.cells #[.int .i64 p.a, .int .i64 p.b, .int .i64 p.c, .int .i64 p.d] 32)).mono HBc.out.size))
                have hE := hEz.bel (bel1 (.cells #[.int .i64 p.a, .int .i64 p.b, .int .i64 p.c, .int .i64 p.d] 32))
                refine anyR_ready (rs := [4]) (by kernel_rfl) (by simp) (by decide) ?_
                refine AllReadyR.cons rfl (fun K hK => ?_) AllReadyR.nil
                obtain ⟨vA, wA, r4, hA, hT4, hb4⟩ := append_pairs 22 hE (HUp.out.bel HBc.out) (by simp only [List.length_nil]; have := HLs.out; omega) HBc.out.size
                refine step_append_runP rfl _ _ rfl rfl rfl r4 ?_
                refine hK.out _ _ ?_ (fun hHeld => ?_)
                · exact ⟨cell_below hb4 HPB.out hHeld.1, cell_below hb4 HPB.out hHeld.2.1, cell_below hb4 HPB.out hHeld.2.2.1, cell_below hb4 HPB.out hHeld.2.2.2⟩
                clear hK K
                try simp only [Act.put, List.getElem_toArray, List.getElem_cons_succ, List.getElem_cons_zero, List.setIfInBounds_toArray, List.set_cons_zero, List.set_cons_succ]
                rw [List.nil_append] at hA
                have HBc := Lib.hid (HBc.out.trans hb4)
                obtain ⟨aA, nA, cA, hvA⟩ : ∃ a n c, vA = .slice a n c := (by obtain ⟨a, c, h⟩ := hA.form; exact ⟨a, _, c, h⟩)
                subst hvA
                clear r4
                have hY : ∀ j u, (encPa p)[j]? = some u → wA.cell? ⟨WE.heap.size, j, none⟩ = some u := fun j u hj => cell_touch (hY j u hj) hT4 (fun hh => own_ne hWE hh)
                refine anyR_ready (rs := [7]) (by kernel_rfl) (by simp) (by decide) ?_
                refine AllReadyR.cons rfl (fun K hK => ?_) AllReadyR.nil
                obtain ⟨vP, wP, r7, hP, hT7, hb7⟩ := append_pairs 22 hA (arg_one hY) (by simp only [List.length_singleton]; have := HLs.out; omega) HBc.out.size
                refine step_append_runP rfl _ _ rfl rfl rfl r7 ?_
                refine hK.out _ _ ?_ (fun hHeld => ?_)
                · exact ⟨cell_below hb7 HPB.out hHeld.1, cell_below hb7 HPB.out hHeld.2.1, cell_below hb7 HPB.out hHeld.2.2.1, cell_below hb7 HPB.out hHeld.2.2.2⟩
                clear hK K
                try simp only [Act.put, List.getElem_toArray, List.getElem_cons_succ, List.getElem_cons_zero, List.setIfInBounds_toArray, List.set_cons_zero, List.set_cons_succ]
                have HBc := Lib.hid (HBc.out.trans hb7)
                obtain ⟨aP, nP, cP, hvP⟩ : ∃ a n c, vP = .slice a n c := (by obtain ⟨a, c, h⟩ := hP.form; exact ⟨a, _, c, h⟩)
                subst hvP
                refine anyR_ready (rs := [11]) (by kernel_rfl) (by simp) (by decide) ?_
                refine AllReadyR.cons rfl (fun K hK => ?_) AllReadyR.nil
                obtain ⟨vF, wF, r11, hF, hT11, hb11⟩ := append_pairs 22 hP (HFr.out.bel HBc.out) (by simp only [List.length_append, List.length_singleton]; have := HLs.out; omega) HBc.out.size
                refine step_append_runP rfl _ _ rfl rfl rfl r11 ?_
                refine hK.out _ _ ?_ (fun hHeld => ?_)
                · exact ⟨cell_below hb11 HPB.out hHeld.1, cell_below hb11 HPB.out hHeld.2.1, cell_below hb11 HPB.out hHeld.2.2.1, cell_below hb11 HPB.out hHeld.2.2.2⟩
                clear hK K hHeld
                try simp only [Act.put, List.getElem_toArray, List.getElem_cons_succ, List.getElem_cons_zero, List.setIfInBounds_toArray, List.set_cons_zero, List.set_cons_succ]
                have HBc := Lib.hid (HBc.out.trans hb11)
                rw [← HIn.out] at hF
                have HFa := Lib.hid (hF.arg rowPa.len)
                have HFk := Lib.hid (show ∀ k, vF.ownBlock = some k → w.heap.size ≤ k from fun k hk => Nat.le_trans HB4.out.size (hF.lt k hk).1)
                clear r7 r11 hP hA hF hT7 hT11 hb7 hb11
                refine anyR_end (by kernel_rfl) ?_
                refine wpAny_ready (rs := [12]) (by kernel_rfl) (by simp) ?_
                refine AllReady.cons rfl (fun K hK => ?_) AllReady.nil
                go_simp
                refine hK _ _ ?_
                clear hK K
                try simp only [Act.put, List.getElem_toArray, List.getElem_cons_succ, List.getElem_cons_zero, List.setIfInBounds_toArray, List.set_cons_zero, List.set_cons_succ]
                refine wpAny_done (by kernel_rfl) ?_ _
                go_wp2_with fail
                go_ret
                exact ⟨_, rfl, HFa.out, fun k hk => Or.inr (HFk.out k hk), HB4.out.trans (HBc.out.mono HB4.out.size)⟩
            · go_simp
              refine hK.out _ _ ?_ (fun hHeld => ?_)
              · exact ⟨cell_al hHeld.1 _, cell_al hHeld.2.1 _, cell_al hHeld.2.2.1 _, cell_al hHeld.2.2.2 _⟩
              clear hK K
              try simp only [Act.put, List.getElem_toArray, List.getElem_cons_succ, List.getElem_cons_zero, List.setIfInBounds_toArray, List.set_cons_zero, List.set_cons_succ]
              have hY : ∀ j u, (encPa p)[j]? = some u → (V0.alloc (.cells #[.int .i64 p.a, .int .i64 p.b, .int .i64 p.c, .int .i64 p.d] 32)).cell? ⟨V0.heap.size, j, none⟩ = some u := fun j u hj => (cell_new V0 #[.int .i64 p.a, .int .i64 p.b, .int .i64 p.c, .int .i64 p.d] 32 j).trans (by simpa using hj)
              have HBc := Lib.hid (HBc.out.trans ((bel1 (W := V0) (.cells #[.int .i64 p.a, .int .i64 p.b, .int .i64 p.c, .int .i64 p.d] 32)).mono HBc.out.size))
              generalize hWE : V0.alloc (.cells #[.int .i64 p.a, .int .i64 p.b, .int .i64 p.c, .int .i64 p.d] 32) = WE at *
              refine anyR_ready (rs := [0]) (by kernel_rfl) (by simp) (by decide) ?_
              refine AllReadyR.cons rfl (fun K hK => ?_) AllReadyR.nil
              go_simp
              refine hK.out _ _ ?_ (fun hHeld => ?_)
              · exact ⟨cell_al hHeld.1 _, cell_al hHeld.2.1 _, cell_al hHeld.2.2.1 _, cell_al hHeld.2.2.2 _⟩
              clear hK K
              try simp only [Act.put, List.getElem_toArray, List.getElem_cons_succ, List.getElem_cons_zero, List.setIfInBounds_toArray, List.set_cons_zero, List.set_cons_succ]
              have hE := (OwnW.made (e := 32) rowPa.len WE #[] ([] : List PaM) 0 rfl rfl (by decide)).base_le HBc.out.size
              have HBc := Lib.hid (HBc.out.trans ((bel1 (W := WE) (.cells #[] 32)).mono HBc.out.size))
              have hY := fun j u hj => cell_al (hY j u hj) (.cells #[] 32)
              refine anyR_ready (rs := [4]) (by kernel_rfl) (by simp) (by decide) ?_
              refine AllReadyR.cons rfl (fun K hK => ?_) AllReadyR.nil
              obtain ⟨vA, wA, r4, hA, hT4, hb4⟩ := append_pairs 22 hE (HUp.out.bel HBc.out) (by simp only [List.length_nil]; have := HLs.out; omega) HBc.out.size
              refine step_append_runP rfl _ _ rfl rfl rfl r4 ?_
              refine hK.out _ _ ?_ (fun hHeld => ?_)
              · exact ⟨cell_below hb4 HPB.out hHeld.1, cell_below hb4 HPB.out hHeld.2.1, cell_below hb4 HPB.out hHeld.2.2.1, cell_below hb4 HPB.out hHeld.2.2.2⟩
              clear hK K
              try simp only [Act.put, List.getElem_toArray, List.getElem_cons_succ, List.getElem_cons_zero, List.setIfInBounds_toArray, List.set_cons_zero, List.set_cons_succ]
              rw [List.nil_append] at hA
              have HBc := Lib.hid (HBc.out.trans hb4)
              obtain ⟨aA, nA, cA, hvA⟩ : ∃ a n c, vA = .slice a n c := (by obtain ⟨a, c, h⟩ := hA.form; exact ⟨a, _, c, h⟩)
              subst hvA
              clear r4
              have hY : ∀ j u, (encPa p)[j]? = some u → wA.cell? ⟨V0.heap.size, j, none⟩ = some u := fun j u hj => cell_touch (hY j u hj) hT4 (fun hh => own_ne' hWE hh)
              refine anyR_ready (rs := [7]) (by kernel_rfl) (by simp) (by decide) ?_
              refine AllReadyR.cons rfl (fun K hK => ?_) AllReadyR.nil
              obtain ⟨vP, wP, r7, hP, hT7, hb7⟩ := append_pairs 22 hA (arg_one hY) (by simp only [List.length_singleton]; have := HLs.out; omega) HBc.out.size
              refine step_append_runP rfl _ _ rfl rfl rfl r7 ?_
              refine hK.out _ _ ?_ (fun hHeld => ?_)
              · exact ⟨cell_below hb7 HPB.out hHeld.1, cell_below hb7 HPB.out hHeld.2.1, cell_below hb7 HPB.out hHeld.2.2.1, cell_below hb7 HPB.out hHeld.2.2.2⟩
              clear hK K
              try simp only [Act.put, List.getElem_toArray, List.getElem_cons_succ, List.getElem_cons_zero, List.setIfInBounds_toArray, List.set_cons_zero, List.set_cons_succ]
              have HBc := Lib.hid (HBc.out.trans hb7)
              obtain ⟨aP, nP, cP, hvP⟩ : ∃ a n c, vP = .slice a n c := (by obtain ⟨a, c, h⟩ := hP.form; exact ⟨a, _, c, h⟩)
              subst hvP
              refine anyR_ready (rs := [11]) (by kernel_rfl) (by simp) (by decide) ?_
              refine AllReadyR.cons rfl (fun K hK => ?_) AllReadyR.nil
              obtain ⟨vF, wF, r11, hF, hT11, hb11⟩ := append_pairs 22 hP (HFr.out.bel HBc.out) (by simp only [List.length_append, List.length_singleton]; have := HLs.out; omega) HBc.out.size
              refine step_append_runP rfl _ _ rfl rfl rfl r11 ?_
              refine hK.out _ _ ?_ (fun hHeld => ?_)
              · exact ⟨cell_below hb11 HPB.out hHeld.1, cell_below hb11 HPB.out hHeld.2.1, cell_below hb11 HPB.out hHeld.2.2.1, cell_below hb11 HPB.out hHeld.2.2.2⟩
              clear hK K hHeld
              try simp only [Act.put, List.getElem_toArray, List.getElem_cons_succ, List.getElem_cons_zero, List.setIfInBounds_toArray, List.set_cons_zero, List.set_cons_succ]
              have HBc := Lib.hid (HBc.out.trans hb11)
              rw [← HIn.out] at hF
              have HFa := Lib.hid (hF.arg rowPa.len)
              have HFk := Lib.hid (show ∀ k, vF.ownBlock = some k → w.heap.size ≤ k from fun k hk => Nat.le_trans HB4.out.size (hF.lt k hk).1)
              clear r7 r11 hP hA hF hT7 hT11 hb7 hb11
              refine anyR_end (by kernel_rfl) ?_
              refine wpAny_ready (rs := [12]) (by kernel_rfl) (by simp) ?_
              refine AllReady.cons rfl (fun K hK => ?_) AllReady.nil
              go_simp
              refine hK _ _ ?_
              clear hK K
              try simp only [Act.put, List.getElem_toArray, List.getElem_cons_succ, List.getElem_cons_zero, List.setIfInBounds_toArray, List.set_cons_zero, List.set_cons_succ]
              refine wpAny_done (by kernel_rfl) ?_ _
              go_wp2_with fail
              go_ret
              exact ⟨_, rfl, HFa.out, fun k hk => Or.inr (HFk.out k hk), HB4.out.trans (HBc.out.mono HB4.out.size)⟩
          | true =>
            by_cases h2 : o2 < 0
            · have e2 : decide (o2 < 0) = true := decide_eq_true h2
              have HLy := Lib.hid (show ltP q p = true by rw [HLT.out, e1, e2]; rfl)
              clear h2
              go_wp2_with fail
              refine wp_region_quiet_below (by kernel_rfl) (by kernel_rfl) ?_
              repeat (go_big_quiet_step (first | with_reducible exact C1.out _ _ | with_reducible exact C2.out _ _))
              refine wpQuiet_nil ?_
              intro _ hw'
              obtain ⟨⟨dq, osq⟩, hw''⟩ := hw'
              subst hw''
              have HBq := Lib.hid (HBr.out.trans ((below_regrown wr dq osq).mono HBr.out.size))
              clear x0 x1 x2 x3 k0 k1 k2 k3 C1 C2
              go_wp2_with fail
              exact ⟨⟨k + 1, by go_num, by omega, Lib.hid (HNx.out HLy.out), HBq⟩, by simp [intOf]; omega⟩
            · have e2 : decide (o2 < 0) = false := decide_eq_false h2
              have HAk := Lib.hid (HAt.out (by rw [HLT.out, e1, e2]; rfl))
              clear h2
              go_wp2_with fail
              refine wp_region_quiet_below (by kernel_rfl) (by kernel_rfl) ?_
              repeat (go_big_quiet_step (first | with_reducible exact C1.out _ _ | with_reducible exact C2.out _ _))
              refine wpQuiet_nil ?_
              intro _ hw'
              obtain ⟨⟨dq, osq⟩, hw''⟩ := hw'
              subst hw''
              have HBq := Lib.hid (HBr.out.trans ((below_regrown wr dq osq).mono HBr.out.size))
              clear x0 x1 x2 x3 k0 k1 k2 k3 C1 C2
              generalize grow (redrawn wr dq) osq = W4 at HBq ⊢
              have HIn := Lib.hid (HI.out k HAk.out)
              have hbd : Below W4.heap.size W4 W4.drew := (Below.refl _ _).drew
              have hB4 := (HB1.out.trans (HBq.out.mono HB1.out.size)).trans (hbd.mono (HB1.out.trans (HBq.out.mono HB1.out.size)).size)
              have HB4 := Lib.hid hB4
              have hKd := (HKa.out.bel HBq.out).bel hbd
              obtain ⟨va, hs1, ha⟩ := pairs_upto hKd k hk
              obtain ⟨vb, hs2, hbv⟩ := pairs_from hKd k hk
              have HLs := Lib.hid (show (K.take k).length + (K.drop k).length ≤ 1000 by rw [List.length_take, List.length_drop]; have := HKl.out; omega)
              clear HKl
              (try clear HAt HN HNx)
              generalize K.take k = U at ha HIn HLs
              generalize K.drop k = R at hbv HIn HLs
              have HUp := Lib.hid ha
              have HFr := Lib.hid hbv
              obtain ⟨aa, ca, hva⟩ := ha.form
              obtain ⟨ab, cb, hvb⟩ := hbv.form
              subst hva hvb
              obtain ⟨m0, m1, m2, m3⟩ := HC.out
              have m0 := cell_bel (cell_bel m0 HBq.out) hbd
              have m1 := cell_bel (cell_bel m1 HBq.out) hbd
              have m2 := cell_bel (cell_bel m2 HBq.out) hbd
              have m3 := cell_bel (cell_bel m3 HBq.out) hbd
              have HPB := Lib.hid (lt_of_cell m0)
              have HBc := Lib.hid (Below.refl W4.drew.heap.size W4.drew)
              clear hbd hB4 hKd ha hbv
              go_wp2_with fail
              refine wp_region_R (S := fun W => W.cell? ⟨w.heap.size, 0, none⟩ = some (.int .i64 p.a) ∧ W.cell? ⟨w.heap.size, 1, none⟩ = some (.int .i64 p.b) ∧ W.cell? ⟨w.heap.size, 2, none⟩ = some (.int .i64 p.c) ∧ W.cell? ⟨w.heap.size, 3, none⟩ = some (.int .i64 p.d)) 12 (by kernel_rfl) (by simp) ⟨m0, m1, m2, m3⟩ (fun hHeld => ?_)
              clear m0 m1 m2 m3
              generalize W4.drew = V0 at HB4 HUp HFr HPB HBc hHeld ⊢
              refine anyR_take (i := 1) (v := ?_) rfl (by kernel_rfl) (by kernel_rfl) (by kernel_rfl) (fun _ _ _ h => h) (Or.inl ⟨by rfl, ?_⟩) (by assumption) ?_
              rotate_left
              · (intro w hSw; (try dsimp only at hSw); go_simp)
                all_goals with_reducible rfl
              try simp only [Act.put, List.getElem_toArray, List.getElem_cons_succ, List.getElem_cons_zero, List.setIfInBounds_toArray, List.set_cons_zero, List.set_cons_succ]
              refine anyR_take (i := 2) (v := ?_) rfl (by kernel_rfl) (by kernel_rfl) (by kernel_rfl) (fun _ _ _ h => h) (Or.inl ⟨by rfl, ?_⟩) (by assumption) ?_
              rotate_left
              · (intro w hSw; (try dsimp only at hSw); go_simp)
                all_goals with_reducible rfl
              try simp only [Act.put, List.getElem_toArray, List.getElem_cons_succ, List.getElem_cons_zero, List.setIfInBounds_toArray, List.set_cons_zero, List.set_cons_succ]
              refine anyR_take (i := 3) (v := ?_) rfl (by kernel_rfl) (by kernel_rfl) (by kernel_rfl) (fun _ _ _ h => h) (Or.inl ⟨by rfl, ?_⟩) (by assumption) ?_
              rotate_left
              · (intro w hSw; (try dsimp only at hSw); go_simp)
                all_goals with_reducible rfl
              try simp only [Act.put, List.getElem_toArray, List.getElem_cons_succ, List.getElem_cons_zero, List.setIfInBounds_toArray, List.set_cons_zero, List.set_cons_succ]
              refine anyR_take (i := 5) (v := ?_) rfl (by kernel_rfl) (by kernel_rfl) (by kernel_rfl) (fun _ _ _ h => h) (Or.inl ⟨by rfl, ?_⟩) (by assumption) ?_
              rotate_left
              · (intro w hSw; (try dsimp only at hSw); go_simp)
                all_goals with_reducible rfl
              try simp only [Act.put, List.getElem_toArray, List.getElem_cons_succ, List.getElem_cons_zero, List.setIfInBounds_toArray, List.set_cons_zero, List.set_cons_succ]
              refine anyR_take (i := 8) (v := ?_) rfl (by kernel_rfl) (by kernel_rfl) (by kernel_rfl) (fun _ _ _ h => h) (Or.inl ⟨by rfl, ?_⟩) (by assumption) ?_
              rotate_left
              · (intro w hSw; (try dsimp only at hSw); go_simp)
                all_goals with_reducible rfl
              try simp only [Act.put, List.getElem_toArray, List.getElem_cons_succ, List.getElem_cons_zero, List.setIfInBounds_toArray, List.set_cons_zero, List.set_cons_succ]
              refine anyR_take (i := 9) (v := ?_) rfl (by kernel_rfl) (by kernel_rfl) (by kernel_rfl) (fun _ _ _ h => h) (Or.inl ⟨by rfl, ?_⟩) (by assumption) ?_
              rotate_left
              · (intro w hSw; (try dsimp only at hSw); go_simp)
                all_goals with_reducible rfl
              try simp only [Act.put, List.getElem_toArray, List.getElem_cons_succ, List.getElem_cons_zero, List.setIfInBounds_toArray, List.set_cons_zero, List.set_cons_succ]
              refine anyR_take (i := 10) (v := ?_) rfl (by kernel_rfl) (by kernel_rfl) (by kernel_rfl) (fun _ _ _ h => h) (Or.inl ⟨by rfl, ?_⟩) (by assumption) ?_
              rotate_left
              · (intro w hSw; (try dsimp only at hSw); go_simp)
                all_goals with_reducible rfl
              try simp only [Act.put, List.getElem_toArray, List.getElem_cons_succ, List.getElem_cons_zero, List.setIfInBounds_toArray, List.set_cons_zero, List.set_cons_succ]
              refine anyR_ready (rs := [0, 6]) (by kernel_rfl) (by simp) (by decide) ?_
              refine AllReadyR.cons rfl (fun K hK => ?_) (AllReadyR.cons rfl (fun K hK => ?_) AllReadyR.nil)
              · go_simp
                refine hK.out _ _ ?_ (fun hHeld => ?_)
                · exact ⟨cell_al hHeld.1 _, cell_al hHeld.2.1 _, cell_al hHeld.2.2.1 _, cell_al hHeld.2.2.2 _⟩
                clear hK K
                try simp only [Act.put, List.getElem_toArray, List.getElem_cons_succ, List.getElem_cons_zero, List.setIfInBounds_toArray, List.set_cons_zero, List.set_cons_succ]
                have hE := (OwnW.made (e := 32) rowPa.len V0 #[] ([] : List PaM) 0 rfl rfl (by decide)).base_le HBc.out.size
                have HBc := Lib.hid (HBc.out.trans ((bel1 (W := V0) (.cells #[] 32)).mono HBc.out.size))
                refine anyR_ready (rs := [4, 6]) (by kernel_rfl) (by simp) (by decide) ?_
                refine AllReadyR.cons rfl (fun K hK => ?_) (AllReadyR.cons rfl (fun K hK => ?_) AllReadyR.nil)
                · obtain ⟨vA, wA, r4, hA, hT4, hb4⟩ := append_pairs 22 hE (HUp.out.bel HBc.out) (by simp only [List.length_nil]; have := HLs.out; omega) HBc.out.size
                  refine step_append_runP rfl _ _ rfl rfl rfl r4 ?_
                  refine hK.out _ _ ?_ (fun hHeld => ?_)
                  · exact ⟨cell_below hb4 HPB.out hHeld.1, cell_below hb4 HPB.out hHeld.2.1, cell_below hb4 HPB.out hHeld.2.2.1, cell_below hb4 HPB.out hHeld.2.2.2⟩
                  clear hK K
                  try simp only [Act.put, List.getElem_toArray, List.getElem_cons_succ, List.getElem_cons_zero, List.setIfInBounds_toArray, List.set_cons_zero, List.set_cons_succ]
                  rw [List.nil_append] at hA
                  have HBc := Lib.hid (HBc.out.trans hb4)
                  obtain ⟨aA, nA, cA, hvA⟩ : ∃ a n c, vA = .slice a n c := (by obtain ⟨a, c, h⟩ := hA.form; exact ⟨a, _, c, h⟩)
                  subst hvA
                  clear r4
                  refine anyR_ready (rs := [6]) (by kernel_rfl) (by simp) (by decide) ?_
                  refine AllReadyR.cons rfl (fun K hK => ?_) AllReadyR.nil
                  go_simp
                  refine hK.out _ _ ?_ (fun hHeld => ?_)
                  · exact ⟨cell_al hHeld.1 _, cell_al hHeld.2.1 _, cell_al hHeld.2.2.1 _, cell_al hHeld.2.2.2 _⟩
                  clear hK K
                  try simp only [Act.put, List.getElem_toArray, List.getElem_cons_succ, List.getElem_cons_zero, List.setIfInBounds_toArray, List.set_cons_zero, List.set_cons_succ]
                  have hY : ∀ j u, (encPa p)[j]? = some u → (wA.alloc (.cells #[.int .i64 p.a, .int .i64 p.b, .int .i64 p.c, .int .i64 p.d] 32)).cell? ⟨wA.heap.size, j, none⟩ = some u := fun j u hj => (cell_new wA #[.int .i64 p.a, .int .i64 p.b, .int .i64 p.c, .int .i64 p.d] 32 j).trans (by simpa using hj)
                  have HBc := Lib.hid (HBc.out.trans ((bel1 (W := wA) (.cells #[.int .i64 p.a, .int .i64 p.b, .int .i64 p.c, .int .i64 p.d] 32)).mono HBc.out.size))
                  have hA := hA.bel (bel1 (.cells #[.int .i64 p.a, .int .i64 p.b, .int .i64 p.c, .int .i64 p.d] 32))
                  refine anyR_ready (rs := [7]) (by kernel_rfl) (by simp) (by decide) ?_
                  refine AllReadyR.cons rfl (fun K hK => ?_) AllReadyR.nil
                  obtain ⟨vP, wP, r7, hP, hT7, hb7⟩ := append_pairs 22 hA (arg_one hY) (by simp only [List.length_singleton]; have := HLs.out; omega) HBc.out.size
                  refine step_append_runP rfl _ _ rfl rfl rfl r7 ?_
                  refine hK.out _ _ ?_ (fun hHeld => ?_)
                  · exact ⟨cell_below hb7 HPB.out hHeld.1, cell_below hb7 HPB.out hHeld.2.1, cell_below hb7 HPB.out hHeld.2.2.1, cell_below hb7 HPB.out hHeld.2.2.2⟩
                  clear hK K
                  try simp only [Act.put, List.getElem_toArray, List.getElem_cons_succ, List.getElem_cons_zero, List.setIfInBounds_toArray, List.set_cons_zero, List.set_cons_succ]
                  have HBc := Lib.hid (HBc.out.trans hb7)
                  obtain ⟨aP, nP, cP, hvP⟩ : ∃ a n c, vP = .slice a n c := (by obtain ⟨a, c, h⟩ := hP.form; exact ⟨a, _, c, h⟩)
                  subst hvP
                  refine anyR_ready (rs := [11]) (by kernel_rfl) (by simp) (by decide) ?_
                  refine AllReadyR.cons rfl (fun K hK => ?_) AllReadyR.nil
                  obtain ⟨vF, wF, r11, hF, hT11, hb11⟩ := append_pairs 22 hP (HFr.out.bel HBc.out) (by simp only [List.length_append, List.length_singleton]; have := HLs.out; omega) HBc.out.size
                  refine step_append_runP rfl _ _ rfl rfl rfl r11 ?_
                  refine hK.out _ _ ?_ (fun hHeld => ?_)
                  · exact ⟨cell_below hb11 HPB.out hHeld.1, cell_below hb11 HPB.out hHeld.2.1, cell_below hb11 HPB.out hHeld.2.2.1, cell_below hb11 HPB.out hHeld.2.2.2⟩
                  clear hK K hHeld
                  try simp only [Act.put, List.getElem_toArray, List.getElem_cons_succ, List.getElem_cons_zero, List.setIfInBounds_toArray, List.set_cons_zero, List.set_cons_succ]
                  have HBc := Lib.hid (HBc.out.trans hb11)
                  rw [← HIn.out] at hF
                  have HFa := Lib.hid (hF.arg rowPa.len)
                  have HFk := Lib.hid (show ∀ k, vF.ownBlock = some k → w.heap.size ≤ k from fun k hk => Nat.le_trans HB4.out.size (hF.lt k hk).1)
                  clear r7 r11 hP hA hF hT7 hT11 hb7 hb11
                  refine anyR_end (by kernel_rfl) ?_
                  refine wpAny_ready (rs := [12]) (by kernel_rfl) (by simp) ?_
                  refine AllReady.cons rfl (fun K hK => ?_) AllReady.nil
                  go_simp
                  refine hK _ _ ?_
                  clear hK K
                  try simp only [Act.put, List.getElem_toArray, List.getElem_cons_succ, List.getElem_cons_zero, List.setIfInBounds_toArray, List.set_cons_zero, List.set_cons_succ]
                  refine wpAny_done (by kernel_rfl) ?_ _
                  go_wp2_with fail
                  go_ret
                  exact ⟨_, rfl, HFa.out, fun k hk => Or.inr (HFk.out k hk), HB4.out.trans (HBc.out.mono HB4.out.size)⟩
                · have hEz := hE
                  generalize hWE : V0.alloc (.cells #[] 32) = WE at *
                  go_simp
                  refine hK.out _ _ ?_ (fun hHeld => ?_)
                  · exact ⟨cell_al hHeld.1 _, cell_al hHeld.2.1 _, cell_al hHeld.2.2.1 _, cell_al hHeld.2.2.2 _⟩
                  clear hK K
                  try simp only [Act.put, List.getElem_toArray, List.getElem_cons_succ, List.getElem_cons_zero, List.setIfInBounds_toArray, List.set_cons_zero, List.set_cons_succ]
                  have hY : ∀ j u, (encPa p)[j]? = some u → (WE.alloc (.cells #[.int .i64 p.a, .int .i64 p.b, .int .i64 p.c, .int .i64 p.d] 32)).cell? ⟨WE.heap.size, j, none⟩ = some u := fun j u hj => (cell_new WE #[.int .i64 p.a, .int .i64 p.b, .int .i64 p.c, .int .i64 p.d] 32 j).trans (by simpa using hj)
                  have HBc := Lib.hid (HBc.out.trans ((bel1 (W := WE) (.cells #[.int .i64 p.a, .int .i64 p.b, .int .i64 p.c, .int .i64 p.d] 32)).mono HBc.out.size))
                  have hE := hEz.bel (bel1 (.cells #[.int .i64 p.a, .int .i64 p.b, .int .i64 p.c, .int .i64 p.d] 32))
                  refine anyR_ready (rs := [4]) (by kernel_rfl) (by simp) (by decide) ?_
                  refine AllReadyR.cons rfl (fun K hK => ?_) AllReadyR.nil
                  obtain ⟨vA, wA, r4, hA, hT4, hb4⟩ := append_pairs 22 hE (HUp.out.bel HBc.out) (by simp only [List.length_nil]; have := HLs.out; omega) HBc.out.size
                  refine step_append_runP rfl _ _ rfl rfl rfl r4 ?_
                  refine hK.out _ _ ?_ (fun hHeld => ?_)
                  · exact ⟨cell_below hb4 HPB.out hHeld.1, cell_below hb4 HPB.out hHeld.2.1, cell_below hb4 HPB.out hHeld.2.2.1, cell_below hb4 HPB.out hHeld.2.2.2⟩
                  clear hK K
                  try simp only [Act.put, List.getElem_toArray, List.getElem_cons_succ, List.getElem_cons_zero, List.setIfInBounds_toArray, List.set_cons_zero, List.set_cons_succ]
                  rw [List.nil_append] at hA
                  have HBc := Lib.hid (HBc.out.trans hb4)
                  obtain ⟨aA, nA, cA, hvA⟩ : ∃ a n c, vA = .slice a n c := (by obtain ⟨a, c, h⟩ := hA.form; exact ⟨a, _, c, h⟩)
                  subst hvA
                  clear r4
                  have hY : ∀ j u, (encPa p)[j]? = some u → wA.cell? ⟨WE.heap.size, j, none⟩ = some u := fun j u hj => cell_touch (hY j u hj) hT4 (fun hh => own_ne hWE hh)
                  refine anyR_ready (rs := [7]) (by kernel_rfl) (by simp) (by decide) ?_
                  refine AllReadyR.cons rfl (fun K hK => ?_) AllReadyR.nil
                  obtain ⟨vP, wP, r7, hP, hT7, hb7⟩ := append_pairs 22 hA (arg_one hY) (by simp only [List.length_singleton]; have := HLs.out; omega) HBc.out.size
                  refine step_append_runP rfl _ _ rfl rfl rfl r7 ?_
                  refine hK.out _ _ ?_ (fun hHeld => ?_)
                  · exact ⟨cell_below hb7 HPB.out hHeld.1, cell_below hb7 HPB.out hHeld.2.1, cell_below hb7 HPB.out hHeld.2.2.1, cell_below hb7 HPB.out hHeld.2.2.2⟩
                  clear hK K
                  try simp only [Act.put, List.getElem_toArray, List.getElem_cons_succ, List.getElem_cons_zero, List.setIfInBounds_toArray, List.set_cons_zero, List.set_cons_succ]
                  have HBc := Lib.hid (HBc.out.trans hb7)
                  obtain ⟨aP, nP, cP, hvP⟩ : ∃ a n c, vP = .slice a n c := (by obtain ⟨a, c, h⟩ := hP.form; exact ⟨a, _, c, h⟩)
                  subst hvP
                  refine anyR_ready (rs := [11]) (by kernel_rfl) (by simp) (by decide) ?_
                  refine AllReadyR.cons rfl (fun K hK => ?_) AllReadyR.nil
                  obtain ⟨vF, wF, r11, hF, hT11, hb11⟩ := append_pairs 22 hP (HFr.out.bel HBc.out) (by simp only [List.length_append, List.length_singleton]; have := HLs.out; omega) HBc.out.size
                  refine step_append_runP rfl _ _ rfl rfl rfl r11 ?_
                  refine hK.out _ _ ?_ (fun hHeld => ?_)
                  · exact ⟨cell_below hb11 HPB.out hHeld.1, cell_below hb11 HPB.out hHeld.2.1, cell_below hb11 HPB.out hHeld.2.2.1, cell_below hb11 HPB.out hHeld.2.2.2⟩
                  clear hK K hHeld
                  try simp only [Act.put, List.getElem_toArray, List.getElem_cons_succ, List.getElem_cons_zero, List.setIfInBounds_toArray, List.set_cons_zero, List.set_cons_succ]
                  have HBc := Lib.hid (HBc.out.trans hb11)
                  rw [← HIn.out] at hF
                  have HFa := Lib.hid (hF.arg rowPa.len)
                  have HFk := Lib.hid (show ∀ k, vF.ownBlock = some k → w.heap.size ≤ k from fun k hk => Nat.le_trans HB4.out.size (hF.lt k hk).1)
                  clear r7 r11 hP hA hF hT7 hT11 hb7 hb11
                  refine anyR_end (by kernel_rfl) ?_
                  refine wpAny_ready (rs := [12]) (by kernel_rfl) (by simp) ?_
                  refine AllReady.cons rfl (fun K hK => ?_) AllReady.nil
                  go_simp
                  refine hK _ _ ?_
                  clear hK K
                  try simp only [Act.put, List.getElem_toArray, List.getElem_cons_succ, List.getElem_cons_zero, List.setIfInBounds_toArray, List.set_cons_zero, List.set_cons_succ]
                  refine wpAny_done (by kernel_rfl) ?_ _
                  go_wp2_with fail
                  go_ret
                  exact ⟨_, rfl, HFa.out, fun k hk => Or.inr (HFk.out k hk), HB4.out.trans (HBc.out.mono HB4.out.size)⟩
              · go_simp
                refine hK.out _ _ ?_ (fun hHeld => ?_)
                · exact ⟨cell_al hHeld.1 _, cell_al hHeld.2.1 _, cell_al hHeld.2.2.1 _, cell_al hHeld.2.2.2 _⟩
                clear hK K
                try simp only [Act.put, List.getElem_toArray, List.getElem_cons_succ, List.getElem_cons_zero, List.setIfInBounds_toArray, List.set_cons_zero, List.set_cons_succ]
                have hY : ∀ j u, (encPa p)[j]? = some u → (V0.alloc (.cells #[.int .i64 p.a, .int .i64 p.b, .int .i64 p.c, .int .i64 p.d] 32)).cell? ⟨V0.heap.size, j, none⟩ = some u := fun j u hj => (cell_new V0 #[.int .i64 p.a, .int .i64 p.b, .int .i64 p.c, .int .i64 p.d] 32 j).trans (by simpa using hj)
                have HBc := Lib.hid (HBc.out.trans ((bel1 (W := V0) (.cells #[.int .i64 p.a, .int .i64 p.b, .int .i64 p.c, .int .i64 p.d] 32)).mono HBc.out.size))
                generalize hWE : V0.alloc (.cells #[.int .i64 p.a, .int .i64 p.b, .int .i64 p.c, .int .i64 p.d] 32) = WE at *
                refine anyR_ready (rs := [0]) (by kernel_rfl) (by simp) (by decide) ?_
                refine AllReadyR.cons rfl (fun K hK => ?_) AllReadyR.nil
                go_simp
                refine hK.out _ _ ?_ (fun hHeld => ?_)
                · exact ⟨cell_al hHeld.1 _, cell_al hHeld.2.1 _, cell_al hHeld.2.2.1 _, cell_al hHeld.2.2.2 _⟩
                clear hK K
                try simp only [Act.put, List.getElem_toArray, List.getElem_cons_succ, List.getElem_cons_zero, List.setIfInBounds_toArray, List.set_cons_zero, List.set_cons_succ]
                have hE := (OwnW.made (e := 32) rowPa.len WE #[] ([] : List PaM) 0 rfl rfl (by decide)).base_le HBc.out.size
                have HBc := Lib.hid (HBc.out.trans ((bel1 (W := WE) (.cells #[] 32)).mono HBc.out.size))
                have hY := fun j u hj => cell_al (hY j u hj) (.cells #[] 32)
                refine anyR_ready (rs := [4]) (by kernel_rfl) (by simp) (by decide) ?_
                refine AllReadyR.cons rfl (fun K hK => ?_) AllReadyR.nil
                obtain ⟨vA, wA, r4, hA, hT4, hb4⟩ := append_pairs 22 hE (HUp.out.bel HBc.out) (by simp only [List.length_nil]; have := HLs.out; omega) HBc.out.size
                refine step_append_runP rfl _ _ rfl rfl rfl r4 ?_
                refine hK.out _ _ ?_ (fun hHeld => ?_)
                · exact ⟨cell_below hb4 HPB.out hHeld.1, cell_below hb4 HPB.out hHeld.2.1, cell_below hb4 HPB.out hHeld.2.2.1, cell_below hb4 HPB.out hHeld.2.2.2⟩
                clear hK K
                try simp only [Act.put, List.getElem_toArray, List.getElem_cons_succ, List.getElem_cons_zero, List.setIfInBounds_toArray, List.set_cons_zero, List.set_cons_succ]
                rw [List.nil_append] at hA
                have HBc := Lib.hid (HBc.out.trans hb4)
                obtain ⟨aA, nA, cA, hvA⟩ : ∃ a n c, vA = .slice a n c := (by obtain ⟨a, c, h⟩ := hA.form; exact ⟨a, _, c, h⟩)
                subst hvA
                clear r4
                have hY : ∀ j u, (encPa p)[j]? = some u → wA.cell? ⟨V0.heap.size, j, none⟩ = some u := fun j u hj => cell_touch (hY j u hj) hT4 (fun hh => own_ne' hWE hh)
                refine anyR_ready (rs := [7]) (by kernel_rfl) (by simp) (by decide) ?_
                refine AllReadyR.cons rfl (fun K hK => ?_) AllReadyR.nil
                obtain ⟨vP, wP, r7, hP, hT7, hb7⟩ := append_pairs 22 hA (arg_one hY) (by simp only [List.length_singleton]; have := HLs.out; omega) HBc.out.size
                refine step_append_runP rfl _ _ rfl rfl rfl r7 ?_
                refine hK.out _ _ ?_ (fun hHeld => ?_)
                · exact ⟨cell_below hb7 HPB.out hHeld.1, cell_below hb7 HPB.out hHeld.2.1, cell_below hb7 HPB.out hHeld.2.2.1, cell_below hb7 HPB.out hHeld.2.2.2⟩
                clear hK K
                try simp only [Act.put, List.getElem_toArray, List.getElem_cons_succ, List.getElem_cons_zero, List.setIfInBounds_toArray, List.set_cons_zero, List.set_cons_succ]
                have HBc := Lib.hid (HBc.out.trans hb7)
                obtain ⟨aP, nP, cP, hvP⟩ : ∃ a n c, vP = .slice a n c := (by obtain ⟨a, c, h⟩ := hP.form; exact ⟨a, _, c, h⟩)
                subst hvP
                refine anyR_ready (rs := [11]) (by kernel_rfl) (by simp) (by decide) ?_
                refine AllReadyR.cons rfl (fun K hK => ?_) AllReadyR.nil
                obtain ⟨vF, wF, r11, hF, hT11, hb11⟩ := append_pairs 22 hP (HFr.out.bel HBc.out) (by simp only [List.length_append, List.length_singleton]; have := HLs.out; omega) HBc.out.size
                refine step_append_runP rfl _ _ rfl rfl rfl r11 ?_
                refine hK.out _ _ ?_ (fun hHeld => ?_)
                · exact ⟨cell_below hb11 HPB.out hHeld.1, cell_below hb11 HPB.out hHeld.2.1, cell_below hb11 HPB.out hHeld.2.2.1, cell_below hb11 HPB.out hHeld.2.2.2⟩
                clear hK K hHeld
                try simp only [Act.put, List.getElem_toArray, List.getElem_cons_succ, List.getElem_cons_zero, List.setIfInBounds_toArray, List.set_cons_zero, List.set_cons_succ]
                have HBc := Lib.hid (HBc.out.trans hb11)
                rw [← HIn.out] at hF
                have HFa := Lib.hid (hF.arg rowPa.len)
                have HFk := Lib.hid (show ∀ k, vF.ownBlock = some k → w.heap.size ≤ k from fun k hk => Nat.le_trans HB4.out.size (hF.lt k hk).1)
                clear r7 r11 hP hA hF hT7 hT11 hb7 hb11
                refine anyR_end (by kernel_rfl) ?_
                refine wpAny_ready (rs := [12]) (by kernel_rfl) (by simp) ?_
                refine AllReady.cons rfl (fun K hK => ?_) AllReady.nil
                go_simp
                refine hK _ _ ?_
                clear hK K
                try simp only [Act.put, List.getElem_toArray, List.getElem_cons_succ, List.getElem_cons_zero, List.setIfInBounds_toArray, List.set_cons_zero, List.set_cons_succ]
                refine wpAny_done (by kernel_rfl) ?_ _
                go_wp2_with fail
                go_ret
                exact ⟨_, rfl, HFa.out, fun k hk => Or.inr (HFk.out k hk), HB4.out.trans (HBc.out.mono HB4.out.size)⟩
      · have HAk := Lib.hid (atP_of hk HN.out (fun q' hq' => by
          have := (List.getElem?_eq_some_iff.1 hq').1
          omega))
        have e0 : decide ((k : Int) < (K.length : Int)) = false := decide_eq_false (by omega)
        clear HN
        go_wp2_with fail
        refine wp_region_quiet_below (by kernel_rfl) (by kernel_rfl) ?_
        repeat (go_big_quiet_step (fail))
        refine wpQuiet_nil ?_
        intro _ hw'
        obtain ⟨⟨dq, osq⟩, hw''⟩ := hw'
        subst hw''
        have HBq := Lib.hid (HBr.out.trans ((below_regrown wr dq osq).mono HBr.out.size))
        clear k0 k1 k2 k3
        generalize grow (redrawn wr dq) osq = W4 at HBq ⊢
        have HIn := Lib.hid (HI.out k HAk.out)
        have hbd : Below W4.heap.size W4 W4.drew := (Below.refl _ _).drew
        have hB4 := (HB1.out.trans (HBq.out.mono HB1.out.size)).trans (hbd.mono (HB1.out.trans (HBq.out.mono HB1.out.size)).size)
        have HB4 := Lib.hid hB4
        have hKd := (HKa.out.bel HBq.out).bel hbd
        obtain ⟨va, hs1, ha⟩ := pairs_upto hKd k hk
        obtain ⟨vb, hs2, hbv⟩ := pairs_from hKd k hk
        have HLs := Lib.hid (show (K.take k).length + (K.drop k).length ≤ 1000 by rw [List.length_take, List.length_drop]; have := HKl.out; omega)
        clear HKl
        (try clear HAt HN HNx)
        generalize K.take k = U at ha HIn HLs
        generalize K.drop k = R at hbv HIn HLs
        have HUp := Lib.hid ha
        have HFr := Lib.hid hbv
        obtain ⟨aa, ca, hva⟩ := ha.form
        obtain ⟨ab, cb, hvb⟩ := hbv.form
        subst hva hvb
        obtain ⟨m0, m1, m2, m3⟩ := HC.out
        have m0 := cell_bel (cell_bel m0 HBq.out) hbd
        have m1 := cell_bel (cell_bel m1 HBq.out) hbd
        have m2 := cell_bel (cell_bel m2 HBq.out) hbd
        have m3 := cell_bel (cell_bel m3 HBq.out) hbd
        have HPB := Lib.hid (lt_of_cell m0)
        have HBc := Lib.hid (Below.refl W4.drew.heap.size W4.drew)
        clear hbd hB4 hKd ha hbv
        go_wp2_with fail
        refine wp_region_R (S := fun W => W.cell? ⟨w.heap.size, 0, none⟩ = some (.int .i64 p.a) ∧ W.cell? ⟨w.heap.size, 1, none⟩ = some (.int .i64 p.b) ∧ W.cell? ⟨w.heap.size, 2, none⟩ = some (.int .i64 p.c) ∧ W.cell? ⟨w.heap.size, 3, none⟩ = some (.int .i64 p.d)) 12 (by kernel_rfl) (by simp) ⟨m0, m1, m2, m3⟩ (fun hHeld => ?_)
        clear m0 m1 m2 m3
        generalize W4.drew = V0 at HB4 HUp HFr HPB HBc hHeld ⊢
        refine anyR_take (i := 1) (v := ?_) rfl (by kernel_rfl) (by kernel_rfl) (by kernel_rfl) (fun _ _ _ h => h) (Or.inl ⟨by rfl, ?_⟩) (by assumption) ?_
        rotate_left
        · (intro w hSw; (try dsimp only at hSw); go_simp)
          all_goals with_reducible rfl
        try simp only [Act.put, List.getElem_toArray, List.getElem_cons_succ, List.getElem_cons_zero, List.setIfInBounds_toArray, List.set_cons_zero, List.set_cons_succ]
        refine anyR_take (i := 2) (v := ?_) rfl (by kernel_rfl) (by kernel_rfl) (by kernel_rfl) (fun _ _ _ h => h) (Or.inl ⟨by rfl, ?_⟩) (by assumption) ?_
        rotate_left
        · (intro w hSw; (try dsimp only at hSw); go_simp)
          all_goals with_reducible rfl
        try simp only [Act.put, List.getElem_toArray, List.getElem_cons_succ, List.getElem_cons_zero, List.setIfInBounds_toArray, List.set_cons_zero, List.set_cons_succ]
        refine anyR_take (i := 3) (v := ?_) rfl (by kernel_rfl) (by kernel_rfl) (by kernel_rfl) (fun _ _ _ h => h) (Or.inl ⟨by rfl, ?_⟩) (by assumption) ?_
        rotate_left
        · (intro w hSw; (try dsimp only at hSw); go_simp)
          all_goals with_reducible rfl
        try simp only [Act.put, List.getElem_toArray, List.getElem_cons_succ, List.getElem_cons_zero, List.setIfInBounds_toArray, List.set_cons_zero, List.set_cons_succ]
        refine anyR_take (i := 5) (v := ?_) rfl (by kernel_rfl) (by kernel_rfl) (by kernel_rfl) (fun _ _ _ h => h) (Or.inl ⟨by rfl, ?_⟩) (by assumption) ?_
        rotate_left
        · (intro w hSw; (try dsimp only at hSw); go_simp)
          all_goals with_reducible rfl
        try simp only [Act.put, List.getElem_toArray, List.getElem_cons_succ, List.getElem_cons_zero, List.setIfInBounds_toArray, List.set_cons_zero, List.set_cons_succ]
        refine anyR_take (i := 8) (v := ?_) rfl (by kernel_rfl) (by kernel_rfl) (by kernel_rfl) (fun _ _ _ h => h) (Or.inl ⟨by rfl, ?_⟩) (by assumption) ?_
        rotate_left
        · (intro w hSw; (try dsimp only at hSw); go_simp)
          all_goals with_reducible rfl
        try simp only [Act.put, List.getElem_toArray, List.getElem_cons_succ, List.getElem_cons_zero, List.setIfInBounds_toArray, List.set_cons_zero, List.set_cons_succ]
        refine anyR_take (i := 9) (v := ?_) rfl (by kernel_rfl) (by kernel_rfl) (by kernel_rfl) (fun _ _ _ h => h) (Or.inl ⟨by rfl, ?_⟩) (by assumption) ?_
        rotate_left
        · (intro w hSw; (try dsimp only at hSw); go_simp)
          all_goals with_reducible rfl
        try simp only [Act.put, List.getElem_toArray, List.getElem_cons_succ, List.getElem_cons_zero, List.setIfInBounds_toArray, List.set_cons_zero, List.set_cons_succ]
        refine anyR_take (i := 10) (v := ?_) rfl (by kernel_rfl) (by kernel_rfl) (by kernel_rfl) (fun _ _ _ h => h) (Or.inl ⟨by rfl, ?_⟩) (by assumption) ?_
        rotate_left
        · (intro w hSw; (try dsimp only at hSw); go_simp)
          all_goals with_reducible rfl
        try simp only [Act.put, List.getElem_toArray, List.getElem_cons_succ, List.getElem_cons_zero, List.setIfInBounds_toArray, List.set_cons_zero, List.set_cons_succ]
        refine anyR_ready (rs := [0, 6]) (by kernel_rfl) (by simp) (by decide) ?_
        refine AllReadyR.cons rfl (fun K hK => ?_) (AllReadyR.cons rfl (fun K hK => ?_) AllReadyR.nil)
        · go_simp
          refine hK.out _ _ ?_ (fun hHeld => ?_)
          · exact ⟨cell_al hHeld.1 _, cell_al hHeld.2.1 _, cell_al hHeld.2.2.1 _, cell_al hHeld.2.2.2 _⟩
          clear hK K
          try simp only [Act.put, List.getElem_toArray, List.getElem_cons_succ, List.getElem_cons_zero, List.setIfInBounds_toArray, List.set_cons_zero, List.set_cons_succ]
          have hE := (OwnW.made (e := 32) rowPa.len V0 #[] ([] : List PaM) 0 rfl rfl (by decide)).base_le HBc.out.size
          have HBc := Lib.hid (HBc.out.trans ((bel1 (W := V0) (.cells #[] 32)).mono HBc.out.size))
          refine anyR_ready (rs := [4, 6]) (by kernel_rfl) (by simp) (by decide) ?_
          refine AllReadyR.cons rfl (fun K hK => ?_) (AllReadyR.cons rfl (fun K hK => ?_) AllReadyR.nil)
          · obtain ⟨vA, wA, r4, hA, hT4, hb4⟩ := append_pairs 22 hE (HUp.out.bel HBc.out) (by simp only [List.length_nil]; have := HLs.out; omega) HBc.out.size
            refine step_append_runP rfl _ _ rfl rfl rfl r4 ?_
            refine hK.out _ _ ?_ (fun hHeld => ?_)
            · exact ⟨cell_below hb4 HPB.out hHeld.1, cell_below hb4 HPB.out hHeld.2.1, cell_below hb4 HPB.out hHeld.2.2.1, cell_below hb4 HPB.out hHeld.2.2.2⟩
            clear hK K
            try simp only [Act.put, List.getElem_toArray, List.getElem_cons_succ, List.getElem_cons_zero, List.setIfInBounds_toArray, List.set_cons_zero, List.set_cons_succ]
            rw [List.nil_append] at hA
            have HBc := Lib.hid (HBc.out.trans hb4)
            obtain ⟨aA, nA, cA, hvA⟩ : ∃ a n c, vA = .slice a n c := (by obtain ⟨a, c, h⟩ := hA.form; exact ⟨a, _, c, h⟩)
            subst hvA
            clear r4
            refine anyR_ready (rs := [6]) (by kernel_rfl) (by simp) (by decide) ?_
            refine AllReadyR.cons rfl (fun K hK => ?_) AllReadyR.nil
            go_simp
            refine hK.out _ _ ?_ (fun hHeld => ?_)
            · exact ⟨cell_al hHeld.1 _, cell_al hHeld.2.1 _, cell_al hHeld.2.2.1 _, cell_al hHeld.2.2.2 _⟩
            clear hK K
            try simp only [Act.put, List.getElem_toArray, List.getElem_cons_succ, List.getElem_cons_zero, List.setIfInBounds_toArray, List.set_cons_zero, List.set_cons_succ]
            have hY : ∀ j u, (encPa p)[j]? = some u → (wA.alloc (.cells #[.int .i64 p.a, .int .i64 p.b, .int .i64 p.c, .int .i64 p.d] 32)).cell? ⟨wA.heap.size, j, none⟩ = some u := fun j u hj => (cell_new wA #[.int .i64 p.a, .int .i64 p.b, .int .i64 p.c, .int .i64 p.d] 32 j).trans (by simpa using hj)
            have HBc := Lib.hid (HBc.out.trans ((bel1 (W := wA) (.cells #[.int .i64 p.a, .int .i64 p.b, .int .i64 p.c, .int .i64 p.d] 32)).mono HBc.out.size))
            have hA := hA.bel (bel1 (.cells #[.int .i64 p.a, .int .i64 p.b, .int .i64 p.c, .int .i64 p.d] 32))
            refine anyR_ready (rs := [7]) (by kernel_rfl) (by simp) (by decide) ?_
            refine AllReadyR.cons rfl (fun K hK => ?_) AllReadyR.nil
            obtain ⟨vP, wP, r7, hP, hT7, hb7⟩ := append_pairs 22 hA (arg_one hY) (by simp only [List.length_singleton]; have := HLs.out; omega) HBc.out.size
            refine step_append_runP rfl _ _ rfl rfl rfl r7 ?_
            refine hK.out _ _ ?_ (fun hHeld => ?_)
            · exact ⟨cell_below hb7 HPB.out hHeld.1, cell_below hb7 HPB.out hHeld.2.1, cell_below hb7 HPB.out hHeld.2.2.1, cell_below hb7 HPB.out hHeld.2.2.2⟩
            clear hK K
            try simp only [Act.put, List.getElem_toArray, List.getElem_cons_succ, List.getElem_cons_zero, List.setIfInBounds_toArray, List.set_cons_zero, List.set_cons_succ]
            have HBc := Lib.hid (HBc.out.trans hb7)
            obtain ⟨aP, nP, cP, hvP⟩ : ∃ a n c, vP = .slice a n c := (by obtain ⟨a, c, h⟩ := hP.form; exact ⟨a, _, c, h⟩)
            subst hvP
            refine anyR_ready (rs := [11]) (by kernel_rfl) (by simp) (by decide) ?_
            refine AllReadyR.cons rfl (fun K hK => ?_) AllReadyR.nil
            obtain ⟨vF, wF, r11, hF, hT11, hb11⟩ := append_pairs 22 hP (HFr.out.bel HBc.out) (by simp only [List.length_append, List.length_singleton]; have := HLs.out; omega) HBc.out.size
            refine step_append_runP rfl _ _ rfl rfl rfl r11 ?_
            refine hK.out _ _ ?_ (fun hHeld => ?_)
            · exact ⟨cell_below hb11 HPB.out hHeld.1, cell_below hb11 HPB.out hHeld.2.1, cell_below hb11 HPB.out hHeld.2.2.1, cell_below hb11 HPB.out hHeld.2.2.2⟩
            clear hK K hHeld
            try simp only [Act.put, List.getElem_toArray, List.getElem_cons_succ, List.getElem_cons_zero, List.setIfInBounds_toArray, List.set_cons_zero, List.set_cons_succ]
            have HBc := Lib.hid (HBc.out.trans hb11)
            rw [← HIn.out] at hF
            have HFa := Lib.hid (hF.arg rowPa.len)
            have HFk := Lib.hid (show ∀ k, vF.ownBlock = some k → w.heap.size ≤ k from fun k hk => Nat.le_trans HB4.out.size (hF.lt k hk).1)
            clear r7 r11 hP hA hF hT7 hT11 hb7 hb11
            refine anyR_end (by kernel_rfl) ?_
            refine wpAny_ready (rs := [12]) (by kernel_rfl) (by simp) ?_
            refine AllReady.cons rfl (fun K hK => ?_) AllReady.nil
            go_simp
            refine hK _ _ ?_
            clear hK K
            try simp only [Act.put, List.getElem_toArray, List.getElem_cons_succ, List.getElem_cons_zero, List.setIfInBounds_toArray, List.set_cons_zero, List.set_cons_succ]
            refine wpAny_done (by kernel_rfl) ?_ _
            go_wp2_with fail
            go_ret
            exact ⟨_, rfl, HFa.out, fun k hk => Or.inr (HFk.out k hk), HB4.out.trans (HBc.out.mono HB4.out.size)⟩
          · have hEz := hE
            generalize hWE : V0.alloc (.cells #[] 32) = WE at *
            go_simp
            refine hK.out _ _ ?_ (fun hHeld => ?_)
            · exact ⟨cell_al hHeld.1 _, cell_al hHeld.2.1 _, cell_al hHeld.2.2.1 _, cell_al hHeld.2.2.2 _⟩
            clear hK K
            try simp only [Act.put, List.getElem_toArray, List.getElem_cons_succ, List.getElem_cons_zero, List.setIfInBounds_toArray, List.set_cons_zero, List.set_cons_succ]
            have hY : ∀ j u, (encPa p)[j]? = some u → (WE.alloc (.cells #[.int .i64 p.a, .int .i64 p.b, .int .i64 p.c, .int .i64 p.d] 32)).cell? ⟨WE.heap.size, j, none⟩ = some u := fun j u hj => (cell_new WE #[.int .i64 p.a, .int .i64 p.b, .int .i64 p.c, .int .i64 p.d] 32 j).trans (by simpa using hj)
            have HBc := Lib.hid (HBc.out.trans ((bel1 (W := WE) (.cells #[.int .i64 p.a, .int .i64 p.b, .int .i64 p.c, .int .i64 p.d] 32)).mono HBc.out.size))
            have hE := hEz.bel (bel1 (.cells #[.int .i64 p.a, .int .i64 p.b, .int .i64 p.c, .int .i64 p.d] 32))
            refine anyR_ready (rs := [4]) (by kernel_rfl) (by simp) (by decide) ?_
            refine AllReadyR.cons rfl (fun K hK => ?_) AllReadyR.nil
            obtain ⟨vA, wA, r4, hA, hT4, hb4⟩ := append_pairs 22 hE (HUp.out.bel HBc.out) (by simp only [List.length_nil]; have := HLs.out; omega) HBc.out.size
            refine step_append_runP rfl _ _ rfl rfl rfl r4 ?_
            refine hK.out _ _ ?_ (fun hHeld => ?_)
            · exact ⟨cell_below hb4 HPB.out hHeld.1, cell_below hb4 HPB.out hHeld.2.1, cell_below hb4 HPB.out hHeld.2.2.1, cell_below hb4 HPB.out hHeld.2.2.2⟩
            clear hK K
            try simp only [Act.put, List.getElem_toArray, List.getElem_cons_succ, List.getElem_cons_zero, List.setIfInBounds_toArray, List.set_cons_zero, List.set_cons_succ]
            rw [List.nil_append] at hA
            have HBc := Lib.hid (HBc.out.trans hb4)
            obtain ⟨aA, nA, cA, hvA⟩ : ∃ a n c, vA = .slice a n c := (by obtain ⟨a, c, h⟩ := hA.form; exact ⟨a, _, c, h⟩)
            subst hvA
            clear r4
            have hY : ∀ j u, (encPa p)[j]? = some u → wA.cell? ⟨WE.heap.size, j, none⟩ = some u := fun j u hj => cell_touch (hY j u hj) hT4 (fun hh => own_ne hWE hh)
            refine anyR_ready (rs := [7]) (by kernel_rfl) (by simp) (by decide) ?_
            refine AllReadyR.cons rfl (fun K hK => ?_) AllReadyR.nil
            obtain ⟨vP, wP, r7, hP, hT7, hb7⟩ := append_pairs 22 hA (arg_one hY) (by simp only [List.length_singleton]; have := HLs.out; omega) HBc.out.size
            refine step_append_runP rfl _ _ rfl rfl rfl r7 ?_
            refine hK.out _ _ ?_ (fun hHeld => ?_)
            · exact ⟨cell_below hb7 HPB.out hHeld.1, cell_below hb7 HPB.out hHeld.2.1, cell_below hb7 HPB.out hHeld.2.2.1, cell_below hb7 HPB.out hHeld.2.2.2⟩
            clear hK K
            try simp only [Act.put, List.getElem_toArray, List.getElem_cons_succ, List.getElem_cons_zero, List.setIfInBounds_toArray, List.set_cons_zero, List.set_cons_succ]
            have HBc := Lib.hid (HBc.out.trans hb7)
            obtain ⟨aP, nP, cP, hvP⟩ : ∃ a n c, vP = .slice a n c := (by obtain ⟨a, c, h⟩ := hP.form; exact ⟨a, _, c, h⟩)
            subst hvP
            refine anyR_ready (rs := [11]) (by kernel_rfl) (by simp) (by decide) ?_
            refine AllReadyR.cons rfl (fun K hK => ?_) AllReadyR.nil
            obtain ⟨vF, wF, r11, hF, hT11, hb11⟩ := append_pairs 22 hP (HFr.out.bel HBc.out) (by simp only [List.length_append, List.length_singleton]; have := HLs.out; omega) HBc.out.size
            refine step_append_runP rfl _ _ rfl rfl rfl r11 ?_
            refine hK.out _ _ ?_ (fun hHeld => ?_)
            · exact ⟨cell_below hb11 HPB.out hHeld.1, cell_below hb11 HPB.out hHeld.2.1, cell_below hb11 HPB.out hHeld.2.2.1, cell_below hb11 HPB.out hHeld.2.2.2⟩
            clear hK K hHeld
            try simp only [Act.put, List.getElem_toArray, List.getElem_cons_succ, List.getElem_cons_zero, List.setIfInBounds_toArray, List.set_cons_zero, List.set_cons_succ]
            have HBc := Lib.hid (HBc.out.trans hb11)
            rw [← HIn.out] at hF
            have HFa := Lib.hid (hF.arg rowPa.len)
            have HFk := Lib.hid (show ∀ k, vF.ownBlock = some k → w.heap.size ≤ k from fun k hk => Nat.le_trans HB4.out.size (hF.lt k hk).1)
            clear r7 r11 hP hA hF hT7 hT11 hb7 hb11
            refine anyR_end (by kernel_rfl) ?_
            refine wpAny_ready (rs := [12]) (by kernel_rfl) (by simp) ?_
            refine AllReady.cons rfl (fun K hK => ?_) AllReady.nil
            go_simp
            refine hK _ _ ?_
            clear hK K
            try simp only [Act.put, List.getElem_toArray, List.getElem_cons_succ, List.getElem_cons_zero, List.setIfInBounds_toArray, List.set_cons_zero, List.set_cons_succ]
            refine wpAny_done (by kernel_rfl) ?_ _
            go_wp2_with fail
            go_ret
            exact ⟨_, rfl, HFa.out, fun k hk => Or.inr (HFk.out k hk), HB4.out.trans (HBc.out.mono HB4.out.size)⟩
        · go_simp
          refine hK.out _ _ ?_ (fun hHeld => ?_)
          · exact ⟨cell_al hHeld.1 _, cell_al hHeld.2.1 _, cell_al hHeld.2.2.1 _, cell_al hHeld.2.2.2 _⟩
          clear hK K
          try simp only [Act.put, List.getElem_toArray, List.getElem_cons_succ, List.getElem_cons_zero, List.setIfInBounds_toArray, List.set_cons_zero, List.set_cons_succ]
          have hY : ∀ j u, (encPa p)[j]? = some u → (V0.alloc (.cells #[.int .i64 p.a, .int .i64 p.b, .int .i64 p.c, .int .i64 p.d] 32)).cell? ⟨V0.heap.size, j, none⟩ = some u := fun j u hj => (cell_new V0 #[.int .i64 p.a, .int .i64 p.b, .int .i64 p.c, .int .i64 p.d] 32 j).trans (by simpa using hj)
          have HBc := Lib.hid (HBc.out.trans ((bel1 (W := V0) (.cells #[.int .i64 p.a, .int .i64 p.b, .int .i64 p.c, .int .i64 p.d] 32)).mono HBc.out.size))
          generalize hWE : V0.alloc (.cells #[.int .i64 p.a, .int .i64 p.b, .int .i64 p.c, .int .i64 p.d] 32) = WE at *
          refine anyR_ready (rs := [0]) (by kernel_rfl) (by simp) (by decide) ?_
          refine AllReadyR.cons rfl (fun K hK => ?_) AllReadyR.nil
          go_simp
          refine hK.out _ _ ?_ (fun hHeld => ?_)
          · exact ⟨cell_al hHeld.1 _, cell_al hHeld.2.1 _, cell_al hHeld.2.2.1 _, cell_al hHeld.2.2.2 _⟩
          clear hK K
          try simp only [Act.put, List.getElem_toArray, List.getElem_cons_succ, List.getElem_cons_zero, List.setIfInBounds_toArray, List.set_cons_zero, List.set_cons_succ]
          have hE := (OwnW.made (e := 32) rowPa.len WE #[] ([] : List PaM) 0 rfl rfl (by decide)).base_le HBc.out.size
          have HBc := Lib.hid (HBc.out.trans ((bel1 (W := WE) (.cells #[] 32)).mono HBc.out.size))
          have hY := fun j u hj => cell_al (hY j u hj) (.cells #[] 32)
          refine anyR_ready (rs := [4]) (by kernel_rfl) (by simp) (by decide) ?_
          refine AllReadyR.cons rfl (fun K hK => ?_) AllReadyR.nil
          obtain ⟨vA, wA, r4, hA, hT4, hb4⟩ := append_pairs 22 hE (HUp.out.bel HBc.out) (by simp only [List.length_nil]; have := HLs.out; omega) HBc.out.size
          refine step_append_runP rfl _ _ rfl rfl rfl r4 ?_
          refine hK.out _ _ ?_ (fun hHeld => ?_)
          · exact ⟨cell_below hb4 HPB.out hHeld.1, cell_below hb4 HPB.out hHeld.2.1, cell_below hb4 HPB.out hHeld.2.2.1, cell_below hb4 HPB.out hHeld.2.2.2⟩
          clear hK K
          try simp only [Act.put, List.getElem_toArray, List.getElem_cons_succ, List.getElem_cons_zero, List.setIfInBounds_toArray, List.set_cons_zero, List.set_cons_succ]
          rw [List.nil_append] at hA
          have HBc := Lib.hid (HBc.out.trans hb4)
          obtain ⟨aA, nA, cA, hvA⟩ : ∃ a n c, vA = .slice a n c := (by obtain ⟨a, c, h⟩ := hA.form; exact ⟨a, _, c, h⟩)
          subst hvA
          clear r4
          have hY : ∀ j u, (encPa p)[j]? = some u → wA.cell? ⟨V0.heap.size, j, none⟩ = some u := fun j u hj => cell_touch (hY j u hj) hT4 (fun hh => own_ne' hWE hh)
          refine anyR_ready (rs := [7]) (by kernel_rfl) (by simp) (by decide) ?_
          refine AllReadyR.cons rfl (fun K hK => ?_) AllReadyR.nil
          obtain ⟨vP, wP, r7, hP, hT7, hb7⟩ := append_pairs 22 hA (arg_one hY) (by simp only [List.length_singleton]; have := HLs.out; omega) HBc.out.size
          refine step_append_runP rfl _ _ rfl rfl rfl r7 ?_
          refine hK.out _ _ ?_ (fun hHeld => ?_)
          · exact ⟨cell_below hb7 HPB.out hHeld.1, cell_below hb7 HPB.out hHeld.2.1, cell_below hb7 HPB.out hHeld.2.2.1, cell_below hb7 HPB.out hHeld.2.2.2⟩
          clear hK K
          try simp only [Act.put, List.getElem_toArray, List.getElem_cons_succ, List.getElem_cons_zero, List.setIfInBounds_toArray, List.set_cons_zero, List.set_cons_succ]
          have HBc := Lib.hid (HBc.out.trans hb7)
          obtain ⟨aP, nP, cP, hvP⟩ : ∃ a n c, vP = .slice a n c := (by obtain ⟨a, c, h⟩ := hP.form; exact ⟨a, _, c, h⟩)
          subst hvP
          refine anyR_ready (rs := [11]) (by kernel_rfl) (by simp) (by decide) ?_
          refine AllReadyR.cons rfl (fun K hK => ?_) AllReadyR.nil
          obtain ⟨vF, wF, r11, hF, hT11, hb11⟩ := append_pairs 22 hP (HFr.out.bel HBc.out) (by simp only [List.length_append, List.length_singleton]; have := HLs.out; omega) HBc.out.size
          refine step_append_runP rfl _ _ rfl rfl rfl r11 ?_
          refine hK.out _ _ ?_ (fun hHeld => ?_)
          · exact ⟨cell_below hb11 HPB.out hHeld.1, cell_below hb11 HPB.out hHeld.2.1, cell_below hb11 HPB.out hHeld.2.2.1, cell_below hb11 HPB.out hHeld.2.2.2⟩
          clear hK K hHeld
          try simp only [Act.put, List.getElem_toArray, List.getElem_cons_succ, List.getElem_cons_zero, List.setIfInBounds_toArray, List.set_cons_zero, List.set_cons_succ]
          have HBc := Lib.hid (HBc.out.trans hb11)
          rw [← HIn.out] at hF
          have HFa := Lib.hid (hF.arg rowPa.len)
          have HFk := Lib.hid (show ∀ k, vF.ownBlock = some k → w.heap.size ≤ k from fun k hk => Nat.le_trans HB4.out.size (hF.lt k hk).1)
          clear r7 r11 hP hA hF hT7 hT11 hb7 hb11
          refine anyR_end (by kernel_rfl) ?_
          refine wpAny_ready (rs := [12]) (by kernel_rfl) (by simp) ?_
          refine AllReady.cons rfl (fun K hK => ?_) AllReady.nil
          go_simp
          refine hK _ _ ?_
          clear hK K
          try simp only [Act.put, List.getElem_toArray, List.getElem_cons_succ, List.getElem_cons_zero, List.setIfInBounds_toArray, List.set_cons_zero, List.set_cons_succ]
          refine wpAny_done (by kernel_rfl) ?_ _
          go_wp2_with fail
          go_ret
          exact ⟨_, rfl, HFa.out, fun k hk => Or.inr (HFk.out k hk), HB4.out.trans (HBc.out.mono HB4.out.size)⟩
end Go.Proofs.YtnefpiohmokkiaaGreatDoor
