/- Joined texts: The reference of layer 11: Parse. -/
import Derived.Test.YtfnfcngkaepnjaaGreatDoorQZ43
import Derived.Test.YtfnfcngkaepnjaaGreatDoorQZ38
import Derived.Deep.RegionHeld3
/- The reference of layer 11: Parse. -/
namespace Go.Proofs.YtfnfcngkaepnjaaGreatDoor
set_option linter.unusedVariables false
set_option linter.unusedSimpArgs false
open Go Go.Proofs Go.RowKit Go.Sort

set_option maxRecDepth 100000 in
set_option maxHeartbeats 8000000 in
theorem rfParse_any (s : ByteArray) (hs : s.size ≤ 900000) (hn : (nlF s).length ≤ 90001) (w : World) (hE : EnvM w) :
    Calls Tryz.prog 31 #[.string s] w (AsmQ (lnsO (nlF s)) (endO (nlF s)) w) := by
  have CC := Lib.hid fun W => rfCut_any s (by omega) W
  have HSz := Lib.hid (show ∀ x ∈ lnsO (nlF s), x.size ≤ 900000 from fun x hx => by
    have h1 : x ∈ nlF s := by
      unfold lnsO at hx
      split at hx
      · exact List.mem_of_mem_take hx
      · exact hx
    have := nl_size s x h1
    omega)
  have HLn := Lib.hid (show (lnsO (nlF s)).length ≤ 90001 by
    unfold lnsO
    split
    · rw [List.length_take]; omega
    · exact hn)
  have HEB := Lib.hid fun h0 => end_byte s h0
  have HNE := Lib.hid (show lnsO (nlF s) ≠ [] → 0 < s.size from fun h => by
    rcases Nat.eq_zero_or_pos s.size with h0 | h0
    · exfalso
      have hse : s = ⟨#[]⟩ := ByteArray.ext (Array.eq_empty_of_size_eq_zero h0)
      subst hse
      exact h (by decide +kernel)
    · exact h0)
  generalize lnsO (nlF s) = L at CC HSz HLn HNE ⊢
  generalize endO (nlF s) = E at HEB ⊢
  have HE := Lib.hid hE.env
  have hz0 := ZrB.new w 58
  have hb0 := bel1 (W := w) (.cells #[.slice none 0 0, .int .i64 0, .int .i64 0, .int .i64 0] 58)
  clear hE hn
  go_enter Tryz.func31, Tryz.ntmps31
  go_wp2_with fail
  refine (CC.out _).mono ?_
  rintro e W1 ⟨vL, rfl, hO, hb1⟩
  have HB1 := Lib.hid (belT hb0 hb1)
  have HZ1 := Lib.hid (hz0.bel hb1)
  have HD := Lib.hid (show w.heap.size < W1.heap.size from lt_of_cell HZ1.out.c0)
  have HL1 := Lib.hid (hO.arg rowS.len)
  obtain ⟨al, cl, rfl⟩ := hO.form
  clear hz0 hb0 hO hb1 CC
  go_wp2_with fail
  go_loopw [7] (fun vi wr => ∃ k : Nat, vi = .int .i64 k ∧ k ≤ L.length ∧ ∃ P Q vf, Hid (linesO 0 L zeroP = linesO k (L.drop k) P) ∧ Hid (Small k P) ∧ Hid (Q.map QFn.f = P.funcs) ∧ Hid (RdB (W1.heap.size + 1) W1.heap.size Q vf P.mu P.rw P.gr wr) ∧ Hid (Below W1.heap.size W1 wr)) (fun vi _ => L.length - (intOf vi).toNat)
  case atStart => exact ⟨0, rfl, by omega, zeroP, [], _, Lib.hid rfl, Lib.hid small_zero, Lib.hid rfl, Lib.hid (RdB.new _ _), Lib.hid (bel1 _)⟩
  case round =>
    obtain ⟨k, rfl, hk, P, Q, vf, HLO, HSM, HQ, HRB, HBW⟩ := hrel
    have HZ := Lib.hid (HZ1.out.below HBW.out HD.out)
    have HBw := Lib.hid (HB1.out.trans (HBW.out.mono (Nat.le_of_lt HD.out)))
    have HEr := Lib.hid (HE.out.on HBw.out)
    have hll := HLn.out
    by_cases hlt : k < L.length
    · obtain ⟨x, hx⟩ : ∃ x, L[k]? = some x := ⟨L[k], List.getElem?_eq_getElem hlt⟩
      obtain ⟨bl, ol, c', hv, -, hH⟩ := (HL1.out.bel HBW.out).at_ hx
      simp only [Value.slice.injEq, true_and] at hv
      obtain ⟨rfl, rfl⟩ := hv
      have x0 := hH k 0 _ _ hx rfl
      have hdr := Lib.hid (show linesO k (L.drop k) P = linesO k (x :: L.drop (k + 1)) P by
        obtain ⟨h2, h3⟩ := List.getElem?_eq_some_iff.1 hx
        rw [List.drop_eq_getElem_cons h2, h3])
      have hxs := HSz.out x (List.mem_of_getElem? hx)
      clear hH hx
      by_cases hk3 : k < 3
      · obtain rfl | rfl | rfl : k = 0 ∨ k = 1 ∨ k = 2 := by omega
        · simp only [Nat.add_zero, Nat.mul_one] at x0
          have hst0 : stepO 0 x P = (numO wMu x).map fun n => { P with mu := n } := rfl
          have HEd := Lib.hid (HEr.out.on (Below.refl _ _).drew)
          have hbd := (Below.refl wr.heap.size wr).drew
          cases hno : numO wMu x with
          | none =>
            have HRO := Lib.hid (show readO L E = .error 0 by
              unfold readO
              rw [HLO.out, hdr.out]
              simp only [linesO, hst0, hno, Option.map_none])
            have CH := Lib.hid fun W hE => rfHeaded_any x wMu (by decide) W hE
            rw [hno] at CH
            unfold wMu headV at CH
            dsimp only at CH
            clear hst0 hno
            go_wp2_with fail
            have k0 : wr.drew.cell? ⟨bl, ol, none⟩ = some (.string x) := x0
            refine wp_region_R (S := fun W => W.cell? ⟨bl, ol, none⟩ = some (.string x)) 9 (by kernel_rfl) (by simp) k0 (fun hHeld => ?_)
            clear k0
            generalize wr.drew = V0 at HEd hbd hHeld ⊢
            refine anyR_take (i := 0) (v := ?_) rfl (by kernel_rfl) (by kernel_rfl) (by kernel_rfl) (fun _ _ _ h => h) (Or.inl ⟨by rfl, ?_⟩) (by assumption) ?_
            rotate_left
            · (intro w hSw; (try dsimp only at hSw); go_simp)
              all_goals with_reducible rfl
            try simp only [Act.put, List.getElem_toArray, List.getElem_cons_succ, List.getElem_cons_zero, List.setIfInBounds_toArray, List.set_cons_zero, List.set_cons_succ]
            refine anyR_take (i := 1) (v := ?_) rfl (by kernel_rfl) (by kernel_rfl) (by kernel_rfl) (fun _ _ _ h => h) (Or.inl ⟨by rfl, ?_⟩) (by assumption) ?_
            rotate_left
            · (intro w hSw; (try dsimp only at hSw); go_simp)
              all_goals with_reducible rfl
            try simp only [Act.put, List.getElem_toArray, List.getElem_cons_succ, List.getElem_cons_zero, List.setIfInBounds_toArray, List.set_cons_zero, List.set_cons_succ]
            refine anyR_take (i := 2) (v := ?_) rfl (by kernel_rfl) (by kernel_rfl) (by kernel_rfl) (fun _ _ _ h => h) (Or.inl ⟨by rfl, ?_⟩) (by assumption) ?_
            rotate_left
            · (intro w hSw; (try dsimp only at hSw); go_simp)
              all_goals with_reducible rfl
            try simp only [Act.put, List.getElem_toArray, List.getElem_cons_succ, List.getElem_cons_zero, List.setIfInBounds_toArray, List.set_cons_zero, List.set_cons_succ]
            refine anyR_take (i := 3) (v := ?_) rfl (by kernel_rfl) (by kernel_rfl) (by kernel_rfl) (fun _ _ _ h => h) (Or.inl ⟨by rfl, ?_⟩) (by assumption) ?_
            rotate_left
            · (intro w hSw; (try dsimp only at hSw); go_simp)
              all_goals with_reducible rfl
            try simp only [Act.put, List.getElem_toArray, List.getElem_cons_succ, List.getElem_cons_zero, List.setIfInBounds_toArray, List.set_cons_zero, List.set_cons_succ]
            refine anyR_take (i := 5) (v := ?_) rfl (by kernel_rfl) (by kernel_rfl) (by kernel_rfl) (fun _ _ _ h => h) (Or.inl ⟨by rfl, ?_⟩) (by assumption) ?_
            rotate_left
            · (intro w hSw; (try dsimp only at hSw); go_simp)
              all_goals with_reducible rfl
            try simp only [Act.put, List.getElem_toArray, List.getElem_cons_succ, List.getElem_cons_zero, List.setIfInBounds_toArray, List.set_cons_zero, List.set_cons_succ]
            refine anyR_ready (rs := [4]) (by kernel_rfl) (by simp) (by decide) ?_
            refine AllReadyR.cons rfl (fun K hK => ?_) AllReadyR.nil
            go_simp
            have k1 := cell_new V0 #[.string ⟨#[109, 117, 116, 101, 120, 101, 115]⟩, .string ⟨#[114, 119, 108, 111, 99, 107, 115]⟩, .string ⟨#[103, 114, 111, 117, 112, 115]⟩] 9 0
            have HEd := Lib.hid (HEd.out.on (bel1 (.cells #[.string ⟨#[109, 117, 116, 101, 120, 101, 115]⟩, .string ⟨#[114, 119, 108, 111, 99, 107, 115]⟩, .string ⟨#[103, 114, 111, 117, 112, 115]⟩] 9)))
            refine hK.out _ _ ?_ (fun hHeld => ?_)
            · exact cell_al hHeld _
            clear hK K
            try simp only [Act.put, List.getElem_toArray, List.getElem_cons_succ, List.getElem_cons_zero, List.setIfInBounds_toArray, List.set_cons_zero, List.set_cons_succ]
            refine anyR_take (i := 6) (v := ?_) rfl (by kernel_rfl) (by kernel_rfl) (by kernel_rfl) (fun _ _ _ h => h) (Or.inl ⟨by rfl, ?_⟩) (by assumption) ?_
            rotate_left
            · (intro w hSw; (try dsimp only at hSw); go_simp)
              all_goals with_reducible rfl
            try simp only [Act.put, List.getElem_toArray, List.getElem_cons_succ, List.getElem_cons_zero, List.setIfInBounds_toArray, List.set_cons_zero, List.set_cons_succ]
            refine anyR_ready (rs := [7]) (by kernel_rfl) (by simp) (by decide) ?_
            refine AllReadyR.cons rfl (fun K hK => ?_) AllReadyR.nil
            go_simp
            refine hK.out _ _ (by assumption) (fun hHeld => ?_)
            clear hK K k1
            try simp only [Act.put, List.getElem_toArray, List.getElem_cons_succ, List.getElem_cons_zero, List.setIfInBounds_toArray, List.set_cons_zero, List.set_cons_succ]
            refine anyR_ready (rs := [8]) (by kernel_rfl) (by simp) (by decide) ?_
            refine AllReadyR.cons rfl (fun K hK => ?_) AllReadyR.nil
            go_simp
            refine (CH.out _ HEd.out).mono ?_
            rintro e w5 ⟨rfl, hb5⟩
            refine hK.out _ _ ?_ (fun hHeld => ?_)
            · exact cell_bel hHeld hb5
            clear hK K
            try simp only [Act.put, List.getElem_toArray, List.getElem_cons_succ, List.getElem_cons_zero, List.setIfInBounds_toArray, List.set_cons_zero, List.set_cons_succ]
            clear hHeld
            refine anyR_end (by kernel_rfl) ?_
            refine wpAny_ready (rs := [9]) (by kernel_rfl) (by simp) ?_
            refine AllReady.cons rfl (fun K hK => ?_) AllReady.nil
            go_simp
            refine hK _ _ ?_
            clear hK K
            try simp only [Act.put, List.getElem_toArray, List.getElem_cons_succ, List.getElem_cons_zero, List.setIfInBounds_toArray, List.set_cons_zero, List.set_cons_succ]
            refine wpAny_done (by kernel_rfl) ?_ _
            have hb5' := belT (belA hbd (.cells #[.string ⟨#[109, 117, 116, 101, 120, 101, 115]⟩, .string ⟨#[114, 119, 108, 111, 99, 107, 115]⟩, .string ⟨#[103, 114, 111, 117, 112, 115]⟩] 9)) hb5
            have HZ := Lib.hid (HZ.out.bel hb5')
            have HBw := Lib.hid (belT HBw.out hb5')
            clear hb5 hb5' hbd x0 HEd CH
            obtain ⟨z0, z1, z2, z3, g0, g1, g2, g3⟩ := HZ.out
            have HSt := Lib.hid (HZ.out.set (.slice none 0 0) 0 0 0)
            have HBS := Lib.hid (setP_bel HBw.out (Nat.le_refl w.heap.size) (.slice none 0 0) 0 0 0)
            go_wp2_with fail
            obtain ⟨e0, e1, e2, e3, -, -, -, -⟩ := HSt.out
            have hBS := HBS.out
            dsimp only [setP] at e0 e1 e2 e3 hBS
            generalize World.setCell (World.setCell (World.setCell (World.setCell _ _ _) _ _) _ _) _ _ = W5 at e0 e1 e2 e3 hBS ⊢
            exact bodyPost_ret (v := asmV (.slice none 0 0) 0 0 0 0 210) (by unfold asmV; simp [results, Tryz.results31, go_sem, e0, e1, e2, e3]) rfl ⟨by rw [HRO.out]; first | done | rfl, hBS⟩
          | some n =>
            have hbn := numO_bd hno
            have hst : stepO 0 x P = some { P with mu := n } := by rw [hst0, hno]; rfl
            have HLO2 := Lib.hid (show linesO 0 L zeroP = linesO (0 + 1) (L.drop (0 + 1)) { P with mu := n } by
              rw [HLO.out, hdr.out]
              simp only [linesO, hst])
            have HSM2 := Lib.hid (stepO_small HSM.out hst)
            have CH := Lib.hid fun W hE => rfHeaded_any x wMu (by decide) W hE
            rw [hno] at CH
            unfold wMu headV at CH
            dsimp only at CH
            have en : decide (n < 0) = false := decide_eq_false (by omega)
            clear hst0 hno hst hbn
            go_wp2_with fail
            have k0 : wr.drew.cell? ⟨bl, ol, none⟩ = some (.string x) := x0
            refine wp_region_R (S := fun W => W.cell? ⟨bl, ol, none⟩ = some (.string x)) 9 (by kernel_rfl) (by simp) k0 (fun hHeld => ?_)
            clear k0
            generalize wr.drew = V0 at HEd hbd hHeld ⊢
            refine anyR_take (i := 0) (v := ?_) rfl (by kernel_rfl) (by kernel_rfl) (by kernel_rfl) (fun _ _ _ h => h) (Or.inl ⟨by rfl, ?_⟩) (by assumption) ?_
            rotate_left
            · (intro w hSw; (try dsimp only at hSw); go_simp)
              all_goals with_reducible rfl
            try simp only [Act.put, List.getElem_toArray, List.getElem_cons_succ, List.getElem_cons_zero, List.setIfInBounds_toArray, List.set_cons_zero, List.set_cons_succ]
            refine anyR_take (i := 1) (v := ?_) rfl (by kernel_rfl) (by kernel_rfl) (by kernel_rfl) (fun _ _ _ h => h) (Or.inl ⟨by rfl, ?_⟩) (by assumption) ?_
            rotate_left
            · (intro w hSw; (try dsimp only at hSw); go_simp)
              all_goals with_reducible rfl
            try simp only [Act.put, List.getElem_toArray, List.getElem_cons_succ, List.getElem_cons_zero, List.setIfInBounds_toArray, List.set_cons_zero, List.set_cons_succ]
            refine anyR_take (i := 2) (v := ?_) rfl (by kernel_rfl) (by kernel_rfl) (by kernel_rfl) (fun _ _ _ h => h) (Or.inl ⟨by rfl, ?_⟩) (by assumption) ?_
            rotate_left
            · (intro w hSw; (try dsimp only at hSw); go_simp)
              all_goals with_reducible rfl
            try simp only [Act.put, List.getElem_toArray, List.getElem_cons_succ, List.getElem_cons_zero, List.setIfInBounds_toArray, List.set_cons_zero, List.set_cons_succ]
            refine anyR_take (i := 3) (v := ?_) rfl (by kernel_rfl) (by kernel_rfl) (by kernel_rfl) (fun _ _ _ h => h) (Or.inl ⟨by rfl, ?_⟩) (by assumption) ?_
            rotate_left
            · (intro w hSw; (try dsimp only at hSw); go_simp)
              all_goals with_reducible rfl
            try simp only [Act.put, List.getElem_toArray, List.getElem_cons_succ, List.getElem_cons_zero, List.setIfInBounds_toArray, List.set_cons_zero, List.set_cons_succ]
            refine anyR_take (i := 5) (v := ?_) rfl (by kernel_rfl) (by kernel_rfl) (by kernel_rfl) (fun _ _ _ h => h) (Or.inl ⟨by rfl, ?_⟩) (by assumption) ?_
            rotate_left
            · (intro w hSw; (try dsimp only at hSw); go_simp)
              all_goals with_reducible rfl
            try simp only [Act.put, List.getElem_toArray, List.getElem_cons_succ, List.getElem_cons_zero, List.setIfInBounds_toArray, List.set_cons_zero, List.set_cons_succ]
            refine anyR_ready (rs := [4]) (by kernel_rfl) (by simp) (by decide) ?_
            refine AllReadyR.cons rfl (fun K hK => ?_) AllReadyR.nil
            go_simp
            have k1 := cell_new V0 #[.string ⟨#[109, 117, 116, 101, 120, 101, 115]⟩, .string ⟨#[114, 119, 108, 111, 99, 107, 115]⟩, .string ⟨#[103, 114, 111, 117, 112, 115]⟩] 9 0
            have HEd := Lib.hid (HEd.out.on (bel1 (.cells #[.string ⟨#[109, 117, 116, 101, 120, 101, 115]⟩, .string ⟨#[114, 119, 108, 111, 99, 107, 115]⟩, .string ⟨#[103, 114, 111, 117, 112, 115]⟩] 9)))
            refine hK.out _ _ ?_ (fun hHeld => ?_)
            · exact cell_al hHeld _
            clear hK K
            try simp only [Act.put, List.getElem_toArray, List.getElem_cons_succ, List.getElem_cons_zero, List.setIfInBounds_toArray, List.set_cons_zero, List.set_cons_succ]
            refine anyR_take (i := 6) (v := ?_) rfl (by kernel_rfl) (by kernel_rfl) (by kernel_rfl) (fun _ _ _ h => h) (Or.inl ⟨by rfl, ?_⟩) (by assumption) ?_
            rotate_left
            · (intro w hSw; (try dsimp only at hSw); go_simp)
              all_goals with_reducible rfl
            try simp only [Act.put, List.getElem_toArray, List.getElem_cons_succ, List.getElem_cons_zero, List.setIfInBounds_toArray, List.set_cons_zero, List.set_cons_succ]
            refine anyR_ready (rs := [7]) (by kernel_rfl) (by simp) (by decide) ?_
            refine AllReadyR.cons rfl (fun K hK => ?_) AllReadyR.nil
            go_simp
            refine hK.out _ _ (by assumption) (fun hHeld => ?_)
            clear hK K k1
            try simp only [Act.put, List.getElem_toArray, List.getElem_cons_succ, List.getElem_cons_zero, List.setIfInBounds_toArray, List.set_cons_zero, List.set_cons_succ]
            refine anyR_ready (rs := [8]) (by kernel_rfl) (by simp) (by decide) ?_
            refine AllReadyR.cons rfl (fun K hK => ?_) AllReadyR.nil
            go_simp
            refine (CH.out _ HEd.out).mono ?_
            rintro e w5 ⟨rfl, hb5⟩
            refine hK.out _ _ ?_ (fun hHeld => ?_)
            · exact cell_bel hHeld hb5
            clear hK K
            try simp only [Act.put, List.getElem_toArray, List.getElem_cons_succ, List.getElem_cons_zero, List.setIfInBounds_toArray, List.set_cons_zero, List.set_cons_succ]
            clear hHeld
            refine anyR_end (by kernel_rfl) ?_
            refine wpAny_ready (rs := [9]) (by kernel_rfl) (by simp) ?_
            refine AllReady.cons rfl (fun K hK => ?_) AllReady.nil
            go_simp
            refine hK _ _ ?_
            clear hK K
            try simp only [Act.put, List.getElem_toArray, List.getElem_cons_succ, List.getElem_cons_zero, List.setIfInBounds_toArray, List.set_cons_zero, List.set_cons_succ]
            refine wpAny_done (by kernel_rfl) ?_ _
            have hb5' := belT (belA hbd (.cells #[.string ⟨#[109, 117, 116, 101, 120, 101, 115]⟩, .string ⟨#[114, 119, 108, 111, 99, 107, 115]⟩, .string ⟨#[103, 114, 111, 117, 112, 115]⟩] 9)) hb5
            have HR5 := Lib.hid (HRB.out.bel hb5')
            have cc := HR5.out.c1
            have ff := HR5.out.f1
            have HBn := Lib.hid ((HBW.out.trans (hb5'.mono HBW.out.size)).setCell (p := ⟨W1.heap.size, 1, none⟩) (Nat.le_refl _) (.int .i64 n))
            clear hb5 hb5' hbd x0 HEd CH HZ HBw
            go_wp2_with fail
            exact ⟨⟨0 + 1, by go_num, by omega, { P with mu := n }, Q, vf, HLO2, HSM2, HQ, Lib.hid (HR5.out.set1 n), HBn⟩, by simp [intOf]; omega⟩
        · simp only [Nat.add_zero, Nat.mul_one] at x0
          have hst0 : stepO 1 x P = (numO wRw x).map fun n => { P with rw := n } := rfl
          have HEd := Lib.hid (HEr.out.on (Below.refl _ _).drew)
          have hbd := (Below.refl wr.heap.size wr).drew
          cases hno : numO wRw x with
          | none =>
            have HRO := Lib.hid (show readO L E = .error 1 by
              unfold readO
              rw [HLO.out, hdr.out]
              simp only [linesO, hst0, hno, Option.map_none])
            have CH := Lib.hid fun W hE => rfHeaded_any x wRw (by decide) W hE
            rw [hno] at CH
            unfold wRw headV at CH
            dsimp only at CH
            clear hst0 hno
            go_wp2_with fail
            have k0 : wr.drew.cell? ⟨bl, ol+1, none⟩ = some (.string x) := x0
            refine wp_region_R (S := fun W => W.cell? ⟨bl, ol+1, none⟩ = some (.string x)) 9 (by kernel_rfl) (by simp) k0 (fun hHeld => ?_)
            clear k0
            generalize wr.drew = V0 at HEd hbd hHeld ⊢
            refine anyR_take (i := 0) (v := ?_) rfl (by kernel_rfl) (by kernel_rfl) (by kernel_rfl) (fun _ _ _ h => h) (Or.inl ⟨by rfl, ?_⟩) (by assumption) ?_
            rotate_left
            · (intro w hSw; (try dsimp only at hSw); go_simp)
              all_goals with_reducible rfl
            try simp only [Act.put, List.getElem_toArray, List.getElem_cons_succ, List.getElem_cons_zero, List.setIfInBounds_toArray, List.set_cons_zero, List.set_cons_succ]
            refine anyR_take (i := 1) (v := ?_) rfl (by kernel_rfl) (by kernel_rfl) (by kernel_rfl) (fun _ _ _ h => h) (Or.inl ⟨by rfl, ?_⟩) (by assumption) ?_
            rotate_left
            · (intro w hSw; (try dsimp only at hSw); go_simp)
              all_goals with_reducible rfl
            try simp only [Act.put, List.getElem_toArray, List.getElem_cons_succ, List.getElem_cons_zero, List.setIfInBounds_toArray, List.set_cons_zero, List.set_cons_succ]
            refine anyR_take (i := 2) (v := ?_) rfl (by kernel_rfl) (by kernel_rfl) (by kernel_rfl) (fun _ _ _ h => h) (Or.inl ⟨by rfl, ?_⟩) (by assumption) ?_
            rotate_left
            · (intro w hSw; (try dsimp only at hSw); go_simp)
              all_goals with_reducible rfl
            try simp only [Act.put, List.getElem_toArray, List.getElem_cons_succ, List.getElem_cons_zero, List.setIfInBounds_toArray, List.set_cons_zero, List.set_cons_succ]
            refine anyR_take (i := 3) (v := ?_) rfl (by kernel_rfl) (by kernel_rfl) (by kernel_rfl) (fun _ _ _ h => h) (Or.inl ⟨by rfl, ?_⟩) (by assumption) ?_
            rotate_left
            · (intro w hSw; (try dsimp only at hSw); go_simp)
              all_goals with_reducible rfl
            try simp only [Act.put, List.getElem_toArray, List.getElem_cons_succ, List.getElem_cons_zero, List.setIfInBounds_toArray, List.set_cons_zero, List.set_cons_succ]
            refine anyR_take (i := 5) (v := ?_) rfl (by kernel_rfl) (by kernel_rfl) (by kernel_rfl) (fun _ _ _ h => h) (Or.inl ⟨by rfl, ?_⟩) (by assumption) ?_
            rotate_left
            · (intro w hSw; (try dsimp only at hSw); go_simp)
              all_goals with_reducible rfl
            try simp only [Act.put, List.getElem_toArray, List.getElem_cons_succ, List.getElem_cons_zero, List.setIfInBounds_toArray, List.set_cons_zero, List.set_cons_succ]
            refine anyR_ready (rs := [4]) (by kernel_rfl) (by simp) (by decide) ?_
            refine AllReadyR.cons rfl (fun K hK => ?_) AllReadyR.nil
            go_simp
            have k1 := cell_new V0 #[.string ⟨#[109, 117, 116, 101, 120, 101, 115]⟩, .string ⟨#[114, 119, 108, 111, 99, 107, 115]⟩, .string ⟨#[103, 114, 111, 117, 112, 115]⟩] 9 1
            have HEd := Lib.hid (HEd.out.on (bel1 (.cells #[.string ⟨#[109, 117, 116, 101, 120, 101, 115]⟩, .string ⟨#[114, 119, 108, 111, 99, 107, 115]⟩, .string ⟨#[103, 114, 111, 117, 112, 115]⟩] 9)))
            refine hK.out _ _ ?_ (fun hHeld => ?_)
            · exact cell_al hHeld _
            clear hK K
            try simp only [Act.put, List.getElem_toArray, List.getElem_cons_succ, List.getElem_cons_zero, List.setIfInBounds_toArray, List.set_cons_zero, List.set_cons_succ]
            refine anyR_take (i := 6) (v := ?_) rfl (by kernel_rfl) (by kernel_rfl) (by kernel_rfl) (fun _ _ _ h => h) (Or.inl ⟨by rfl, ?_⟩) (by assumption) ?_
            rotate_left
            · (intro w hSw; (try dsimp only at hSw); go_simp)
              all_goals with_reducible rfl
            try simp only [Act.put, List.getElem_toArray, List.getElem_cons_succ, List.getElem_cons_zero, List.setIfInBounds_toArray, List.set_cons_zero, List.set_cons_succ]
            refine anyR_ready (rs := [7]) (by kernel_rfl) (by simp) (by decide) ?_
            refine AllReadyR.cons rfl (fun K hK => ?_) AllReadyR.nil
            go_simp
            refine hK.out _ _ (by assumption) (fun hHeld => ?_)
            clear hK K k1
            try simp only [Act.put, List.getElem_toArray, List.getElem_cons_succ, List.getElem_cons_zero, List.setIfInBounds_toArray, List.set_cons_zero, List.set_cons_succ]
            refine anyR_ready (rs := [8]) (by kernel_rfl) (by simp) (by decide) ?_
            refine AllReadyR.cons rfl (fun K hK => ?_) AllReadyR.nil
            go_simp
            refine (CH.out _ HEd.out).mono ?_
            rintro e w5 ⟨rfl, hb5⟩
            refine hK.out _ _ ?_ (fun hHeld => ?_)
            · exact cell_bel hHeld hb5
            clear hK K
            try simp only [Act.put, List.getElem_toArray, List.getElem_cons_succ, List.getElem_cons_zero, List.setIfInBounds_toArray, List.set_cons_zero, List.set_cons_succ]
            clear hHeld
            refine anyR_end (by kernel_rfl) ?_
            refine wpAny_ready (rs := [9]) (by kernel_rfl) (by simp) ?_
            refine AllReady.cons rfl (fun K hK => ?_) AllReady.nil
            go_simp
            refine hK _ _ ?_
            clear hK K
            try simp only [Act.put, List.getElem_toArray, List.getElem_cons_succ, List.getElem_cons_zero, List.setIfInBounds_toArray, List.set_cons_zero, List.set_cons_succ]
            refine wpAny_done (by kernel_rfl) ?_ _
            have hb5' := belT (belA hbd (.cells #[.string ⟨#[109, 117, 116, 101, 120, 101, 115]⟩, .string ⟨#[114, 119, 108, 111, 99, 107, 115]⟩, .string ⟨#[103, 114, 111, 117, 112, 115]⟩] 9)) hb5
            have HZ := Lib.hid (HZ.out.bel hb5')
            have HBw := Lib.hid (belT HBw.out hb5')
            clear hb5 hb5' hbd x0 HEd CH
            obtain ⟨z0, z1, z2, z3, g0, g1, g2, g3⟩ := HZ.out
            have HSt := Lib.hid (HZ.out.set (.slice none 0 0) 0 0 0)
            have HBS := Lib.hid (setP_bel HBw.out (Nat.le_refl w.heap.size) (.slice none 0 0) 0 0 0)
            go_wp2_with fail
            obtain ⟨e0, e1, e2, e3, -, -, -, -⟩ := HSt.out
            have hBS := HBS.out
            dsimp only [setP] at e0 e1 e2 e3 hBS
            generalize World.setCell (World.setCell (World.setCell (World.setCell _ _ _) _ _) _ _) _ _ = W5 at e0 e1 e2 e3 hBS ⊢
            exact bodyPost_ret (v := asmV (.slice none 0 0) 0 0 0 1 210) (by unfold asmV; simp [results, Tryz.results31, go_sem, e0, e1, e2, e3]) rfl ⟨by rw [HRO.out]; first | done | rfl, hBS⟩
          | some n =>
            have hbn := numO_bd hno
            have hst : stepO 1 x P = some { P with rw := n } := by rw [hst0, hno]; rfl
            have HLO2 := Lib.hid (show linesO 0 L zeroP = linesO (1 + 1) (L.drop (1 + 1)) { P with rw := n } by
              rw [HLO.out, hdr.out]
              simp only [linesO, hst])
            have HSM2 := Lib.hid (stepO_small HSM.out hst)
            have CH := Lib.hid fun W hE => rfHeaded_any x wRw (by decide) W hE
            rw [hno] at CH
            unfold wRw headV at CH
            dsimp only at CH
            have en : decide (n < 0) = false := decide_eq_false (by omega)
            clear hst0 hno hst hbn
            go_wp2_with fail
            have k0 : wr.drew.cell? ⟨bl, ol+1, none⟩ = some (.string x) := x0
            refine wp_region_R (S := fun W => W.cell? ⟨bl, ol+1, none⟩ = some (.string x)) 9 (by kernel_rfl) (by simp) k0 (fun hHeld => ?_)
            clear k0
            generalize wr.drew = V0 at HEd hbd hHeld ⊢
            refine anyR_take (i := 0) (v := ?_) rfl (by kernel_rfl) (by kernel_rfl) (by kernel_rfl) (fun _ _ _ h => h) (Or.inl ⟨by rfl, ?_⟩) (by assumption) ?_
            rotate_left
            · (intro w hSw; (try dsimp only at hSw); go_simp)
              all_goals with_reducible rfl
            try simp only [Act.put, List.getElem_toArray, List.getElem_cons_succ, List.getElem_cons_zero, List.setIfInBounds_toArray, List.set_cons_zero, List.set_cons_succ]
            refine anyR_take (i := 1) (v := ?_) rfl (by kernel_rfl) (by kernel_rfl) (by kernel_rfl) (fun _ _ _ h => h) (Or.inl ⟨by rfl, ?_⟩) (by assumption) ?_
            rotate_left
            · (intro w hSw; (try dsimp only at hSw); go_simp)
              all_goals with_reducible rfl
            try simp only [Act.put, List.getElem_toArray, List.getElem_cons_succ, List.getElem_cons_zero, List.setIfInBounds_toArray, List.set_cons_zero, List.set_cons_succ]
            refine anyR_take (i := 2) (v := ?_) rfl (by kernel_rfl) (by kernel_rfl) (by kernel_rfl) (fun _ _ _ h => h) (Or.inl ⟨by rfl, ?_⟩) (by assumption) ?_
            rotate_left
            · (intro w hSw; (try dsimp only at hSw); go_simp)
              all_goals with_reducible rfl
            try simp only [Act.put, List.getElem_toArray, List.getElem_cons_succ, List.getElem_cons_zero, List.setIfInBounds_toArray, List.set_cons_zero, List.set_cons_succ]
            refine anyR_take (i := 3) (v := ?_) rfl (by kernel_rfl) (by kernel_rfl) (by kernel_rfl) (fun _ _ _ h => h) (Or.inl ⟨by rfl, ?_⟩) (by assumption) ?_
            rotate_left
            · (intro w hSw; (try dsimp only at hSw); go_simp)
              all_goals with_reducible rfl
            try simp only [Act.put, List.getElem_toArray, List.getElem_cons_succ, List.getElem_cons_zero, List.setIfInBounds_toArray, List.set_cons_zero, List.set_cons_succ]
            refine anyR_take (i := 5) (v := ?_) rfl (by kernel_rfl) (by kernel_rfl) (by kernel_rfl) (fun _ _ _ h => h) (Or.inl ⟨by rfl, ?_⟩) (by assumption) ?_
            rotate_left
            · (intro w hSw; (try dsimp only at hSw); go_simp)
              all_goals with_reducible rfl
            try simp only [Act.put, List.getElem_toArray, List.getElem_cons_succ, List.getElem_cons_zero, List.setIfInBounds_toArray, List.set_cons_zero, List.set_cons_succ]
            refine anyR_ready (rs := [4]) (by kernel_rfl) (by simp) (by decide) ?_
            refine AllReadyR.cons rfl (fun K hK => ?_) AllReadyR.nil
            go_simp
            have k1 := cell_new V0 #[.string ⟨#[109, 117, 116, 101, 120, 101, 115]⟩, .string ⟨#[114, 119, 108, 111, 99, 107, 115]⟩, .string ⟨#[103, 114, 111, 117, 112, 115]⟩] 9 1
            have HEd := Lib.hid (HEd.out.on (bel1 (.cells #[.string ⟨#[109, 117, 116, 101, 120, 101, 115]⟩, .string ⟨#[114, 119, 108, 111, 99, 107, 115]⟩, .string ⟨#[103, 114, 111, 117, 112, 115]⟩] 9)))
            refine hK.out _ _ ?_ (fun hHeld => ?_)
            · exact cell_al hHeld _
            clear hK K
            try simp only [Act.put, List.getElem_toArray, List.getElem_cons_succ, List.getElem_cons_zero, List.setIfInBounds_toArray, List.set_cons_zero, List.set_cons_succ]
            refine anyR_take (i := 6) (v := ?_) rfl (by kernel_rfl) (by kernel_rfl) (by kernel_rfl) (fun _ _ _ h => h) (Or.inl ⟨by rfl, ?_⟩) (by assumption) ?_
            rotate_left
            · (intro w hSw; (try dsimp only at hSw); go_simp)
              all_goals with_reducible rfl
            try simp only [Act.put, List.getElem_toArray, List.getElem_cons_succ, List.getElem_cons_zero, List.setIfInBounds_toArray, List.set_cons_zero, List.set_cons_succ]
            refine anyR_ready (rs := [7]) (by kernel_rfl) (by simp) (by decide) ?_
            refine AllReadyR.cons rfl (fun K hK => ?_) AllReadyR.nil
            go_simp
            refine hK.out _ _ (by assumption) (fun hHeld => ?_)
            clear hK K k1
            try simp only [Act.put, List.getElem_toArray, List.getElem_cons_succ, List.getElem_cons_zero, List.setIfInBounds_toArray, List.set_cons_zero, List.set_cons_succ]
            refine anyR_ready (rs := [8]) (by kernel_rfl) (by simp) (by decide) ?_
            refine AllReadyR.cons rfl (fun K hK => ?_) AllReadyR.nil
            go_simp
            refine (CH.out _ HEd.out).mono ?_
            rintro e w5 ⟨rfl, hb5⟩
            refine hK.out _ _ ?_ (fun hHeld => ?_)
            · exact cell_bel hHeld hb5
            clear hK K
            try simp only [Act.put, List.getElem_toArray, List.getElem_cons_succ, List.getElem_cons_zero, List.setIfInBounds_toArray, List.set_cons_zero, List.set_cons_succ]
            clear hHeld
            refine anyR_end (by kernel_rfl) ?_
            refine wpAny_ready (rs := [9]) (by kernel_rfl) (by simp) ?_
            refine AllReady.cons rfl (fun K hK => ?_) AllReady.nil
            go_simp
            refine hK _ _ ?_
            clear hK K
            try simp only [Act.put, List.getElem_toArray, List.getElem_cons_succ, List.getElem_cons_zero, List.setIfInBounds_toArray, List.set_cons_zero, List.set_cons_succ]
            refine wpAny_done (by kernel_rfl) ?_ _
            have hb5' := belT (belA hbd (.cells #[.string ⟨#[109, 117, 116, 101, 120, 101, 115]⟩, .string ⟨#[114, 119, 108, 111, 99, 107, 115]⟩, .string ⟨#[103, 114, 111, 117, 112, 115]⟩] 9)) hb5
            have HR5 := Lib.hid (HRB.out.bel hb5')
            have cc := HR5.out.c2
            have ff := HR5.out.f2
            have HBn := Lib.hid ((HBW.out.trans (hb5'.mono HBW.out.size)).setCell (p := ⟨W1.heap.size, 2, none⟩) (Nat.le_refl _) (.int .i64 n))
            clear hb5 hb5' hbd x0 HEd CH HZ HBw
            go_wp2_with fail
            exact ⟨⟨1 + 1, by go_num, by omega, { P with rw := n }, Q, vf, HLO2, HSM2, HQ, Lib.hid (HR5.out.set2 n), HBn⟩, by simp [intOf]; omega⟩
        · simp only [Nat.add_zero, Nat.mul_one] at x0
          have hst0 : stepO 2 x P = (numO wGr x).map fun n => { P with gr := n } := rfl
          have HEd := Lib.hid (HEr.out.on (Below.refl _ _).drew)
          have hbd := (Below.refl wr.heap.size wr).drew
          cases hno : numO wGr x with
          | none =>
            have HRO := Lib.hid (show readO L E = .error 2 by
              unfold readO
              rw [HLO.out, hdr.out]
              simp only [linesO, hst0, hno, Option.map_none])
            have CH := Lib.hid fun W hE => rfHeaded_any x wGr (by decide) W hE
            rw [hno] at CH
            unfold wGr headV at CH
            dsimp only at CH
            clear hst0 hno
            go_wp2_with fail
            have k0 : wr.drew.cell? ⟨bl, ol+2, none⟩ = some (.string x) := x0
            refine wp_region_R (S := fun W => W.cell? ⟨bl, ol+2, none⟩ = some (.string x)) 9 (by kernel_rfl) (by simp) k0 (fun hHeld => ?_)
            clear k0
            generalize wr.drew = V0 at HEd hbd hHeld ⊢
            refine anyR_take (i := 0) (v := ?_) rfl (by kernel_rfl) (by kernel_rfl) (by kernel_rfl) (fun _ _ _ h => h) (Or.inl ⟨by rfl, ?_⟩) (by assumption) ?_
            rotate_left
            · (intro w hSw; (try dsimp only at hSw); go_simp)
              all_goals with_reducible rfl
            try simp only [Act.put, List.getElem_toArray, List.getElem_cons_succ, List.getElem_cons_zero, List.setIfInBounds_toArray, List.set_cons_zero, List.set_cons_succ]
            refine anyR_take (i := 1) (v := ?_) rfl (by kernel_rfl) (by kernel_rfl) (by kernel_rfl) (fun _ _ _ h => h) (Or.inl ⟨by rfl, ?_⟩) (by assumption) ?_
            rotate_left
            · (intro w hSw; (try dsimp only at hSw); go_simp)
              all_goals with_reducible rfl
            try simp only [Act.put, List.getElem_toArray, List.getElem_cons_succ, List.getElem_cons_zero, List.setIfInBounds_toArray, List.set_cons_zero, List.set_cons_succ]
            refine anyR_take (i := 2) (v := ?_) rfl (by kernel_rfl) (by kernel_rfl) (by kernel_rfl) (fun _ _ _ h => h) (Or.inl ⟨by rfl, ?_⟩) (by assumption) ?_
            rotate_left
            · (intro w hSw; (try dsimp only at hSw); go_simp)
              all_goals with_reducible rfl
            try simp only [Act.put, List.getElem_toArray, List.getElem_cons_succ, List.getElem_cons_zero, List.setIfInBounds_toArray, List.set_cons_zero, List.set_cons_succ]
            refine anyR_take (i := 3) (v := ?_) rfl (by kernel_rfl) (by kernel_rfl) (by kernel_rfl) (fun _ _ _ h => h) (Or.inl ⟨by rfl, ?_⟩) (by assumption) ?_
            rotate_left
            · (intro w hSw; (try dsimp only at hSw); go_simp)
              all_goals with_reducible rfl
            try simp only [Act.put, List.getElem_toArray, List.getElem_cons_succ, List.getElem_cons_zero, List.setIfInBounds_toArray, List.set_cons_zero, List.set_cons_succ]
            refine anyR_take (i := 5) (v := ?_) rfl (by kernel_rfl) (by kernel_rfl) (by kernel_rfl) (fun _ _ _ h => h) (Or.inl ⟨by rfl, ?_⟩) (by assumption) ?_
            rotate_left
            · (intro w hSw; (try dsimp only at hSw); go_simp)
              all_goals with_reducible rfl
            try simp only [Act.put, List.getElem_toArray, List.getElem_cons_succ, List.getElem_cons_zero, List.setIfInBounds_toArray, List.set_cons_zero, List.set_cons_succ]
            refine anyR_ready (rs := [4]) (by kernel_rfl) (by simp) (by decide) ?_
            refine AllReadyR.cons rfl (fun K hK => ?_) AllReadyR.nil
            go_simp
            have k1 := cell_new V0 #[.string ⟨#[109, 117, 116, 101, 120, 101, 115]⟩, .string ⟨#[114, 119, 108, 111, 99, 107, 115]⟩, .string ⟨#[103, 114, 111, 117, 112, 115]⟩] 9 2
            have HEd := Lib.hid (HEd.out.on (bel1 (.cells #[.string ⟨#[109, 117, 116, 101, 120, 101, 115]⟩, .string ⟨#[114, 119, 108, 111, 99, 107, 115]⟩, .string ⟨#[103, 114, 111, 117, 112, 115]⟩] 9)))
            refine hK.out _ _ ?_ (fun hHeld => ?_)
            · exact cell_al hHeld _
            clear hK K
            try simp only [Act.put, List.getElem_toArray, List.getElem_cons_succ, List.getElem_cons_zero, List.setIfInBounds_toArray, List.set_cons_zero, List.set_cons_succ]
            refine anyR_take (i := 6) (v := ?_) rfl (by kernel_rfl) (by kernel_rfl) (by kernel_rfl) (fun _ _ _ h => h) (Or.inl ⟨by rfl, ?_⟩) (by assumption) ?_
            rotate_left
            · (intro w hSw; (try dsimp only at hSw); go_simp)
              all_goals with_reducible rfl
            try simp only [Act.put, List.getElem_toArray, List.getElem_cons_succ, List.getElem_cons_zero, List.setIfInBounds_toArray, List.set_cons_zero, List.set_cons_succ]
            refine anyR_ready (rs := [7]) (by kernel_rfl) (by simp) (by decide) ?_
            refine AllReadyR.cons rfl (fun K hK => ?_) AllReadyR.nil
            go_simp
            refine hK.out _ _ (by assumption) (fun hHeld => ?_)
            clear hK K k1
            try simp only [Act.put, List.getElem_toArray, List.getElem_cons_succ, List.getElem_cons_zero, List.setIfInBounds_toArray, List.set_cons_zero, List.set_cons_succ]
            refine anyR_ready (rs := [8]) (by kernel_rfl) (by simp) (by decide) ?_
            refine AllReadyR.cons rfl (fun K hK => ?_) AllReadyR.nil
            go_simp
            refine (CH.out _ HEd.out).mono ?_
            rintro e w5 ⟨rfl, hb5⟩
            refine hK.out _ _ ?_ (fun hHeld => ?_)
            · exact cell_bel hHeld hb5
            clear hK K
            try simp only [Act.put, List.getElem_toArray, List.getElem_cons_succ, List.getElem_cons_zero, List.setIfInBounds_toArray, List.set_cons_zero, List.set_cons_succ]
            clear hHeld
            refine anyR_end (by kernel_rfl) ?_
            refine wpAny_ready (rs := [9]) (by kernel_rfl) (by simp) ?_
            refine AllReady.cons rfl (fun K hK => ?_) AllReady.nil
            go_simp
            refine hK _ _ ?_
            clear hK K
            try simp only [Act.put, List.getElem_toArray, List.getElem_cons_succ, List.getElem_cons_zero, List.setIfInBounds_toArray, List.set_cons_zero, List.set_cons_succ]
            refine wpAny_done (by kernel_rfl) ?_ _
            have hb5' := belT (belA hbd (.cells #[.string ⟨#[109, 117, 116, 101, 120, 101, 115]⟩, .string ⟨#[114, 119, 108, 111, 99, 107, 115]⟩, .string ⟨#[103, 114, 111, 117, 112, 115]⟩] 9)) hb5
            have HZ := Lib.hid (HZ.out.bel hb5')
            have HBw := Lib.hid (belT HBw.out hb5')
            clear hb5 hb5' hbd x0 HEd CH
            obtain ⟨z0, z1, z2, z3, g0, g1, g2, g3⟩ := HZ.out
            have HSt := Lib.hid (HZ.out.set (.slice none 0 0) 0 0 0)
            have HBS := Lib.hid (setP_bel HBw.out (Nat.le_refl w.heap.size) (.slice none 0 0) 0 0 0)
            go_wp2_with fail
            obtain ⟨e0, e1, e2, e3, -, -, -, -⟩ := HSt.out
            have hBS := HBS.out
            dsimp only [setP] at e0 e1 e2 e3 hBS
            generalize World.setCell (World.setCell (World.setCell (World.setCell _ _ _) _ _) _ _) _ _ = W5 at e0 e1 e2 e3 hBS ⊢
            exact bodyPost_ret (v := asmV (.slice none 0 0) 0 0 0 2 210) (by unfold asmV; simp [results, Tryz.results31, go_sem, e0, e1, e2, e3]) rfl ⟨by rw [HRO.out]; first | done | rfl, hBS⟩
          | some n =>
            have hbn := numO_bd hno
            have hst : stepO 2 x P = some { P with gr := n } := by rw [hst0, hno]; rfl
            have HLO2 := Lib.hid (show linesO 0 L zeroP = linesO (2 + 1) (L.drop (2 + 1)) { P with gr := n } by
              rw [HLO.out, hdr.out]
              simp only [linesO, hst])
            have HSM2 := Lib.hid (stepO_small HSM.out hst)
            have CH := Lib.hid fun W hE => rfHeaded_any x wGr (by decide) W hE
            rw [hno] at CH
            unfold wGr headV at CH
            dsimp only at CH
            have en : decide (n < 0) = false := decide_eq_false (by omega)
            clear hst0 hno hst hbn
            go_wp2_with fail
            have k0 : wr.drew.cell? ⟨bl, ol+2, none⟩ = some (.string x) := x0
            refine wp_region_R (S := fun W => W.cell? ⟨bl, ol+2, none⟩ = some (.string x)) 9 (by kernel_rfl) (by simp) k0 (fun hHeld => ?_)
            clear k0
            generalize wr.drew = V0 at HEd hbd hHeld ⊢
            refine anyR_take (i := 0) (v := ?_) rfl (by kernel_rfl) (by kernel_rfl) (by kernel_rfl) (fun _ _ _ h => h) (Or.inl ⟨by rfl, ?_⟩) (by assumption) ?_
            rotate_left
            · (intro w hSw; (try dsimp only at hSw); go_simp)
              all_goals with_reducible rfl
            try simp only [Act.put, List.getElem_toArray, List.getElem_cons_succ, List.getElem_cons_zero, List.setIfInBounds_toArray, List.set_cons_zero, List.set_cons_succ]
            refine anyR_take (i := 1) (v := ?_) rfl (by kernel_rfl) (by kernel_rfl) (by kernel_rfl) (fun _ _ _ h => h) (Or.inl ⟨by rfl, ?_⟩) (by assumption) ?_
            rotate_left
            · (intro w hSw; (try dsimp only at hSw); go_simp)
              all_goals with_reducible rfl
            try simp only [Act.put, List.getElem_toArray, List.getElem_cons_succ, List.getElem_cons_zero, List.setIfInBounds_toArray, List.set_cons_zero, List.set_cons_succ]
            refine anyR_take (i := 2) (v := ?_) rfl (by kernel_rfl) (by kernel_rfl) (by kernel_rfl) (fun _ _ _ h => h) (Or.inl ⟨by rfl, ?_⟩) (by assumption) ?_
            rotate_left
            · (intro w hSw; (try dsimp only at hSw); go_simp)
              all_goals with_reducible rfl
            try simp only [Act.put, List.getElem_toArray, List.getElem_cons_succ, List.getElem_cons_zero, List.setIfInBounds_toArray, List.set_cons_zero, List.set_cons_succ]
            refine anyR_take (i := 3) (v := ?_) rfl (by kernel_rfl) (by kernel_rfl) (by kernel_rfl) (fun _ _ _ h => h) (Or.inl ⟨by rfl, ?_⟩) (by assumption) ?_
            rotate_left
            · (intro w hSw; (try dsimp only at hSw); go_simp)
              all_goals with_reducible rfl
            try simp only [Act.put, List.getElem_toArray, List.getElem_cons_succ, List.getElem_cons_zero, List.setIfInBounds_toArray, List.set_cons_zero, List.set_cons_succ]
            refine anyR_take (i := 5) (v := ?_) rfl (by kernel_rfl) (by kernel_rfl) (by kernel_rfl) (fun _ _ _ h => h) (Or.inl ⟨by rfl, ?_⟩) (by assumption) ?_
            rotate_left
            · (intro w hSw; (try dsimp only at hSw); go_simp)
              all_goals with_reducible rfl
            try simp only [Act.put, List.getElem_toArray, List.getElem_cons_succ, List.getElem_cons_zero, List.setIfInBounds_toArray, List.set_cons_zero, List.set_cons_succ]
            refine anyR_ready (rs := [4]) (by kernel_rfl) (by simp) (by decide) ?_
            refine AllReadyR.cons rfl (fun K hK => ?_) AllReadyR.nil
            go_simp
            have k1 := cell_new V0 #[.string ⟨#[109, 117, 116, 101, 120, 101, 115]⟩, .string ⟨#[114, 119, 108, 111, 99, 107, 115]⟩, .string ⟨#[103, 114, 111, 117, 112, 115]⟩] 9 2
            have HEd := Lib.hid (HEd.out.on (bel1 (.cells #[.string ⟨#[109, 117, 116, 101, 120, 101, 115]⟩, .string ⟨#[114, 119, 108, 111, 99, 107, 115]⟩, .string ⟨#[103, 114, 111, 117, 112, 115]⟩] 9)))
            refine hK.out _ _ ?_ (fun hHeld => ?_)
            · exact cell_al hHeld _
            clear hK K
            try simp only [Act.put, List.getElem_toArray, List.getElem_cons_succ, List.getElem_cons_zero, List.setIfInBounds_toArray, List.set_cons_zero, List.set_cons_succ]
            refine anyR_take (i := 6) (v := ?_) rfl (by kernel_rfl) (by kernel_rfl) (by kernel_rfl) (fun _ _ _ h => h) (Or.inl ⟨by rfl, ?_⟩) (by assumption) ?_
            rotate_left
            · (intro w hSw; (try dsimp only at hSw); go_simp)
              all_goals with_reducible rfl
            try simp only [Act.put, List.getElem_toArray, List.getElem_cons_succ, List.getElem_cons_zero, List.setIfInBounds_toArray, List.set_cons_zero, List.set_cons_succ]
            refine anyR_ready (rs := [7]) (by kernel_rfl) (by simp) (by decide) ?_
            refine AllReadyR.cons rfl (fun K hK => ?_) AllReadyR.nil
            go_simp
            refine hK.out _ _ (by assumption) (fun hHeld => ?_)
            clear hK K k1
            try simp only [Act.put, List.getElem_toArray, List.getElem_cons_succ, List.getElem_cons_zero, List.setIfInBounds_toArray, List.set_cons_zero, List.set_cons_succ]
            refine anyR_ready (rs := [8]) (by kernel_rfl) (by simp) (by decide) ?_
            refine AllReadyR.cons rfl (fun K hK => ?_) AllReadyR.nil
            go_simp
            refine (CH.out _ HEd.out).mono ?_
            rintro e w5 ⟨rfl, hb5⟩
            refine hK.out _ _ ?_ (fun hHeld => ?_)
            · exact cell_bel hHeld hb5
            clear hK K
            try simp only [Act.put, List.getElem_toArray, List.getElem_cons_succ, List.getElem_cons_zero, List.setIfInBounds_toArray, List.set_cons_zero, List.set_cons_succ]
            clear hHeld
            refine anyR_end (by kernel_rfl) ?_
            refine wpAny_ready (rs := [9]) (by kernel_rfl) (by simp) ?_
            refine AllReady.cons rfl (fun K hK => ?_) AllReady.nil
            go_simp
            refine hK _ _ ?_
            clear hK K
            try simp only [Act.put, List.getElem_toArray, List.getElem_cons_succ, List.getElem_cons_zero, List.setIfInBounds_toArray, List.set_cons_zero, List.set_cons_succ]
            refine wpAny_done (by kernel_rfl) ?_ _
            have hb5' := belT (belA hbd (.cells #[.string ⟨#[109, 117, 116, 101, 120, 101, 115]⟩, .string ⟨#[114, 119, 108, 111, 99, 107, 115]⟩, .string ⟨#[103, 114, 111, 117, 112, 115]⟩] 9)) hb5
            have HR5 := Lib.hid (HRB.out.bel hb5')
            have cc := HR5.out.c3
            have ff := HR5.out.f3
            have HBn := Lib.hid ((HBW.out.trans (hb5'.mono HBW.out.size)).setCell (p := ⟨W1.heap.size, 3, none⟩) (Nat.le_refl _) (.int .i64 n))
            clear hb5 hb5' hbd x0 HEd CH HZ HBw
            go_wp2_with fail
            exact ⟨⟨2 + 1, by go_num, by omega, { P with gr := n }, Q, vf, HLO2, HSM2, HQ, Lib.hid (HR5.out.set3 n), HBn⟩, by simp [intOf]; omega⟩
      · have hk3' : decide ((k : Int) < 3) = false := decide_eq_false (by omega)
        simp only [Nat.add_zero, Nat.mul_one] at x0
        have hq0 := stepO_three k (by omega) x P
        have HQL := Lib.hid (show Q.length ≤ 1000000 by
          have h1 := HSM.out.len
          rw [← HQ.out, List.length_map] at h1
          omega)
        obtain ⟨aq, cq, rfl⟩ := HRB.out.fns.form
        by_cases hsz : 5 < x.size
        · have e5 : decide ((5 : Int) < (x.size : Int)) = true := decide_eq_true (by omega)
          have e5' : (5 : Int) < (x.size : Int) := by omega
          have h5 : 5 ≤ x.size := by omega
          have hex := isFn_ext x hsz
          cases hfn : isFn x with
          | true =>
            rw [hfn] at hex hq0
            simp only [if_true] at hq0
            have HST := Lib.hid hq0
            clear hq0 hfn hsz
            have CH := Lib.hid fun W hE => rfHeaded_any x wFn (by decide) W hE
            cases hno : numO wFn x with
            | none =>
              have HRO := Lib.hid (show readO L E = .error k by
                unfold readO
                rw [HLO.out, hdr.out]
                simp only [linesO, HST.out, hno, Option.map_none])
              rw [hno] at CH
              unfold wFn headV at CH
              dsimp only at CH
              clear hno
              go_wp2_with fail
              refine (CH.out _ HEr.out).mono ?_
              rintro e w5 ⟨rfl, hb5⟩
              have HZ := Lib.hid (HZ.out.bel hb5)
              have HBw := Lib.hid (belT HBw.out hb5)
              clear hb5 x0 CH
              obtain ⟨z0, z1, z2, z3, g0, g1, g2, g3⟩ := HZ.out
              have HSt := Lib.hid (HZ.out.set (.slice none 0 0) 0 0 0)
              have HBS := Lib.hid (setP_bel HBw.out (Nat.le_refl w.heap.size) (.slice none 0 0) 0 0 0)
              go_wp2_with fail
              obtain ⟨e0, e1, e2, e3, -, -, -, -⟩ := HSt.out
              have hBS := HBS.out
              dsimp only [setP] at e0 e1 e2 e3 hBS
              generalize World.setCell (World.setCell (World.setCell (World.setCell _ _ _) _ _) _ _) _ _ = W5 at e0 e1 e2 e3 hBS ⊢
              exact bodyPost_ret (v := asmV (.slice none 0 0) 0 0 0 k 210) (by unfold asmV; simp [results, Tryz.results31, go_sem, e0, e1, e2, e3]) rfl ⟨by rw [HRO.out]; first | done | rfl, hBS⟩
            | some n =>
              have hbn := numO_bd hno
              have hst : stepO k x P = some { P with funcs := P.funcs ++ [⟨n, []⟩] } := by rw [HST.out, hno]; rfl
              have HLO2 := Lib.hid (show linesO 0 L zeroP = linesO (k + 1) (L.drop (k + 1)) { P with funcs := P.funcs ++ [⟨n, []⟩] } by
                rw [HLO.out, hdr.out]
                simp only [linesO, hst])
              have HSM2 := Lib.hid (stepO_small HSM.out hst)
              rw [hno] at CH
              unfold wFn headV at CH
              dsimp only at CH
              have en : decide (n < 0) = false := decide_eq_false (by omega)
              clear hno hst hbn
              go_wp2_with fail
              refine (CH.out _ HEr.out).mono ?_
              rintro e w5 ⟨rfl, hb5⟩
              have HR5 := Lib.hid (HRB.out.bel hb5)
              have hB5 := HBW.out.trans (hb5.mono HBW.out.size)
              have n0 := cell_new w5 #[.int .i64 n, .slice none 0 0] 114 0
              have n1 := cell_new w5 #[.int .i64 n, .slice none 0 0] 114 1
              have HR6 := Lib.hid (HR5.out.bel (bel1 (.cells #[.int .i64 n, .slice none 0 0] 114)))
              obtain ⟨v', w7, r1, hF, hb7, ht7⟩ := HR6.out.fns.more n 56 w5.heap.size 1 n0 n1 HQL.out HR6.out.hB
              have hc7 := (cell_below hb7 HR6.out.hR).trans HR6.out.c0
              have hf7 := (froz_below hb7 HR6.out.hR).trans HR6.out.f0
              have HR7 := Lib.hid (HR6.out.put hb7 hF)
              have HB7 := Lib.hid (((hB5.trans ((bel1 (W := w5) (.cells #[.int .i64 n, .slice none 0 0] 114)).mono hB5.size)).trans (hb7.mono (Nat.le_of_lt HR6.out.hR))).setCell (p := ⟨W1.heap.size, 0, none⟩) (Nat.le_refl _) v')
              obtain ⟨av, nv, cv, rfl⟩ : ∃ a n c, v' = .slice a n c := (by obtain ⟨a, c, h⟩ := hF.form; exact ⟨a, _, c, h⟩)
              have c0 := HR5.out.c0
              clear hb5 x0 CH hB5 hF ht7 hb7 HZ HBw HEr
              go_wp2_with (at_builtin; refine append_run rfl _ _ rfl rfl rfl r1 ?_; clear c0)
              exact ⟨⟨k + 1, by go_num, by omega, { P with funcs := P.funcs ++ [⟨n, []⟩] }, Q ++ [⟨⟨n, []⟩, none, 0⟩], _, HLO2, HSM2, Lib.hid (by rw [List.map_append, HQ.out]; rfl), HR7, HB7⟩, by simp [intOf]; omega⟩
          | false =>
            rw [hfn] at hex hq0
            simp only [Bool.false_eq_true, if_false] at hq0
            clear hfn hsz
            have HST := Lib.hid hq0
            have CP := Lib.hid fun W hE => rParse_any x (by omega) W hE
            clear hq0
            go_wp2_with fail
            refine (CP.out _ HEr.out).mono ?_
            rintro e w5 ⟨hpp, hb5⟩
            have HZ := Lib.hid (HZ.out.bel hb5)
            have HBw := Lib.hid (belT HBw.out hb5)
            have HR5 := Lib.hid (HRB.out.bel hb5)
            have HB5 := Lib.hid (HBW.out.trans (hb5.mono HBW.out.size))
            have HEr := Lib.hid (HEr.out.on hb5)
            clear hb5 x0 CP
            rcases hpp with ⟨op, a, b, c, m, hi, rfl⟩ | ⟨hi, rfl⟩
            rotate_left
            · have hno := insO_no hi
              have hst : stepO k x P = none := by rw [HST.out, hno]; simp
              have HRO := Lib.hid (show readO L E = .error k by
                unfold readO
                rw [HLO.out, hdr.out]
                simp only [linesO, hst])
              have HZ := Lib.hid (HZ.out.bel (bel1 (.cells #[.int .i64 0, .int .i64 0, .int .i64 0, .int .i64 0, .int .u32 0] 29)))
              have HBw := Lib.hid (belA HBw.out (.cells #[.int .i64 0, .int .i64 0, .int .i64 0, .int .i64 0, .int .u32 0] 29))
              clear hno hi hst
              unfold parseV insV
              obtain ⟨z0, z1, z2, z3, g0, g1, g2, g3⟩ := HZ.out
              have HSt := Lib.hid (HZ.out.set (.slice none 0 0) 0 0 0)
              have HBS := Lib.hid (setP_bel HBw.out (Nat.le_refl w.heap.size) (.slice none 0 0) 0 0 0)
              go_wp2_with fail
              obtain ⟨e0, e1, e2, e3, -, -, -, -⟩ := HSt.out
              have hBS := HBS.out
              dsimp only [setP] at e0 e1 e2 e3 hBS
              generalize World.setCell (World.setCell (World.setCell (World.setCell _ _ _) _ _) _ _) _ _ = W5 at e0 e1 e2 e3 hBS ⊢
              exact bodyPost_ret (v := asmV (.slice none 0 0) 0 0 0 k 210) (by unfold asmV; simp [results, Tryz.results31, go_sem, e0, e1, e2, e3]) rfl ⟨by rw [HRO.out]; first | done | rfl, hBS⟩
            have hyes : insO x = some ⟨op, a, b, c, m⟩ := insO_yes (x := ⟨op, a, b, c, m⟩) hi
            have hb6 := bel1 (W := w5) (.cells #[.int .i64 op, .int .i64 a, .int .i64 b, .int .i64 c, .int .u32 m] 29)
            have HR6 := Lib.hid (HR5.out.bel hb6)
            have HI := Lib.hid (Bare.new op a b c m w5 29)
            have HZ := Lib.hid (HZ.out.bel hb6)
            have HBw := Lib.hid (belT HBw.out hb6)
            have HB6 := Lib.hid (HB5.out.trans (hb6.mono HB5.out.size))
            have c0 := HR6.out.c0
            have hqp : P.funcs.length = Q.length := by rw [← HQ.out, List.length_map]
            unfold parseV insV
            clear hi hb6
            by_cases hn0 : Q.length = 0
            · have hst : stepO k x P = none := by rw [HST.out, hqp, if_pos hn0]
              have HRO := Lib.hid (show readO L E = .error k by
                unfold readO
                rw [HLO.out, hdr.out]
                simp only [linesO, hst])
              have e0 : ((Q.length : Int) == 0) = true := by rw [hn0]; rfl
              clear hst hn0 hqp hyes
              obtain ⟨z0, z1, z2, z3, g0, g1, g2, g3⟩ := HZ.out
              have HSt := Lib.hid (HZ.out.set (.slice none 0 0) 0 0 0)
              have HBS := Lib.hid (setP_bel HBw.out (Nat.le_refl w.heap.size) (.slice none 0 0) 0 0 0)
              go_wp2_with fail
              obtain ⟨e0, e1, e2, e3, -, -, -, -⟩ := HSt.out
              have hBS := HBS.out
              dsimp only [setP] at e0 e1 e2 e3 hBS
              generalize World.setCell (World.setCell (World.setCell (World.setCell _ _ _) _ _) _ _) _ _ = W5 at e0 e1 e2 e3 hBS ⊢
              exact bodyPost_ret (v := asmV (.slice none 0 0) 0 0 0 k 210) (by unfold asmV; simp [results, Tryz.results31, go_sem, e0, e1, e2, e3]) rfl ⟨by rw [HRO.out]; first | done | rfl, hBS⟩
            · have hst : stepO k x P = some { P with funcs := pushF P.funcs ⟨op, a, b, c, m⟩ } := by rw [HST.out, hqp, if_neg hn0, hyes]; rfl
              have HLO2 := Lib.hid (show linesO 0 L zeroP = linesO (k + 1) (L.drop (k + 1)) { P with funcs := pushF P.funcs ⟨op, a, b, c, m⟩ } by
                rw [HLO.out, hdr.out]
                simp only [linesO, hst])
              have HSM2 := Lib.hid (stepO_small HSM.out hst)
              have e0 : ((Q.length : Int) == 0) = false := beq_eq_false_iff_ne.2 (by omega)
              obtain ⟨n, hn⟩ : ∃ n, Q.length = n + 1 := ⟨Q.length - 1, by omega⟩
              have HNl := Lib.hid hn
              have HNI := Lib.hid (show (Q.length : Int) = (n : Int) + 1 by omega)
              obtain ⟨bF, cap, hv, -, -, -, -⟩ := HR6.out.fns.row.own.slice (by omega)
              simp only [Value.slice.injEq, true_and] at hv
              obtain ⟨rfl, rfl⟩ := hv
              have q2 : ((Q.length : Int) - 1).toNat = n := by have := HNI.out; omega
              have q3 : IntKind.i64.wrap ((Q.length : Int) - 1) = (Q.length : Int) - 1 := by rw [IntKind.wrap_i64]; have := HQL.out; omega
              have q0 : (0 : Int) ≤ (Q.length : Int) - 1 := by have := HNI.out; omega
              have q4 : (1 : Int) ≤ (Q.length : Int) := by have := HNI.out; omega
              have q1 : (Q.length : Int) - 1 < (Q.length : Int) := by omega
              obtain ⟨q, hq⟩ : ∃ q, Q[n]? = some q := ⟨Q[n]'(by have := HNl.out; omega), List.getElem?_eq_getElem _⟩
              have HLT := Lib.hid (show ∀ g, q.v.ownBlock = some g → W1.heap.size + 1 ≤ g ∧ g < w5.heap.size from fun g hg => (HR5.out.fns.code n q hq).lt g hg)
              have HQN := Lib.hid hq
              have HQc := Lib.hid (show q.f.code.length ≤ 1000000 by
                have h1 := HSM.out.code q.f (by rw [← HQ.out]; exact List.mem_map_of_mem (List.mem_of_getElem? hq))
                omega)
              have HRW := Lib.hid (show W1.heap.size < w5.heap.size from Nat.lt_of_lt_of_le (lt_of_cell HR5.out.c0) (Nat.le_refl _))
              clear hst hn0 hqp hyes hn hq
              go_wp2_with fail
              have hbe := (Below.refl (w5.alloc (.cells #[.int .i64 op, .int .i64 a, .int .i64 b, .int .i64 c, .int .u32 m] 29)).heap.size (w5.alloc (.cells #[.int .i64 op, .int .i64 a, .int .i64 b, .int .i64 c, .int .u32 m] 29))).drew
              have HR7 := Lib.hid (HR6.out.bel hbe)
              have HB7 := Lib.hid (HB6.out.trans (hbe.mono HB6.out.size))
              have k1 := OwnW.cell (enc := encQ) (fun _ => rfl) HR7.out.fns.row.own n 1 q q.v HQN.out rfl
              have d0 := HR7.out.c0
              obtain ⟨i0, i1, i2, i3, i4, -, -, -, -⟩ := HI.out.bel hbe
              clear hbe c0 q3 HI HR6 HB6 HZ HBw
              refine wp_region_R (S := fun W => W.cell? ⟨W1.heap.size, 0, none⟩ = some (.slice (some ⟨bF, 0, none⟩) Q.length cq) ∧ W.cell? ⟨bF, n * 2 + 1, none⟩ = some q.v ∧ W.cell? ⟨w5.heap.size, 0, none⟩ = some (.int .i64 op) ∧ W.cell? ⟨w5.heap.size, 1, none⟩ = some (.int .i64 a) ∧ W.cell? ⟨w5.heap.size, 2, none⟩ = some (.int .i64 b) ∧ W.cell? ⟨w5.heap.size, 3, none⟩ = some (.int .i64 c) ∧ W.cell? ⟨w5.heap.size, 4, none⟩ = some (.int .u32 m)) 12 (by kernel_rfl) (by simp) ⟨d0, k1, i0, i1, i2, i3, i4⟩ (fun hHeld => ?_)
              clear d0 k1 i0 i1 i2 i3 i4
              generalize (w5.alloc _).drew = V0 at HR7 HB7 hHeld ⊢
              refine anyR_take (i := 0) (v := ?_) rfl (by kernel_rfl) (by kernel_rfl) (by kernel_rfl) (fun _ _ _ h => h) (Or.inl ⟨by rfl, ?_⟩) (by assumption) ?_
              rotate_left
              · (intro w hSw; (try dsimp only at hSw); go_simp)
                all_goals with_reducible rfl
              try simp only [Act.put, List.getElem_toArray, List.getElem_cons_succ, List.getElem_cons_zero, List.setIfInBounds_toArray, List.set_cons_zero, List.set_cons_succ]
              refine anyR_take (i := 1) (v := ?_) rfl (by kernel_rfl) (by kernel_rfl) (by kernel_rfl) (fun _ _ _ h => h) (Or.inl ⟨by rfl, ?_⟩) (by assumption) ?_
              rotate_left
              · (intro w hSw; (try dsimp only at hSw); go_simp)
                all_goals with_reducible rfl
              try simp only [Act.put, List.getElem_toArray, List.getElem_cons_succ, List.getElem_cons_zero, List.setIfInBounds_toArray, List.set_cons_zero, List.set_cons_succ]
              refine anyR_take (i := 2) (v := ?_) rfl (by kernel_rfl) (by kernel_rfl) (by kernel_rfl) (fun _ _ _ h => h) (Or.inl ⟨by rfl, ?_⟩) (by assumption) ?_
              rotate_left
              · (intro w hSw; (try dsimp only at hSw); go_simp)
                all_goals with_reducible rfl
              try simp only [Act.put, List.getElem_toArray, List.getElem_cons_succ, List.getElem_cons_zero, List.setIfInBounds_toArray, List.set_cons_zero, List.set_cons_succ]
              refine anyR_take (i := 3) (v := ?_) rfl (by kernel_rfl) (by kernel_rfl) (by kernel_rfl) (fun _ _ _ h => h) (Or.inl ⟨by rfl, ?_⟩) (by assumption) ?_
              rotate_left
              · (intro w hSw; (try dsimp only at hSw); go_simp)
                all_goals with_reducible rfl
              try simp only [Act.put, List.getElem_toArray, List.getElem_cons_succ, List.getElem_cons_zero, List.setIfInBounds_toArray, List.set_cons_zero, List.set_cons_succ]
              refine anyR_take (i := 4) (v := ?_) rfl (by kernel_rfl) (by kernel_rfl) (by kernel_rfl) (fun _ _ _ h => h) (Or.inl ⟨by rfl, ?_⟩) (by assumption) ?_
              rotate_left
              · (intro w hSw; (try dsimp only at hSw); go_simp)
                all_goals with_reducible rfl
              try simp only [Act.put, List.getElem_toArray, List.getElem_cons_succ, List.getElem_cons_zero, List.setIfInBounds_toArray, List.set_cons_zero, List.set_cons_succ]
              refine anyR_take (i := 5) (v := ?_) rfl (by kernel_rfl) (by kernel_rfl) (by kernel_rfl) (fun _ _ _ h => h) (Or.inl ⟨by rfl, ?_⟩) (by assumption) ?_
              rotate_left
              · (intro w hSw; (try dsimp only at hSw); go_simp)
                all_goals with_reducible rfl
              try simp only [Act.put, List.getElem_toArray, List.getElem_cons_succ, List.getElem_cons_zero, List.setIfInBounds_toArray, List.set_cons_zero, List.set_cons_succ]
              refine anyR_take (i := 6) (v := ?_) rfl (by kernel_rfl) (by kernel_rfl) (by kernel_rfl) (fun _ _ _ h => h) (Or.inl ⟨by rfl, ?_⟩) (by assumption) ?_
              rotate_left
              · (intro w hSw; (try dsimp only at hSw); go_simp)
                all_goals with_reducible rfl
              try simp only [Act.put, List.getElem_toArray, List.getElem_cons_succ, List.getElem_cons_zero, List.setIfInBounds_toArray, List.set_cons_zero, List.set_cons_succ]
              refine anyR_take (i := 7) (v := ?_) rfl (by kernel_rfl) (by kernel_rfl) (by kernel_rfl) (fun _ _ _ h => h) (Or.inl ⟨by rfl, ?_⟩) (by assumption) ?_
              rotate_left
              · (intro w hSw; (try dsimp only at hSw); go_simp)
                all_goals with_reducible rfl
              try simp only [Act.put, List.getElem_toArray, List.getElem_cons_succ, List.getElem_cons_zero, List.setIfInBounds_toArray, List.set_cons_zero, List.set_cons_succ]
              refine anyR_take (i := 8) (v := ?_) rfl (by kernel_rfl) (by kernel_rfl) (by kernel_rfl) (fun _ _ _ h => h) (Or.inl ⟨by rfl, ?_⟩) (by assumption) ?_
              rotate_left
              · (intro w hSw; (try dsimp only at hSw); go_simp)
                all_goals with_reducible rfl
              try simp only [Act.put, List.getElem_toArray, List.getElem_cons_succ, List.getElem_cons_zero, List.setIfInBounds_toArray, List.set_cons_zero, List.set_cons_succ]
              refine anyR_take (i := 9) (v := ?_) rfl (by kernel_rfl) (by kernel_rfl) (by kernel_rfl) (fun _ _ _ h => h) (Or.inl ⟨by rfl, ?_⟩) (by assumption) ?_
              rotate_left
              · (intro w hSw; (try dsimp only at hSw); go_simp)
                all_goals with_reducible rfl
              try simp only [Act.put, List.getElem_toArray, List.getElem_cons_succ, List.getElem_cons_zero, List.setIfInBounds_toArray, List.set_cons_zero, List.set_cons_succ]
              refine anyR_ready (rs := [10]) (by kernel_rfl) (by simp) (by decide) ?_
              refine AllReadyR.cons rfl (fun K hK => ?_) AllReadyR.nil
              go_simp
              have hx8 : ∀ j u, (encN ⟨op, a, b, c, m⟩)[j]? = some u → (V0.alloc (.cells #[.int .i64 op, .int .i64 a, .int .i64 b, .int .i64 c, .int .u32 m] 29)).cell? ⟨V0.heap.size, j, none⟩ = some u := fun j u hj => (cell_new V0 _ _ j).trans (by simpa using hj)
              have HR8 := Lib.hid (HR7.out.bel (bel1 (.cells #[.int .i64 op, .int .i64 a, .int .i64 b, .int .i64 c, .int .u32 m] 29)))
              have HB8 := Lib.hid (HB7.out.trans ((bel1 (W := V0) (.cells #[.int .i64 op, .int .i64 a, .int .i64 b, .int .i64 c, .int .u32 m] 29)).mono HB7.out.size))
              refine hK.out _ _ ?_ (fun hHeld => ?_)
              · obtain ⟨h0, h1, h2, h3, h4, h5, h6⟩ := hHeld
                exact ⟨cell_al h0 _, cell_al h1 _, cell_al h2 _, cell_al h3 _, cell_al h4 _, cell_al h5 _, cell_al h6 _⟩
              clear hK K
              try simp only [Act.put, List.getElem_toArray, List.getElem_cons_succ, List.getElem_cons_zero, List.setIfInBounds_toArray, List.set_cons_zero, List.set_cons_succ]
              refine anyR_ready (rs := [11]) (by kernel_rfl) (by simp) (by decide) ?_
              refine AllReadyR.cons rfl (fun K hK => ?_) AllReadyR.nil
              obtain ⟨v', w7, q', r1, hv7, hq7, k7, f7, hF7, hb7, hBF, ht7⟩ := HR8.out.fns.push n HQN.out ⟨op, a, b, c, m⟩ 25 V0.heap.size 1 hx8 HQc.out HR8.out.hB
              refine step_append_run rfl _ _ rfl rfl rfl r1 ?_
              refine hK.out _ _ ?_ (fun hHeld => ?_)
              · obtain ⟨h0, h1, h2, h3, h4, h5, h6⟩ := hHeld
                have hn7 : ¬ some w5.heap.size = q.v.ownBlock := fun hh => by have := (HLT.out _ hh.symm).2; omega
                have hn8 : ¬ some W1.heap.size = q.v.ownBlock := fun hh => by have := (HLT.out _ hh.symm).1; omega
                exact ⟨cell_touch h0 ht7 hn8, k7, cell_touch h2 ht7 hn7, cell_touch h3 ht7 hn7, cell_touch h4 ht7 hn7, cell_touch h5 ht7 hn7, cell_touch h6 ht7 hn7⟩
              clear hK K
              try simp only [Act.put, List.getElem_toArray, List.getElem_cons_succ, List.getElem_cons_zero, List.setIfInBounds_toArray, List.set_cons_zero, List.set_cons_succ]
              have HF7 := Lib.hid hF7
              have HBb := Lib.hid hb7
              have HQ7 := Lib.hid hq7
              subst hv7
              obtain ⟨d0, -⟩ := hHeld
              clear r1 hF7 hb7 ht7 hx8 hq7
              refine anyR_end (by kernel_rfl) ?_
              refine wpAny_ready (rs := [12]) (by kernel_rfl) (by simp) ?_
              refine AllReady.cons rfl (fun K hK => ?_) AllReady.nil
              go_simp
              refine hK _ _ ?_
              clear hK K
              try simp only [Act.put, List.getElem_toArray, List.getElem_cons_succ, List.getElem_cons_zero, List.setIfInBounds_toArray, List.set_cons_zero, List.set_cons_succ]
              refine wpAny_ready (rs := [13]) (by kernel_rfl) (by simp) ?_
              refine AllReady.cons rfl (fun K hK => ?_) AllReady.nil
              go_simp
              refine hK _ _ ?_
              clear hK K
              try simp only [Act.put, List.getElem_toArray, List.getElem_cons_succ, List.getElem_cons_zero, List.setIfInBounds_toArray, List.set_cons_zero, List.set_cons_succ]
              refine wpAny_ready (rs := [14]) (by kernel_rfl) (by simp) ?_
              refine AllReady.cons rfl (fun K hK => ?_) AllReady.nil
              go_simp
              refine hK _ _ ?_
              clear hK K
              try simp only [Act.put, List.getElem_toArray, List.getElem_cons_succ, List.getElem_cons_zero, List.setIfInBounds_toArray, List.set_cons_zero, List.set_cons_succ]
              refine wpAny_done (by kernel_rfl) ?_ _
              have hBs := HBb.out.setCell (p := ⟨bF, n * 2 + 1, none⟩) hBF q'.v
              have HR9 := Lib.hid (HR8.out.grew hBs HF7.out)
              have HB9 := Lib.hid (HB8.out.trans (hBs.mono (Nat.le_succ _)))
              have HQm := Lib.hid (pushF_map HQ.out HNl.out HQN.out HQ7.out)
              clear hBs k7 f7 hBF d0 q0 q1 q2 q4
              go_wp2_with fail
              exact ⟨⟨k + 1, by go_num, by omega, { P with funcs := pushF P.funcs ⟨op, a, b, c, m⟩ }, _, _, HLO2, HSM2, HQm, HR9, HB9⟩, by simp [intOf]; omega⟩
        · have hq1 : stepO k x P = if P.funcs.length = 0 then none else (insO x).map fun x => { P with funcs := pushF P.funcs x } := by
            rw [hq0]
            cases hfn : isFn x with
            | false => simp only [Bool.false_eq_true, if_false]
            | true =>
              obtain ⟨h1, h2⟩ := isFn_short hfn (by omega)
              rw [h1, h2]
              simp
          have e5 : decide ((5 : Int) < (x.size : Int)) = false := decide_eq_false (by omega)
          clear hq0 hsz
          have hq0 := hq1
          clear hq1
          have HST := Lib.hid hq0
          have CP := Lib.hid fun W hE => rParse_any x (by omega) W hE
          clear hq0
          go_wp2_with fail
          refine (CP.out _ HEr.out).mono ?_
          rintro e w5 ⟨hpp, hb5⟩
          have HZ := Lib.hid (HZ.out.bel hb5)
          have HBw := Lib.hid (belT HBw.out hb5)
          have HR5 := Lib.hid (HRB.out.bel hb5)
          have HB5 := Lib.hid (HBW.out.trans (hb5.mono HBW.out.size))
          have HEr := Lib.hid (HEr.out.on hb5)
          clear hb5 x0 CP
          rcases hpp with ⟨op, a, b, c, m, hi, rfl⟩ | ⟨hi, rfl⟩
          rotate_left
          · have hno := insO_no hi
            have hst : stepO k x P = none := by rw [HST.out, hno]; simp
            have HRO := Lib.hid (show readO L E = .error k by
              unfold readO
              rw [HLO.out, hdr.out]
              simp only [linesO, hst])
            have HZ := Lib.hid (HZ.out.bel (bel1 (.cells #[.int .i64 0, .int .i64 0, .int .i64 0, .int .i64 0, .int .u32 0] 29)))
            have HBw := Lib.hid (belA HBw.out (.cells #[.int .i64 0, .int .i64 0, .int .i64 0, .int .i64 0, .int .u32 0] 29))
            clear hno hi hst
            unfold parseV insV
            obtain ⟨z0, z1, z2, z3, g0, g1, g2, g3⟩ := HZ.out
            have HSt := Lib.hid (HZ.out.set (.slice none 0 0) 0 0 0)
            have HBS := Lib.hid (setP_bel HBw.out (Nat.le_refl w.heap.size) (.slice none 0 0) 0 0 0)
            go_wp2_with fail
            obtain ⟨e0, e1, e2, e3, -, -, -, -⟩ := HSt.out
            have hBS := HBS.out
            dsimp only [setP] at e0 e1 e2 e3 hBS
            generalize World.setCell (World.setCell (World.setCell (World.setCell _ _ _) _ _) _ _) _ _ = W5 at e0 e1 e2 e3 hBS ⊢
            exact bodyPost_ret (v := asmV (.slice none 0 0) 0 0 0 k 210) (by unfold asmV; simp [results, Tryz.results31, go_sem, e0, e1, e2, e3]) rfl ⟨by rw [HRO.out]; first | done | rfl, hBS⟩
          have hyes : insO x = some ⟨op, a, b, c, m⟩ := insO_yes (x := ⟨op, a, b, c, m⟩) hi
          have hb6 := bel1 (W := w5) (.cells #[.int .i64 op, .int .i64 a, .int .i64 b, .int .i64 c, .int .u32 m] 29)
          have HR6 := Lib.hid (HR5.out.bel hb6)
          have HI := Lib.hid (Bare.new op a b c m w5 29)
          have HZ := Lib.hid (HZ.out.bel hb6)
          have HBw := Lib.hid (belT HBw.out hb6)
          have HB6 := Lib.hid (HB5.out.trans (hb6.mono HB5.out.size))
          have c0 := HR6.out.c0
          have hqp : P.funcs.length = Q.length := by rw [← HQ.out, List.length_map]
          unfold parseV insV
          clear hi hb6
          by_cases hn0 : Q.length = 0
          · have hst : stepO k x P = none := by rw [HST.out, hqp, if_pos hn0]
            have HRO := Lib.hid (show readO L E = .error k by
              unfold readO
              rw [HLO.out, hdr.out]
              simp only [linesO, hst])
            have e0 : ((Q.length : Int) == 0) = true := by rw [hn0]; rfl
            clear hst hn0 hqp hyes
            obtain ⟨z0, z1, z2, z3, g0, g1, g2, g3⟩ := HZ.out
            have HSt := Lib.hid (HZ.out.set (.slice none 0 0) 0 0 0)
            have HBS := Lib.hid (setP_bel HBw.out (Nat.le_refl w.heap.size) (.slice none 0 0) 0 0 0)
            go_wp2_with fail
            obtain ⟨e0, e1, e2, e3, -, -, -, -⟩ := HSt.out
            have hBS := HBS.out
            dsimp only [setP] at e0 e1 e2 e3 hBS
            generalize World.setCell (World.setCell (World.setCell (World.setCell _ _ _) _ _) _ _) _ _ = W5 at e0 e1 e2 e3 hBS ⊢
            exact bodyPost_ret (v := asmV (.slice none 0 0) 0 0 0 k 210) (by unfold asmV; simp [results, Tryz.results31, go_sem, e0, e1, e2, e3]) rfl ⟨by rw [HRO.out]; first | done | rfl, hBS⟩
          · have hst : stepO k x P = some { P with funcs := pushF P.funcs ⟨op, a, b, c, m⟩ } := by rw [HST.out, hqp, if_neg hn0, hyes]; rfl
            have HLO2 := Lib.hid (show linesO 0 L zeroP = linesO (k + 1) (L.drop (k + 1)) { P with funcs := pushF P.funcs ⟨op, a, b, c, m⟩ } by
              rw [HLO.out, hdr.out]
              simp only [linesO, hst])
            have HSM2 := Lib.hid (stepO_small HSM.out hst)
            have e0 : ((Q.length : Int) == 0) = false := beq_eq_false_iff_ne.2 (by omega)
            obtain ⟨n, hn⟩ : ∃ n, Q.length = n + 1 := ⟨Q.length - 1, by omega⟩
            have HNl := Lib.hid hn
            have HNI := Lib.hid (show (Q.length : Int) = (n : Int) + 1 by omega)
            obtain ⟨bF, cap, hv, -, -, -, -⟩ := HR6.out.fns.row.own.slice (by omega)
            simp only [Value.slice.injEq, true_and] at hv
            obtain ⟨rfl, rfl⟩ := hv
            have q2 : ((Q.length : Int) - 1).toNat = n := by have := HNI.out; omega
            have q3 : IntKind.i64.wrap ((Q.length : Int) - 1) = (Q.length : Int) - 1 := by rw [IntKind.wrap_i64]; have := HQL.out; omega
            have q0 : (0 : Int) ≤ (Q.length : Int) - 1 := by have := HNI.out; omega
            have q4 : (1 : Int) ≤ (Q.length : Int) := by have := HNI.out; omega
            have q1 : (Q.length : Int) - 1 < (Q.length : Int) := by omega
            obtain ⟨q, hq⟩ : ∃ q, Q[n]? = some q := ⟨Q[n]'(by have := HNl.out; omega), List.getElem?_eq_getElem _⟩
            have HLT := Lib.hid (show ∀ g, q.v.ownBlock = some g → W1.heap.size + 1 ≤ g ∧ g < w5.heap.size from fun g hg => (HR5.out.fns.code n q hq).lt g hg)
            have HQN := Lib.hid hq
            have HQc := Lib.hid (show q.f.code.length ≤ 1000000 by
              have h1 := HSM.out.code q.f (by rw [← HQ.out]; exact List.mem_map_of_mem (List.mem_of_getElem? hq))
              omega)
            have HRW := Lib.hid (show W1.heap.size < w5.heap.size from Nat.lt_of_lt_of_le (lt_of_cell HR5.out.c0) (Nat.le_refl _))
            clear hst hn0 hqp hyes hn hq
            go_wp2_with fail
            have hbe := (Below.refl (w5.alloc (.cells #[.int .i64 op, .int .i64 a, .int .i64 b, .int .i64 c, .int .u32 m] 29)).heap.size (w5.alloc (.cells #[.int .i64 op, .int .i64 a, .int .i64 b, .int .i64 c, .int .u32 m] 29))).drew
            have HR7 := Lib.hid (HR6.out.bel hbe)
            have HB7 := Lib.hid (HB6.out.trans (hbe.mono HB6.out.size))
            have k1 := OwnW.cell (enc := encQ) (fun _ => rfl) HR7.out.fns.row.own n 1 q q.v HQN.out rfl
            have d0 := HR7.out.c0
            obtain ⟨i0, i1, i2, i3, i4, -, -, -, -⟩ := HI.out.bel hbe
            clear hbe c0 q3 HI HR6 HB6 HZ HBw
            refine wp_region_R (S := fun W => W.cell? ⟨W1.heap.size, 0, none⟩ = some (.slice (some ⟨bF, 0, none⟩) Q.length cq) ∧ W.cell? ⟨bF, n * 2 + 1, none⟩ = some q.v ∧ W.cell? ⟨w5.heap.size, 0, none⟩ = some (.int .i64 op) ∧ W.cell? ⟨w5.heap.size, 1, none⟩ = some (.int .i64 a) ∧ W.cell? ⟨w5.heap.size, 2, none⟩ = some (.int .i64 b) ∧ W.cell? ⟨w5.heap.size, 3, none⟩ = some (.int .i64 c) ∧ W.cell? ⟨w5.heap.size, 4, none⟩ = some (.int .u32 m)) 12 (by kernel_rfl) (by simp) ⟨d0, k1, i0, i1, i2, i3, i4⟩ (fun hHeld => ?_)
            clear d0 k1 i0 i1 i2 i3 i4
            generalize (w5.alloc _).drew = V0 at HR7 HB7 hHeld ⊢
            refine anyR_take (i := 0) (v := ?_) rfl (by kernel_rfl) (by kernel_rfl) (by kernel_rfl) (fun _ _ _ h => h) (Or.inl ⟨by rfl, ?_⟩) (by assumption) ?_
            rotate_left
            · (intro w hSw; (try dsimp only at hSw); go_simp)
              all_goals with_reducible rfl
            try simp only [Act.put, List.getElem_toArray, List.getElem_cons_succ, List.getElem_cons_zero, List.setIfInBounds_toArray, List.set_cons_zero, List.set_cons_succ]
            refine anyR_take (i := 1) (v := ?_) rfl (by kernel_rfl) (by kernel_rfl) (by kernel_rfl) (fun _ _ _ h => h) (Or.inl ⟨by rfl, ?_⟩) (by assumption) ?_
            rotate_left
            · (intro w hSw; (try dsimp only at hSw); go_simp)
              all_goals with_reducible rfl
            try simp only [Act.put, List.getElem_toArray, List.getElem_cons_succ, List.getElem_cons_zero, List.setIfInBounds_toArray, List.set_cons_zero, List.set_cons_succ]
            refine anyR_take (i := 2) (v := ?_) rfl (by kernel_rfl) (by kernel_rfl) (by kernel_rfl) (fun _ _ _ h => h) (Or.inl ⟨by rfl, ?_⟩) (by assumption) ?_
            rotate_left
            · (intro w hSw; (try dsimp only at hSw); go_simp)
              all_goals with_reducible rfl
            try simp only [Act.put, List.getElem_toArray, List.getElem_cons_succ, List.getElem_cons_zero, List.setIfInBounds_toArray, List.set_cons_zero, List.set_cons_succ]
            refine anyR_take (i := 3) (v := ?_) rfl (by kernel_rfl) (by kernel_rfl) (by kernel_rfl) (fun _ _ _ h => h) (Or.inl ⟨by rfl, ?_⟩) (by assumption) ?_
            rotate_left
            · (intro w hSw; (try dsimp only at hSw); go_simp)
              all_goals with_reducible rfl
            try simp only [Act.put, List.getElem_toArray, List.getElem_cons_succ, List.getElem_cons_zero, List.setIfInBounds_toArray, List.set_cons_zero, List.set_cons_succ]
            refine anyR_take (i := 4) (v := ?_) rfl (by kernel_rfl) (by kernel_rfl) (by kernel_rfl) (fun _ _ _ h => h) (Or.inl ⟨by rfl, ?_⟩) (by assumption) ?_
            rotate_left
            · (intro w hSw; (try dsimp only at hSw); go_simp)
              all_goals with_reducible rfl
            try simp only [Act.put, List.getElem_toArray, List.getElem_cons_succ, List.getElem_cons_zero, List.setIfInBounds_toArray, List.set_cons_zero, List.set_cons_succ]
            refine anyR_take (i := 5) (v := ?_) rfl (by kernel_rfl) (by kernel_rfl) (by kernel_rfl) (fun _ _ _ h => h) (Or.inl ⟨by rfl, ?_⟩) (by assumption) ?_
            rotate_left
            · (intro w hSw; (try dsimp only at hSw); go_simp)
              all_goals with_reducible rfl
            try simp only [Act.put, List.getElem_toArray, List.getElem_cons_succ, List.getElem_cons_zero, List.setIfInBounds_toArray, List.set_cons_zero, List.set_cons_succ]
            refine anyR_take (i := 6) (v := ?_) rfl (by kernel_rfl) (by kernel_rfl) (by kernel_rfl) (fun _ _ _ h => h) (Or.inl ⟨by rfl, ?_⟩) (by assumption) ?_
            rotate_left
            · (intro w hSw; (try dsimp only at hSw); go_simp)
              all_goals with_reducible rfl
            try simp only [Act.put, List.getElem_toArray, List.getElem_cons_succ, List.getElem_cons_zero, List.setIfInBounds_toArray, List.set_cons_zero, List.set_cons_succ]
            refine anyR_take (i := 7) (v := ?_) rfl (by kernel_rfl) (by kernel_rfl) (by kernel_rfl) (fun _ _ _ h => h) (Or.inl ⟨by rfl, ?_⟩) (by assumption) ?_
            rotate_left
            · (intro w hSw; (try dsimp only at hSw); go_simp)
              all_goals with_reducible rfl
            try simp only [Act.put, List.getElem_toArray, List.getElem_cons_succ, List.getElem_cons_zero, List.setIfInBounds_toArray, List.set_cons_zero, List.set_cons_succ]
            refine anyR_take (i := 8) (v := ?_) rfl (by kernel_rfl) (by kernel_rfl) (by kernel_rfl) (fun _ _ _ h => h) (Or.inl ⟨by rfl, ?_⟩) (by assumption) ?_
            rotate_left
            · (intro w hSw; (try dsimp only at hSw); go_simp)
              all_goals with_reducible rfl
            try simp only [Act.put, List.getElem_toArray, List.getElem_cons_succ, List.getElem_cons_zero, List.setIfInBounds_toArray, List.set_cons_zero, List.set_cons_succ]
            refine anyR_take (i := 9) (v := ?_) rfl (by kernel_rfl) (by kernel_rfl) (by kernel_rfl) (fun _ _ _ h => h) (Or.inl ⟨by rfl, ?_⟩) (by assumption) ?_
            rotate_left
            · (intro w hSw; (try dsimp only at hSw); go_simp)
              all_goals with_reducible rfl
            try simp only [Act.put, List.getElem_toArray, List.getElem_cons_succ, List.getElem_cons_zero, List.setIfInBounds_toArray, List.set_cons_zero, List.set_cons_succ]
            refine anyR_ready (rs := [10]) (by kernel_rfl) (by simp) (by decide) ?_
            refine AllReadyR.cons rfl (fun K hK => ?_) AllReadyR.nil
            go_simp
            have hx8 : ∀ j u, (encN ⟨op, a, b, c, m⟩)[j]? = some u → (V0.alloc (.cells #[.int .i64 op, .int .i64 a, .int .i64 b, .int .i64 c, .int .u32 m] 29)).cell? ⟨V0.heap.size, j, none⟩ = some u := fun j u hj => (cell_new V0 _ _ j).trans (by simpa using hj)
            have HR8 := Lib.hid (HR7.out.bel (bel1 (.cells #[.int .i64 op, .int .i64 a, .int .i64 b, .int .i64 c, .int .u32 m] 29)))
            have HB8 := Lib.hid (HB7.out.trans ((bel1 (W := V0) (.cells #[.int .i64 op, .int .i64 a, .int .i64 b, .int .i64 c, .int .u32 m] 29)).mono HB7.out.size))
            refine hK.out _ _ ?_ (fun hHeld => ?_)
            · obtain ⟨h0, h1, h2, h3, h4, h5, h6⟩ := hHeld
              exact ⟨cell_al h0 _, cell_al h1 _, cell_al h2 _, cell_al h3 _, cell_al h4 _, cell_al h5 _, cell_al h6 _⟩
            clear hK K
            try simp only [Act.put, List.getElem_toArray, List.getElem_cons_succ, List.getElem_cons_zero, List.setIfInBounds_toArray, List.set_cons_zero, List.set_cons_succ]
            refine anyR_ready (rs := [11]) (by kernel_rfl) (by simp) (by decide) ?_
            refine AllReadyR.cons rfl (fun K hK => ?_) AllReadyR.nil
            obtain ⟨v', w7, q', r1, hv7, hq7, k7, f7, hF7, hb7, hBF, ht7⟩ := HR8.out.fns.push n HQN.out ⟨op, a, b, c, m⟩ 25 V0.heap.size 1 hx8 HQc.out HR8.out.hB
            refine step_append_run rfl _ _ rfl rfl rfl r1 ?_
            refine hK.out _ _ ?_ (fun hHeld => ?_)
            · obtain ⟨h0, h1, h2, h3, h4, h5, h6⟩ := hHeld
              have hn7 : ¬ some w5.heap.size = q.v.ownBlock := fun hh => by have := (HLT.out _ hh.symm).2; omega
              have hn8 : ¬ some W1.heap.size = q.v.ownBlock := fun hh => by have := (HLT.out _ hh.symm).1; omega
              exact ⟨cell_touch h0 ht7 hn8, k7, cell_touch h2 ht7 hn7, cell_touch h3 ht7 hn7, cell_touch h4 ht7 hn7, cell_touch h5 ht7 hn7, cell_touch h6 ht7 hn7⟩
            clear hK K
            try simp only [Act.put, List.getElem_toArray, List.getElem_cons_succ, List.getElem_cons_zero, List.setIfInBounds_toArray, List.set_cons_zero, List.set_cons_succ]
            have HF7 := Lib.hid hF7
            have HBb := Lib.hid hb7
            have HQ7 := Lib.hid hq7
            subst hv7
            obtain ⟨d0, -⟩ := hHeld
            clear r1 hF7 hb7 ht7 hx8 hq7
            refine anyR_end (by kernel_rfl) ?_
            refine wpAny_ready (rs := [12]) (by kernel_rfl) (by simp) ?_
            refine AllReady.cons rfl (fun K hK => ?_) AllReady.nil
            go_simp
            refine hK _ _ ?_
            clear hK K
            try simp only [Act.put, List.getElem_toArray, List.getElem_cons_succ, List.getElem_cons_zero, List.setIfInBounds_toArray, List.set_cons_zero, List.set_cons_succ]
            refine wpAny_ready (rs := [13]) (by kernel_rfl) (by simp) ?_
            refine AllReady.cons rfl (fun K hK => ?_) AllReady.nil
            go_simp
            refine hK _ _ ?_
            clear hK K
            try simp only [Act.put, List.getElem_toArray, List.getElem_cons_succ, List.getElem_cons_zero, List.setIfInBounds_toArray, List.set_cons_zero, List.set_cons_succ]
            refine wpAny_ready (rs := [14]) (by kernel_rfl) (by simp) ?_
            refine AllReady.cons rfl (fun K hK => ?_) AllReady.nil
            go_simp
            refine hK _ _ ?_
            clear hK K
            try simp only [Act.put, List.getElem_toArray, List.getElem_cons_succ, List.getElem_cons_zero, List.setIfInBounds_toArray, List.set_cons_zero, List.set_cons_succ]
            refine wpAny_done (by kernel_rfl) ?_ _
            have hBs := HBb.out.setCell (p := ⟨bF, n * 2 + 1, none⟩) hBF q'.v
            have HR9 := Lib.hid (HR8.out.grew hBs HF7.out)
            have HB9 := Lib.hid (HB8.out.trans (hBs.mono (Nat.le_succ _)))
            have HQm := Lib.hid (pushF_map HQ.out HNl.out HQN.out HQ7.out)
            clear hBs k7 f7 hBF d0 q0 q1 q2 q4
            go_wp2_with fail
            exact ⟨⟨k + 1, by go_num, by omega, { P with funcs := pushF P.funcs ⟨op, a, b, c, m⟩ }, _, _, HLO2, HSM2, HQm, HR9, HB9⟩, by simp [intOf]; omega⟩
    · have hk2 : k = L.length := by omega
      subst hk2
      have HLO := Lib.hid (show linesO 0 L zeroP = .ok P by
        rw [HLO.out, List.drop_of_length_le (Nat.le_refl _)]
        rfl)
      have hQP : P.funcs.length = Q.length := by rw [← HQ.out, List.length_map]
      have HQP := Lib.hid hQP
      obtain ⟨av, cv, rfl⟩ := HRB.out.fns.form
      have c0 := HRB.out.c0
      by_cases hn0 : Q.length = 0
      · have e0 : ((Q.length : Int) == 0) = true := by rw [hn0]; rfl
        have HRO := Lib.hid (show readO L E = .error L.length by
          unfold readO
          rw [HLO.out]
          simp only [hQP, hn0, if_true])
        clear hn0 hQP
        obtain ⟨z0, z1, z2, z3, g0, g1, g2, g3⟩ := HZ.out
        have HSt := Lib.hid (HZ.out.set (.slice none 0 0) 0 0 0)
        have HBS := Lib.hid (setP_bel HBw.out (Nat.le_refl w.heap.size) (.slice none 0 0) 0 0 0)
        go_wp2_with fail
        obtain ⟨e0, e1, e2, e3, -, -, -, -⟩ := HSt.out
        have hBS := HBS.out
        dsimp only [setP] at e0 e1 e2 e3 hBS
        generalize World.setCell (World.setCell (World.setCell (World.setCell _ _ _) _ _) _ _) _ _ = W5 at e0 e1 e2 e3 hBS ⊢
        exact bodyPost_ret (v := asmV (.slice none 0 0) 0 0 0 L.length 210) (by unfold asmV; simp [results, Tryz.results31, go_sem, e0, e1, e2, e3]) rfl ⟨by rw [HRO.out]; first | done | rfl, hBS⟩
      have e0 : ((Q.length : Int) == 0) = false := beq_eq_false_iff_ne.2 (by omega)
      have HNZ := Lib.hid (show ¬ P.funcs.length = 0 by omega)
      have HPL := Lib.hid (show P.funcs.length ≤ 100000 by have := HSM.out.len; omega)
      have hAF : ArgF wr (.slice av Q.length cv) P.funcs := (by have := HRB.out.fns.arg; rw [HQ.out] at this; exact this)
      have CW := Lib.hid (rWrong_any P HSM.out.fits (progV (.slice av Q.length cv) P.mu P.rw P.gr) wr ⟨_, rfl, hAF⟩)
      have c1 := HRB.out.c1
      have c2 := HRB.out.c2
      have c3 := HRB.out.c3
      have HHL := Lib.hid hk
      have hse : 0 < s.size := HNE.out (by
        rintro rfl
        have h1 := HLO.out
        simp only [linesO] at h1
        injection h1 with h1
        have := HNZ.out
        rw [← h1] at this
        exact this rfl)
      have HSE := Lib.hid hse
      clear hn0 hQP hAF hse
      go_wp2_with fail
      refine CW.out.mono ?_
      rintro e w6 ⟨rfl, hb6⟩
      cases hwp : wrongP P with
      | some q =>
        obtain ⟨f, pc⟩ := q
        unfold wrongV
        dsimp only
        have HRO := Lib.hid (show readO L E = .error (placeF P.funcs f pc) by
          unfold readO
          rw [HLO.out]
          simp only [HNZ.out, if_false, hwp])
        obtain ⟨fn, xi, hfn, hxi⟩ := wrongP_at hwp
        have hf1 : f < P.funcs.length := (List.getElem?_eq_some_iff.1 hfn).1
        have hpc : pc ≤ 1000000 := by
          have h1 := (List.getElem?_eq_some_iff.1 hxi).1
          have h2 := HSM.out.code fn (List.mem_of_getElem? hfn)
          omega
        have hb7 := belA hb6 (.cells #[.int .i64 f, .int .i64 pc] 43)
        have HR8 := Lib.hid (HRB.out.bel hb7)
        have hA2 : ArgF (w6.alloc (.cells #[.int .i64 f, .int .i64 pc] 43)) (.slice av Q.length cv) P.funcs := (by have := HR8.out.fns.arg; rw [HQ.out] at this; exact this)
        have CP := Lib.hid (rfplace_any P f pc (Nat.le_of_lt hf1) HPL.out (fun g hg => by have := HSM.out.code g hg; omega) hpc (progV (.slice av Q.length cv) P.mu P.rw P.gr) _ ⟨_, rfl, hA2⟩)
        have HZ := Lib.hid (HZ.out.bel hb7)
        have HBw := Lib.hid (belT HBw.out hb7)
        have d0 := HR8.out.c0
        have d1 := HR8.out.c1
        have d2 := HR8.out.c2
        have d3 := HR8.out.c3
        have s0 := cell_new w6 #[.int .i64 f, .int .i64 pc] 43 0
        have s1 := cell_new w6 #[.int .i64 f, .int .i64 pc] 43 1
        clear c0 c1 c2 c3 hb6 hb7 hwp hfn hxi hf1 hpc CW hA2
        go_wp2_with fail
        refine CP.out.mono ?_
        rintro e w9 ⟨rfl, hb9⟩
        have HZ := Lib.hid (HZ.out.bel hb9)
        have HBw := Lib.hid (belT HBw.out hb9)
        clear d0 d1 d2 d3 s0 s1 hb9 CP
        obtain ⟨z0, z1, z2, z3, g0, g1, g2, g3⟩ := HZ.out
        have HSt := Lib.hid (HZ.out.set (.slice none 0 0) 0 0 0)
        have HBS := Lib.hid (setP_bel HBw.out (Nat.le_refl w.heap.size) (.slice none 0 0) 0 0 0)
        go_wp2_with fail
        obtain ⟨e0, e1, e2, e3, -, -, -, -⟩ := HSt.out
        have hBS := HBS.out
        dsimp only [setP] at e0 e1 e2 e3 hBS
        generalize World.setCell (World.setCell (World.setCell (World.setCell _ _ _) _ _) _ _) _ _ = W5 at e0 e1 e2 e3 hBS ⊢
        exact bodyPost_ret (v := asmV (.slice none 0 0) 0 0 0 (placeF P.funcs f pc) 210) (by unfold asmV; simp [results, Tryz.results31, go_sem, e0, e1, e2, e3]) rfl ⟨by rw [HRO.out]; first | done | rfl, hBS⟩
      | none =>
        unfold wrongV
        dsimp only
        have hb7 := belA hb6 (.cells #[.int .i64 0, .int .i64 0] 43)
        have HR8 := Lib.hid (HRB.out.bel hb7)
        have HZ := Lib.hid (HZ.out.bel hb7)
        have HBw := Lib.hid (belT HBw.out hb7)
        have d0 := HR8.out.c0
        have d1 := HR8.out.c1
        have d2 := HR8.out.c2
        have d3 := HR8.out.c3
        have hA2 : ArgF (w6.alloc (.cells #[.int .i64 0, .int .i64 0] 43)) (.slice av Q.length cv) P.funcs := (by have := HR8.out.fns.arg; rw [HQ.out] at this; exact this)
        have CC := Lib.hid (rRightP_any P HSM.out.fits (progV (.slice av Q.length cv) P.mu P.rw P.gr) _ ⟨_, rfl, hA2⟩)
        have HWP := Lib.hid hwp
        clear c0 c1 c2 c3 hb6 hb7 hA2 hwp CW
        cases hrp : rightP P with
        | false =>
          rw [hrp] at CC
          have HRO := Lib.hid (show readO L E = .error L.length by
            unfold readO
            rw [HLO.out]
            simp only [HNZ.out, if_false, HWP.out, hrp, Bool.false_eq_true, false_and])
          clear hrp
          go_wp2_with fail
          refine CC.out.mono ?_
          rintro e w9 ⟨rfl, hb9⟩
          have HZ := Lib.hid (HZ.out.bel hb9)
          have HBw := Lib.hid (belT HBw.out hb9)
          clear d0 d1 d2 d3 hb9 CC
          obtain ⟨z0, z1, z2, z3, g0, g1, g2, g3⟩ := HZ.out
          have HSt := Lib.hid (HZ.out.set (.slice none 0 0) 0 0 0)
          have HBS := Lib.hid (setP_bel HBw.out (Nat.le_refl w.heap.size) (.slice none 0 0) 0 0 0)
          go_wp2_with fail
          obtain ⟨e0, e1, e2, e3, -, -, -, -⟩ := HSt.out
          have hBS := HBS.out
          dsimp only [setP] at e0 e1 e2 e3 hBS
          generalize World.setCell (World.setCell (World.setCell (World.setCell _ _ _) _ _) _ _) _ _ = W5 at e0 e1 e2 e3 hBS ⊢
          exact bodyPost_ret (v := asmV (.slice none 0 0) 0 0 0 L.length 210) (by unfold asmV; simp [results, Tryz.results31, go_sem, e0, e1, e2, e3]) rfl ⟨by rw [HRO.out]; first | done | rfl, hBS⟩
        | true =>
          rw [hrp] at CC
          have hse := HSE.out
          obtain ⟨y, hy⟩ : ∃ y, s[s.size - 1] = y := ⟨_, rfl⟩
          have hE := HEB.out hse
          rw [hy] at hE
          have z1 : ∀ h : s.size - 1 < s.size, s[s.size - 1]'h = y := fun _ => hy
          have q0 : (1 : Int) ≤ (s.size : Int) := by omega
          have q4 : (0 : Int) < (s.size : Int) := by omega
          have q3 : wrap64 ((s.size : Int) - 1) = (s.size : Int) - 1 := by unfold wrap64; omega
          cases E with
          | false =>
            have HRO := Lib.hid (show readO L false = .error L.length by
              unfold readO
              rw [HLO.out]
              simp only [HNZ.out, if_false, HWP.out, hrp, Bool.false_eq_true, and_false])
            have e1 : ((y.toNat : Int) != 10) = true := by
              have h1 := of_decide_eq_false hE.symm
              rw [bne, beq_eq_false_iff_ne.2 (fun h => h1 (UInt8.toNat_inj.1 (by have : (10 : UInt8).toNat = 10 := rfl; omega)))]
              rfl
            clear hrp hy hE
            go_wp2_with fail
            refine CC.out.mono ?_
            rintro e w9 ⟨rfl, hb9⟩
            have HZ := Lib.hid (HZ.out.bel hb9)
            have HBw := Lib.hid (belT HBw.out hb9)
            clear d0 d1 d2 d3 hb9 CC
            obtain ⟨z0, z1, z2, z3, g0, g1, g2, g3⟩ := HZ.out
            have HSt := Lib.hid (HZ.out.set (.slice none 0 0) 0 0 0)
            have HBS := Lib.hid (setP_bel HBw.out (Nat.le_refl w.heap.size) (.slice none 0 0) 0 0 0)
            go_wp2_with fail
            obtain ⟨e0, e1, e2, e3, -, -, -, -⟩ := HSt.out
            have hBS := HBS.out
            dsimp only [setP] at e0 e1 e2 e3 hBS
            generalize World.setCell (World.setCell (World.setCell (World.setCell _ _ _) _ _) _ _) _ _ = W5 at e0 e1 e2 e3 hBS ⊢
            exact bodyPost_ret (v := asmV (.slice none 0 0) 0 0 0 L.length 210) (by unfold asmV; simp [results, Tryz.results31, go_sem, e0, e1, e2, e3]) rfl ⟨by rw [HRO.out]; first | done | rfl, hBS⟩
          | true =>
            have HRO := Lib.hid (show readO L true = .ok P by
              unfold readO
              rw [HLO.out]
              simp only [HNZ.out, if_false, HWP.out, hrp, and_self, if_true])
            have e1 : ((y.toNat : Int) != 10) = false := by
              have h1 := of_decide_eq_true hE.symm
              rw [h1]
              rfl
            clear hrp hy hE
            go_wp2_with fail
            refine CC.out.mono ?_
            rintro e w9 ⟨rfl, hb9⟩
            have HZ := Lib.hid (HZ.out.bel hb9)
            have HBw := Lib.hid (belT HBw.out hb9)
            have HR9 := Lib.hid (HR8.out.bel hb9)
            have d0 := HR9.out.c0
            have d1 := HR9.out.c1
            have d2 := HR9.out.c2
            have d3 := HR9.out.c3
            obtain ⟨z0, z1', z2, z3, g0, g1, g2, g3⟩ := HZ.out
            have HSt := Lib.hid (HZ.out.set (.slice av Q.length cv) P.mu P.rw P.gr)
            have HBS := Lib.hid (setP_bel HBw.out (Nat.le_refl w.heap.size) (.slice av Q.length cv) P.mu P.rw P.gr)
            have HA := Lib.hid (show ArgF (setP w.heap.size (.slice av Q.length cv) P.mu P.rw P.gr w9) (.slice av Q.length cv) P.funcs from by
              have hT := touch_setP w.heap.size (.slice av Q.length cv) P.mu P.rw P.gr w9 (T := fun b => b = w.heap.size) rfl
              have := (HR9.out.fns.touch hT (fun b hb => by have := HD.out; omega)).arg
              rw [HQ.out] at this
              exact this)
            clear hb9 CC
            go_wp2_with fail
            obtain ⟨e0, e1, e2, e3, -, -, -, -⟩ := HSt.out
            have hBS := HBS.out
            have hA := HA.out
            dsimp only [setP] at e0 e1 e2 e3 hBS hA
            generalize World.setCell (World.setCell (World.setCell (World.setCell _ _ _) _ _) _ _) _ _ = W5 at e0 e1 e2 e3 hBS hA ⊢
            exact bodyPost_ret (v := asmV (.slice av Q.length cv) P.mu P.rw P.gr L.length 0) (by unfold asmV; simp [results, Tryz.results31, go_sem, e0, e1, e2, e3]) rfl ⟨by rw [HRO.out]; exact ⟨_, rfl, hA⟩, hBS⟩
end Go.Proofs.YtfnfcngkaepnjaaGreatDoor
