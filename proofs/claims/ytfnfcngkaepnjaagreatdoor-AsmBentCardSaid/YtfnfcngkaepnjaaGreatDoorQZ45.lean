/- Joined texts: The reference of layer 11: Lines.; The reference of layer 11: Print.; Layer 11: AsmHolds, walked; that texts tell programs apart is handed to it.; Layer 11: AsmPrints, walked.; Layer 11: AsmParses, walked. -/
import Derived.Test.YtfnfcngkaepnjaaGreatDoorQZ28
import Derived.Test.YtfnfcngkaepnjaaGreatDoorQZ29
import Derived.Deep.RegionHeld3
import Derived.Test.YtfnfcngkaepnjaaGreatDoorQZ38
import Derived.Test.YtfnfcngkaepnjaaGreatDoorQZ39
import Derived.Test.YtfnfcngkaepnjaaGreatDoorQZ16
import Derived.Test.YtfnfcngkaepnjaaGreatDoorQZ44
import Derived.Test.YtfnfcngkaepnjaaGreatDoorQZ40
/- The reference of layer 11: Lines. -/
namespace Go.Proofs.YtfnfcngkaepnjaaGreatDoor
set_option linter.unusedVariables false
set_option linter.unusedSimpArgs false
open Go Go.Proofs Go.RowKit Go.Sort

theorem lineF_cat (word hd : ByteArray) (n : Int) (h : hd = word ++ ⟨#[32]⟩) : hd ++ ⟨(Lib.itoa n).toArray⟩ = lineF word n := by rw [h]; rfl

set_option maxRecDepth 100000 in
set_option maxHeartbeats 8000000 in
theorem rfLines_any (P : ProgM) (hP : P.Fits) (hR : rightP P = true) (v : Value) (w : World) (hE : Env w) (h : ArgP w v P) :
    Calls Tryz.prog 30 #[v] w fun e w' => ∃ v', e = .returned v' ∧ OwnU 9 1 encS w.heap.size v' (linesF P) w' ∧ Below w.heap.size w w' := by
  obtain ⟨hn, haf⟩ := right_fits hR
  obtain ⟨⟨⟨hl1, hl32⟩, hmu, hrw, hgr⟩, hN2⟩ := (numbersF_iff P).1 hn
  have HN2 := Lib.hid hN2
  have HAF := Lib.hid haf
  have HPF := Lib.hid hP
  obtain ⟨vf, rfl, hF⟩ := h
  have HPG := Lib.hid (PrgB.new w 58 hF)
  have HB := Lib.hid (bel1 (W := w) (.cells #[vf, .int .i64 P.mu, .int .i64 P.rw, .int .i64 P.gr] 58))
  obtain ⟨F, mu, rw0, gr⟩ := P
  dsimp only at hl1 hl32 hmu hrw hgr HN2 HAF HPG HB
  obtain ⟨av, cv, rfl⟩ := hF.form
  have HE := Lib.hid hE
  clear hn haf hN2 hP hR hF hE
  go_enter Tryz.func30, Tryz.ntmps30
  go_wp2_with fail
  have HSZ := Lib.hid (show w.heap.size < (w.alloc (.cells #[.slice av F.length cv, .int .i64 mu, .int .i64 rw0, .int .i64 gr] 58)).heap.size by simp)
  generalize w.alloc _ = V at HPG HB HSZ ⊢
  have hbd : Below V.heap.size V V.drew := (Below.refl _ _).drew
  obtain ⟨-, k1, k2, k3, -⟩ := HPG.out.bel hbd
  dsimp only at k1 k2 k3
  have HED := Lib.hid (HE.out.on (HB.out.trans (hbd.mono (Nat.le_of_lt HSZ.out))))
  have ld1 := Lib.itoa_length_le mu (by omega) (by omega)
  have ld2 := Lib.itoa_length_le rw0 (by omega) (by omega)
  have ld3 := Lib.itoa_length_le gr (by omega) (by omega)
  have n1 : ¬ 9223372036854775807 < 8 + (Lib.itoa mu).length := by omega
  have n2 : ¬ 9223372036854775807 < 8 + (Lib.itoa rw0).length := by omega
  have n3 : ¬ 9223372036854775807 < 7 + (Lib.itoa gr).length := by omega
  clear hbd ld1 ld2 ld3
  go_region_held3 (fun W' => W'.cell? ⟨w.heap.size, 1, none⟩ = some (.int .i64 mu) ∧ W'.cell? ⟨w.heap.size, 2, none⟩ = some (.int .i64 rw0) ∧ W'.cell? ⟨w.heap.size, 3, none⟩ = some (.int .i64 gr))
    (go_keep)
    (first
      | ((with_reducible refine (itoa_any mu (by omega) (by omega) _ HED.out).mono ?_); rintro e w5 ⟨rfl, hb5⟩; have k1 := cell_bel (w := V.drew) k1 hb5; have k2 := cell_bel (w := V.drew) k2 hb5; have k3 := cell_bel (w := V.drew) k3 hb5; have HE5 := Lib.hid (HED.out.on hb5))
      | ((with_reducible refine (itoa_any rw0 (by omega) (by omega) _ HE5.out).mono ?_); rintro e w6 ⟨rfl, hb6⟩; have k1 := cell_bel k1 hb6; have k2 := cell_bel k2 hb6; have k3 := cell_bel k3 hb6; have HE6 := Lib.hid (HE5.out.on hb6))
      | ((with_reducible refine (itoa_any gr (by omega) (by omega) _ HE6.out).mono ?_); rintro e w7 ⟨rfl, hb7⟩; have k1 := cell_bel k1 hb7; have k2 := cell_bel k2 hb7; have k3 := cell_bel k3 hb7))
  have hbd : Below V.heap.size V V.drew := (Below.refl _ _).drew
  have hb7' := belT (belT (belT hbd hb5) hb6) hb7
  rw [lineF_cat wMu _ mu (by rw [cat_data]; rfl), lineF_cat wRw _ rw0 (by rw [cat_data]; rfl), lineF_cat wGr _ gr (by rw [cat_data]; rfl)]
  have HBU := Lib.hid (belA hb7' (.cells #[.string (lineF wMu mu), .string (lineF wRw rw0), .string (lineF wGr gr)] 9))
  have HO := Lib.hid ((OwnU.made (e := 9) rowS.len w7 #[.string (lineF wMu mu), .string (lineF wRw rw0), .string (lineF wGr gr)] (headLines ⟨F, mu, rw0, gr⟩) 3 rfl rfl (by simp [headLines])).base_le hb7'.size)
  clear hbd hb5 hb6 hb7 hb7' k1 k2 k3 HED HE5 HE6 n1 n2 n3 hmu hrw hgr
  generalize w7.alloc _ = U at HBU HO ⊢
  go_wp2_with fail
  go_loopw [3, 4] (fun vl vi wr => ∃ k : Nat, vi = .int .i64 k ∧ k ≤ F.length ∧ Hid (OwnU 9 1 encS V.heap.size vl (headLines ⟨F, mu, rw0, gr⟩ ++ (F.take k).flatMap fnLines) wr) ∧ Hid (Below V.heap.size V wr)) (fun _ vi _ => F.length - (intOf vi).toNat)
  case atStart => exact ⟨0, rfl, by omega, HO, HBU⟩
  case round =>
    clear HO HBU
    obtain ⟨k, rfl, hk, HO, HBr⟩ := hrel
    have hlen := Lib.hid (show (headLines ⟨F, mu, rw0, gr⟩ ++ (F.take k).flatMap fnLines).length ≤ 20000 by
      have := fnLines_len F k (fun f hf => (HN2.out f hf).2.2) (by omega)
      rw [List.length_append]
      have : (headLines ⟨F, mu, rw0, gr⟩).length = 3 := rfl
      omega)
    obtain ⟨LL, hLL⟩ : ∃ LL, LL = headLines ⟨F, mu, rw0, gr⟩ ++ (F.take k).flatMap fnLines := ⟨_, rfl⟩
    rw [← hLL] at HO hlen
    have HLL := Lib.hid hLL
    clear hLL
    obtain ⟨q0, -, -, -, HFr⟩ := HPG.out.bel HBr.out
    dsimp only at q0 HFr
    have HFr := Lib.hid HFr
    obtain ⟨al, cl, rfl⟩ := HO.out.own.form
    by_cases hlt : k < F.length
    · obtain ⟨f, hf⟩ : ∃ f, F[k]? = some f := ⟨F[k], List.getElem?_eq_getElem hlt⟩
      obtain ⟨b, o, c', vc, hv, -, x0, x1, hcd⟩ := HFr.out.at_ hf
      simp only [Value.slice.injEq, true_and] at hv
      obtain ⟨rfl, rfl⟩ := hv
      obtain ⟨ac, cc, rfl⟩ := hcd.form
      obtain ⟨hrg, hl1', hl5⟩ := HN2.out f (List.mem_of_getElem? hf)
      have HKf := Lib.hid hf
      have HT := Lib.hid (fnLines_take F k f hf)
      have HEr := Lib.hid (HE.out.on (HB.out.trans (HBr.out.mono (Nat.le_of_lt HSZ.out))))
      have CI := Lib.hid (itoa_any f.regs (by omega) (by omega) wr HEr.out)
      have ld := Lib.itoa_length_le f.regs (by omega) (by omega)
      have n1 : ¬ 9223372036854775807 < 5 + (Lib.itoa f.regs).length := by omega
      have HCL := Lib.hid (lineF_cat wFn ⟨#[102, 117, 110, 99, 32]⟩ f.regs (by rw [cat_data]; rfl))
      clear hf hcd ld hrg
      go_wp2_with fail
      refine CI.out.mono ?_
      rintro e w8 ⟨rfl, hb8⟩
      have hB8 := HBr.out.trans (hb8.mono HBr.out.size)
      have HO8 := Lib.hid (HO.out.bel hb8)
      clear x0 x1 q0 CI
      go_wp2_with (at_builtin; (rw [HCL.out]); refine append_U rowS rfl _ _ rfl rfl (HO8.out.bel (bel1 _)) w8.heap.size 1 (lineF wFn f.regs) rfl (fun j u hj => (cell_new w8 _ 9 j).trans (by simpa using hj)) (by have := hlen.out; omega) (Nat.le_trans hB8.size (by simp)) ?_; intro v9 w9 hO9 hg9 hb9)
      have hB9 := (hB8.trans ((bel1 (W := w8) (.cells #[.string (lineF wFn f.regs)] 9)).mono hB8.size)).trans hb9
      have HO9 := Lib.hid (show OwnU 9 1 encS V.heap.size v9 (LL ++ [lineF wFn f.regs] ++ (f.code.take 0).map insTx) w9 by simpa using hO9)
      have HB9 := Lib.hid hB9
      have hln9 : LL.length ≤ 20000 := hlen.out
      clear hb8 hB8 HO8 hO9 hg9 hb9 hB9 HO HBr HFr n1 HEr
      go_loopw [3, 5] (fun vl vi wi => ∃ j : Nat, vi = .int .i64 j ∧ j ≤ f.code.length ∧ Hid (OwnU 9 1 encS V.heap.size vl (LL ++ [lineF wFn f.regs] ++ (f.code.take j).map insTx) wi) ∧ Hid (Below V.heap.size V wi)) (fun _ vi _ => f.code.length - (intOf vi).toNat)
      case atStart => exact ⟨0, rfl, by omega, HO9, HB9⟩
      case round =>
        clear HO9 HB9
        obtain ⟨j, rfl, hj, HO, HBr⟩ := hrel
        obtain ⟨q0, -, -, -, HFr⟩ := HPG.out.bel HBr.out
        dsimp only at q0 HFr
        obtain ⟨b, o, c', vc, hv, -, x0, x1, hcd⟩ := HFr.at_ HKf.out
        simp only [Value.slice.injEq, Option.some.injEq, Addr.mk.injEq, true_and, and_true] at hv
        obtain ⟨⟨rfl, rfl⟩, rfl⟩ := hv
        obtain ⟨ac2, cc2, rfl⟩ := hcd.form
        have hlj8 := Lib.hid (show (LL ++ [lineF wFn f.regs] ++ (f.code.take j).map insTx).length ≤ 30000 by
          simp only [List.length_append, List.length_cons, List.length_nil, List.length_map, List.length_take]
          omega)
        obtain ⟨L9, hL9⟩ : ∃ L9, L9 = LL ++ [lineF wFn f.regs] ++ (f.code.take j).map insTx := ⟨_, rfl⟩
        rw [← hL9] at HO hlj8
        have HL9 := Lib.hid hL9
        clear hL9
        obtain ⟨al2, cl2, rfl⟩ := HO.out.own.form
        have HCD := Lib.hid hcd
        clear hcd HFr
        by_cases hlj : j < f.code.length
        · obtain ⟨x, hx⟩ : ∃ x, f.code[j]? = some x := ⟨f.code[j], List.getElem?_eq_getElem hlj⟩
          obtain ⟨b2, o2, c2, hv, -, y0, y1, y2, y3, y4⟩ := code_at HCD.out hx
          simp only [Value.slice.injEq, true_and] at hv
          obtain ⟨rfl, rfl⟩ := hv
          have hm := HPF.out.imm f (List.mem_of_getElem? HKf.out) x (List.mem_of_getElem? hx)
          have hr : rightF x.op x.a x.b x.c x.m = true := by
            have := HAF.out k j f x HKf.out hx
            unfold fineF fitsF at this
            simp only [Bool.and_eq_true] at this
            exact this.1.1
          have CT := Lib.hid fun W hE => rText_any x.op x.a x.b x.c x.m hm hr W hE
          unfold insV at CT
          have HTx := Lib.hid (insTx_take f.code j x hx)
          have htx : (⟨(textF x.op x.a x.b x.c x.m).toArray⟩ : ByteArray) = insTx x := rfl
          rw [htx] at CT
          generalize insTx x = tx at CT HTx
          obtain ⟨op, a, bb, c0, m⟩ := x
          dsimp only at CT y0 y1 y2 y3 y4
          have HEr := Lib.hid (HE.out.on (HB.out.trans (HBr.out.mono (Nat.le_of_lt HSZ.out))))
          clear hx hm hr htx
          go_wp2_with fail
          refine (CT.out _ HEr.out).mono ?_
          rintro e w7 ⟨rfl, hb7⟩
          have hB7 := HBr.out.trans (hb7.mono HBr.out.size)
          clear x0 x1 q0 y0 y1 y2 y3 y4 CT
          go_wp2_with (at_builtin; refine append_U rowS rfl _ _ rfl rfl ((HO.out.bel hb7).bel (bel1 _)) w7.heap.size 1 tx rfl (fun j u hj => (cell_new w7 _ 9 j).trans (by simpa using hj)) (by have := hlj8.out; omega) (Nat.le_trans hB7.size (by simp)) ?_; intro v8 w8 hO8 hg8 hb8)
          exact ⟨⟨j + 1, by go_num, by omega, Lib.hid (by rw [HTx.out, ← List.append_assoc, ← HL9.out]; exact hO8), Lib.hid ((hB7.trans ((bel1 (W := w7) (.cells #[.string tx] 9)).mono hB7.size)).trans hb8)⟩, by simp [intOf]; omega⟩
        · have hj2 : j = f.code.length := by omega
          subst hj2
          go_wp2_with fail
          refine ⟨?_, by simp [intOf]; omega⟩
          refine ⟨k + 1, by go_num, by omega, Lib.hid ?_, HBr⟩
          have h9 := HO.out
          have e9 : L9 = headLines ⟨F, mu, rw0, gr⟩ ++ (F.take (k + 1)).flatMap fnLines := by
            rw [HL9.out, List.take_length, HLL.out, HT.out]
            simp [fnLines, wFn]
          rw [← e9]
          exact h9
    · have hk2 : k = F.length := by omega
      subst hk2
      have HEnd := Lib.hid (show LL = linesF ⟨F, mu, rw0, gr⟩ by rw [HLL.out, List.take_length]; rfl)
      go_wp2_with fail
      go_ret
      exact ⟨_, rfl, by rw [← HEnd.out]; exact HO.out.base_le (Nat.le_of_lt HSZ.out), HB.out.trans (HBr.out.mono (Nat.le_of_lt HSZ.out))⟩
end Go.Proofs.YtfnfcngkaepnjaaGreatDoor

/- The reference of layer 11: Print. -/
namespace Go.Proofs.YtfnfcngkaepnjaaGreatDoor
set_option linter.unusedVariables false
set_option linter.unusedSimpArgs false
open Go Go.Proofs Go.RowKit Go.Sort

set_option maxRecDepth 100000 in
set_option maxHeartbeats 2000000 in
theorem rfPrint_any (P : ProgM) (hP : P.Fits) (v : Value) (w : World) (hE : Env w) (h : ArgP w v P) :
    Calls Tryz.prog 26 #[v] w fun e w' => e = .returned (.tuple #[.string (printS P), .int .i64 (checkP P)]) ∧ Below w.heap.size w w' := by
  have CC := Lib.hid fun v W h => rRightP_any P hP v W h
  obtain ⟨vf, rfl, hF⟩ := h
  have HPG := Lib.hid (PrgB.new w 58 hF)
  have HB := Lib.hid (bel1 (W := w) (.cells #[vf, .int .i64 P.mu, .int .i64 P.rw, .int .i64 P.gr] 58))
  obtain ⟨c0, c1, c2, c3, -⟩ := HPG.out
  have HE := Lib.hid hE
  clear hE hF
  unfold printS checkP
  cases hR : rightP P with
  | false =>
    rw [hR] at CC
    rw [if_neg (by decide), if_neg (by decide)]
    clear hR hP
    go_enter Tryz.func26, Tryz.ntmps26
    go_wp2_with fail
    refine (CC.out _ _ HPG.out.arg).mono ?_
    rintro e w1 ⟨rfl, hb1⟩
    go_wp2_with fail
    go_ret2
    exact ⟨rfl, belT HB.out hb1⟩
  | true =>
    rw [hR] at CC
    rw [if_pos rfl, if_pos rfl]
    have CA := Lib.hid fun v W hE h => rfLines_any P hP hR v W hE h
    have hsm := joined_small hP hR
    have hln := (lines_small hP hR).1
    have CJ := Lib.hid fun v W h => rfText_any (linesF P) (by omega) (by omega) v W h
    clear hR hsm hln hP
    generalize linesF P = L at CA CJ ⊢
    go_enter Tryz.func26, Tryz.ntmps26
    go_wp2_with fail
    refine (CC.out _ _ HPG.out.arg).mono ?_
    rintro e w1 ⟨rfl, hb1⟩
    clear c0 c1 c2 c3
    have HPG1 := Lib.hid (HPG.out.bel hb1)
    have HB1 := Lib.hid (belT HB.out hb1)
    obtain ⟨c0, c1, c2, c3, -⟩ := HPG1.out
    go_wp2_with fail
    refine (CA.out _ _ (HE.out.on HB1.out) HPG1.out.arg).mono ?_
    rintro e w2 ⟨v', rfl, ho, hb2⟩
    obtain ⟨a2, d2, h9⟩ := ho.own.form
    subst h9
    have HO := Lib.hid (ho.own.arg rowS.len)
    clear ho c0 c1 c2 c3
    go_wp2_with fail
    refine (CJ.out _ _ HO.out).mono ?_
    rintro e w3 ⟨rfl, hb3⟩
    go_wp2_with fail
    go_ret2
    exact ⟨rfl, belT (belT HB1.out hb2) hb3⟩
end Go.Proofs.YtfnfcngkaepnjaaGreatDoor

/- Layer 11: AsmHolds, walked; that texts tell programs apart is handed to it. -/
namespace Go.Proofs.YtfnfcngkaepnjaaGreatDoor
set_option linter.unusedVariables false
set_option linter.unusedSimpArgs false
open Go Go.Proofs Go.RowKit Go.Sort

end Go.Proofs.YtfnfcngkaepnjaaGreatDoor

/- Layer 11: AsmPrints, walked. -/
namespace Go.Proofs.YtfnfcngkaepnjaaGreatDoor
set_option linter.unusedVariables false
set_option linter.unusedSimpArgs false
open Go Go.Proofs Go.RowKit Go.Sort

set_option maxRecDepth 100000 in
set_option maxHeartbeats 4000000 in
theorem asmPrints_row (u : Value) (P : ProgM) (w : World) (hE : EnvM w) (hu : ArgP w u P) (hP : P.Fits) (hsP : fewSum (P.funcs.take 40) ≤ 4611686018427387904) :
    Calls Tryz.prog 5 #[u] w fun e w' => e = .returned (.bool true) ∧ Below w.heap.size w w' := by
  have CF := Lib.hid fun W h => few2_any P hsP u W h
  have CP := Lib.hid fun hl W hE h => asmPrint_any P hP hl u W hE h
  have CR := Lib.hid fun W hE h => rfPrint_any P hP u W hE h
  obtain ⟨vf, rfl, hF⟩ := hu
  have HA := Lib.hid (PrgB.new w 58 hF)
  have HW := Lib.hid (bel1 (W := w) (.cells #[vf, .int .i64 P.mu, .int .i64 P.rw, .int .i64 P.gr] 58))
  have HE := Lib.hid hE
  have CW := Lib.hid fun W hE => works11_any W hE
  have HL := Lib.hid (show fewF P = true → P.funcs.length ≤ 100000 from fun h => by unfold fewF at h; simp at h; omega)
  have HPF := Lib.hid hP
  clear hF hE hsP hP
  cases h1 : fewF P with
  | false =>
    rw [h1] at CF
    clear h1 HL
    obtain ⟨a0, a1, a2, a3, -⟩ := HA.out
    go_enter Tryz.func5, Tryz.ntmps5
    go_wp2_with fail
    generalize World.alloc _ _ = V at HA HW a0 a1 a2 a3 ⊢
    refine (CF.out V HA.out.arg).mono ?_
    rintro e w1 ⟨rfl, hb1⟩
    have H1 := Lib.hid (belT HW.out hb1)
    have HA := Lib.hid (HA.out.bel hb1)
    clear hb1 a0 a1 a2 a3
    go_wp2_with fail
    refine (CW.out w1 (HE.out.on H1.out)).mono ?_
    rintro e w9 ⟨rfl, hb9⟩
    have H9 := Lib.hid (belT H1.out hb9)
    clear hb9
    go_wp2_with fail
    go_ret
    exact ⟨rfl, H9.out⟩
  | true =>
    rw [h1] at CF
    have CP := Lib.hid fun W hE h => CP.out (HL.out h1) W hE h
    clear h1 HL
    unfold checkP at CP CR
    cases r1 : rightP P with
    | false =>
      rw [r1] at CP CR
      simp only [Bool.false_eq_true, if_false] at CP CR
      clear r1
      generalize printS P = X at CP CR
      have hst : (X.toList != X.toList) = false := by simp
      obtain ⟨a0, a1, a2, a3, -⟩ := HA.out
      go_enter Tryz.func5, Tryz.ntmps5
      go_wp2_with fail
      generalize World.alloc _ _ = V at HA HW a0 a1 a2 a3 ⊢
      refine (CF.out V HA.out.arg).mono ?_
      rintro e w1 ⟨rfl, hb1⟩
      have H1 := Lib.hid (belT HW.out hb1)
      have HA := Lib.hid (HA.out.bel hb1)
      clear hb1 a0 a1 a2 a3
      obtain ⟨a0, a1, a2, a3, -⟩ := HA.out
      go_wp2_with fail
      refine (CP.out w1 (HE.out.on H1.out).env HA.out.arg).mono ?_
      rintro e w2 ⟨rfl, hb2⟩
      have H2 := Lib.hid (belT H1.out hb2)
      have HA := Lib.hid (HA.out.bel hb2)
      clear hb2 a0 a1 a2 a3
      obtain ⟨a0, a1, a2, a3, -⟩ := HA.out
      go_wp2_with fail
      refine (CR.out w2 (HE.out.on H2.out).env HA.out.arg).mono ?_
      rintro e w3 ⟨rfl, hb3⟩
      have H3 := Lib.hid (belT H2.out hb3)
      have HA := Lib.hid (HA.out.bel hb3)
      clear hb3 a0 a1 a2 a3
      obtain ⟨a0, a1, a2, a3, -⟩ := HA.out
      go_wp2_with (go_at_call 27; refine (num11_any _ _).mono ?_; rintro e wn ⟨rfl, rfl⟩)
      go_wp2_with fail
      refine (CW.out w3 (HE.out.on H3.out)).mono ?_
      rintro e w9 ⟨rfl, hb9⟩
      have H9 := Lib.hid (belT H3.out hb9)
      clear hb9
      go_wp2_with fail
      go_ret
      exact ⟨rfl, H9.out⟩
    | true =>
      have hpl := printS_last HPF.out r1
      have hnl := nl_print HPF.out r1
      have hls := (lines_small HPF.out r1).1
      obtain ⟨hln, hen⟩ := lns_print HPF.out r1
      have CS := Lib.hid fun W hE => asmParse_any (printS P) (by omega) (by rw [hnl, List.length_append]; simp; omega) W hE
      rw [hln, hen] at CS
      unfold AsmQ at CS
      rw [read_back HPF.out r1] at CS
      dsimp only at CS
      have CL := Lib.hid fun v W hE h => rfLines_any P HPF.out r1 v W hE h
      have CSm := Lib.hid fun u v W h k => rSame_any P P u v W h k
      rw [show decide (P = P) = true by simp] at CSm
      rw [r1] at CP CR
      simp only [if_true] at CP CR
      clear r1 hpl hnl hln hen
      generalize printS P = X at CP CR CS
      have hst : (X.toList != X.toList) = false := by simp
      generalize hLL : linesF P = L at CS CL hls
      obtain ⟨a0, a1, a2, a3, -⟩ := HA.out
      go_enter Tryz.func5, Tryz.ntmps5
      go_wp2_with fail
      generalize World.alloc _ _ = V at HA HW a0 a1 a2 a3 ⊢
      refine (CF.out V HA.out.arg).mono ?_
      rintro e w1 ⟨rfl, hb1⟩
      have H1 := Lib.hid (belT HW.out hb1)
      have HA := Lib.hid (HA.out.bel hb1)
      clear hb1 a0 a1 a2 a3
      obtain ⟨a0, a1, a2, a3, -⟩ := HA.out
      go_wp2_with fail
      refine (CP.out w1 (HE.out.on H1.out).env HA.out.arg).mono ?_
      rintro e w2 ⟨rfl, hb2⟩
      have H2 := Lib.hid (belT H1.out hb2)
      have HA := Lib.hid (HA.out.bel hb2)
      clear hb2 a0 a1 a2 a3
      obtain ⟨a0, a1, a2, a3, -⟩ := HA.out
      go_wp2_with fail
      refine (CR.out w2 (HE.out.on H2.out).env HA.out.arg).mono ?_
      rintro e w3 ⟨rfl, hb3⟩
      have H3 := Lib.hid (belT H2.out hb3)
      have HA := Lib.hid (HA.out.bel hb3)
      clear hb3 a0 a1 a2 a3
      obtain ⟨a0, a1, a2, a3, -⟩ := HA.out
      go_wp2_with (go_at_call 27; refine (num11_any _ _).mono ?_; rintro e wn ⟨rfl, rfl⟩)
      refine (CS.out w3 (HE.out.on H3.out)).mono ?_
      rintro e w4 ⟨⟨vq, rfl, hFq⟩, hb4⟩
      have H4 := Lib.hid (belT H3.out hb4)
      have HA := Lib.hid (HA.out.bel hb4)
      clear hb4 a0 a1 a2 a3
      obtain ⟨aq, cq, rfl⟩ := hFq.form
      unfold asmV
      have HQ := Lib.hid (PrgB.new (P := P) w4 58 hFq)
      have hb5 := bel1 (W := w4) (.cells #[.slice aq P.funcs.length cq, .int .i64 P.mu, .int .i64 P.rw, .int .i64 P.gr] 58)
      have HA := Lib.hid (HA.out.bel hb5)
      have H5 := Lib.hid (belT H4.out hb5)
      clear hFq hb5
      obtain ⟨a0, a1, a2, a3, -⟩ := HA.out
      obtain ⟨b0, b1, b2, b3, -⟩ := HQ.out
      go_wp2_with (go_at_call 27; refine (num11_any _ _).mono ?_; rintro e wn ⟨rfl, rfl⟩)
      generalize World.alloc _ _ = V5 at HA HQ H5 a0 a1 a2 a3 b0 b1 b2 b3 ⊢
      refine (CSm.out _ _ V5 HA.out.arg HQ.out.arg).mono ?_
      rintro e w6 ⟨rfl, hb6⟩
      have H6 := Lib.hid (belT H5.out hb6)
      have HA := Lib.hid (HA.out.bel hb6)
      clear hb6 a0 a1 a2 a3 b0 b1 b2 b3 HQ
      obtain ⟨a0, a1, a2, a3, -⟩ := HA.out
      go_wp2_with fail
      refine (CL.out _ w6 (HE.out.on H6.out).env HA.out.arg).mono ?_
      rintro e w7 ⟨vl, rfl, ho, hb7⟩
      obtain ⟨al, cl, rfl⟩ := ho.own.form
      have H7 := Lib.hid (belT H6.out hb7)
      clear hb7 a0 a1 a2 a3 ho HA
      go_wp2_with fail
      refine (CW.out w7 (HE.out.on H7.out)).mono ?_
      rintro e w9 ⟨rfl, hb9⟩
      have H9 := Lib.hid (belT H7.out hb9)
      clear hb9
      go_wp2_with fail
      go_ret
      exact ⟨rfl, H9.out⟩
end Go.Proofs.YtfnfcngkaepnjaaGreatDoor

/- Layer 11: AsmParses, walked. -/
namespace Go.Proofs.YtfnfcngkaepnjaaGreatDoor
set_option linter.unusedVariables false
set_option linter.unusedSimpArgs false
open Go Go.Proofs Go.RowKit Go.Sort

theorem arg_nil (w : World) : ArgF w (.slice none 0 0) zeroP.funcs := ⟨[], Or.inl ⟨rfl, rfl⟩, ⟨rfl, fun k r f h => by simp at h⟩⟩
/-- The program that is told. -/
noncomputable def readP (r : Except Nat ProgM) : ProgM := match r with | .ok P => P | .error _ => zeroP
noncomputable def readN (n : Nat) (r : Except Nat ProgM) : Nat := match r with | .ok _ => n | .error k => k
noncomputable def readE (r : Except Nat ProgM) : Int := match r with | .ok _ => 0 | .error _ => 210
theorem asmQ_all {L : List ByteArray} {ends : Bool} {w : World} {e : Ending} {w' : World} (h : AsmQ L ends w e w') :
    ∃ vf, e = .returned (asmV vf (readP (readO L ends)).mu (readP (readO L ends)).rw (readP (readO L ends)).gr (readN L.length (readO L ends)) (readE (readO L ends))) ∧ ArgF w' vf (readP (readO L ends)).funcs ∧ Below w.heap.size w w' := by
  obtain ⟨h1, h2⟩ := h
  cases hr : readO L ends with
  | error k =>
    rw [hr] at h1
    exact ⟨_, h1, arg_nil w', h2⟩
  | ok P =>
    rw [hr] at h1
    obtain ⟨vf, h3, h4⟩ := h1
    exact ⟨vf, h3, h4, h2⟩

set_option maxRecDepth 100000 in
set_option maxHeartbeats 4000000 in
theorem asmParses_row (s : ByteArray) (w : World) (hE : EnvM w) (hs : s.size ≤ 9223372036854775807) :
    Calls Tryz.prog 6 #[.string s] w fun e w' => e = .returned (.bool true) ∧ Below w.heap.size w w' := by
  have HE := Lib.hid hE
  have CW := Lib.hid fun W hE => works11_any W hE
  have H0 := Lib.hid (Below.refl w.heap.size w)
  clear hE
  by_cases hsz : 3000 < s.size
  · have e1 : (3000 : Int) < (s.size : Int) := by omega
    clear hsz
    go_enter Tryz.func6, Tryz.ntmps6
    go_wp2_with fail
    refine (CW.out w (HE.out.on H0.out)).mono ?_
    rintro e w9 ⟨rfl, hb9⟩
    have H9 := Lib.hid (belT H0.out hb9)
    clear hb9
    go_wp2_with fail
    go_ret
    exact ⟨rfl, H9.out⟩
  · have e1 : decide ((3000 : Int) < (s.size : Int)) = false := decide_eq_false (by omega)
    have hnl : (nlF s).length ≤ 90001 := by have := nl_le s; omega
    have CS := Lib.hid fun W hE => asmParse_any s (by omega) hnl W hE
    have CR := Lib.hid fun W hE => rfParse_any s (by omega) hnl W hE
    have HPR := Lib.hid fun P (h : readO (lnsO (nlF s)) (endO (nlF s)) = .ok P) => print_read h
    have HLn := Lib.hid (show (lnsO (nlF s)).length ≤ 90001 by
      unfold lnsO
      split
      · rw [List.length_take]; omega
      · exact hnl)
    generalize lnsO (nlF s) = L at CS CR HPR HLn
    generalize endO (nlF s) = E at CS CR HPR
    clear hnl hsz hs
    go_enter Tryz.func6, Tryz.ntmps6
    go_wp2_with fail
    refine (CS.out w HE.out).mono ?_
    rintro e w1 hq
    obtain ⟨vq, rfl, hFq, hb1⟩ := asmQ_all hq
    obtain ⟨aq, cq, rfl⟩ := hFq.form
    generalize hro : readO L E = r at HPR hFq ⊢
    generalize hP : readP r = P at hFq ⊢
    generalize hN : readN L.length r = n
    generalize hEr : readE r = er
    have HRO := Lib.hid hro
    have HP := Lib.hid hP
    have HNn := Lib.hid hN
    have HER := Lib.hid hEr
    unfold asmV
    have hA1 := PrgB.new (P := P) w1 58 hFq
    have hb2 := belA hb1 (.cells #[.slice aq P.funcs.length cq, .int .i64 P.mu, .int .i64 P.rw, .int .i64 P.gr] 58)
    have HA := Lib.hid hA1
    have H2 := Lib.hid hb2
    clear hq hFq hb1 hA1 hb2 hro hP hN hEr
    go_wp2_with fail
    generalize w1.alloc _ = V1 at HA H2 ⊢
    refine (CR.out V1 (HE.out.on H2.out)).mono ?_
    rintro e w3 hq
    obtain ⟨vg, rfl, hFg, hb3⟩ := asmQ_all hq
    rw [HRO.out, HP.out, HNn.out, HER.out]
    rw [HRO.out, HP.out] at hFg
    obtain ⟨ag, cg, rfl⟩ := hFg.form
    unfold asmV
    have hb4 := bel1 (W := w3) (.cells #[.slice ag P.funcs.length cg, .int .i64 P.mu, .int .i64 P.rw, .int .i64 P.gr] 58)
    have HB := Lib.hid (PrgB.new (P := P) w3 58 hFg)
    have HA := Lib.hid ((HA.out.bel hb3).bel hb4)
    have H4 := Lib.hid (belT (belT H2.out hb3) hb4)
    have CSm := Lib.hid fun u v W h k => rSame_any P P u v W h k
    rw [show decide (P = P) = true by simp] at CSm
    clear hq hFg hb3 hb4
    obtain ⟨a0, a1, a2, a3, -⟩ := HA.out
    obtain ⟨b0, b1, b2, b3, -⟩ := HB.out
    go_wp2_with fail
    generalize w3.alloc _ = V4 at HA HB H4 a0 a1 a2 a3 b0 b1 b2 b3 ⊢
    refine (CSm.out _ _ V4 HA.out.arg HB.out.arg).mono ?_
    rintro e w5 ⟨rfl, hb5⟩
    have H5 := Lib.hid (belT H4.out hb5)
    have HA := Lib.hid (HA.out.bel hb5)
    clear hb5 a0 a1 a2 a3 b0 b1 b2 b3 HB
    cases r with
    | error k =>
      obtain rfl := HER.out
      unfold readE
      dsimp only
      go_wp2_with (go_at_call 27; refine (num11_any _ _).mono ?_; rintro e wn ⟨rfl, rfl⟩)
      go_wp2_with fail
      refine (CW.out w5 (HE.out.on H5.out)).mono ?_
      rintro e w9 ⟨rfl, hb9⟩
      have H9 := Lib.hid (belT H5.out hb9)
      clear hb9
      go_wp2_with fail
      go_ret
      exact ⟨rfl, H9.out⟩
    | ok P' =>
      obtain rfl := HER.out
      obtain ⟨hf, hr, hp, hl⟩ := HPR.out P' rfl
      obtain rfl : P' = P := HP.out
      have hl2 := HLn.out
      have CP := Lib.hid fun v W hE h => asmPrint_any P' hf (by omega) v W hE h
      rw [hp, show checkP P' = 0 from by unfold checkP; rw [hr]; rfl] at CP
      unfold readE
      dsimp only
      clear hf hr hp hl hl2
      obtain ⟨a0, a1, a2, a3, -⟩ := HA.out
      go_wp2_with (go_at_call 27; refine (num11_any _ _).mono ?_; rintro e wn ⟨rfl, rfl⟩)
      refine (CP.out _ w5 (HE.out.on H5.out).env HA.out.arg).mono ?_
      rintro e w6 ⟨rfl, hb6⟩
      have H6 := Lib.hid (belT H5.out hb6)
      have hst : (s.toList == s.toList) = true := by simp
      clear hb6 a0 a1 a2 a3
      go_wp2_with (go_at_call 27; refine (num11_any _ _).mono ?_; rintro e wn ⟨rfl, rfl⟩)
      go_wp2_with fail
      refine (CW.out w6 (HE.out.on H6.out)).mono ?_
      rintro e w9 ⟨rfl, hb9⟩
      have H9 := Lib.hid (belT H6.out hb9)
      clear hb9
      go_wp2_with fail
      go_ret
      exact ⟨rfl, H9.out⟩
end Go.Proofs.YtfnfcngkaepnjaaGreatDoor
