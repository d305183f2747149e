/- Joined texts: The reference of layer 8: Parse. -/
import Derived.Test.YtfnfcngkaepnjaaGreatDoorQZ27
import Derived.Test.YtfnfcngkaepnjaaGreatDoorQZ40
import Derived.Test.YtfnfcngkaepnjaaGreatDoorQZ41
import Derived.Deep.Cut
/- The reference of layer 8: Parse. -/
namespace Go.Proofs.YtfnfcngkaepnjaaGreatDoor
set_option linter.unusedVariables false
set_option linter.unusedSimpArgs false
open Go Go.Proofs Go.RowKit

theorem wordR_k : ∀ k : Nat, k < 19 → wordRL[k]? = some (wordN (k + 1)) := by decide +kernel
/-- Parse's world: its result, its instruction, its words. -/
structure PrW (w0 : World) (g X : Nat) (W : List ByteArray) (op : Int) (st : Int × Int × Int × Int) (w : World) : Prop where
  res : Bare w0.heap.size 0 (0, 0, 0, 0) w
  f0 : w.frozen? ⟨w0.heap.size, 0, none⟩ = false
  x : Bare X op st w
  fx : w.frozen? ⟨X, 0, none⟩ = false
  row : RowS g W w
  bel : Below w0.heap.size w0 w
theorem PrW.more {w0 : World} {g X : Nat} {W : List ByteArray} {op : Int} {st : Int × Int × Int × Int} {w w' : World} (h : PrW w0 g X W op st w) (hb : Below w.heap.size w w') : PrW w0 g X W op st w' :=
  ⟨h.res.bel hb, froz_bel h.res.c0 h.f0 hb, h.x.bel hb, froz_bel h.x.c0 h.fx hb, h.row.bel hb, belT h.bel hb⟩
/-- X is another block than the result's and the words'. -/
def PrN (w0 : World) (g X : Nat) : Prop := w0.heap.size < X ∧ g < X
theorem PrW.put {w0 : World} {g X : Nat} {W : List ByteArray} {op op' : Int} {st st' : Int × Int × Int × Int} {w : World} {o : Nat} {v : Value} (h : PrW w0 g X W op st w) (hn : PrN w0 g X) (hb : Bare X op' st' (w.setCell ⟨X, o, none⟩ v)) : PrW w0 g X W op' st' (w.setCell ⟨X, o, none⟩ v) := by
  obtain ⟨n1, n2⟩ := hn
  refine ⟨h.res.far (by omega), (World.frozen?_setCell ..).trans h.f0, hb, (World.frozen?_setCell ..).trans h.fx, fun j x hj => ?_, h.bel.setCell (by simp; omega) _⟩
  exact (World.cell?_setCell_other _ _ _ _ (fun e => by have := congrArg Addr.block e; simp at this; omega)).trans (h.row j x hj)
theorem stepL_bd (y : Nat) (n : Int) (st : Int × Int × Int × Int) (h : 0 ≤ st.2.2.2 ∧ st.2.2.2 < 4294967296) (hn : 0 ≤ n ∧ n < 4294967296) : 0 ≤ (stepL y n st).2.2.2 ∧ (stepL y n st).2.2.2 < 4294967296 := by
  unfold stepL
  split
  · exact h
  · split
    · exact h
    · split
      · exact h
      · exact hn

set_option maxRecDepth 100000 in
set_option maxHeartbeats 8000000 in
theorem rParse_any (s : ByteArray) (hs : s.size ≤ 900000) (w : World) (hE : Env w) :
    Calls Tryz.prog 75 #[.string s] w fun e w' => ParsePost s e ∧ Below w.heap.size w w' := by
  have CP := Lib.hid fun W => rPieces_any s (by omega) W
  have HZ := Lib.hid (pieces_size s)
  have HN := Lib.hid (show (piecesF s).length ≤ s.size + 1 by rw [pieces_length]; have := Lib.countB_le ⟨#[32]⟩ (by show 1 ≤ 1; omega) s.size s (Nat.le_refl _); omega)
  obtain ⟨s0, L, hL⟩ := pieces_cons s
  have HSEEN := Lib.hid (show ∀ op a b c m, IsT s op a b c m → SeenT s0 L op a b c m from fun op a b c m h => seenT hL h)
  rw [hL] at CP HZ HN
  clear hL
  have HERR := Lib.hid (fun (h : ∀ op a b c m, ¬ IsT s op a b c m) => show ParsePost s (.returned (parseV 0 0 0 0 0 180)) from Or.inr ⟨h, rfl⟩)
  have hR := Bare.new 0 0 0 0 0 w 29
  have hf0 := World.frozen?_alloc_new w #[.int .i64 0, .int .i64 0, .int .i64 0, .int .i64 0, .int .u32 0] 29 0
  have hB : Below w.heap.size w (w.alloc (.cells #[.int .i64 0, .int .i64 0, .int .i64 0, .int .i64 0, .int .u32 0] 29)) := bel1 _
  go_enter Tryz.func75, Tryz.ntmps75
  go_wp2_with fail
  refine (CP.out _).mono ?_
  rintro e w1 ⟨v, rfl, hO, hb1⟩
  obtain ⟨g, cap, rfl, hg1, hg2, hg3, hg4⟩ := hO.slice (by simp)
  have hRw : RowS g (s0 :: L) w1 := fun j x hj => hO.cell j x hj
  have hf0 := froz_bel hR.c0 hf0 hb1
  have hR := hR.bel hb1
  have hB := belT hB hb1
  have hNE : PrN w g w1.heap.size := ⟨lt_of_cell hR.c0, hg4⟩
  have HNE := Lib.hid hNE
  have hP : PrW w g w1.heap.size (s0 :: L) 0 (0, 0, 0, 0) (w1.alloc (.cells #[.int .i64 0, .int .i64 0, .int .i64 0, .int .i64 0, .int .u32 0] 29)) :=
    ⟨hR.bel (bel1 _), froz_bel hR.c0 hf0 (bel1 _), Bare.new 0 0 0 0 0 w1 _, World.frozen?_alloc_new _ _ _ _, hRw.bel (bel1 _), belA hB _⟩
  clear hO hb1 hg1 hg2 hg3 hg4 hRw hf0 hR hB hNE CP
  generalize hXe : w1.heap.size = X at HNE hP
  have HL1 := Lib.hid (show L.length + 1 ≤ s.size + 1 from by have := HN.out; simpa using this)
  simp only [List.length_cons]
  have HXE := Lib.hid hXe
  clear hXe
  go_wp2_with fail
  rw [HXE.out]
  generalize World.alloc _ _ = V at hP ⊢
  clear HXE
  go_loopw [5, 7] (fun vo vi wr => ∃ (i : Nat) (o : Int), vi = .int .i64 i ∧ vo = .int .i64 o ∧ i ≤ 19 ∧ Hid (WordP s0 i o) ∧ PrW w g X (s0 :: L) 0 (0, 0, 0, 0) wr) (fun _ vi _ => 19 - (intOf vi).toNat)
  case atStart => exact ⟨0, 0, rfl, rfl, by omega, Lib.hid (wordP_start s0), hP⟩
  case round =>
    obtain ⟨i, o, rfl, rfl, hi, HW, hP⟩ := hrel
    by_cases hlt : i < 19
    · by_cases h2 : i = 2
      · subst h2
        have HW2 := Lib.hid (HW.out.miss (Or.inl rfl))
        clear HW
        go_wp2_with fail
        go_quiet (fail)
        go_wp2
        exact ⟨⟨3, o, rfl, rfl, by omega, HW2, hP.more (bel_drewN _ _)⟩, by simp [intOf]⟩
      · have en : ((i : Int) != 2) = true := by rw [bne, beq_eq_false_iff_ne.2 (by omega)]; rfl
        have CW := Lib.hid fun W => rWords19 W
        have HWL := Lib.hid (wordR_k i hlt)
        generalize wordRL = WL at CW HWL
        have r0 : wr.drew.cell? ⟨g, 0, none⟩ = some (.string s0) := hP.row 0 s0 rfl
        have b0 : (0 : Int) ≤ (i : Int) := by omega
        have b1 : (i : Int) < 19 := by omega
        by_cases he : wordN (i + 1) = s0
        · have HW2 := Lib.hid (HW.out.hit hlt h2 he)
          have e1 : ((wordN (i + 1)).toList == s0.toList) = true := by rw [he]; simp
          clear he HW
          generalize wordN (i + 1) = wd at HWL e1
          go_wp2_with fail
          go_region_with (go_at_call 134; refine (CW.out _).mono ?_; rintro e w3 ⟨Bk, rfl, hRk, hb3⟩; have r1 := cell_bel (w := wr.drew) r0 hb3; have y0 := hRk _ _ HWL.out)
          all_goals
            have hP3 := (hP.more (Below.refl _ _).drew).more hb3
            clear r0 r1 y0 hRk hb3 hP
            go_wp2
            exact ⟨⟨i + 1, _, by go_num, by go_num, by omega, HW2, hP3⟩, by simp [intOf]; omega⟩
        · have HW2 := Lib.hid (HW.out.miss (Or.inr he))
          have e1 := str_ne he
          clear he HW
          generalize wordN (i + 1) = wd at HWL e1
          go_wp2_with fail
          go_region_with (go_at_call 134; refine (CW.out _).mono ?_; rintro e w3 ⟨Bk, rfl, hRk, hb3⟩; have r1 := cell_bel (w := wr.drew) r0 hb3; have y0 := hRk _ _ HWL.out)
          all_goals
            have hP3 := (hP.more (Below.refl _ _).drew).more hb3
            clear r0 r1 y0 hRk hb3 hP
            go_wp2
            exact ⟨⟨i + 1, _, by go_num, rfl, by omega, HW2, hP3⟩, by simp [intOf]; omega⟩
    · have hi2 : i = 19 := by omega
      subst hi2
      have r0 := hP.row 0 s0 rfl
      clear hlt hi
      go_wp2_with fail
      refine (rKind_any s0 _).mono ?_
      rintro e w4 ⟨k, hk, rfl, hb4⟩
      have hP := hP.more hb4
      have hkb := hk.bd
      have HKP := Lib.hid hk
      clear hk hb4 r0
      by_cases hk0 : 0 < k
      · have hwk : IntKind.u32.wrap k = k := by rw [IntKind.wrap_u32]; omega
        have HST := Lib.hid (show ∀ op a b c m, SeenT s0 L op a b c m → 3 = op ∧ k = (if op = 3 then m else 0) from fun op a b c m hT => by
          obtain ⟨h1, h2⟩ := start_kind HKP.out hk0 hT
          exact ⟨h1.symm, by rw [if_pos h1]; exact h2⟩)
        have HKB := Lib.hid hkb
        have CNm := Lib.hid fun W => rNames_any 3 W
        obtain ⟨x0, x1, x2, x3, x4, xf1, xf2, xf3, xf4⟩ := id hP.x
        have hP := hP.put HNE.out (hP.x.put4 (v := k))
        clear HW HKP
        go_wp2_with fail
        refine (CNm.out _).mono ?_
        rintro e w5 ⟨rfl, hb5⟩
        have hP := hP.more hb5
        clear hb5
        go_upto_region 15 with (fail)
        clear x0 x1 x2 x3 x4 xf1 xf2 xf3 xf4 hk0 hkb hwk CNm
        have HLS := Lib.hid (lR_size 3)
        rw [show (⟨#[97, 98, 99]⟩ : ByteArray) = lR 3 from rfl]
        obtain ⟨l, hl⟩ : ∃ l, l = lR 3 := ⟨_, rfl⟩
        rw [← hl] at HLS ⊢
        by_cases hlen : L.length = l.size
        · have hlb := HLS.out
          obtain ⟨bs, hLb⟩ : ∃ bs, bs = l.data.toList := ⟨_, rfl⟩
          have hLn : bs.length = l.size := by rw [hLb, Lib.size_eq]
          have hat : ∀ k (h : k < l.size), l[k]'h = bs[k]'(by omega) := fun k h => by subst hLb; exact bytes_at l k h
          have HLR := Lib.hid (show bs = (lR 3).data.toList by rw [hLb, hl])
          have HAT := Lib.hid hat
          have hLn := Lib.hid hLn
          clear hat hLb hl
          obtain ⟨x0, x1, x2, x3, x4, _, _, _, _⟩ := id hP.x
          have xf0 := hP.fx
          have hP := hP.put HNE.out (Bare.put0 (op' := 3) hP.x)
          go_wp2_with fail
          clear x0 x1 x2 x3 x4 xf0
          go_loopw [10] (fun vi wr => ∃ (k : Nat) (st : Int × Int × Int × Int), vi = .int .i64 k ∧ k ≤ l.size ∧ PrW w g X (s0 :: L) 3 st wr ∧ Hid (0 ≤ st.2.2.2 ∧ st.2.2.2 < 4294967296) ∧ Hid (∀ op a b c m, SeenT s0 L op a b c m → st = foldL a b c m (0, 0, 0, if op = 3 then m else 0) (bs.take k))) (fun vi _ => l.size - (intOf vi).toNat)
          case atStart =>
            refine ⟨0, (0, 0, 0, k), rfl, by omega, hP, Lib.hid (by have := HKB.out; simp only; omega), Lib.hid (fun op a b c m hT => ?_)⟩
            exact congrArg (fun x : Int => ((0 : Int), (0 : Int), (0 : Int), x)) (HST.out _ _ _ _ _ hT).2
          case round =>
            obtain ⟨k, st, rfl, hk, hP, HSB, HSTF⟩ := hrel
            by_cases hkn : k < l.size
            · have hx := HAT.out k hkn
              have hbk : k < bs.length := by have := hLn.out; omega
              have HY := Lib.hid (List.getElem?_eq_getElem hbk)
              generalize bs[k] = y at hx HY
              obtain ⟨word, hw⟩ : ∃ word, L[k]? = some word := ⟨L[k]'(by omega), List.getElem?_eq_getElem _⟩
              have HROW := Lib.hid hw
              have HWS := Lib.hid (HZ.out word (.tail _ (List.mem_of_getElem? hw)))
              clear hw hbk
              by_cases h0 : y.toNat = 110
              · have e110 : ((y.toNat : Int) == 110) = true := by rw [h0]; rfl
                have e105 : ((y.toNat : Int) == 105) = false := by rw [h0]; rfl
                have e102 : ((y.toNat : Int) == 102) = false := by rw [h0]; rfl
                have e97 : ((y.toNat : Int) == 97) = false := by rw [h0]; rfl
                have e98 : ((y.toNat : Int) == 98) = false := by rw [h0]; rfl
                have e99 : ((y.toNat : Int) == 99) = false := by rw [h0]; rfl
                have HMK := Lib.hid (show mkL y.toNat = 0 by rw [h0]; rfl)
                have HSP := Lib.hid (fun n => show stepL y.toNat n st = (st.1, st.2.1, n, st.2.2.2) by rw [h0]; rfl)
                clear h0
                have CN := Lib.hid fun W => rNum_any word (by have := HWS.out; omega) 0 (by omega) W
                have v1 := hP.row (k + 1) word HROW.out
                have hw1 : IntKind.i64.wrap ((k : Int) + 1) = (k : Int) + 1 := by rw [IntKind.wrap_i64]; omega
                have b0 : (0 : Int) ≤ (k : Int) + 1 := by omega
                have b1 : (k : Int) + 1 < (L.length : Int) + 1 := by omega
                have b2 : ((k : Int) + 1).toNat = k + 1 := by omega
                go_wp2_with fail
                refine (CN.out _).mono ?_
                rintro e wn ⟨n, f, hN, rfl, rfl⟩
                clear v1 hw1 b0 b1 b2 CN
                cases f with
                | false =>
                  have HNO := Lib.hid (show ∀ op a b c m, ¬ IsT s op a b c m from fun op a b c m h => by
                    have hT := HSEEN.out _ _ _ _ _ h
                    obtain ⟨rfl, _⟩ := HST.out _ _ _ _ _ hT
                    have h1 := letB_mark (hT.at_ k word y (HROW.out) (by rw [← HLR.out]; exact HY.out))
                    rw [HMK.out] at h1
                    have h2 := (hN.out.2 _ (by have := hT.bd y.toNat; omega) h1).1
                    cases h2)
                  clear HST HSB HSTF
                  have hBs := hP.bel
                  have hq := hP.res.set 0 0 0 0 0
                  have hBS : Below w.heap.size w _ := ((((hBs.setCell (p := ⟨w.heap.size, 0, none⟩) (Nat.le_refl _) (.int .i64 0)).setCell (p := ⟨w.heap.size, 1, none⟩) (Nat.le_refl _) (.int .i64 0)).setCell (p := ⟨w.heap.size, 2, none⟩) (Nat.le_refl _) (.int .i64 0)).setCell (p := ⟨w.heap.size, 3, none⟩) (Nat.le_refl _) (.int .i64 0)).setCell (p := ⟨w.heap.size, 4, none⟩) (Nat.le_refl _) (.int .u32 0)
                  have HQ := Lib.hid hq
                  have HBS := Lib.hid hBS
                  obtain ⟨r0, r1, r2, r3, r4, rf1, rf2, rf3, rf4⟩ := hP.res
                  dsimp only at r1 r2 r3 r4
                  have rf0 := hP.f0
                  clear hq hBS hBs
                  go_wp2_with fail
                  obtain ⟨e0, e1, e2, e3, e4, _, _, _, _⟩ := HQ.out
                  have hBS := HBS.out
                  generalize ((((World.setCell _ _ _).setCell _ _).setCell _ _).setCell _ _).setCell _ _ = W5 at e0 e1 e2 e3 e4 hBS ⊢
                  exact bodyPost_ret (v := parseV 0 0 0 0 0 180) (by unfold parseV insV; simp [results, Tryz.results75, go_sem, e0, e1, e2, e3, e4]) rfl ⟨HERR.out HNO.out, hBS⟩
                | true =>
                  have hnb := hN.out.1 rfl
                  have hwn : IntKind.i64.wrap n = n := by rw [IntKind.wrap_i64]; omega
                  have hwu : IntKind.u32.wrap n = n := by rw [IntKind.wrap_u32]; omega
                  have HST2 := Lib.hid (show ∀ op a b c m, SeenT s0 L op a b c m → stepL y.toNat n st = foldL a b c m (0, 0, 0, if op = 3 then m else 0) (bs.take (k + 1)) from fun op a b c m hT => by
                    have h0 := HST.out _ _ _ _ _ hT
                    have h1 := letB_mark (hT.at_ k word y (HROW.out) (by rw [← h0.1, ← HLR.out]; exact HY.out))
                    rw [HMK.out] at h1
                    have h2 := (hN.out.2 _ (by have := hT.bd y.toNat; omega) h1).2
                    have h3 := hT.bd y.toNat
                    rw [foldL_take a b c m _ bs k y HY.out, ← HSTF.out _ _ _ _ _ hT]
                    congr 1
                    omega)
                  have HSB2 := Lib.hid (stepL_bd y.toNat n st HSB.out hnb)
                  clear HST HSB HSTF hN
                  rw [HSP.out] at HST2 HSB2
                  obtain ⟨x0, x1, x2, x3, x4, xf1, xf2, xf3, xf4⟩ := id hP.x
                  have hP := hP.put HNE.out (hP.x.put3 (v := n))
                  go_wp2_with fail
                  exact ⟨⟨k + 1, _, by go_num, by omega, hP, HSB2, HST2⟩, by simp [intOf]; omega⟩
              · by_cases h1 : y.toNat = 105
                · have e110 : ((y.toNat : Int) == 110) = false := by rw [h1]; rfl
                  have e105 : ((y.toNat : Int) == 105) = true := by rw [h1]; rfl
                  have e102 : ((y.toNat : Int) == 102) = false := by rw [h1]; rfl
                  have e97 : ((y.toNat : Int) == 97) = false := by rw [h1]; rfl
                  have e98 : ((y.toNat : Int) == 98) = false := by rw [h1]; rfl
                  have e99 : ((y.toNat : Int) == 99) = false := by rw [h1]; rfl
                  have HMK := Lib.hid (show mkL y.toNat = 0 by rw [h1]; rfl)
                  have HSP := Lib.hid (fun n => show stepL y.toNat n st = (st.1, st.2.1, st.2.2.1, n) by rw [h1]; rfl)
                  clear h1 h0
                  have CN := Lib.hid fun W => rNum_any word (by have := HWS.out; omega) 0 (by omega) W
                  have v1 := hP.row (k + 1) word HROW.out
                  have hw1 : IntKind.i64.wrap ((k : Int) + 1) = (k : Int) + 1 := by rw [IntKind.wrap_i64]; omega
                  have b0 : (0 : Int) ≤ (k : Int) + 1 := by omega
                  have b1 : (k : Int) + 1 < (L.length : Int) + 1 := by omega
                  have b2 : ((k : Int) + 1).toNat = k + 1 := by omega
                  go_wp2_with fail
                  refine (CN.out _).mono ?_
                  rintro e wn ⟨n, f, hN, rfl, rfl⟩
                  clear v1 hw1 b0 b1 b2 CN
                  cases f with
                  | false =>
                    have HNO := Lib.hid (show ∀ op a b c m, ¬ IsT s op a b c m from fun op a b c m h => by
                      have hT := HSEEN.out _ _ _ _ _ h
                      obtain ⟨rfl, _⟩ := HST.out _ _ _ _ _ hT
                      have h1 := letB_mark (hT.at_ k word y (HROW.out) (by rw [← HLR.out]; exact HY.out))
                      rw [HMK.out] at h1
                      have h2 := (hN.out.2 _ (by have := hT.bd y.toNat; omega) h1).1
                      cases h2)
                    clear HST HSB HSTF
                    have hBs := hP.bel
                    have hq := hP.res.set 0 0 0 0 0
                    have hBS : Below w.heap.size w _ := ((((hBs.setCell (p := ⟨w.heap.size, 0, none⟩) (Nat.le_refl _) (.int .i64 0)).setCell (p := ⟨w.heap.size, 1, none⟩) (Nat.le_refl _) (.int .i64 0)).setCell (p := ⟨w.heap.size, 2, none⟩) (Nat.le_refl _) (.int .i64 0)).setCell (p := ⟨w.heap.size, 3, none⟩) (Nat.le_refl _) (.int .i64 0)).setCell (p := ⟨w.heap.size, 4, none⟩) (Nat.le_refl _) (.int .u32 0)
                    have HQ := Lib.hid hq
                    have HBS := Lib.hid hBS
                    obtain ⟨r0, r1, r2, r3, r4, rf1, rf2, rf3, rf4⟩ := hP.res
                    dsimp only at r1 r2 r3 r4
                    have rf0 := hP.f0
                    clear hq hBS hBs
                    go_wp2_with fail
                    obtain ⟨e0, e1, e2, e3, e4, _, _, _, _⟩ := HQ.out
                    have hBS := HBS.out
                    generalize ((((World.setCell _ _ _).setCell _ _).setCell _ _).setCell _ _).setCell _ _ = W5 at e0 e1 e2 e3 e4 hBS ⊢
                    exact bodyPost_ret (v := parseV 0 0 0 0 0 180) (by unfold parseV insV; simp [results, Tryz.results75, go_sem, e0, e1, e2, e3, e4]) rfl ⟨HERR.out HNO.out, hBS⟩
                  | true =>
                    have hnb := hN.out.1 rfl
                    have hwn : IntKind.i64.wrap n = n := by rw [IntKind.wrap_i64]; omega
                    have hwu : IntKind.u32.wrap n = n := by rw [IntKind.wrap_u32]; omega
                    have HST2 := Lib.hid (show ∀ op a b c m, SeenT s0 L op a b c m → stepL y.toNat n st = foldL a b c m (0, 0, 0, if op = 3 then m else 0) (bs.take (k + 1)) from fun op a b c m hT => by
                      have h0 := HST.out _ _ _ _ _ hT
                      have h1 := letB_mark (hT.at_ k word y (HROW.out) (by rw [← h0.1, ← HLR.out]; exact HY.out))
                      rw [HMK.out] at h1
                      have h2 := (hN.out.2 _ (by have := hT.bd y.toNat; omega) h1).2
                      have h3 := hT.bd y.toNat
                      rw [foldL_take a b c m _ bs k y HY.out, ← HSTF.out _ _ _ _ _ hT]
                      congr 1
                      omega)
                    have HSB2 := Lib.hid (stepL_bd y.toNat n st HSB.out hnb)
                    clear HST HSB HSTF hN
                    rw [HSP.out] at HST2 HSB2
                    obtain ⟨x0, x1, x2, x3, x4, xf1, xf2, xf3, xf4⟩ := id hP.x
                    have hP := hP.put HNE.out (hP.x.put4 (v := n))
                    go_wp2_with fail
                    exact ⟨⟨k + 1, _, by go_num, by omega, hP, HSB2, HST2⟩, by simp [intOf]; omega⟩
                · by_cases h2 : y.toNat = 102
                  · have e110 : ((y.toNat : Int) == 110) = false := by rw [h2]; rfl
                    have e105 : ((y.toNat : Int) == 105) = false := by rw [h2]; rfl
                    have e102 : ((y.toNat : Int) == 102) = true := by rw [h2]; rfl
                    have e97 : ((y.toNat : Int) == 97) = false := by rw [h2]; rfl
                    have e98 : ((y.toNat : Int) == 98) = false := by rw [h2]; rfl
                    have e99 : ((y.toNat : Int) == 99) = false := by rw [h2]; rfl
                    have HMK := Lib.hid (show mkL y.toNat = 102 by rw [h2]; rfl)
                    have HSP := Lib.hid (fun n => show stepL y.toNat n st = (st.1, st.2.1, st.2.2.1, n) by rw [h2]; rfl)
                    clear h2 h1 h0
                    have CN := Lib.hid fun W => rNum_any word (by have := HWS.out; omega) 102 (by omega) W
                    have v1 := hP.row (k + 1) word HROW.out
                    have hw1 : IntKind.i64.wrap ((k : Int) + 1) = (k : Int) + 1 := by rw [IntKind.wrap_i64]; omega
                    have b0 : (0 : Int) ≤ (k : Int) + 1 := by omega
                    have b1 : (k : Int) + 1 < (L.length : Int) + 1 := by omega
                    have b2 : ((k : Int) + 1).toNat = k + 1 := by omega
                    go_wp2_with fail
                    refine (CN.out _).mono ?_
                    rintro e wn ⟨n, f, hN, rfl, rfl⟩
                    clear v1 hw1 b0 b1 b2 CN
                    cases f with
                    | false =>
                      have HNO := Lib.hid (show ∀ op a b c m, ¬ IsT s op a b c m from fun op a b c m h => by
                        have hT := HSEEN.out _ _ _ _ _ h
                        obtain ⟨rfl, _⟩ := HST.out _ _ _ _ _ hT
                        have h1 := letB_mark (hT.at_ k word y (HROW.out) (by rw [← HLR.out]; exact HY.out))
                        rw [HMK.out] at h1
                        have h2 := (hN.out.2 _ (by have := hT.bd y.toNat; omega) h1).1
                        cases h2)
                      clear HST HSB HSTF
                      have hBs := hP.bel
                      have hq := hP.res.set 0 0 0 0 0
                      have hBS : Below w.heap.size w _ := ((((hBs.setCell (p := ⟨w.heap.size, 0, none⟩) (Nat.le_refl _) (.int .i64 0)).setCell (p := ⟨w.heap.size, 1, none⟩) (Nat.le_refl _) (.int .i64 0)).setCell (p := ⟨w.heap.size, 2, none⟩) (Nat.le_refl _) (.int .i64 0)).setCell (p := ⟨w.heap.size, 3, none⟩) (Nat.le_refl _) (.int .i64 0)).setCell (p := ⟨w.heap.size, 4, none⟩) (Nat.le_refl _) (.int .u32 0)
                      have HQ := Lib.hid hq
                      have HBS := Lib.hid hBS
                      obtain ⟨r0, r1, r2, r3, r4, rf1, rf2, rf3, rf4⟩ := hP.res
                      dsimp only at r1 r2 r3 r4
                      have rf0 := hP.f0
                      clear hq hBS hBs
                      go_wp2_with fail
                      obtain ⟨e0, e1, e2, e3, e4, _, _, _, _⟩ := HQ.out
                      have hBS := HBS.out
                      generalize ((((World.setCell _ _ _).setCell _ _).setCell _ _).setCell _ _).setCell _ _ = W5 at e0 e1 e2 e3 e4 hBS ⊢
                      exact bodyPost_ret (v := parseV 0 0 0 0 0 180) (by unfold parseV insV; simp [results, Tryz.results75, go_sem, e0, e1, e2, e3, e4]) rfl ⟨HERR.out HNO.out, hBS⟩
                    | true =>
                      have hnb := hN.out.1 rfl
                      have hwn : IntKind.i64.wrap n = n := by rw [IntKind.wrap_i64]; omega
                      have hwu : IntKind.u32.wrap n = n := by rw [IntKind.wrap_u32]; omega
                      have HST2 := Lib.hid (show ∀ op a b c m, SeenT s0 L op a b c m → stepL y.toNat n st = foldL a b c m (0, 0, 0, if op = 3 then m else 0) (bs.take (k + 1)) from fun op a b c m hT => by
                        have h0 := HST.out _ _ _ _ _ hT
                        have h1 := letB_mark (hT.at_ k word y (HROW.out) (by rw [← h0.1, ← HLR.out]; exact HY.out))
                        rw [HMK.out] at h1
                        have h2 := (hN.out.2 _ (by have := hT.bd y.toNat; omega) h1).2
                        have h3 := hT.bd y.toNat
                        rw [foldL_take a b c m _ bs k y HY.out, ← HSTF.out _ _ _ _ _ hT]
                        congr 1
                        omega)
                      have HSB2 := Lib.hid (stepL_bd y.toNat n st HSB.out hnb)
                      clear HST HSB HSTF hN
                      rw [HSP.out] at HST2 HSB2
                      obtain ⟨x0, x1, x2, x3, x4, xf1, xf2, xf3, xf4⟩ := id hP.x
                      have hP := hP.put HNE.out (hP.x.put4 (v := n))
                      go_wp2_with fail
                      exact ⟨⟨k + 1, _, by go_num, by omega, hP, HSB2, HST2⟩, by simp [intOf]; omega⟩
                  · by_cases h3 : y.toNat = 97
                    · have e110 : ((y.toNat : Int) == 110) = false := by rw [h3]; rfl
                      have e105 : ((y.toNat : Int) == 105) = false := by rw [h3]; rfl
                      have e102 : ((y.toNat : Int) == 102) = false := by rw [h3]; rfl
                      have e97 : ((y.toNat : Int) == 97) = true := by rw [h3]; rfl
                      have e98 : ((y.toNat : Int) == 98) = false := by rw [h3]; rfl
                      have e99 : ((y.toNat : Int) == 99) = false := by rw [h3]; rfl
                      have HMK := Lib.hid (show mkL y.toNat = 114 by rw [h3]; rfl)
                      have HSP := Lib.hid (fun n => show stepL y.toNat n st = (n, st.2.1, st.2.2.1, st.2.2.2) by rw [h3]; rfl)
                      clear h3 h2 h1 h0
                      have CN := Lib.hid fun W => rNum_any word (by have := HWS.out; omega) 114 (by omega) W
                      have v1 := hP.row (k + 1) word HROW.out
                      have hw1 : IntKind.i64.wrap ((k : Int) + 1) = (k : Int) + 1 := by rw [IntKind.wrap_i64]; omega
                      have b0 : (0 : Int) ≤ (k : Int) + 1 := by omega
                      have b1 : (k : Int) + 1 < (L.length : Int) + 1 := by omega
                      have b2 : ((k : Int) + 1).toNat = k + 1 := by omega
                      go_wp2_with fail
                      refine (CN.out _).mono ?_
                      rintro e wn ⟨n, f, hN, rfl, rfl⟩
                      clear v1 hw1 b0 b1 b2 CN
                      cases f with
                      | false =>
                        have HNO := Lib.hid (show ∀ op a b c m, ¬ IsT s op a b c m from fun op a b c m h => by
                          have hT := HSEEN.out _ _ _ _ _ h
                          obtain ⟨rfl, _⟩ := HST.out _ _ _ _ _ hT
                          have h1 := letB_mark (hT.at_ k word y (HROW.out) (by rw [← HLR.out]; exact HY.out))
                          rw [HMK.out] at h1
                          have h2 := (hN.out.2 _ (by have := hT.bd y.toNat; omega) h1).1
                          cases h2)
                        clear HST HSB HSTF
                        have hBs := hP.bel
                        have hq := hP.res.set 0 0 0 0 0
                        have hBS : Below w.heap.size w _ := ((((hBs.setCell (p := ⟨w.heap.size, 0, none⟩) (Nat.le_refl _) (.int .i64 0)).setCell (p := ⟨w.heap.size, 1, none⟩) (Nat.le_refl _) (.int .i64 0)).setCell (p := ⟨w.heap.size, 2, none⟩) (Nat.le_refl _) (.int .i64 0)).setCell (p := ⟨w.heap.size, 3, none⟩) (Nat.le_refl _) (.int .i64 0)).setCell (p := ⟨w.heap.size, 4, none⟩) (Nat.le_refl _) (.int .u32 0)
                        have HQ := Lib.hid hq
                        have HBS := Lib.hid hBS
                        obtain ⟨r0, r1, r2, r3, r4, rf1, rf2, rf3, rf4⟩ := hP.res
                        dsimp only at r1 r2 r3 r4
                        have rf0 := hP.f0
                        clear hq hBS hBs
                        go_wp2_with fail
                        obtain ⟨e0, e1, e2, e3, e4, _, _, _, _⟩ := HQ.out
                        have hBS := HBS.out
                        generalize ((((World.setCell _ _ _).setCell _ _).setCell _ _).setCell _ _).setCell _ _ = W5 at e0 e1 e2 e3 e4 hBS ⊢
                        exact bodyPost_ret (v := parseV 0 0 0 0 0 180) (by unfold parseV insV; simp [results, Tryz.results75, go_sem, e0, e1, e2, e3, e4]) rfl ⟨HERR.out HNO.out, hBS⟩
                      | true =>
                        have hnb := hN.out.1 rfl
                        have hwn : IntKind.i64.wrap n = n := by rw [IntKind.wrap_i64]; omega
                        have hwu : IntKind.u32.wrap n = n := by rw [IntKind.wrap_u32]; omega
                        have HST2 := Lib.hid (show ∀ op a b c m, SeenT s0 L op a b c m → stepL y.toNat n st = foldL a b c m (0, 0, 0, if op = 3 then m else 0) (bs.take (k + 1)) from fun op a b c m hT => by
                          have h0 := HST.out _ _ _ _ _ hT
                          have h1 := letB_mark (hT.at_ k word y (HROW.out) (by rw [← h0.1, ← HLR.out]; exact HY.out))
                          rw [HMK.out] at h1
                          have h2 := (hN.out.2 _ (by have := hT.bd y.toNat; omega) h1).2
                          have h3 := hT.bd y.toNat
                          rw [foldL_take a b c m _ bs k y HY.out, ← HSTF.out _ _ _ _ _ hT]
                          congr 1
                          omega)
                        have HSB2 := Lib.hid (stepL_bd y.toNat n st HSB.out hnb)
                        clear HST HSB HSTF hN
                        rw [HSP.out] at HST2 HSB2
                        obtain ⟨x0, x1, x2, x3, x4, xf1, xf2, xf3, xf4⟩ := id hP.x
                        have hP := hP.put HNE.out (hP.x.put1 (v := n))
                        go_wp2_with fail
                        exact ⟨⟨k + 1, _, by go_num, by omega, hP, HSB2, HST2⟩, by simp [intOf]; omega⟩
                    · by_cases h4 : y.toNat = 98
                      · have e110 : ((y.toNat : Int) == 110) = false := by rw [h4]; rfl
                        have e105 : ((y.toNat : Int) == 105) = false := by rw [h4]; rfl
                        have e102 : ((y.toNat : Int) == 102) = false := by rw [h4]; rfl
                        have e97 : ((y.toNat : Int) == 97) = false := by rw [h4]; rfl
                        have e98 : ((y.toNat : Int) == 98) = true := by rw [h4]; rfl
                        have e99 : ((y.toNat : Int) == 99) = false := by rw [h4]; rfl
                        have HMK := Lib.hid (show mkL y.toNat = 114 by rw [h4]; rfl)
                        have HSP := Lib.hid (fun n => show stepL y.toNat n st = (st.1, n, st.2.2.1, st.2.2.2) by rw [h4]; rfl)
                        clear h4 h3 h2 h1 h0
                        have CN := Lib.hid fun W => rNum_any word (by have := HWS.out; omega) 114 (by omega) W
                        have v1 := hP.row (k + 1) word HROW.out
                        have hw1 : IntKind.i64.wrap ((k : Int) + 1) = (k : Int) + 1 := by rw [IntKind.wrap_i64]; omega
                        have b0 : (0 : Int) ≤ (k : Int) + 1 := by omega
                        have b1 : (k : Int) + 1 < (L.length : Int) + 1 := by omega
                        have b2 : ((k : Int) + 1).toNat = k + 1 := by omega
                        go_wp2_with fail
                        refine (CN.out _).mono ?_
                        rintro e wn ⟨n, f, hN, rfl, rfl⟩
                        clear v1 hw1 b0 b1 b2 CN
                        cases f with
                        | false =>
                          have HNO := Lib.hid (show ∀ op a b c m, ¬ IsT s op a b c m from fun op a b c m h => by
                            have hT := HSEEN.out _ _ _ _ _ h
                            obtain ⟨rfl, _⟩ := HST.out _ _ _ _ _ hT
                            have h1 := letB_mark (hT.at_ k word y (HROW.out) (by rw [← HLR.out]; exact HY.out))
                            rw [HMK.out] at h1
                            have h2 := (hN.out.2 _ (by have := hT.bd y.toNat; omega) h1).1
                            cases h2)
                          clear HST HSB HSTF
                          have hBs := hP.bel
                          have hq := hP.res.set 0 0 0 0 0
                          have hBS : Below w.heap.size w _ := ((((hBs.setCell (p := ⟨w.heap.size, 0, none⟩) (Nat.le_refl _) (.int .i64 0)).setCell (p := ⟨w.heap.size, 1, none⟩) (Nat.le_refl _) (.int .i64 0)).setCell (p := ⟨w.heap.size, 2, none⟩) (Nat.le_refl _) (.int .i64 0)).setCell (p := ⟨w.heap.size, 3, none⟩) (Nat.le_refl _) (.int .i64 0)).setCell (p := ⟨w.heap.size, 4, none⟩) (Nat.le_refl _) (.int .u32 0)
                          have HQ := Lib.hid hq
                          have HBS := Lib.hid hBS
                          obtain ⟨r0, r1, r2, r3, r4, rf1, rf2, rf3, rf4⟩ := hP.res
                          dsimp only at r1 r2 r3 r4
                          have rf0 := hP.f0
                          clear hq hBS hBs
                          go_wp2_with fail
                          obtain ⟨e0, e1, e2, e3, e4, _, _, _, _⟩ := HQ.out
                          have hBS := HBS.out
                          generalize ((((World.setCell _ _ _).setCell _ _).setCell _ _).setCell _ _).setCell _ _ = W5 at e0 e1 e2 e3 e4 hBS ⊢
                          exact bodyPost_ret (v := parseV 0 0 0 0 0 180) (by unfold parseV insV; simp [results, Tryz.results75, go_sem, e0, e1, e2, e3, e4]) rfl ⟨HERR.out HNO.out, hBS⟩
                        | true =>
                          have hnb := hN.out.1 rfl
                          have hwn : IntKind.i64.wrap n = n := by rw [IntKind.wrap_i64]; omega
                          have hwu : IntKind.u32.wrap n = n := by rw [IntKind.wrap_u32]; omega
                          have HST2 := Lib.hid (show ∀ op a b c m, SeenT s0 L op a b c m → stepL y.toNat n st = foldL a b c m (0, 0, 0, if op = 3 then m else 0) (bs.take (k + 1)) from fun op a b c m hT => by
                            have h0 := HST.out _ _ _ _ _ hT
                            have h1 := letB_mark (hT.at_ k word y (HROW.out) (by rw [← h0.1, ← HLR.out]; exact HY.out))
                            rw [HMK.out] at h1
                            have h2 := (hN.out.2 _ (by have := hT.bd y.toNat; omega) h1).2
                            have h3 := hT.bd y.toNat
                            rw [foldL_take a b c m _ bs k y HY.out, ← HSTF.out _ _ _ _ _ hT]
                            congr 1
                            omega)
                          have HSB2 := Lib.hid (stepL_bd y.toNat n st HSB.out hnb)
                          clear HST HSB HSTF hN
                          rw [HSP.out] at HST2 HSB2
                          obtain ⟨x0, x1, x2, x3, x4, xf1, xf2, xf3, xf4⟩ := id hP.x
                          have hP := hP.put HNE.out (hP.x.put2 (v := n))
                          go_wp2_with fail
                          exact ⟨⟨k + 1, _, by go_num, by omega, hP, HSB2, HST2⟩, by simp [intOf]; omega⟩
                      · by_cases h5 : y.toNat = 99
                        · have e110 : ((y.toNat : Int) == 110) = false := by rw [h5]; rfl
                          have e105 : ((y.toNat : Int) == 105) = false := by rw [h5]; rfl
                          have e102 : ((y.toNat : Int) == 102) = false := by rw [h5]; rfl
                          have e97 : ((y.toNat : Int) == 97) = false := by rw [h5]; rfl
                          have e98 : ((y.toNat : Int) == 98) = false := by rw [h5]; rfl
                          have e99 : ((y.toNat : Int) == 99) = true := by rw [h5]; rfl
                          have HMK := Lib.hid (show mkL y.toNat = 114 by rw [h5]; rfl)
                          have HSP := Lib.hid (fun n => show stepL y.toNat n st = (st.1, st.2.1, n, st.2.2.2) by rw [h5]; rfl)
                          clear h5 h4 h3 h2 h1 h0
                          have CN := Lib.hid fun W => rNum_any word (by have := HWS.out; omega) 114 (by omega) W
                          have v1 := hP.row (k + 1) word HROW.out
                          have hw1 : IntKind.i64.wrap ((k : Int) + 1) = (k : Int) + 1 := by rw [IntKind.wrap_i64]; omega
                          have b0 : (0 : Int) ≤ (k : Int) + 1 := by omega
                          have b1 : (k : Int) + 1 < (L.length : Int) + 1 := by omega
                          have b2 : ((k : Int) + 1).toNat = k + 1 := by omega
                          go_wp2_with fail
                          refine (CN.out _).mono ?_
                          rintro e wn ⟨n, f, hN, rfl, rfl⟩
                          clear v1 hw1 b0 b1 b2 CN
                          cases f with
                          | false =>
                            have HNO := Lib.hid (show ∀ op a b c m, ¬ IsT s op a b c m from fun op a b c m h => by
                              have hT := HSEEN.out _ _ _ _ _ h
                              obtain ⟨rfl, _⟩ := HST.out _ _ _ _ _ hT
                              have h1 := letB_mark (hT.at_ k word y (HROW.out) (by rw [← HLR.out]; exact HY.out))
                              rw [HMK.out] at h1
                              have h2 := (hN.out.2 _ (by have := hT.bd y.toNat; omega) h1).1
                              cases h2)
                            clear HST HSB HSTF
                            have hBs := hP.bel
                            have hq := hP.res.set 0 0 0 0 0
                            have hBS : Below w.heap.size w _ := ((((hBs.setCell (p := ⟨w.heap.size, 0, none⟩) (Nat.le_refl _) (.int .i64 0)).setCell (p := ⟨w.heap.size, 1, none⟩) (Nat.le_refl _) (.int .i64 0)).setCell (p := ⟨w.heap.size, 2, none⟩) (Nat.le_refl _) (.int .i64 0)).setCell (p := ⟨w.heap.size, 3, none⟩) (Nat.le_refl _) (.int .i64 0)).setCell (p := ⟨w.heap.size, 4, none⟩) (Nat.le_refl _) (.int .u32 0)
                            have HQ := Lib.hid hq
                            have HBS := Lib.hid hBS
                            obtain ⟨r0, r1, r2, r3, r4, rf1, rf2, rf3, rf4⟩ := hP.res
                            dsimp only at r1 r2 r3 r4
                            have rf0 := hP.f0
                            clear hq hBS hBs
                            go_wp2_with fail
                            obtain ⟨e0, e1, e2, e3, e4, _, _, _, _⟩ := HQ.out
                            have hBS := HBS.out
                            generalize ((((World.setCell _ _ _).setCell _ _).setCell _ _).setCell _ _).setCell _ _ = W5 at e0 e1 e2 e3 e4 hBS ⊢
                            exact bodyPost_ret (v := parseV 0 0 0 0 0 180) (by unfold parseV insV; simp [results, Tryz.results75, go_sem, e0, e1, e2, e3, e4]) rfl ⟨HERR.out HNO.out, hBS⟩
                          | true =>
                            have hnb := hN.out.1 rfl
                            have hwn : IntKind.i64.wrap n = n := by rw [IntKind.wrap_i64]; omega
                            have hwu : IntKind.u32.wrap n = n := by rw [IntKind.wrap_u32]; omega
                            have HST2 := Lib.hid (show ∀ op a b c m, SeenT s0 L op a b c m → stepL y.toNat n st = foldL a b c m (0, 0, 0, if op = 3 then m else 0) (bs.take (k + 1)) from fun op a b c m hT => by
                              have h0 := HST.out _ _ _ _ _ hT
                              have h1 := letB_mark (hT.at_ k word y (HROW.out) (by rw [← h0.1, ← HLR.out]; exact HY.out))
                              rw [HMK.out] at h1
                              have h2 := (hN.out.2 _ (by have := hT.bd y.toNat; omega) h1).2
                              have h3 := hT.bd y.toNat
                              rw [foldL_take a b c m _ bs k y HY.out, ← HSTF.out _ _ _ _ _ hT]
                              congr 1
                              omega)
                            have HSB2 := Lib.hid (stepL_bd y.toNat n st HSB.out hnb)
                            clear HST HSB HSTF hN
                            rw [HSP.out] at HST2 HSB2
                            obtain ⟨x0, x1, x2, x3, x4, xf1, xf2, xf3, xf4⟩ := id hP.x
                            have hP := hP.put HNE.out (hP.x.put3 (v := n))
                            go_wp2_with fail
                            exact ⟨⟨k + 1, _, by go_num, by omega, hP, HSB2, HST2⟩, by simp [intOf]; omega⟩
                        · have e110 : ((y.toNat : Int) == 110) = false := beq_eq_false_iff_ne.2 (by omega)
                          have e105 : ((y.toNat : Int) == 105) = false := beq_eq_false_iff_ne.2 (by omega)
                          have e102 : ((y.toNat : Int) == 102) = false := beq_eq_false_iff_ne.2 (by omega)
                          have e97 : ((y.toNat : Int) == 97) = false := beq_eq_false_iff_ne.2 (by omega)
                          have e98 : ((y.toNat : Int) == 98) = false := beq_eq_false_iff_ne.2 (by omega)
                          have e99 : ((y.toNat : Int) == 99) = false := beq_eq_false_iff_ne.2 (by omega)
                          have HMK := Lib.hid (show mkL y.toNat = 114 by unfold mkL; rw [if_neg (by omega), if_neg h2])
                          have HSP := Lib.hid (fun n => show stepL y.toNat n st = (st.1, st.2.1, st.2.2.1, n) by unfold stepL; rw [if_neg h3, if_neg h4, if_neg (by omega)])
                          clear h5 h4 h3 h2 h1 h0
                          have CN := Lib.hid fun W => rNum_any word (by have := HWS.out; omega) 114 (by omega) W
                          have v1 := hP.row (k + 1) word HROW.out
                          have hw1 : IntKind.i64.wrap ((k : Int) + 1) = (k : Int) + 1 := by rw [IntKind.wrap_i64]; omega
                          have b0 : (0 : Int) ≤ (k : Int) + 1 := by omega
                          have b1 : (k : Int) + 1 < (L.length : Int) + 1 := by omega
                          have b2 : ((k : Int) + 1).toNat = k + 1 := by omega
                          go_wp2_with fail
                          refine (CN.out _).mono ?_
                          rintro e wn ⟨n, f, hN, rfl, rfl⟩
                          clear v1 hw1 b0 b1 b2 CN
                          cases f with
                          | false =>
                            have HNO := Lib.hid (show ∀ op a b c m, ¬ IsT s op a b c m from fun op a b c m h => by
                              have hT := HSEEN.out _ _ _ _ _ h
                              obtain ⟨rfl, _⟩ := HST.out _ _ _ _ _ hT
                              have h1 := letB_mark (hT.at_ k word y (HROW.out) (by rw [← HLR.out]; exact HY.out))
                              rw [HMK.out] at h1
                              have h2 := (hN.out.2 _ (by have := hT.bd y.toNat; omega) h1).1
                              cases h2)
                            clear HST HSB HSTF
                            have hBs := hP.bel
                            have hq := hP.res.set 0 0 0 0 0
                            have hBS : Below w.heap.size w _ := ((((hBs.setCell (p := ⟨w.heap.size, 0, none⟩) (Nat.le_refl _) (.int .i64 0)).setCell (p := ⟨w.heap.size, 1, none⟩) (Nat.le_refl _) (.int .i64 0)).setCell (p := ⟨w.heap.size, 2, none⟩) (Nat.le_refl _) (.int .i64 0)).setCell (p := ⟨w.heap.size, 3, none⟩) (Nat.le_refl _) (.int .i64 0)).setCell (p := ⟨w.heap.size, 4, none⟩) (Nat.le_refl _) (.int .u32 0)
                            have HQ := Lib.hid hq
                            have HBS := Lib.hid hBS
                            obtain ⟨r0, r1, r2, r3, r4, rf1, rf2, rf3, rf4⟩ := hP.res
                            dsimp only at r1 r2 r3 r4
                            have rf0 := hP.f0
                            clear hq hBS hBs
                            go_wp2_with fail
                            obtain ⟨e0, e1, e2, e3, e4, _, _, _, _⟩ := HQ.out
                            have hBS := HBS.out
                            generalize ((((World.setCell _ _ _).setCell _ _).setCell _ _).setCell _ _).setCell _ _ = W5 at e0 e1 e2 e3 e4 hBS ⊢
                            exact bodyPost_ret (v := parseV 0 0 0 0 0 180) (by unfold parseV insV; simp [results, Tryz.results75, go_sem, e0, e1, e2, e3, e4]) rfl ⟨HERR.out HNO.out, hBS⟩
                          | true =>
                            have hnb := hN.out.1 rfl
                            have hwn : IntKind.i64.wrap n = n := by rw [IntKind.wrap_i64]; omega
                            have hwu : IntKind.u32.wrap n = n := by rw [IntKind.wrap_u32]; omega
                            have HST2 := Lib.hid (show ∀ op a b c m, SeenT s0 L op a b c m → stepL y.toNat n st = foldL a b c m (0, 0, 0, if op = 3 then m else 0) (bs.take (k + 1)) from fun op a b c m hT => by
                              have h0 := HST.out _ _ _ _ _ hT
                              have h1 := letB_mark (hT.at_ k word y (HROW.out) (by rw [← h0.1, ← HLR.out]; exact HY.out))
                              rw [HMK.out] at h1
                              have h2 := (hN.out.2 _ (by have := hT.bd y.toNat; omega) h1).2
                              have h3 := hT.bd y.toNat
                              rw [foldL_take a b c m _ bs k y HY.out, ← HSTF.out _ _ _ _ _ hT]
                              congr 1
                              omega)
                            have HSB2 := Lib.hid (stepL_bd y.toNat n st HSB.out hnb)
                            clear HST HSB HSTF hN
                            rw [HSP.out] at HST2 HSB2
                            obtain ⟨x0, x1, x2, x3, x4, xf1, xf2, xf3, xf4⟩ := id hP.x
                            have hP := hP.put HNE.out (hP.x.put4 (v := n))
                            go_wp2_with fail
                            exact ⟨⟨k + 1, _, by go_num, by omega, hP, HSB2, HST2⟩, by simp [intOf]; omega⟩
            · have hk2 : k = l.size := by omega
              have HST2 := Lib.hid (show ∀ op a b c m, IsT s op a b c m → 3 = op ∧ st = (a, b, c, m) from fun op a b c m h => by
                have hT := HSEEN.out _ _ _ _ _ h
                obtain ⟨rfl, _⟩ := HST.out _ _ _ _ _ hT
                refine ⟨rfl, ?_⟩
                rw [HSTF.out _ _ _ _ _ hT, List.take_of_length_le (by have := hLn.out; omega), HLR.out]
                exact hT.all)
              subst hk2
              clear HST HSTF hkn HLR
              have CT := Lib.hid fun W => rRight_P 3 st.1 st.2.1 st.2.2.1 st.2.2.2 HSB.out W
              unfold insV at CT
              obtain ⟨x0, x1, x2, x3, x4, _, _, _, _⟩ := id hP.x
              go_wp2_with fail
              refine (CT.out _).mono ?_
              rintro e wq ⟨rfl, hbq⟩
              have hP := hP.more hbq
              clear x0 x1 x2 x3 x4 hbq CT
              cases hr : rightF 3 st.1 st.2.1 st.2.2.1 st.2.2.2 with
              | false =>
                have HNO := Lib.hid (show ∀ op a b c m, ¬ IsT s op a b c m from fun op a b c m h => by
                  obtain ⟨h1, h2⟩ := HST2.out _ _ _ _ _ h
                  have := h.right
                  rw [← h1, show a = st.1 by rw [h2], show b = st.2.1 by rw [h2], show c = st.2.2.1 by rw [h2], show m = st.2.2.2 by rw [h2], hr] at this
                  cases this)
                clear hr HST2 HSB
                have hBs := hP.bel
                have hq := hP.res.set 0 0 0 0 0
                have hBS : Below w.heap.size w _ := ((((hBs.setCell (p := ⟨w.heap.size, 0, none⟩) (Nat.le_refl _) (.int .i64 0)).setCell (p := ⟨w.heap.size, 1, none⟩) (Nat.le_refl _) (.int .i64 0)).setCell (p := ⟨w.heap.size, 2, none⟩) (Nat.le_refl _) (.int .i64 0)).setCell (p := ⟨w.heap.size, 3, none⟩) (Nat.le_refl _) (.int .i64 0)).setCell (p := ⟨w.heap.size, 4, none⟩) (Nat.le_refl _) (.int .u32 0)
                have HQ := Lib.hid hq
                have HBS := Lib.hid hBS
                obtain ⟨r0, r1, r2, r3, r4, rf1, rf2, rf3, rf4⟩ := hP.res
                dsimp only at r1 r2 r3 r4
                have rf0 := hP.f0
                clear hq hBS hBs
                go_wp2_with fail
                obtain ⟨e0, e1, e2, e3, e4, _, _, _, _⟩ := HQ.out
                have hBS := HBS.out
                generalize ((((World.setCell _ _ _).setCell _ _).setCell _ _).setCell _ _).setCell _ _ = W5 at e0 e1 e2 e3 e4 hBS ⊢
                exact bodyPost_ret (v := parseV 0 0 0 0 0 180) (by unfold parseV insV; simp [results, Tryz.results75, go_sem, e0, e1, e2, e3, e4]) rfl ⟨HERR.out HNO.out, hBS⟩
              | true =>
                have CX := Lib.hid fun W hE => rText_any 3 st.1 st.2.1 st.2.2.1 st.2.2.2 HSB.out hr W hE
                unfold insV at CX
                have HR := Lib.hid hr
                clear hr
                obtain ⟨x0, x1, x2, x3, x4, _, _, _, _⟩ := id hP.x
                go_wp2_with fail
                refine (CX.out _ (hE.on hP.bel)).mono ?_
                rintro e wq ⟨rfl, hbq⟩
                have hP := hP.more hbq
                clear x0 x1 x2 x3 x4 hbq CX
                by_cases ht : textF 3 st.1 st.2.1 st.2.2.1 st.2.2.2 = s.data.toList
                · have et : ((⟨(textF 3 st.1 st.2.1 st.2.2.1 st.2.2.2).toArray⟩ : ByteArray).toList == s.toList) = true := by rw [toList_data, toList_data, ht]; simp
                  have HOK := Lib.hid (show ParsePost s (.returned (parseV 3 st.1 st.2.1 st.2.2.1 st.2.2.2 0)) from Or.inl ⟨_, _, _, _, _, ⟨HSB.out, HR.out, ht⟩, rfl⟩)
                  clear ht HST2 HR HSB
                  generalize (⟨(textF 3 st.1 st.2.1 st.2.2.1 st.2.2.2).toArray⟩ : ByteArray) = tx at et ⊢
                  have hBs := hP.bel
                  have hq := hP.res.set 3 st.1 st.2.1 st.2.2.1 st.2.2.2
                  have hBS : Below w.heap.size w _ := ((((hBs.setCell (p := ⟨w.heap.size, 0, none⟩) (Nat.le_refl _) (.int .i64 3)).setCell (p := ⟨w.heap.size, 1, none⟩) (Nat.le_refl _) (.int .i64 st.1)).setCell (p := ⟨w.heap.size, 2, none⟩) (Nat.le_refl _) (.int .i64 st.2.1)).setCell (p := ⟨w.heap.size, 3, none⟩) (Nat.le_refl _) (.int .i64 st.2.2.1)).setCell (p := ⟨w.heap.size, 4, none⟩) (Nat.le_refl _) (.int .u32 st.2.2.2)
                  have HQ := Lib.hid hq
                  have HBS := Lib.hid hBS
                  obtain ⟨r0, r1, r2, r3, r4, rf1, rf2, rf3, rf4⟩ := hP.res
                  dsimp only at r1 r2 r3 r4
                  have rf0 := hP.f0
                  have ⟨x0, x1, x2, x3, x4, _, _, _, _⟩ := hP.x
                  clear hq hBS hBs
                  go_wp2_with fail
                  obtain ⟨e0, e1, e2, e3, e4, _, _, _, _⟩ := HQ.out
                  have hBS := HBS.out
                  generalize ((((World.setCell _ _ _).setCell _ _).setCell _ _).setCell _ _).setCell _ _ = W5 at e0 e1 e2 e3 e4 hBS ⊢
                  exact bodyPost_ret (v := parseV 3 st.1 st.2.1 st.2.2.1 st.2.2.2 0) (by unfold parseV insV; simp [results, Tryz.results75, go_sem, e0, e1, e2, e3, e4]) rfl ⟨HOK.out, hBS⟩
                · have et : ((⟨(textF 3 st.1 st.2.1 st.2.2.1 st.2.2.2).toArray⟩ : ByteArray).toList == s.toList) = false := str_ne (fun h => ht (by rw [← h]))
                  have HNO := Lib.hid (show ∀ op a b c m, ¬ IsT s op a b c m from fun op a b c m h => by
                    obtain ⟨h1, h2⟩ := HST2.out _ _ _ _ _ h
                    have := h.text
                    rw [← h1, show a = st.1 by rw [h2], show b = st.2.1 by rw [h2], show c = st.2.2.1 by rw [h2], show m = st.2.2.2 by rw [h2]] at this
                    exact ht this)
                  clear ht HST2 HR HSB
                  generalize (⟨(textF 3 st.1 st.2.1 st.2.2.1 st.2.2.2).toArray⟩ : ByteArray) = tx at et ⊢
                  have hBs := hP.bel
                  have hq := hP.res.set 0 0 0 0 0
                  have hBS : Below w.heap.size w _ := ((((hBs.setCell (p := ⟨w.heap.size, 0, none⟩) (Nat.le_refl _) (.int .i64 0)).setCell (p := ⟨w.heap.size, 1, none⟩) (Nat.le_refl _) (.int .i64 0)).setCell (p := ⟨w.heap.size, 2, none⟩) (Nat.le_refl _) (.int .i64 0)).setCell (p := ⟨w.heap.size, 3, none⟩) (Nat.le_refl _) (.int .i64 0)).setCell (p := ⟨w.heap.size, 4, none⟩) (Nat.le_refl _) (.int .u32 0)
                  have HQ := Lib.hid hq
                  have HBS := Lib.hid hBS
                  obtain ⟨r0, r1, r2, r3, r4, rf1, rf2, rf3, rf4⟩ := hP.res
                  dsimp only at r1 r2 r3 r4
                  have rf0 := hP.f0
                  clear hq hBS hBs
                  go_wp2_with fail
                  obtain ⟨e0, e1, e2, e3, e4, _, _, _, _⟩ := HQ.out
                  have hBS := HBS.out
                  generalize ((((World.setCell _ _ _).setCell _ _).setCell _ _).setCell _ _).setCell _ _ = W5 at e0 e1 e2 e3 e4 hBS ⊢
                  exact bodyPost_ret (v := parseV 0 0 0 0 0 180) (by unfold parseV insV; simp [results, Tryz.results75, go_sem, e0, e1, e2, e3, e4]) rfl ⟨HERR.out HNO.out, hBS⟩
        · have hlb := HLS.out
          have HNO := Lib.hid (show ∀ op a b c m, ¬ IsT s op a b c m from fun op a b c m h => by
            have hT := HSEEN.out _ _ _ _ _ h
            have h1 := (HST.out _ _ _ _ _ hT).1
            have h2 := hT.len
            rw [← h1, ← hl] at h2
            exact hlen h2)
          have en : ((L.length : Int) + 1 != (l.size : Int) + 1) = true := by rw [bne, beq_eq_false_iff_ne.2 (by omega)]; rfl
          clear HST HKB hl HLS
          have hBs := hP.bel
          have hq := hP.res.set 0 0 0 0 0
          have hBS : Below w.heap.size w _ := ((((hBs.setCell (p := ⟨w.heap.size, 0, none⟩) (Nat.le_refl _) (.int .i64 0)).setCell (p := ⟨w.heap.size, 1, none⟩) (Nat.le_refl _) (.int .i64 0)).setCell (p := ⟨w.heap.size, 2, none⟩) (Nat.le_refl _) (.int .i64 0)).setCell (p := ⟨w.heap.size, 3, none⟩) (Nat.le_refl _) (.int .i64 0)).setCell (p := ⟨w.heap.size, 4, none⟩) (Nat.le_refl _) (.int .u32 0)
          have HQ := Lib.hid hq
          have HBS := Lib.hid hBS
          obtain ⟨r0, r1, r2, r3, r4, rf1, rf2, rf3, rf4⟩ := hP.res
          dsimp only at r1 r2 r3 r4
          have rf0 := hP.f0
          clear hq hBS hBs
          go_wp2_with fail
          obtain ⟨e0, e1, e2, e3, e4, _, _, _, _⟩ := HQ.out
          have hBS := HBS.out
          generalize ((((World.setCell _ _ _).setCell _ _).setCell _ _).setCell _ _).setCell _ _ = W5 at e0 e1 e2 e3 e4 hBS ⊢
          exact bodyPost_ret (v := parseV 0 0 0 0 0 180) (by unfold parseV insV; simp [results, Tryz.results75, go_sem, e0, e1, e2, e3, e4]) rfl ⟨HERR.out HNO.out, hBS⟩
      · have HST := Lib.hid (show ∀ op a b c m, SeenT s0 L op a b c m → o = op ∧ 0 = (if op = 3 then m else 0) from fun op a b c m hT => by
          obtain ⟨h1, h2⟩ := start_word HKP.out (by omega) HW.out hT
          exact ⟨h1, by rw [if_neg h2]⟩)
        have HKB := Lib.hid (show (0 : Int) ≤ 0 ∧ (0 : Int) ≤ 12 by decide)
        have ho := HW.out.1
        have e3 : (o == 3) = false := beq_eq_false_iff_ne.2 (by omega)
        have CNm := Lib.hid fun W => rNames_any o W
        rw [show namesR o = lR o by unfold lR; rw [if_neg (by omega)]] at CNm
        have HLS := Lib.hid (lR_size o)
        obtain ⟨l, hl⟩ : ∃ l, l = lR o := ⟨_, rfl⟩
        rw [← hl] at HLS CNm
        clear HW HKP
        by_cases ho0 : o = 0
        · subst ho0
          have HNO := Lib.hid (show ∀ op a b c m, ¬ IsT s op a b c m from fun op a b c m h => by
            have hT := HSEEN.out _ _ _ _ _ h
            have h1 := (HST.out _ _ _ _ _ hT).1
            have h2 := hT.h19
            omega)
          clear HST HKB ho e3 hl
          go_wp2_with fail
          refine (CNm.out _).mono ?_
          rintro e w5 ⟨rfl, hb5⟩
          have hP := hP.more hb5
          clear hb5 hk0 hkb CNm HLS
          have hBs := hP.bel
          have hq := hP.res.set 0 0 0 0 0
          have hBS : Below w.heap.size w _ := ((((hBs.setCell (p := ⟨w.heap.size, 0, none⟩) (Nat.le_refl _) (.int .i64 0)).setCell (p := ⟨w.heap.size, 1, none⟩) (Nat.le_refl _) (.int .i64 0)).setCell (p := ⟨w.heap.size, 2, none⟩) (Nat.le_refl _) (.int .i64 0)).setCell (p := ⟨w.heap.size, 3, none⟩) (Nat.le_refl _) (.int .i64 0)).setCell (p := ⟨w.heap.size, 4, none⟩) (Nat.le_refl _) (.int .u32 0)
          have HQ := Lib.hid hq
          have HBS := Lib.hid hBS
          obtain ⟨r0, r1, r2, r3, r4, rf1, rf2, rf3, rf4⟩ := hP.res
          dsimp only at r1 r2 r3 r4
          have rf0 := hP.f0
          clear hq hBS hBs
          go_wp2_with fail
          obtain ⟨e0, e1, e2, e3, e4, _, _, _, _⟩ := HQ.out
          have hBS := HBS.out
          generalize ((((World.setCell _ _ _).setCell _ _).setCell _ _).setCell _ _).setCell _ _ = W5 at e0 e1 e2 e3 e4 hBS ⊢
          exact bodyPost_ret (v := parseV 0 0 0 0 0 180) (by unfold parseV insV; simp [results, Tryz.results75, go_sem, e0, e1, e2, e3, e4]) rfl ⟨HERR.out HNO.out, hBS⟩
        · have e0 : (o == 0) = false := beq_eq_false_iff_ne.2 ho0
          clear ho0
          go_wp2_with fail
          refine (CNm.out _).mono ?_
          rintro e w5 ⟨rfl, hb5⟩
          have hP := hP.more hb5
          clear hb5 hk0 hkb CNm ho
          by_cases hlen : L.length = l.size
          · have hlb := HLS.out
            obtain ⟨bs, hLb⟩ : ∃ bs, bs = l.data.toList := ⟨_, rfl⟩
            have hLn : bs.length = l.size := by rw [hLb, Lib.size_eq]
            have hat : ∀ k (h : k < l.size), l[k]'h = bs[k]'(by omega) := fun k h => by subst hLb; exact bytes_at l k h
            have HLR := Lib.hid (show bs = (lR o).data.toList by rw [hLb, hl])
            have HAT := Lib.hid hat
            have hLn := Lib.hid hLn
            clear hat hLb hl
            obtain ⟨x0, x1, x2, x3, x4, _, _, _, _⟩ := id hP.x
            have xf0 := hP.fx
            have hP := hP.put HNE.out (Bare.put0 (op' := o) hP.x)
            go_wp2_with fail
            clear x0 x1 x2 x3 x4 xf0
            go_loopw [10] (fun vi wr => ∃ (k : Nat) (st : Int × Int × Int × Int), vi = .int .i64 k ∧ k ≤ l.size ∧ PrW w g X (s0 :: L) o st wr ∧ Hid (0 ≤ st.2.2.2 ∧ st.2.2.2 < 4294967296) ∧ Hid (∀ op a b c m, SeenT s0 L op a b c m → st = foldL a b c m (0, 0, 0, if op = 3 then m else 0) (bs.take k))) (fun vi _ => l.size - (intOf vi).toNat)
            case atStart =>
              refine ⟨0, (0, 0, 0, 0), rfl, by omega, hP, Lib.hid (by have := HKB.out; simp only; omega), Lib.hid (fun op a b c m hT => ?_)⟩
              exact congrArg (fun x : Int => ((0 : Int), (0 : Int), (0 : Int), x)) (HST.out _ _ _ _ _ hT).2
            case round =>
              obtain ⟨k, st, rfl, hk, hP, HSB, HSTF⟩ := hrel
              by_cases hkn : k < l.size
              · have hx := HAT.out k hkn
                have hbk : k < bs.length := by have := hLn.out; omega
                have HY := Lib.hid (List.getElem?_eq_getElem hbk)
                generalize bs[k] = y at hx HY
                obtain ⟨word, hw⟩ : ∃ word, L[k]? = some word := ⟨L[k]'(by omega), List.getElem?_eq_getElem _⟩
                have HROW := Lib.hid hw
                have HWS := Lib.hid (HZ.out word (.tail _ (List.mem_of_getElem? hw)))
                clear hw hbk
                by_cases h0 : y.toNat = 110
                · have e110 : ((y.toNat : Int) == 110) = true := by rw [h0]; rfl
                  have e105 : ((y.toNat : Int) == 105) = false := by rw [h0]; rfl
                  have e102 : ((y.toNat : Int) == 102) = false := by rw [h0]; rfl
                  have e97 : ((y.toNat : Int) == 97) = false := by rw [h0]; rfl
                  have e98 : ((y.toNat : Int) == 98) = false := by rw [h0]; rfl
                  have e99 : ((y.toNat : Int) == 99) = false := by rw [h0]; rfl
                  have HMK := Lib.hid (show mkL y.toNat = 0 by rw [h0]; rfl)
                  have HSP := Lib.hid (fun n => show stepL y.toNat n st = (st.1, st.2.1, n, st.2.2.2) by rw [h0]; rfl)
                  clear h0
                  have CN := Lib.hid fun W => rNum_any word (by have := HWS.out; omega) 0 (by omega) W
                  have v1 := hP.row (k + 1) word HROW.out
                  have hw1 : IntKind.i64.wrap ((k : Int) + 1) = (k : Int) + 1 := by rw [IntKind.wrap_i64]; omega
                  have b0 : (0 : Int) ≤ (k : Int) + 1 := by omega
                  have b1 : (k : Int) + 1 < (L.length : Int) + 1 := by omega
                  have b2 : ((k : Int) + 1).toNat = k + 1 := by omega
                  go_wp2_with fail
                  refine (CN.out _).mono ?_
                  rintro e wn ⟨n, f, hN, rfl, rfl⟩
                  clear v1 hw1 b0 b1 b2 CN
                  cases f with
                  | false =>
                    have HNO := Lib.hid (show ∀ op a b c m, ¬ IsT s op a b c m from fun op a b c m h => by
                      have hT := HSEEN.out _ _ _ _ _ h
                      obtain ⟨rfl, _⟩ := HST.out _ _ _ _ _ hT
                      have h1 := letB_mark (hT.at_ k word y (HROW.out) (by rw [← HLR.out]; exact HY.out))
                      rw [HMK.out] at h1
                      have h2 := (hN.out.2 _ (by have := hT.bd y.toNat; omega) h1).1
                      cases h2)
                    clear HST HSB HSTF
                    have hBs := hP.bel
                    have hq := hP.res.set 0 0 0 0 0
                    have hBS : Below w.heap.size w _ := ((((hBs.setCell (p := ⟨w.heap.size, 0, none⟩) (Nat.le_refl _) (.int .i64 0)).setCell (p := ⟨w.heap.size, 1, none⟩) (Nat.le_refl _) (.int .i64 0)).setCell (p := ⟨w.heap.size, 2, none⟩) (Nat.le_refl _) (.int .i64 0)).setCell (p := ⟨w.heap.size, 3, none⟩) (Nat.le_refl _) (.int .i64 0)).setCell (p := ⟨w.heap.size, 4, none⟩) (Nat.le_refl _) (.int .u32 0)
                    have HQ := Lib.hid hq
                    have HBS := Lib.hid hBS
                    obtain ⟨r0, r1, r2, r3, r4, rf1, rf2, rf3, rf4⟩ := hP.res
                    dsimp only at r1 r2 r3 r4
                    have rf0 := hP.f0
                    clear hq hBS hBs
                    go_wp2_with fail
                    obtain ⟨e0, e1, e2, e3, e4, _, _, _, _⟩ := HQ.out
                    have hBS := HBS.out
                    generalize ((((World.setCell _ _ _).setCell _ _).setCell _ _).setCell _ _).setCell _ _ = W5 at e0 e1 e2 e3 e4 hBS ⊢
                    exact bodyPost_ret (v := parseV 0 0 0 0 0 180) (by unfold parseV insV; simp [results, Tryz.results75, go_sem, e0, e1, e2, e3, e4]) rfl ⟨HERR.out HNO.out, hBS⟩
                  | true =>
                    have hnb := hN.out.1 rfl
                    have hwn : IntKind.i64.wrap n = n := by rw [IntKind.wrap_i64]; omega
                    have hwu : IntKind.u32.wrap n = n := by rw [IntKind.wrap_u32]; omega
                    have HST2 := Lib.hid (show ∀ op a b c m, SeenT s0 L op a b c m → stepL y.toNat n st = foldL a b c m (0, 0, 0, if op = 3 then m else 0) (bs.take (k + 1)) from fun op a b c m hT => by
                      have h0 := HST.out _ _ _ _ _ hT
                      have h1 := letB_mark (hT.at_ k word y (HROW.out) (by rw [← h0.1, ← HLR.out]; exact HY.out))
                      rw [HMK.out] at h1
                      have h2 := (hN.out.2 _ (by have := hT.bd y.toNat; omega) h1).2
                      have h3 := hT.bd y.toNat
                      rw [foldL_take a b c m _ bs k y HY.out, ← HSTF.out _ _ _ _ _ hT]
                      congr 1
                      omega)
                    have HSB2 := Lib.hid (stepL_bd y.toNat n st HSB.out hnb)
                    clear HST HSB HSTF hN
                    rw [HSP.out] at HST2 HSB2
                    obtain ⟨x0, x1, x2, x3, x4, xf1, xf2, xf3, xf4⟩ := id hP.x
                    have hP := hP.put HNE.out (hP.x.put3 (v := n))
                    go_wp2_with fail
                    exact ⟨⟨k + 1, _, by go_num, by omega, hP, HSB2, HST2⟩, by simp [intOf]; omega⟩
                · by_cases h1 : y.toNat = 105
                  · have e110 : ((y.toNat : Int) == 110) = false := by rw [h1]; rfl
                    have e105 : ((y.toNat : Int) == 105) = true := by rw [h1]; rfl
                    have e102 : ((y.toNat : Int) == 102) = false := by rw [h1]; rfl
                    have e97 : ((y.toNat : Int) == 97) = false := by rw [h1]; rfl
                    have e98 : ((y.toNat : Int) == 98) = false := by rw [h1]; rfl
                    have e99 : ((y.toNat : Int) == 99) = false := by rw [h1]; rfl
                    have HMK := Lib.hid (show mkL y.toNat = 0 by rw [h1]; rfl)
                    have HSP := Lib.hid (fun n => show stepL y.toNat n st = (st.1, st.2.1, st.2.2.1, n) by rw [h1]; rfl)
                    clear h1 h0
                    have CN := Lib.hid fun W => rNum_any word (by have := HWS.out; omega) 0 (by omega) W
                    have v1 := hP.row (k + 1) word HROW.out
                    have hw1 : IntKind.i64.wrap ((k : Int) + 1) = (k : Int) + 1 := by rw [IntKind.wrap_i64]; omega
                    have b0 : (0 : Int) ≤ (k : Int) + 1 := by omega
                    have b1 : (k : Int) + 1 < (L.length : Int) + 1 := by omega
                    have b2 : ((k : Int) + 1).toNat = k + 1 := by omega
                    go_wp2_with fail
                    refine (CN.out _).mono ?_
                    rintro e wn ⟨n, f, hN, rfl, rfl⟩
                    clear v1 hw1 b0 b1 b2 CN
                    cases f with
                    | false =>
                      have HNO := Lib.hid (show ∀ op a b c m, ¬ IsT s op a b c m from fun op a b c m h => by
                        have hT := HSEEN.out _ _ _ _ _ h
                        obtain ⟨rfl, _⟩ := HST.out _ _ _ _ _ hT
                        have h1 := letB_mark (hT.at_ k word y (HROW.out) (by rw [← HLR.out]; exact HY.out))
                        rw [HMK.out] at h1
                        have h2 := (hN.out.2 _ (by have := hT.bd y.toNat; omega) h1).1
                        cases h2)
                      clear HST HSB HSTF
                      have hBs := hP.bel
                      have hq := hP.res.set 0 0 0 0 0
                      have hBS : Below w.heap.size w _ := ((((hBs.setCell (p := ⟨w.heap.size, 0, none⟩) (Nat.le_refl _) (.int .i64 0)).setCell (p := ⟨w.heap.size, 1, none⟩) (Nat.le_refl _) (.int .i64 0)).setCell (p := ⟨w.heap.size, 2, none⟩) (Nat.le_refl _) (.int .i64 0)).setCell (p := ⟨w.heap.size, 3, none⟩) (Nat.le_refl _) (.int .i64 0)).setCell (p := ⟨w.heap.size, 4, none⟩) (Nat.le_refl _) (.int .u32 0)
                      have HQ := Lib.hid hq
                      have HBS := Lib.hid hBS
                      obtain ⟨r0, r1, r2, r3, r4, rf1, rf2, rf3, rf4⟩ := hP.res
                      dsimp only at r1 r2 r3 r4
                      have rf0 := hP.f0
                      clear hq hBS hBs
                      go_wp2_with fail
                      obtain ⟨e0, e1, e2, e3, e4, _, _, _, _⟩ := HQ.out
                      have hBS := HBS.out
                      generalize ((((World.setCell _ _ _).setCell _ _).setCell _ _).setCell _ _).setCell _ _ = W5 at e0 e1 e2 e3 e4 hBS ⊢
                      exact bodyPost_ret (v := parseV 0 0 0 0 0 180) (by unfold parseV insV; simp [results, Tryz.results75, go_sem, e0, e1, e2, e3, e4]) rfl ⟨HERR.out HNO.out, hBS⟩
                    | true =>
                      have hnb := hN.out.1 rfl
                      have hwn : IntKind.i64.wrap n = n := by rw [IntKind.wrap_i64]; omega
                      have hwu : IntKind.u32.wrap n = n := by rw [IntKind.wrap_u32]; omega
                      have HST2 := Lib.hid (show ∀ op a b c m, SeenT s0 L op a b c m → stepL y.toNat n st = foldL a b c m (0, 0, 0, if op = 3 then m else 0) (bs.take (k + 1)) from fun op a b c m hT => by
                        have h0 := HST.out _ _ _ _ _ hT
                        have h1 := letB_mark (hT.at_ k word y (HROW.out) (by rw [← h0.1, ← HLR.out]; exact HY.out))
                        rw [HMK.out] at h1
                        have h2 := (hN.out.2 _ (by have := hT.bd y.toNat; omega) h1).2
                        have h3 := hT.bd y.toNat
                        rw [foldL_take a b c m _ bs k y HY.out, ← HSTF.out _ _ _ _ _ hT]
                        congr 1
                        omega)
                      have HSB2 := Lib.hid (stepL_bd y.toNat n st HSB.out hnb)
                      clear HST HSB HSTF hN
                      rw [HSP.out] at HST2 HSB2
                      obtain ⟨x0, x1, x2, x3, x4, xf1, xf2, xf3, xf4⟩ := id hP.x
                      have hP := hP.put HNE.out (hP.x.put4 (v := n))
                      go_wp2_with fail
                      exact ⟨⟨k + 1, _, by go_num, by omega, hP, HSB2, HST2⟩, by simp [intOf]; omega⟩
                  · by_cases h2 : y.toNat = 102
                    · have e110 : ((y.toNat : Int) == 110) = false := by rw [h2]; rfl
                      have e105 : ((y.toNat : Int) == 105) = false := by rw [h2]; rfl
                      have e102 : ((y.toNat : Int) == 102) = true := by rw [h2]; rfl
                      have e97 : ((y.toNat : Int) == 97) = false := by rw [h2]; rfl
                      have e98 : ((y.toNat : Int) == 98) = false := by rw [h2]; rfl
                      have e99 : ((y.toNat : Int) == 99) = false := by rw [h2]; rfl
                      have HMK := Lib.hid (show mkL y.toNat = 102 by rw [h2]; rfl)
                      have HSP := Lib.hid (fun n => show stepL y.toNat n st = (st.1, st.2.1, st.2.2.1, n) by rw [h2]; rfl)
                      clear h2 h1 h0
                      have CN := Lib.hid fun W => rNum_any word (by have := HWS.out; omega) 102 (by omega) W
                      have v1 := hP.row (k + 1) word HROW.out
                      have hw1 : IntKind.i64.wrap ((k : Int) + 1) = (k : Int) + 1 := by rw [IntKind.wrap_i64]; omega
                      have b0 : (0 : Int) ≤ (k : Int) + 1 := by omega
                      have b1 : (k : Int) + 1 < (L.length : Int) + 1 := by omega
                      have b2 : ((k : Int) + 1).toNat = k + 1 := by omega
                      go_wp2_with fail
                      refine (CN.out _).mono ?_
                      rintro e wn ⟨n, f, hN, rfl, rfl⟩
                      clear v1 hw1 b0 b1 b2 CN
                      cases f with
                      | false =>
                        have HNO := Lib.hid (show ∀ op a b c m, ¬ IsT s op a b c m from fun op a b c m h => by
                          have hT := HSEEN.out _ _ _ _ _ h
                          obtain ⟨rfl, _⟩ := HST.out _ _ _ _ _ hT
                          have h1 := letB_mark (hT.at_ k word y (HROW.out) (by rw [← HLR.out]; exact HY.out))
                          rw [HMK.out] at h1
                          have h2 := (hN.out.2 _ (by have := hT.bd y.toNat; omega) h1).1
                          cases h2)
                        clear HST HSB HSTF
                        have hBs := hP.bel
                        have hq := hP.res.set 0 0 0 0 0
                        have hBS : Below w.heap.size w _ := ((((hBs.setCell (p := ⟨w.heap.size, 0, none⟩) (Nat.le_refl _) (.int .i64 0)).setCell (p := ⟨w.heap.size, 1, none⟩) (Nat.le_refl _) (.int .i64 0)).setCell (p := ⟨w.heap.size, 2, none⟩) (Nat.le_refl _) (.int .i64 0)).setCell (p := ⟨w.heap.size, 3, none⟩) (Nat.le_refl _) (.int .i64 0)).setCell (p := ⟨w.heap.size, 4, none⟩) (Nat.le_refl _) (.int .u32 0)
                        have HQ := Lib.hid hq
                        have HBS := Lib.hid hBS
                        obtain ⟨r0, r1, r2, r3, r4, rf1, rf2, rf3, rf4⟩ := hP.res
                        dsimp only at r1 r2 r3 r4
                        have rf0 := hP.f0
                        clear hq hBS hBs
                        go_wp2_with fail
                        obtain ⟨e0, e1, e2, e3, e4, _, _, _, _⟩ := HQ.out
                        have hBS := HBS.out
                        generalize ((((World.setCell _ _ _).setCell _ _).setCell _ _).setCell _ _).setCell _ _ = W5 at e0 e1 e2 e3 e4 hBS ⊢
                        exact bodyPost_ret (v := parseV 0 0 0 0 0 180) (by unfold parseV insV; simp [results, Tryz.results75, go_sem, e0, e1, e2, e3, e4]) rfl ⟨HERR.out HNO.out, hBS⟩
                      | true =>
                        have hnb := hN.out.1 rfl
                        have hwn : IntKind.i64.wrap n = n := by rw [IntKind.wrap_i64]; omega
                        have hwu : IntKind.u32.wrap n = n := by rw [IntKind.wrap_u32]; omega
                        have HST2 := Lib.hid (show ∀ op a b c m, SeenT s0 L op a b c m → stepL y.toNat n st = foldL a b c m (0, 0, 0, if op = 3 then m else 0) (bs.take (k + 1)) from fun op a b c m hT => by
                          have h0 := HST.out _ _ _ _ _ hT
                          have h1 := letB_mark (hT.at_ k word y (HROW.out) (by rw [← h0.1, ← HLR.out]; exact HY.out))
                          rw [HMK.out] at h1
                          have h2 := (hN.out.2 _ (by have := hT.bd y.toNat; omega) h1).2
                          have h3 := hT.bd y.toNat
                          rw [foldL_take a b c m _ bs k y HY.out, ← HSTF.out _ _ _ _ _ hT]
                          congr 1
                          omega)
                        have HSB2 := Lib.hid (stepL_bd y.toNat n st HSB.out hnb)
                        clear HST HSB HSTF hN
                        rw [HSP.out] at HST2 HSB2
                        obtain ⟨x0, x1, x2, x3, x4, xf1, xf2, xf3, xf4⟩ := id hP.x
                        have hP := hP.put HNE.out (hP.x.put4 (v := n))
                        go_wp2_with fail
                        exact ⟨⟨k + 1, _, by go_num, by omega, hP, HSB2, HST2⟩, by simp [intOf]; omega⟩
                    · by_cases h3 : y.toNat = 97
                      · have e110 : ((y.toNat : Int) == 110) = false := by rw [h3]; rfl
                        have e105 : ((y.toNat : Int) == 105) = false := by rw [h3]; rfl
                        have e102 : ((y.toNat : Int) == 102) = false := by rw [h3]; rfl
                        have e97 : ((y.toNat : Int) == 97) = true := by rw [h3]; rfl
                        have e98 : ((y.toNat : Int) == 98) = false := by rw [h3]; rfl
                        have e99 : ((y.toNat : Int) == 99) = false := by rw [h3]; rfl
                        have HMK := Lib.hid (show mkL y.toNat = 114 by rw [h3]; rfl)
                        have HSP := Lib.hid (fun n => show stepL y.toNat n st = (n, st.2.1, st.2.2.1, st.2.2.2) by rw [h3]; rfl)
                        clear h3 h2 h1 h0
                        have CN := Lib.hid fun W => rNum_any word (by have := HWS.out; omega) 114 (by omega) W
                        have v1 := hP.row (k + 1) word HROW.out
                        have hw1 : IntKind.i64.wrap ((k : Int) + 1) = (k : Int) + 1 := by rw [IntKind.wrap_i64]; omega
                        have b0 : (0 : Int) ≤ (k : Int) + 1 := by omega
                        have b1 : (k : Int) + 1 < (L.length : Int) + 1 := by omega
                        have b2 : ((k : Int) + 1).toNat = k + 1 := by omega
                        go_wp2_with fail
                        refine (CN.out _).mono ?_
                        rintro e wn ⟨n, f, hN, rfl, rfl⟩
                        clear v1 hw1 b0 b1 b2 CN
                        cases f with
                        | false =>
                          have HNO := Lib.hid (show ∀ op a b c m, ¬ IsT s op a b c m from fun op a b c m h => by
                            have hT := HSEEN.out _ _ _ _ _ h
                            obtain ⟨rfl, _⟩ := HST.out _ _ _ _ _ hT
                            have h1 := letB_mark (hT.at_ k word y (HROW.out) (by rw [← HLR.out]; exact HY.out))
                            rw [HMK.out] at h1
                            have h2 := (hN.out.2 _ (by have := hT.bd y.toNat; omega) h1).1
                            cases h2)
                          clear HST HSB HSTF
                          have hBs := hP.bel
                          have hq := hP.res.set 0 0 0 0 0
                          have hBS : Below w.heap.size w _ := ((((hBs.setCell (p := ⟨w.heap.size, 0, none⟩) (Nat.le_refl _) (.int .i64 0)).setCell (p := ⟨w.heap.size, 1, none⟩) (Nat.le_refl _) (.int .i64 0)).setCell (p := ⟨w.heap.size, 2, none⟩) (Nat.le_refl _) (.int .i64 0)).setCell (p := ⟨w.heap.size, 3, none⟩) (Nat.le_refl _) (.int .i64 0)).setCell (p := ⟨w.heap.size, 4, none⟩) (Nat.le_refl _) (.int .u32 0)
                          have HQ := Lib.hid hq
                          have HBS := Lib.hid hBS
                          obtain ⟨r0, r1, r2, r3, r4, rf1, rf2, rf3, rf4⟩ := hP.res
                          dsimp only at r1 r2 r3 r4
                          have rf0 := hP.f0
                          clear hq hBS hBs
                          go_wp2_with fail
                          obtain ⟨e0, e1, e2, e3, e4, _, _, _, _⟩ := HQ.out
                          have hBS := HBS.out
                          generalize ((((World.setCell _ _ _).setCell _ _).setCell _ _).setCell _ _).setCell _ _ = W5 at e0 e1 e2 e3 e4 hBS ⊢
                          exact bodyPost_ret (v := parseV 0 0 0 0 0 180) (by unfold parseV insV; simp [results, Tryz.results75, go_sem, e0, e1, e2, e3, e4]) rfl ⟨HERR.out HNO.out, hBS⟩
                        | true =>
                          have hnb := hN.out.1 rfl
                          have hwn : IntKind.i64.wrap n = n := by rw [IntKind.wrap_i64]; omega
                          have hwu : IntKind.u32.wrap n = n := by rw [IntKind.wrap_u32]; omega
                          have HST2 := Lib.hid (show ∀ op a b c m, SeenT s0 L op a b c m → stepL y.toNat n st = foldL a b c m (0, 0, 0, if op = 3 then m else 0) (bs.take (k + 1)) from fun op a b c m hT => by
                            have h0 := HST.out _ _ _ _ _ hT
                            have h1 := letB_mark (hT.at_ k word y (HROW.out) (by rw [← h0.1, ← HLR.out]; exact HY.out))
                            rw [HMK.out] at h1
                            have h2 := (hN.out.2 _ (by have := hT.bd y.toNat; omega) h1).2
                            have h3 := hT.bd y.toNat
                            rw [foldL_take a b c m _ bs k y HY.out, ← HSTF.out _ _ _ _ _ hT]
                            congr 1
                            omega)
                          have HSB2 := Lib.hid (stepL_bd y.toNat n st HSB.out hnb)
                          clear HST HSB HSTF hN
                          rw [HSP.out] at HST2 HSB2
                          obtain ⟨x0, x1, x2, x3, x4, xf1, xf2, xf3, xf4⟩ := id hP.x
                          have hP := hP.put HNE.out (hP.x.put1 (v := n))
                          go_wp2_with fail
                          exact ⟨⟨k + 1, _, by go_num, by omega, hP, HSB2, HST2⟩, by simp [intOf]; omega⟩
                      · by_cases h4 : y.toNat = 98
                        · have e110 : ((y.toNat : Int) == 110) = false := by rw [h4]; rfl
                          have e105 : ((y.toNat : Int) == 105) = false := by rw [h4]; rfl
                          have e102 : ((y.toNat : Int) == 102) = false := by rw [h4]; rfl
                          have e97 : ((y.toNat : Int) == 97) = false := by rw [h4]; rfl
                          have e98 : ((y.toNat : Int) == 98) = true := by rw [h4]; rfl
                          have e99 : ((y.toNat : Int) == 99) = false := by rw [h4]; rfl
                          have HMK := Lib.hid (show mkL y.toNat = 114 by rw [h4]; rfl)
                          have HSP := Lib.hid (fun n => show stepL y.toNat n st = (st.1, n, st.2.2.1, st.2.2.2) by rw [h4]; rfl)
                          clear h4 h3 h2 h1 h0
                          have CN := Lib.hid fun W => rNum_any word (by have := HWS.out; omega) 114 (by omega) W
                          have v1 := hP.row (k + 1) word HROW.out
                          have hw1 : IntKind.i64.wrap ((k : Int) + 1) = (k : Int) + 1 := by rw [IntKind.wrap_i64]; omega
                          have b0 : (0 : Int) ≤ (k : Int) + 1 := by omega
                          have b1 : (k : Int) + 1 < (L.length : Int) + 1 := by omega
                          have b2 : ((k : Int) + 1).toNat = k + 1 := by omega
                          go_wp2_with fail
                          refine (CN.out _).mono ?_
                          rintro e wn ⟨n, f, hN, rfl, rfl⟩
                          clear v1 hw1 b0 b1 b2 CN
                          cases f with
                          | false =>
                            have HNO := Lib.hid (show ∀ op a b c m, ¬ IsT s op a b c m from fun op a b c m h => by
                              have hT := HSEEN.out _ _ _ _ _ h
                              obtain ⟨rfl, _⟩ := HST.out _ _ _ _ _ hT
                              have h1 := letB_mark (hT.at_ k word y (HROW.out) (by rw [← HLR.out]; exact HY.out))
                              rw [HMK.out] at h1
                              have h2 := (hN.out.2 _ (by have := hT.bd y.toNat; omega) h1).1
                              cases h2)
                            clear HST HSB HSTF
                            have hBs := hP.bel
                            have hq := hP.res.set 0 0 0 0 0
                            have hBS : Below w.heap.size w _ := ((((hBs.setCell (p := ⟨w.heap.size, 0, none⟩) (Nat.le_refl _) (.int .i64 0)).setCell (p := ⟨w.heap.size, 1, none⟩) (Nat.le_refl _) (.int .i64 0)).setCell (p := ⟨w.heap.size, 2, none⟩) (Nat.le_refl _) (.int .i64 0)).setCell (p := ⟨w.heap.size, 3, none⟩) (Nat.le_refl _) (.int .i64 0)).setCell (p := ⟨w.heap.size, 4, none⟩) (Nat.le_refl _) (.int .u32 0)
                            have HQ := Lib.hid hq
                            have HBS := Lib.hid hBS
                            obtain ⟨r0, r1, r2, r3, r4, rf1, rf2, rf3, rf4⟩ := hP.res
                            dsimp only at r1 r2 r3 r4
                            have rf0 := hP.f0
                            clear hq hBS hBs
                            go_wp2_with fail
                            obtain ⟨e0, e1, e2, e3, e4, _, _, _, _⟩ := HQ.out
                            have hBS := HBS.out
                            generalize ((((World.setCell _ _ _).setCell _ _).setCell _ _).setCell _ _).setCell _ _ = W5 at e0 e1 e2 e3 e4 hBS ⊢
                            exact bodyPost_ret (v := parseV 0 0 0 0 0 180) (by unfold parseV insV; simp [results, Tryz.results75, go_sem, e0, e1, e2, e3, e4]) rfl ⟨HERR.out HNO.out, hBS⟩
                          | true =>
                            have hnb := hN.out.1 rfl
                            have hwn : IntKind.i64.wrap n = n := by rw [IntKind.wrap_i64]; omega
                            have hwu : IntKind.u32.wrap n = n := by rw [IntKind.wrap_u32]; omega
                            have HST2 := Lib.hid (show ∀ op a b c m, SeenT s0 L op a b c m → stepL y.toNat n st = foldL a b c m (0, 0, 0, if op = 3 then m else 0) (bs.take (k + 1)) from fun op a b c m hT => by
                              have h0 := HST.out _ _ _ _ _ hT
                              have h1 := letB_mark (hT.at_ k word y (HROW.out) (by rw [← h0.1, ← HLR.out]; exact HY.out))
                              rw [HMK.out] at h1
                              have h2 := (hN.out.2 _ (by have := hT.bd y.toNat; omega) h1).2
                              have h3 := hT.bd y.toNat
                              rw [foldL_take a b c m _ bs k y HY.out, ← HSTF.out _ _ _ _ _ hT]
                              congr 1
                              omega)
                            have HSB2 := Lib.hid (stepL_bd y.toNat n st HSB.out hnb)
                            clear HST HSB HSTF hN
                            rw [HSP.out] at HST2 HSB2
                            obtain ⟨x0, x1, x2, x3, x4, xf1, xf2, xf3, xf4⟩ := id hP.x
                            have hP := hP.put HNE.out (hP.x.put2 (v := n))
                            go_wp2_with fail
                            exact ⟨⟨k + 1, _, by go_num, by omega, hP, HSB2, HST2⟩, by simp [intOf]; omega⟩
                        · by_cases h5 : y.toNat = 99
                          · have e110 : ((y.toNat : Int) == 110) = false := by rw [h5]; rfl
                            have e105 : ((y.toNat : Int) == 105) = false := by rw [h5]; rfl
                            have e102 : ((y.toNat : Int) == 102) = false := by rw [h5]; rfl
                            have e97 : ((y.toNat : Int) == 97) = false := by rw [h5]; rfl
                            have e98 : ((y.toNat : Int) == 98) = false := by rw [h5]; rfl
                            have e99 : ((y.toNat : Int) == 99) = true := by rw [h5]; rfl
                            have HMK := Lib.hid (show mkL y.toNat = 114 by rw [h5]; rfl)
                            have HSP := Lib.hid (fun n => show stepL y.toNat n st = (st.1, st.2.1, n, st.2.2.2) by rw [h5]; rfl)
                            clear h5 h4 h3 h2 h1 h0
                            have CN := Lib.hid fun W => rNum_any word (by have := HWS.out; omega) 114 (by omega) W
                            have v1 := hP.row (k + 1) word HROW.out
                            have hw1 : IntKind.i64.wrap ((k : Int) + 1) = (k : Int) + 1 := by rw [IntKind.wrap_i64]; omega
                            have b0 : (0 : Int) ≤ (k : Int) + 1 := by omega
                            have b1 : (k : Int) + 1 < (L.length : Int) + 1 := by omega
                            have b2 : ((k : Int) + 1).toNat = k + 1 := by omega
                            go_wp2_with fail
                            refine (CN.out _).mono ?_
                            rintro e wn ⟨n, f, hN, rfl, rfl⟩
                            clear v1 hw1 b0 b1 b2 CN
                            cases f with
                            | false =>
                              have HNO := Lib.hid (show ∀ op a b c m, ¬ IsT s op a b c m from fun op a b c m h => by
                                have hT := HSEEN.out _ _ _ _ _ h
                                obtain ⟨rfl, _⟩ := HST.out _ _ _ _ _ hT
                                have h1 := letB_mark (hT.at_ k word y (HROW.out) (by rw [← HLR.out]; exact HY.out))
                                rw [HMK.out] at h1
                                have h2 := (hN.out.2 _ (by have := hT.bd y.toNat; omega) h1).1
                                cases h2)
                              clear HST HSB HSTF
                              have hBs := hP.bel
                              have hq := hP.res.set 0 0 0 0 0
                              have hBS : Below w.heap.size w _ := ((((hBs.setCell (p := ⟨w.heap.size, 0, none⟩) (Nat.le_refl _) (.int .i64 0)).setCell (p := ⟨w.heap.size, 1, none⟩) (Nat.le_refl _) (.int .i64 0)).setCell (p := ⟨w.heap.size, 2, none⟩) (Nat.le_refl _) (.int .i64 0)).setCell (p := ⟨w.heap.size, 3, none⟩) (Nat.le_refl _) (.int .i64 0)).setCell (p := ⟨w.heap.size, 4, none⟩) (Nat.le_refl _) (.int .u32 0)
                              have HQ := Lib.hid hq
                              have HBS := Lib.hid hBS
                              obtain ⟨r0, r1, r2, r3, r4, rf1, rf2, rf3, rf4⟩ := hP.res
                              dsimp only at r1 r2 r3 r4
                              have rf0 := hP.f0
                              clear hq hBS hBs
                              go_wp2_with fail
                              obtain ⟨e0, e1, e2, e3, e4, _, _, _, _⟩ := HQ.out
                              have hBS := HBS.out
                              generalize ((((World.setCell _ _ _).setCell _ _).setCell _ _).setCell _ _).setCell _ _ = W5 at e0 e1 e2 e3 e4 hBS ⊢
                              exact bodyPost_ret (v := parseV 0 0 0 0 0 180) (by unfold parseV insV; simp [results, Tryz.results75, go_sem, e0, e1, e2, e3, e4]) rfl ⟨HERR.out HNO.out, hBS⟩
                            | true =>
                              have hnb := hN.out.1 rfl
                              have hwn : IntKind.i64.wrap n = n := by rw [IntKind.wrap_i64]; omega
                              have hwu : IntKind.u32.wrap n = n := by rw [IntKind.wrap_u32]; omega
                              have HST2 := Lib.hid (show ∀ op a b c m, SeenT s0 L op a b c m → stepL y.toNat n st = foldL a b c m (0, 0, 0, if op = 3 then m else 0) (bs.take (k + 1)) from fun op a b c m hT => by
                                have h0 := HST.out _ _ _ _ _ hT
                                have h1 := letB_mark (hT.at_ k word y (HROW.out) (by rw [← h0.1, ← HLR.out]; exact HY.out))
                                rw [HMK.out] at h1
                                have h2 := (hN.out.2 _ (by have := hT.bd y.toNat; omega) h1).2
                                have h3 := hT.bd y.toNat
                                rw [foldL_take a b c m _ bs k y HY.out, ← HSTF.out _ _ _ _ _ hT]
                                congr 1
                                omega)
                              have HSB2 := Lib.hid (stepL_bd y.toNat n st HSB.out hnb)
                              clear HST HSB HSTF hN
                              rw [HSP.out] at HST2 HSB2
                              obtain ⟨x0, x1, x2, x3, x4, xf1, xf2, xf3, xf4⟩ := id hP.x
                              have hP := hP.put HNE.out (hP.x.put3 (v := n))
                              go_wp2_with fail
                              exact ⟨⟨k + 1, _, by go_num, by omega, hP, HSB2, HST2⟩, by simp [intOf]; omega⟩
                          · have e110 : ((y.toNat : Int) == 110) = false := beq_eq_false_iff_ne.2 (by omega)
                            have e105 : ((y.toNat : Int) == 105) = false := beq_eq_false_iff_ne.2 (by omega)
                            have e102 : ((y.toNat : Int) == 102) = false := beq_eq_false_iff_ne.2 (by omega)
                            have e97 : ((y.toNat : Int) == 97) = false := beq_eq_false_iff_ne.2 (by omega)
                            have e98 : ((y.toNat : Int) == 98) = false := beq_eq_false_iff_ne.2 (by omega)
                            have e99 : ((y.toNat : Int) == 99) = false := beq_eq_false_iff_ne.2 (by omega)
                            have HMK := Lib.hid (show mkL y.toNat = 114 by unfold mkL; rw [if_neg (by omega), if_neg h2])
                            have HSP := Lib.hid (fun n => show stepL y.toNat n st = (st.1, st.2.1, st.2.2.1, n) by unfold stepL; rw [if_neg h3, if_neg h4, if_neg (by omega)])
                            clear h5 h4 h3 h2 h1 h0
                            have CN := Lib.hid fun W => rNum_any word (by have := HWS.out; omega) 114 (by omega) W
                            have v1 := hP.row (k + 1) word HROW.out
                            have hw1 : IntKind.i64.wrap ((k : Int) + 1) = (k : Int) + 1 := by rw [IntKind.wrap_i64]; omega
                            have b0 : (0 : Int) ≤ (k : Int) + 1 := by omega
                            have b1 : (k : Int) + 1 < (L.length : Int) + 1 := by omega
                            have b2 : ((k : Int) + 1).toNat = k + 1 := by omega
                            go_wp2_with fail
                            refine (CN.out _).mono ?_
                            rintro e wn ⟨n, f, hN, rfl, rfl⟩
                            clear v1 hw1 b0 b1 b2 CN
                            cases f with
                            | false =>
                              have HNO := Lib.hid (show ∀ op a b c m, ¬ IsT s op a b c m from fun op a b c m h => by
                                have hT := HSEEN.out _ _ _ _ _ h
                                obtain ⟨rfl, _⟩ := HST.out _ _ _ _ _ hT
                                have h1 := letB_mark (hT.at_ k word y (HROW.out) (by rw [← HLR.out]; exact HY.out))
                                rw [HMK.out] at h1
                                have h2 := (hN.out.2 _ (by have := hT.bd y.toNat; omega) h1).1
                                cases h2)
                              clear HST HSB HSTF
                              have hBs := hP.bel
                              have hq := hP.res.set 0 0 0 0 0
                              have hBS : Below w.heap.size w _ := ((((hBs.setCell (p := ⟨w.heap.size, 0, none⟩) (Nat.le_refl _) (.int .i64 0)).setCell (p := ⟨w.heap.size, 1, none⟩) (Nat.le_refl _) (.int .i64 0)).setCell (p := ⟨w.heap.size, 2, none⟩) (Nat.le_refl _) (.int .i64 0)).setCell (p := ⟨w.heap.size, 3, none⟩) (Nat.le_refl _) (.int .i64 0)).setCell (p := ⟨w.heap.size, 4, none⟩) (Nat.le_refl _) (.int .u32 0)
                              have HQ := Lib.hid hq
                              have HBS := Lib.hid hBS
                              obtain ⟨r0, r1, r2, r3, r4, rf1, rf2, rf3, rf4⟩ := hP.res
                              dsimp only at r1 r2 r3 r4
                              have rf0 := hP.f0
                              clear hq hBS hBs
                              go_wp2_with fail
                              obtain ⟨e0, e1, e2, e3, e4, _, _, _, _⟩ := HQ.out
                              have hBS := HBS.out
                              generalize ((((World.setCell _ _ _).setCell _ _).setCell _ _).setCell _ _).setCell _ _ = W5 at e0 e1 e2 e3 e4 hBS ⊢
                              exact bodyPost_ret (v := parseV 0 0 0 0 0 180) (by unfold parseV insV; simp [results, Tryz.results75, go_sem, e0, e1, e2, e3, e4]) rfl ⟨HERR.out HNO.out, hBS⟩
                            | true =>
                              have hnb := hN.out.1 rfl
                              have hwn : IntKind.i64.wrap n = n := by rw [IntKind.wrap_i64]; omega
                              have hwu : IntKind.u32.wrap n = n := by rw [IntKind.wrap_u32]; omega
                              have HST2 := Lib.hid (show ∀ op a b c m, SeenT s0 L op a b c m → stepL y.toNat n st = foldL a b c m (0, 0, 0, if op = 3 then m else 0) (bs.take (k + 1)) from fun op a b c m hT => by
                                have h0 := HST.out _ _ _ _ _ hT
                                have h1 := letB_mark (hT.at_ k word y (HROW.out) (by rw [← h0.1, ← HLR.out]; exact HY.out))
                                rw [HMK.out] at h1
                                have h2 := (hN.out.2 _ (by have := hT.bd y.toNat; omega) h1).2
                                have h3 := hT.bd y.toNat
                                rw [foldL_take a b c m _ bs k y HY.out, ← HSTF.out _ _ _ _ _ hT]
                                congr 1
                                omega)
                              have HSB2 := Lib.hid (stepL_bd y.toNat n st HSB.out hnb)
                              clear HST HSB HSTF hN
                              rw [HSP.out] at HST2 HSB2
                              obtain ⟨x0, x1, x2, x3, x4, xf1, xf2, xf3, xf4⟩ := id hP.x
                              have hP := hP.put HNE.out (hP.x.put4 (v := n))
                              go_wp2_with fail
                              exact ⟨⟨k + 1, _, by go_num, by omega, hP, HSB2, HST2⟩, by simp [intOf]; omega⟩
              · have hk2 : k = l.size := by omega
                have HST2 := Lib.hid (show ∀ op a b c m, IsT s op a b c m → o = op ∧ st = (a, b, c, m) from fun op a b c m h => by
                  have hT := HSEEN.out _ _ _ _ _ h
                  obtain ⟨rfl, _⟩ := HST.out _ _ _ _ _ hT
                  refine ⟨rfl, ?_⟩
                  rw [HSTF.out _ _ _ _ _ hT, List.take_of_length_le (by have := hLn.out; omega), HLR.out]
                  exact hT.all)
                subst hk2
                clear HST HSTF hkn HLR
                have CT := Lib.hid fun W => rRight_P o st.1 st.2.1 st.2.2.1 st.2.2.2 HSB.out W
                unfold insV at CT
                obtain ⟨x0, x1, x2, x3, x4, _, _, _, _⟩ := id hP.x
                go_wp2_with fail
                refine (CT.out _).mono ?_
                rintro e wq ⟨rfl, hbq⟩
                have hP := hP.more hbq
                clear x0 x1 x2 x3 x4 hbq CT
                cases hr : rightF o st.1 st.2.1 st.2.2.1 st.2.2.2 with
                | false =>
                  have HNO := Lib.hid (show ∀ op a b c m, ¬ IsT s op a b c m from fun op a b c m h => by
                    obtain ⟨h1, h2⟩ := HST2.out _ _ _ _ _ h
                    have := h.right
                    rw [← h1, show a = st.1 by rw [h2], show b = st.2.1 by rw [h2], show c = st.2.2.1 by rw [h2], show m = st.2.2.2 by rw [h2], hr] at this
                    cases this)
                  clear hr HST2 HSB
                  have hBs := hP.bel
                  have hq := hP.res.set 0 0 0 0 0
                  have hBS : Below w.heap.size w _ := ((((hBs.setCell (p := ⟨w.heap.size, 0, none⟩) (Nat.le_refl _) (.int .i64 0)).setCell (p := ⟨w.heap.size, 1, none⟩) (Nat.le_refl _) (.int .i64 0)).setCell (p := ⟨w.heap.size, 2, none⟩) (Nat.le_refl _) (.int .i64 0)).setCell (p := ⟨w.heap.size, 3, none⟩) (Nat.le_refl _) (.int .i64 0)).setCell (p := ⟨w.heap.size, 4, none⟩) (Nat.le_refl _) (.int .u32 0)
                  have HQ := Lib.hid hq
                  have HBS := Lib.hid hBS
                  obtain ⟨r0, r1, r2, r3, r4, rf1, rf2, rf3, rf4⟩ := hP.res
                  dsimp only at r1 r2 r3 r4
                  have rf0 := hP.f0
                  clear hq hBS hBs
                  go_wp2_with fail
                  obtain ⟨e0, e1, e2, e3, e4, _, _, _, _⟩ := HQ.out
                  have hBS := HBS.out
                  generalize ((((World.setCell _ _ _).setCell _ _).setCell _ _).setCell _ _).setCell _ _ = W5 at e0 e1 e2 e3 e4 hBS ⊢
                  exact bodyPost_ret (v := parseV 0 0 0 0 0 180) (by unfold parseV insV; simp [results, Tryz.results75, go_sem, e0, e1, e2, e3, e4]) rfl ⟨HERR.out HNO.out, hBS⟩
                | true =>
                  have CX := Lib.hid fun W hE => rText_any o st.1 st.2.1 st.2.2.1 st.2.2.2 HSB.out hr W hE
                  unfold insV at CX
                  have HR := Lib.hid hr
                  clear hr
                  obtain ⟨x0, x1, x2, x3, x4, _, _, _, _⟩ := id hP.x
                  go_wp2_with fail
                  refine (CX.out _ (hE.on hP.bel)).mono ?_
                  rintro e wq ⟨rfl, hbq⟩
                  have hP := hP.more hbq
                  clear x0 x1 x2 x3 x4 hbq CX
                  by_cases ht : textF o st.1 st.2.1 st.2.2.1 st.2.2.2 = s.data.toList
                  · have et : ((⟨(textF o st.1 st.2.1 st.2.2.1 st.2.2.2).toArray⟩ : ByteArray).toList == s.toList) = true := by rw [toList_data, toList_data, ht]; simp
                    have HOK := Lib.hid (show ParsePost s (.returned (parseV o st.1 st.2.1 st.2.2.1 st.2.2.2 0)) from Or.inl ⟨_, _, _, _, _, ⟨HSB.out, HR.out, ht⟩, rfl⟩)
                    clear ht HST2 HR HSB
                    generalize (⟨(textF o st.1 st.2.1 st.2.2.1 st.2.2.2).toArray⟩ : ByteArray) = tx at et ⊢
                    have hBs := hP.bel
                    have hq := hP.res.set o st.1 st.2.1 st.2.2.1 st.2.2.2
                    have hBS : Below w.heap.size w _ := ((((hBs.setCell (p := ⟨w.heap.size, 0, none⟩) (Nat.le_refl _) (.int .i64 o)).setCell (p := ⟨w.heap.size, 1, none⟩) (Nat.le_refl _) (.int .i64 st.1)).setCell (p := ⟨w.heap.size, 2, none⟩) (Nat.le_refl _) (.int .i64 st.2.1)).setCell (p := ⟨w.heap.size, 3, none⟩) (Nat.le_refl _) (.int .i64 st.2.2.1)).setCell (p := ⟨w.heap.size, 4, none⟩) (Nat.le_refl _) (.int .u32 st.2.2.2)
                    have HQ := Lib.hid hq
                    have HBS := Lib.hid hBS
                    obtain ⟨r0, r1, r2, r3, r4, rf1, rf2, rf3, rf4⟩ := hP.res
                    dsimp only at r1 r2 r3 r4
                    have rf0 := hP.f0
                    have ⟨x0, x1, x2, x3, x4, _, _, _, _⟩ := hP.x
                    clear hq hBS hBs
                    go_wp2_with fail
                    obtain ⟨e0, e1, e2, e3, e4, _, _, _, _⟩ := HQ.out
                    have hBS := HBS.out
                    generalize ((((World.setCell _ _ _).setCell _ _).setCell _ _).setCell _ _).setCell _ _ = W5 at e0 e1 e2 e3 e4 hBS ⊢
                    exact bodyPost_ret (v := parseV o st.1 st.2.1 st.2.2.1 st.2.2.2 0) (by unfold parseV insV; simp [results, Tryz.results75, go_sem, e0, e1, e2, e3, e4]) rfl ⟨HOK.out, hBS⟩
                  · have et : ((⟨(textF o st.1 st.2.1 st.2.2.1 st.2.2.2).toArray⟩ : ByteArray).toList == s.toList) = false := str_ne (fun h => ht (by rw [← h]))
                    have HNO := Lib.hid (show ∀ op a b c m, ¬ IsT s op a b c m from fun op a b c m h => by
                      obtain ⟨h1, h2⟩ := HST2.out _ _ _ _ _ h
                      have := h.text
                      rw [← h1, show a = st.1 by rw [h2], show b = st.2.1 by rw [h2], show c = st.2.2.1 by rw [h2], show m = st.2.2.2 by rw [h2]] at this
                      exact ht this)
                    clear ht HST2 HR HSB
                    generalize (⟨(textF o st.1 st.2.1 st.2.2.1 st.2.2.2).toArray⟩ : ByteArray) = tx at et ⊢
                    have hBs := hP.bel
                    have hq := hP.res.set 0 0 0 0 0
                    have hBS : Below w.heap.size w _ := ((((hBs.setCell (p := ⟨w.heap.size, 0, none⟩) (Nat.le_refl _) (.int .i64 0)).setCell (p := ⟨w.heap.size, 1, none⟩) (Nat.le_refl _) (.int .i64 0)).setCell (p := ⟨w.heap.size, 2, none⟩) (Nat.le_refl _) (.int .i64 0)).setCell (p := ⟨w.heap.size, 3, none⟩) (Nat.le_refl _) (.int .i64 0)).setCell (p := ⟨w.heap.size, 4, none⟩) (Nat.le_refl _) (.int .u32 0)
                    have HQ := Lib.hid hq
                    have HBS := Lib.hid hBS
                    obtain ⟨r0, r1, r2, r3, r4, rf1, rf2, rf3, rf4⟩ := hP.res
                    dsimp only at r1 r2 r3 r4
                    have rf0 := hP.f0
                    clear hq hBS hBs
                    go_wp2_with fail
                    obtain ⟨e0, e1, e2, e3, e4, _, _, _, _⟩ := HQ.out
                    have hBS := HBS.out
                    generalize ((((World.setCell _ _ _).setCell _ _).setCell _ _).setCell _ _).setCell _ _ = W5 at e0 e1 e2 e3 e4 hBS ⊢
                    exact bodyPost_ret (v := parseV 0 0 0 0 0 180) (by unfold parseV insV; simp [results, Tryz.results75, go_sem, e0, e1, e2, e3, e4]) rfl ⟨HERR.out HNO.out, hBS⟩
          · have hlb := HLS.out
            have HNO := Lib.hid (show ∀ op a b c m, ¬ IsT s op a b c m from fun op a b c m h => by
              have hT := HSEEN.out _ _ _ _ _ h
              have h1 := (HST.out _ _ _ _ _ hT).1
              have h2 := hT.len
              rw [← h1, ← hl] at h2
              exact hlen h2)
            have en : ((L.length : Int) + 1 != (l.size : Int) + 1) = true := by rw [bne, beq_eq_false_iff_ne.2 (by omega)]; rfl
            clear HST HKB hl HLS
            have hBs := hP.bel
            have hq := hP.res.set 0 0 0 0 0
            have hBS : Below w.heap.size w _ := ((((hBs.setCell (p := ⟨w.heap.size, 0, none⟩) (Nat.le_refl _) (.int .i64 0)).setCell (p := ⟨w.heap.size, 1, none⟩) (Nat.le_refl _) (.int .i64 0)).setCell (p := ⟨w.heap.size, 2, none⟩) (Nat.le_refl _) (.int .i64 0)).setCell (p := ⟨w.heap.size, 3, none⟩) (Nat.le_refl _) (.int .i64 0)).setCell (p := ⟨w.heap.size, 4, none⟩) (Nat.le_refl _) (.int .u32 0)
            have HQ := Lib.hid hq
            have HBS := Lib.hid hBS
            obtain ⟨r0, r1, r2, r3, r4, rf1, rf2, rf3, rf4⟩ := hP.res
            dsimp only at r1 r2 r3 r4
            have rf0 := hP.f0
            clear hq hBS hBs
            go_wp2_with fail
            obtain ⟨e0, e1, e2, e3, e4, _, _, _, _⟩ := HQ.out
            have hBS := HBS.out
            generalize ((((World.setCell _ _ _).setCell _ _).setCell _ _).setCell _ _).setCell _ _ = W5 at e0 e1 e2 e3 e4 hBS ⊢
            exact bodyPost_ret (v := parseV 0 0 0 0 0 180) (by unfold parseV insV; simp [results, Tryz.results75, go_sem, e0, e1, e2, e3, e4]) rfl ⟨HERR.out HNO.out, hBS⟩
end Go.Proofs.YtfnfcngkaepnjaaGreatDoor
