/- Joined texts: The reference of layer 8: Text. -/
import Derived.Test.YtfnfcngkaepnjaaGreatDoorQL26
import Derived.Deep.RegionHeld3
/- The reference of layer 8: Text. -/
namespace Go.Proofs.YtfnfcngkaepnjaaGreatDoor
set_option linter.unusedVariables false
set_option linter.unusedSimpArgs false
open Go Go.Proofs Go.RowKit

theorem ita (n : Int) (h : 0 ≤ n) : Lib.itoa n = Lib.decDigits n.toNat := by
  obtain ⟨k, rfl⟩ := Int.eq_ofNat_of_zero_le h
  rw [Lib.itoa_nonneg]; rfl
theorem wordR_at (op : Int) (h : 1 ≤ op ∧ op ≤ 19) : wordRL[op.toNat - 1]? = some (wordN op.toNat) := by
  obtain ⟨k, rfl⟩ : ∃ k : Nat, op = (k : Int) + 1 := ⟨(op - 1).toNat, by omega⟩
  have h0 : ∀ k : Nat, k < 19 → wordRL[k]? = some (wordN (k + 1)) := by decide +kernel
  have := h0 k (by omega)
  rwa [show ((k : Int) + 1).toNat - 1 = k by omega, show ((k : Int) + 1).toNat = k + 1 by omega]

theorem dec_len32 (m : Int) (hm : 0 ≤ m ∧ m < 4294967296) : (Lib.decDigits m.toNat).length ≤ 20 := by
  have n1 := Lib.nDigits_le20 m.toNat (by omega)
  rwa [← Lib.decDigits_length] at n1
theorem letT_len (x : Nat) (a b c m : Int) (ha : 0 ≤ a ∧ a < 4294967296) (hb : 0 ≤ b ∧ b < 4294967296) (hc : 0 ≤ c ∧ c < 4294967296) (hm : 0 ≤ m ∧ m < 4294967296) : (letT x a b c m).length ≤ 25 := by
  have l1 := dec_len32 a ha
  have l2 := dec_len32 b hb
  have l3 := dec_len32 c hc
  have l4 := dec_len32 m hm
  unfold letT
  repeat' split
  all_goals simp only [List.length_append, List.length_cons, List.length_nil]
  all_goals omega

set_option maxRecDepth 100000 in
set_option maxHeartbeats 8000000 in
theorem rText_any (op a b c m : Int) (hm : 0 ≤ m ∧ m < 4294967296) (hr : rightF op a b c m = true) (w : World) (hE : Env w) :
    Calls Tryz.prog 72 #[insV op a b c m] w fun e w' => e = .returned (.string ⟨(textF op a b c m).toArray⟩) ∧ Below w.heap.size w w' := by
  obtain ⟨h19, h3m⟩ := right_op hr
  obtain ⟨_, ha, hb, hc⟩ := rightF_bd hr
  have hab : 0 ≤ a ∧ 0 ≤ b ∧ 0 ≤ c := ⟨by omega, by omega, by omega⟩
  have HT := Lib.hid (textR_F op a b c m h19).symm
  unfold textR at HT
  have HX := Lib.hid (insN_small op m)
  have hs := namesR_size op
  have CN := Lib.hid fun W => rNames_any op W
  generalize namesR op = t at hs CN HT
  obtain ⟨bs, hL⟩ : ∃ bs, bs = t.data.toList := ⟨_, rfl⟩
  have hLn : bs.length = t.size := by rw [hL, Lib.size_eq]
  have hat : ∀ k (h : k < t.size), t[k]'h = bs[k]'(by omega) := fun k h => by subst hL; exact bytes_at t k h
  rw [← hL] at HT
  clear hL
  have HAT := Lib.hid hat
  have hLn := Lib.hid hLn
  have CW := Lib.hid fun W => rWords19 W
  have HW := Lib.hid (wordR_at op h19)
  generalize wordRL = WL at CW HW
  clear hat hr
  have hI := Bare.new op a b c m w 29
  have hB : Below w.heap.size w (w.alloc (.cells #[.int .i64 op, .int .i64 a, .int .i64 b, .int .i64 c, .int .u32 m] 29)) := bel1 _
  have hw1 : IntKind.i64.wrap (op - 1) = op - 1 := by rw [IntKind.wrap_i64]; omega
  have b0 : (0 : Int) ≤ op - 1 := by omega
  have b0' : 1 ≤ op := by omega
  have b1 : op - 1 < 19 := by omega
  unfold insV
  go_enter Tryz.func72, Tryz.ntmps72
  go_wp2_with fail
  refine (CW.out _).mono ?_
  rintro e w1 ⟨Bw, rfl, hRw, hb1⟩
  have hI := hI.bel hb1
  have hB := belT hB hb1
  have x0 := hRw _ _ HW.out
  clear hRw hb1 CW
  by_cases hop : op = 3
  · have HI := Lib.hid (show insN op m = kindN (m - 1).toNat from if_pos hop)
    have k1 := h3m hop
    have CK := Lib.hid fun W => rKinds12 W
    have HK := Lib.hid (show kindL[m.toNat - 1]? = some (kindN (m - 1).toNat) by rw [show m.toNat - 1 = (m - 1).toNat by omega]; exact kindN_at (m - 1).toNat (by omega))
    generalize kindL = KL at CK HK
    have hw2 : IntKind.i64.wrap (m - 1) = m - 1 := by rw [IntKind.wrap_i64]; omega
    have hwm : IntKind.i64.wrap m = m := by rw [IntKind.wrap_i64]; omega
    have d0 : (0 : Int) ≤ m - 1 := by omega
    have d0' : 1 ≤ m := by omega
    have d1 : m - 1 < 12 := by omega
    have e3 : (op == 3) = true := by rw [hop]; rfl
    have HOP := Lib.hid hop
    generalize insN op m = X at HI HT HX
    clear hop h3m
    rw [← HI.out] at HK
    go_wp2_with fail
    have HID := Lib.hid hI.drew
    have HBD := Lib.hid hB.drew
    have i4 : w1.drew.cell? ⟨w.heap.size, 4, none⟩ = some (.int .u32 m) := hI.c4
    clear hI hB x0 HW
    go_region_with (go_at_call 135; refine (CK.out _).mono ?_; rintro e w2 ⟨Bk, rfl, hRk, hb2⟩; have i4 := cell_bel (w := w1.drew) i4 hb2; have y0 := hRk _ _ HK.out)
    all_goals
      clear i4 y0
      have hI := HID.out.bel hb2
      have hB := belT HBD.out hb2
      clear HID HBD hRk hb2 CK HK
      go_wp2_with fail
      refine (CN.out _).mono ?_
      rintro e w3 ⟨rfl, hb3⟩
      have hI := hI.bel hb3
      have hB := belT hB hb3
      clear hb3
      go_wp2_with fail
      go_loopw [4, 6] (fun vs vi wr => ∃ k : Nat, vi = .int .i64 k ∧ k ≤ t.size ∧ vs = .string ⟨(X.data.toList ++ (bs.take k).flatMap fun x => letT x.toNat a b c m).toArray⟩ ∧ Bare w.heap.size op (a, b, c, m) wr ∧ Below w.heap.size w wr ∧ (X.data.toList ++ (bs.take k).flatMap fun x => letT x.toNat a b c m).length ≤ 20 + 25 * k) (fun _ vi _ => t.size - (intOf vi).toNat)
      case atStart => exact ⟨0, rfl, by omega, by simp, hI, hB, by simp only [List.take_zero, List.flatMap_nil, List.append_nil, List.length_append, List.length_nil]; rw [← Lib.size_eq]; have := HX.out; omega⟩
      case round =>
        obtain ⟨k, rfl, hk, rfl, hI, hB, hPl⟩ := hrel
        by_cases hkn : k < t.size
        · have hx := HAT.out k hkn
          have hbk : k < bs.length := by have := hLn.out; omega
          have htk : bs.take (k + 1) = bs.take k ++ [bs[k]] := by rw [List.take_append_getElem hbk]
          generalize bs[k] = x at hx htk
          have HTK := Lib.hid (show X.data.toList ++ (bs.take (k + 1)).flatMap (fun x => letT x.toNat a b c m) = (X.data.toList ++ (bs.take k).flatMap fun x => letT x.toNat a b c m) ++ letT x.toNat a b c m by rw [htk, List.flatMap_append, List.append_assoc]; simp)
          clear htk hbk
          have hL1 := letT_len x.toNat a b c m ⟨ha.1, by omega⟩ ⟨hb.1, by omega⟩ ⟨hc.1, by omega⟩ hm
          have HPL := Lib.hid (show (X.data.toList ++ (bs.take (k + 1)).flatMap (fun x => letT x.toNat a b c m)).length ≤ 20 + 25 * (k + 1) by rw [HTK.out, List.length_append]; omega)
          clear hL1
          generalize (X.data.toList ++ (bs.take k).flatMap fun x => letT x.toNat a b c m) = P at HTK hPl ⊢
          obtain ⟨i0, i1, i2, i3, i4, _, _, _, _⟩ := id hI
          dsimp only at i1 i2 i3 i4
          by_cases h1 : x.toNat = 97
          · have e1 : ((x.toNat : Int) == 97) = true := by rw [h1]; rfl
            have HL := Lib.hid (congrArg (fun n => letT n a b c m) h1)
            clear h1
            have ld := Lib.itoa_length_le a (by omega) (by omega)
            have n1 : ¬ 9223372036854775807 < P.length + 2 := by omega
            have n2 : ¬ 9223372036854775807 < P.length + 2 + (Lib.itoa a).length := by omega
            go_wp2_with fail
            refine (itoa_any a (by omega) (by omega) _ (hE.on hB)).mono ?_
            rintro e w5 ⟨rfl, hb5⟩
            have hI := hI.bel hb5
            have hB := belT hB hb5
            clear i0 i1 i2 i3 i4
            go_wp2_with fail
            refine ⟨⟨k + 1, by go_num, by omega, ?_, hI, hB, HPL.out⟩, by simp [intOf]; omega⟩
            rw [HTK.out, HL.out]
            congr 1
            apply ByteArray.ext
            apply Array.toList_inj.1
            simp only [ByteArray.data_append, Array.toList_append, letT, if_pos, if_neg, ita _ hab.1, ita _ hab.2.1, ita _ hab.2.2, List.append_assoc]
            try rfl
          · have e1 : ((x.toNat : Int) == 97) = false := beq_eq_false_iff_ne.2 (by omega)
            by_cases h2 : x.toNat = 98
            · have e2 : ((x.toNat : Int) == 98) = true := by rw [h2]; rfl
              have HL := Lib.hid (congrArg (fun n => letT n a b c m) h2)
              clear h2 h1
              have ld := Lib.itoa_length_le b (by omega) (by omega)
              have n1 : ¬ 9223372036854775807 < P.length + 2 := by omega
              have n2 : ¬ 9223372036854775807 < P.length + 2 + (Lib.itoa b).length := by omega
              go_wp2_with fail
              refine (itoa_any b (by omega) (by omega) _ (hE.on hB)).mono ?_
              rintro e w5 ⟨rfl, hb5⟩
              have hI := hI.bel hb5
              have hB := belT hB hb5
              clear i0 i1 i2 i3 i4
              go_wp2_with fail
              refine ⟨⟨k + 1, by go_num, by omega, ?_, hI, hB, HPL.out⟩, by simp [intOf]; omega⟩
              rw [HTK.out, HL.out]
              congr 1
              apply ByteArray.ext
              apply Array.toList_inj.1
              simp only [ByteArray.data_append, Array.toList_append, letT, if_pos, if_neg, ita _ hab.1, ita _ hab.2.1, ita _ hab.2.2, List.append_assoc]
              try rfl
            · have e2 : ((x.toNat : Int) == 98) = false := beq_eq_false_iff_ne.2 (by omega)
              by_cases h3 : x.toNat = 99
              · have e3 : ((x.toNat : Int) == 99) = true := by rw [h3]; rfl
                have HL := Lib.hid (congrArg (fun n => letT n a b c m) h3)
                clear h3 h2 h1
                have ld := Lib.itoa_length_le c (by omega) (by omega)
                have n1 : ¬ 9223372036854775807 < P.length + 2 := by omega
                have n2 : ¬ 9223372036854775807 < P.length + 2 + (Lib.itoa c).length := by omega
                go_wp2_with fail
                refine (itoa_any c (by omega) (by omega) _ (hE.on hB)).mono ?_
                rintro e w5 ⟨rfl, hb5⟩
                have hI := hI.bel hb5
                have hB := belT hB hb5
                clear i0 i1 i2 i3 i4
                go_wp2_with fail
                refine ⟨⟨k + 1, by go_num, by omega, ?_, hI, hB, HPL.out⟩, by simp [intOf]; omega⟩
                rw [HTK.out, HL.out]
                congr 1
                apply ByteArray.ext
                apply Array.toList_inj.1
                simp only [ByteArray.data_append, Array.toList_append, letT, if_pos, if_neg, ita _ hab.1, ita _ hab.2.1, ita _ hab.2.2, List.append_assoc]
                try rfl
              · have e3 : ((x.toNat : Int) == 99) = false := beq_eq_false_iff_ne.2 (by omega)
                by_cases h4 : x.toNat = 110
                · have e4 : ((x.toNat : Int) == 110) = true := by rw [h4]; rfl
                  have HL := Lib.hid (congrArg (fun n => letT n a b c m) h4)
                  clear h4 h3 h2 h1
                  have ld := Lib.itoa_length_le c (by omega) (by omega)
                  have n1 : ¬ 9223372036854775807 < P.length + 1 := by omega
                  have n2 : ¬ 9223372036854775807 < P.length + 1 + (Lib.itoa c).length := by omega
                  go_wp2_with fail
                  refine (itoa_any c (by omega) (by omega) _ (hE.on hB)).mono ?_
                  rintro e w5 ⟨rfl, hb5⟩
                  have hI := hI.bel hb5
                  have hB := belT hB hb5
                  clear i0 i1 i2 i3 i4
                  go_wp2_with fail
                  refine ⟨⟨k + 1, by go_num, by omega, ?_, hI, hB, HPL.out⟩, by simp [intOf]; omega⟩
                  rw [HTK.out, HL.out]
                  congr 1
                  apply ByteArray.ext
                  apply Array.toList_inj.1
                  simp only [ByteArray.data_append, Array.toList_append, letT, if_pos, if_neg, ita _ hab.1, ita _ hab.2.1, ita _ hab.2.2, List.append_assoc]
                  try rfl
                · have e4 : ((x.toNat : Int) == 110) = false := beq_eq_false_iff_ne.2 (by omega)
                  by_cases h5 : x.toNat = 105
                  · have e5 : ((x.toNat : Int) == 105) = true := by rw [h5]; rfl
                    have HL := Lib.hid (congrArg (fun n => letT n a b c m) h5)
                    clear h5 h4 h3 h2 h1
                    have ld := dec_len32 m hm
                    have n1 : ¬ 9223372036854775807 < P.length + 1 := by omega
                    have n2 : ¬ 9223372036854775807 < P.length + 1 + (Lib.decDigits m.toNat).length := by omega
                    go_wp2_with fail
                    refine (formatUint_any m (by omega) (by omega) _ (hE.on hB)).mono ?_
                    rintro e w5 ⟨rfl, hb5⟩
                    have hI := hI.bel hb5
                    have hB := belT hB hb5
                    clear i0 i1 i2 i3 i4
                    go_wp2_with fail
                    refine ⟨⟨k + 1, by go_num, by omega, ?_, hI, hB, HPL.out⟩, by simp [intOf]; omega⟩
                    rw [HTK.out, HL.out]
                    congr 1
                    apply ByteArray.ext
                    apply Array.toList_inj.1
                    simp only [ByteArray.data_append, Array.toList_append, letT, if_pos, if_neg, ita _ hab.1, ita _ hab.2.1, ita _ hab.2.2, List.append_assoc]
                    try rfl
                  · have e5 : ((x.toNat : Int) == 105) = false := beq_eq_false_iff_ne.2 (by omega)
                    by_cases h6 : x.toNat = 102
                    · have e6 : ((x.toNat : Int) == 102) = true := by rw [h6]; rfl
                      have HL := Lib.hid (congrArg (fun n => letT n a b c m) h6)
                      clear h6 h5 h4 h3 h2 h1
                      have ld := dec_len32 m hm
                      have n1 : ¬ 9223372036854775807 < P.length + 2 := by omega
                      have n2 : ¬ 9223372036854775807 < P.length + 2 + (Lib.decDigits m.toNat).length := by omega
                      go_wp2_with fail
                      refine (formatUint_any m (by omega) (by omega) _ (hE.on hB)).mono ?_
                      rintro e w5 ⟨rfl, hb5⟩
                      have hI := hI.bel hb5
                      have hB := belT hB hb5
                      clear i0 i1 i2 i3 i4
                      go_wp2_with fail
                      refine ⟨⟨k + 1, by go_num, by omega, ?_, hI, hB, HPL.out⟩, by simp [intOf]; omega⟩
                      rw [HTK.out, HL.out]
                      congr 1
                      apply ByteArray.ext
                      apply Array.toList_inj.1
                      simp only [ByteArray.data_append, Array.toList_append, letT, if_pos, if_neg, ita _ hab.1, ita _ hab.2.1, ita _ hab.2.2, List.append_assoc]
                      try rfl
                    · have e6 : ((x.toNat : Int) == 102) = false := beq_eq_false_iff_ne.2 (by omega)
                      have HL := Lib.hid (show letT x.toNat a b c m = [] by unfold letT; rw [if_neg h1, if_neg h2, if_neg h3, if_neg h4, if_neg h5, if_neg h6])
                      clear h6 h5 h4 h3 h2 h1 i0 i1 i2 i3 i4
                      go_wp2_with fail
                      refine ⟨⟨k + 1, by go_num, by omega, ?_, hI, hB, HPL.out⟩, by simp [intOf]; omega⟩
                      rw [HTK.out, HL.out, List.append_nil]
        · have hk2 : k = t.size := by omega
          clear hPl
          have HF := Lib.hid (show X.data.toList ++ (bs.take k).flatMap (fun x => letT x.toNat a b c m) = textF op a b c m by
            rw [HT.out, List.take_of_length_le (by have := hLn.out; omega)])
          generalize (X.data.toList ++ (bs.take k).flatMap fun x => letT x.toNat a b c m) = P at HF ⊢
          subst hk2
          go_wp2
          go_ret
          exact ⟨by rw [HF.out]; rfl, hB⟩
  · have HI := Lib.hid (show insN op m = wordN op.toNat from if_neg hop)
    have e3 : (op == 3) = false := beq_eq_false_iff_ne.2 hop
    generalize insN op m = X at HI HT HX
    rw [← HI.out] at x0
    clear hop h3m
    go_wp2_with fail
    clear x0 HI HW
    refine (CN.out _).mono ?_
    rintro e w3 ⟨rfl, hb3⟩
    have hI := hI.bel hb3
    have hB := belT hB hb3
    clear hb3
    go_wp2_with fail
    go_loopw [4, 6] (fun vs vi wr => ∃ k : Nat, vi = .int .i64 k ∧ k ≤ t.size ∧ vs = .string ⟨(X.data.toList ++ (bs.take k).flatMap fun x => letT x.toNat a b c m).toArray⟩ ∧ Bare w.heap.size op (a, b, c, m) wr ∧ Below w.heap.size w wr ∧ (X.data.toList ++ (bs.take k).flatMap fun x => letT x.toNat a b c m).length ≤ 20 + 25 * k) (fun _ vi _ => t.size - (intOf vi).toNat)
    case atStart => exact ⟨0, rfl, by omega, by simp, hI, hB, by simp only [List.take_zero, List.flatMap_nil, List.append_nil, List.length_append, List.length_nil]; rw [← Lib.size_eq]; have := HX.out; omega⟩
    case round =>
      obtain ⟨k, rfl, hk, rfl, hI, hB, hPl⟩ := hrel
      by_cases hkn : k < t.size
      · have hx := HAT.out k hkn
        have hbk : k < bs.length := by have := hLn.out; omega
        have htk : bs.take (k + 1) = bs.take k ++ [bs[k]] := by rw [List.take_append_getElem hbk]
        generalize bs[k] = x at hx htk
        have HTK := Lib.hid (show X.data.toList ++ (bs.take (k + 1)).flatMap (fun x => letT x.toNat a b c m) = (X.data.toList ++ (bs.take k).flatMap fun x => letT x.toNat a b c m) ++ letT x.toNat a b c m by rw [htk, List.flatMap_append, List.append_assoc]; simp)
        clear htk hbk
        have hL1 := letT_len x.toNat a b c m ⟨ha.1, by omega⟩ ⟨hb.1, by omega⟩ ⟨hc.1, by omega⟩ hm
        have HPL := Lib.hid (show (X.data.toList ++ (bs.take (k + 1)).flatMap (fun x => letT x.toNat a b c m)).length ≤ 20 + 25 * (k + 1) by rw [HTK.out, List.length_append]; omega)
        clear hL1
        generalize (X.data.toList ++ (bs.take k).flatMap fun x => letT x.toNat a b c m) = P at HTK hPl ⊢
        obtain ⟨i0, i1, i2, i3, i4, _, _, _, _⟩ := id hI
        dsimp only at i1 i2 i3 i4
        by_cases h1 : x.toNat = 97
        · have e1 : ((x.toNat : Int) == 97) = true := by rw [h1]; rfl
          have HL := Lib.hid (congrArg (fun n => letT n a b c m) h1)
          clear h1
          have ld := Lib.itoa_length_le a (by omega) (by omega)
          have n1 : ¬ 9223372036854775807 < P.length + 2 := by omega
          have n2 : ¬ 9223372036854775807 < P.length + 2 + (Lib.itoa a).length := by omega
          go_wp2_with fail
          refine (itoa_any a (by omega) (by omega) _ (hE.on hB)).mono ?_
          rintro e w5 ⟨rfl, hb5⟩
          have hI := hI.bel hb5
          have hB := belT hB hb5
          clear i0 i1 i2 i3 i4
          go_wp2_with fail
          refine ⟨⟨k + 1, by go_num, by omega, ?_, hI, hB, HPL.out⟩, by simp [intOf]; omega⟩
          rw [HTK.out, HL.out]
          congr 1
          apply ByteArray.ext
          apply Array.toList_inj.1
          simp only [ByteArray.data_append, Array.toList_append, letT, if_pos, if_neg, ita _ hab.1, ita _ hab.2.1, ita _ hab.2.2, List.append_assoc]
          try rfl
        · have e1 : ((x.toNat : Int) == 97) = false := beq_eq_false_iff_ne.2 (by omega)
          by_cases h2 : x.toNat = 98
          · have e2 : ((x.toNat : Int) == 98) = true := by rw [h2]; rfl
            have HL := Lib.hid (congrArg (fun n => letT n a b c m) h2)
            clear h2 h1
            have ld := Lib.itoa_length_le b (by omega) (by omega)
            have n1 : ¬ 9223372036854775807 < P.length + 2 := by omega
            have n2 : ¬ 9223372036854775807 < P.length + 2 + (Lib.itoa b).length := by omega
            go_wp2_with fail
            refine (itoa_any b (by omega) (by omega) _ (hE.on hB)).mono ?_
            rintro e w5 ⟨rfl, hb5⟩
            have hI := hI.bel hb5
            have hB := belT hB hb5
            clear i0 i1 i2 i3 i4
            go_wp2_with fail
            refine ⟨⟨k + 1, by go_num, by omega, ?_, hI, hB, HPL.out⟩, by simp [intOf]; omega⟩
            rw [HTK.out, HL.out]
            congr 1
            apply ByteArray.ext
            apply Array.toList_inj.1
            simp only [ByteArray.data_append, Array.toList_append, letT, if_pos, if_neg, ita _ hab.1, ita _ hab.2.1, ita _ hab.2.2, List.append_assoc]
            try rfl
          · have e2 : ((x.toNat : Int) == 98) = false := beq_eq_false_iff_ne.2 (by omega)
            by_cases h3 : x.toNat = 99
            · have e3 : ((x.toNat : Int) == 99) = true := by rw [h3]; rfl
              have HL := Lib.hid (congrArg (fun n => letT n a b c m) h3)
              clear h3 h2 h1
              have ld := Lib.itoa_length_le c (by omega) (by omega)
              have n1 : ¬ 9223372036854775807 < P.length + 2 := by omega
              have n2 : ¬ 9223372036854775807 < P.length + 2 + (Lib.itoa c).length := by omega
              go_wp2_with fail
              refine (itoa_any c (by omega) (by omega) _ (hE.on hB)).mono ?_
              rintro e w5 ⟨rfl, hb5⟩
              have hI := hI.bel hb5
              have hB := belT hB hb5
              clear i0 i1 i2 i3 i4
              go_wp2_with fail
              refine ⟨⟨k + 1, by go_num, by omega, ?_, hI, hB, HPL.out⟩, by simp [intOf]; omega⟩
              rw [HTK.out, HL.out]
              congr 1
              apply ByteArray.ext
              apply Array.toList_inj.1
              simp only [ByteArray.data_append, Array.toList_append, letT, if_pos, if_neg, ita _ hab.1, ita _ hab.2.1, ita _ hab.2.2, List.append_assoc]
              try rfl
            · have e3 : ((x.toNat : Int) == 99) = false := beq_eq_false_iff_ne.2 (by omega)
              by_cases h4 : x.toNat = 110
              · have e4 : ((x.toNat : Int) == 110) = true := by rw [h4]; rfl
                have HL := Lib.hid (congrArg (fun n => letT n a b c m) h4)
                clear h4 h3 h2 h1
                have ld := Lib.itoa_length_le c (by omega) (by omega)
                have n1 : ¬ 9223372036854775807 < P.length + 1 := by omega
                have n2 : ¬ 9223372036854775807 < P.length + 1 + (Lib.itoa c).length := by omega
                go_wp2_with fail
                refine (itoa_any c (by omega) (by omega) _ (hE.on hB)).mono ?_
                rintro e w5 ⟨rfl, hb5⟩
                have hI := hI.bel hb5
                have hB := belT hB hb5
                clear i0 i1 i2 i3 i4
                go_wp2_with fail
                refine ⟨⟨k + 1, by go_num, by omega, ?_, hI, hB, HPL.out⟩, by simp [intOf]; omega⟩
                rw [HTK.out, HL.out]
                congr 1
                apply ByteArray.ext
                apply Array.toList_inj.1
                simp only [ByteArray.data_append, Array.toList_append, letT, if_pos, if_neg, ita _ hab.1, ita _ hab.2.1, ita _ hab.2.2, List.append_assoc]
                try rfl
              · have e4 : ((x.toNat : Int) == 110) = false := beq_eq_false_iff_ne.2 (by omega)
                by_cases h5 : x.toNat = 105
                · have e5 : ((x.toNat : Int) == 105) = true := by rw [h5]; rfl
                  have HL := Lib.hid (congrArg (fun n => letT n a b c m) h5)
                  clear h5 h4 h3 h2 h1
                  have ld := dec_len32 m hm
                  have n1 : ¬ 9223372036854775807 < P.length + 1 := by omega
                  have n2 : ¬ 9223372036854775807 < P.length + 1 + (Lib.decDigits m.toNat).length := by omega
                  go_wp2_with fail
                  refine (formatUint_any m (by omega) (by omega) _ (hE.on hB)).mono ?_
                  rintro e w5 ⟨rfl, hb5⟩
                  have hI := hI.bel hb5
                  have hB := belT hB hb5
                  clear i0 i1 i2 i3 i4
                  go_wp2_with fail
                  refine ⟨⟨k + 1, by go_num, by omega, ?_, hI, hB, HPL.out⟩, by simp [intOf]; omega⟩
                  rw [HTK.out, HL.out]
                  congr 1
                  apply ByteArray.ext
                  apply Array.toList_inj.1
                  simp only [ByteArray.data_append, Array.toList_append, letT, if_pos, if_neg, ita _ hab.1, ita _ hab.2.1, ita _ hab.2.2, List.append_assoc]
                  try rfl
                · have e5 : ((x.toNat : Int) == 105) = false := beq_eq_false_iff_ne.2 (by omega)
                  by_cases h6 : x.toNat = 102
                  · have e6 : ((x.toNat : Int) == 102) = true := by rw [h6]; rfl
                    have HL := Lib.hid (congrArg (fun n => letT n a b c m) h6)
                    clear h6 h5 h4 h3 h2 h1
                    have ld := dec_len32 m hm
                    have n1 : ¬ 9223372036854775807 < P.length + 2 := by omega
                    have n2 : ¬ 9223372036854775807 < P.length + 2 + (Lib.decDigits m.toNat).length := by omega
                    go_wp2_with fail
                    refine (formatUint_any m (by omega) (by omega) _ (hE.on hB)).mono ?_
                    rintro e w5 ⟨rfl, hb5⟩
                    have hI := hI.bel hb5
                    have hB := belT hB hb5
                    clear i0 i1 i2 i3 i4
                    go_wp2_with fail
                    refine ⟨⟨k + 1, by go_num, by omega, ?_, hI, hB, HPL.out⟩, by simp [intOf]; omega⟩
                    rw [HTK.out, HL.out]
                    congr 1
                    apply ByteArray.ext
                    apply Array.toList_inj.1
                    simp only [ByteArray.data_append, Array.toList_append, letT, if_pos, if_neg, ita _ hab.1, ita _ hab.2.1, ita _ hab.2.2, List.append_assoc]
                    try rfl
                  · have e6 : ((x.toNat : Int) == 102) = false := beq_eq_false_iff_ne.2 (by omega)
                    have HL := Lib.hid (show letT x.toNat a b c m = [] by unfold letT; rw [if_neg h1, if_neg h2, if_neg h3, if_neg h4, if_neg h5, if_neg h6])
                    clear h6 h5 h4 h3 h2 h1 i0 i1 i2 i3 i4
                    go_wp2_with fail
                    refine ⟨⟨k + 1, by go_num, by omega, ?_, hI, hB, HPL.out⟩, by simp [intOf]; omega⟩
                    rw [HTK.out, HL.out, List.append_nil]
      · have hk2 : k = t.size := by omega
        clear hPl
        have HF := Lib.hid (show X.data.toList ++ (bs.take k).flatMap (fun x => letT x.toNat a b c m) = textF op a b c m by
          rw [HT.out, List.take_of_length_le (by have := hLn.out; omega)])
        generalize (X.data.toList ++ (bs.take k).flatMap fun x => letT x.toNat a b c m) = P at HF ⊢
        subst hk2
        go_wp2
        go_ret
        exact ⟨by rw [HF.out]; rfl, hB⟩
end Go.Proofs.YtfnfcngkaepnjaaGreatDoor
