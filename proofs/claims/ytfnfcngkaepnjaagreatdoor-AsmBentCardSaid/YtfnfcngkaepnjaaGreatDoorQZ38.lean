/- Joined texts: Layer 11: works, plain: what the chapter's rows give.; The reference of layer 11: headed; place.; Layer 11: num, works, walked.; Reference 09: Right, At. -/
import Derived.Test.YtfnfcngkaepnjaaGreatDoorQZ37
import Derived.Test.YtfnfcngkaepnjaaGreatDoorQZ19
import Derived.Test.YtfnfcngkaepnjaaGreatDoorQZ35
import Derived.Test.YtfnfcngkaepnjaaGreatDoorQZ22
/- Layer 11: works, plain: what the chapter's rows give. -/
namespace Go.Proofs.YtfnfcngkaepnjaaGreatDoor
set_option linter.unusedVariables false
set_option linter.unusedSimpArgs false
open Go Go.Proofs Go.RowKit Go.Sort

theorem itoa0 : Lib.itoa 0 = [48] := by simp [Lib.itoa, Lib.decDigits]
theorem itoa1 : Lib.itoa 1 = [49] := by simp [Lib.itoa, Lib.decDigits]
theorem dec0 : Lib.decDigits 0 = [48] := by simp [Lib.decDigits]
theorem text_ret : textF 9 0 0 0 0 = [114, 101, 116, 117, 114, 110, 32, 114, 48] := by
  unfold textF textL
  rw [show textP ((namedL.lookup 9).getD []) = [pA] from rfl]
  simp only [List.map_cons, List.map_nil]
  rw [partT_of (p := pA) (n := 0) (by decide) dec0]
  decide +kernel
theorem text_load : textF 6 0 1 0 0 = [108, 111, 97, 100, 32, 114, 48, 32, 114, 49] := by
  unfold textF textL
  rw [show textP ((namedL.lookup 6).getD []) = [pA, pB] from rfl]
  simp only [List.map_cons, List.map_nil]
  rw [partT_of (p := pA) (n := 0) (by decide) dec0, partT_of (p := pB) (n := 1) (by decide) dec1]
  decide +kernel

theorem numO_of {word s : ByteArray} (n : Int) (h0 : 0 ≤ n) (h1 : n ≤ 999) (h : s = lineF word n) : numO word s = some n := numO_yes ⟨fun _ => ⟨h0, h1, h⟩, fun h => by cases h⟩
theorem line_of (word : ByteArray) (n : Int) (l : List UInt8) (s : ByteArray) (hl : Lib.itoa n = l) (h : s = word ++ ⟨#[32]⟩ ++ ⟨l.toArray⟩) : s = lineF word n := by
  unfold lineF
  rw [hl]
  exact h

abbrev sM1 : ByteArray := ⟨#[109, 117, 116, 101, 120, 101, 115, 32, 49]⟩
abbrev sM0 : ByteArray := ⟨#[109, 117, 116, 101, 120, 101, 115, 32, 48]⟩
abbrev sRx : ByteArray := ⟨#[114, 119, 108, 111, 99, 107, 115, 32, 120]⟩
abbrev sR0 : ByteArray := ⟨#[114, 119, 108, 111, 99, 107, 115, 32, 48]⟩
abbrev sG0 : ByteArray := ⟨#[103, 114, 111, 117, 112, 115, 32, 48]⟩
abbrev sF1 : ByteArray := ⟨#[102, 117, 110, 99, 32, 49]⟩
abbrev sLd : ByteArray := ⟨#[108, 111, 97, 100, 32, 114, 48, 32, 114, 49]⟩
abbrev sRt : ByteArray := ⟨#[114, 101, 116, 117, 114, 110, 32, 114, 48]⟩
abbrev tx1 : ByteArray := ⟨#[109, 117, 116, 101, 120, 101, 115, 32, 49, 10, 114, 119, 108, 111, 99, 107, 115, 32, 48, 10, 103, 114, 111, 117, 112, 115, 32, 48, 10, 102, 117, 110, 99, 32, 49, 10, 114, 101, 116, 117, 114, 110, 32, 114, 48, 10]⟩
abbrev tx2 : ByteArray := ⟨#[109, 117, 116, 101, 120, 101, 115, 32, 49, 10, 114, 119, 108, 111, 99, 107, 115, 32, 120, 10]⟩
abbrev tx3 : ByteArray := ⟨#[109, 117, 116, 101, 120, 101, 115, 32, 48, 10, 114, 119, 108, 111, 99, 107, 115, 32, 48, 10, 103, 114, 111, 117, 112, 115, 32, 48, 10, 102, 117, 110, 99, 32, 49, 10, 108, 111, 97, 100, 32, 114, 48, 32, 114, 49, 10, 114, 101, 116, 117, 114, 110, 32, 114, 48, 10]⟩

theorem num_M1 : numO wMu sM1 = some 1 := numO_of 1 (by omega) (by omega) (line_of _ _ _ _ itoa1 rfl)
theorem num_M0 : numO wMu sM0 = some 0 := numO_of 0 (by omega) (by omega) (line_of _ _ _ _ itoa0 rfl)
theorem num_R0 : numO wRw sR0 = some 0 := numO_of 0 (by omega) (by omega) (line_of _ _ _ _ itoa0 rfl)
theorem num_G0 : numO wGr sG0 = some 0 := numO_of 0 (by omega) (by omega) (line_of _ _ _ _ itoa0 rfl)
theorem num_F1 : numO wFn sF1 = some 1 := numO_of 1 (by omega) (by omega) (line_of _ _ _ _ itoa1 rfl)
theorem num_Rx : numO wRw sRx = none := by
  refine numO_no (n := 0) ⟨fun h => (by cases h), fun _ m h0 h9 h => ?_⟩
  have h1 := trim_line wRw sRx m h0 h
  rw [show Lib.trimPrefix sRx.data.toList (wRw ++ ⟨#[32]⟩).data.toList = [120] from by decide +kernel] at h1
  have := (dec_digit m.toNat 120 (by rw [← h1]; simp)).2
  exact absurd this (by decide)
theorem ins_Ld : insO sLd = some ⟨6, 0, 1, 0, 0⟩ := insO_yes (x := ⟨6, 0, 1, 0, 0⟩) ⟨by decide, by decide +kernel, text_load⟩
theorem ins_Rt : insO sRt = some ⟨9, 0, 0, 0, 0⟩ := insO_yes (x := ⟨9, 0, 0, 0, 0⟩) ⟨by decide, by decide +kernel, text_ret⟩

theorem lns_2 : lnsO (nlF tx2) = [sM1, sRx] ∧ endO (nlF tx2) = true := by
  rw [show nlF tx2 = [sM1, sRx, ⟨#[]⟩] from by decide +kernel]
  exact ⟨by decide +kernel, by decide +kernel⟩
theorem lns_3 : lnsO (nlF tx3) = [sM0, sR0, sG0, sF1, sLd, sRt] ∧ endO (nlF tx3) = true := by
  rw [show nlF tx3 = [sM0, sR0, sG0, sF1, sLd, sRt, ⟨#[]⟩] from by decide +kernel]
  exact ⟨by decide +kernel, by decide +kernel⟩
theorem read_2 : readO [sM1, sRx] true = .error 1 := by
  unfold readO
  simp only [linesO, stepO, num_M1, num_Rx, Option.map_some, Option.map_none]
abbrev P3 : ProgM := ⟨[⟨1, [⟨6, 0, 1, 0, 0⟩, ⟨9, 0, 0, 0, 0⟩]⟩], 0, 0, 0⟩
theorem lines_3 : linesO 0 [sM0, sR0, sG0, sF1, sLd, sRt] zeroP = .ok P3 := by
  have f3 : isFn sF1 = true := by decide +kernel
  have f4 : isFn sLd = false := by decide +kernel
  have f5 : isFn sRt = false := by decide +kernel
  simp [linesO, stepO, num_M0, num_R0, num_G0, num_F1, ins_Ld, ins_Rt, f3, f4, f5, zeroP, pushF]
theorem wrong_3 : wrongP P3 = some (0, 0) := by
  unfold wrongP
  rw [show numbersF P3 = true from by decide +kernel, if_pos rfl]
  exact wrongF_some ⟨⟨_, _, rfl, rfl, by decide +kernel⟩, before_start _⟩
theorem read_3 : readO [sM0, sR0, sG0, sF1, sLd, sRt] true = .error 4 := by
  unfold readO
  rw [lines_3]
  simp only [wrong_3]
  rfl

abbrev P1 : ProgM := ⟨[⟨1, [⟨9, 0, 0, 0, 0⟩]⟩], 1, 0, 0⟩
theorem right_1 : rightP P1 = true := by
  unfold rightP
  rw [show numbersF P1 = true from by decide +kernel, wrongF_none]
  · rfl
  · intro f pc fn x h1 h2
    match f, h1 with
    | 0, h1 =>
      simp only [List.getElem?_cons_zero, Option.some.injEq] at h1
      subst h1
      match pc, h2 with
      | 0, h2 =>
        simp only [List.getElem?_cons_zero, Option.some.injEq] at h2
        subst h2
        decide +kernel
      | pc + 1, h2 => simp at h2
    | f + 1, h1 => simp at h1
theorem print_1 : printS P1 = tx1 := by
  unfold printS
  rw [if_pos right_1]
  have h : joinedF (linesF P1) = tx1.data.toList := by
    unfold linesF headLines fnLines insTx lineF
    simp only [List.flatMap_cons, List.flatMap_nil, List.map_cons, List.map_nil]
    rw [itoa0, itoa1, text_ret]
    decide +kernel
  rw [h]
end Go.Proofs.YtfnfcngkaepnjaaGreatDoor

/- The reference of layer 11: headed; place. -/
namespace Go.Proofs.YtfnfcngkaepnjaaGreatDoor
set_option linter.unusedVariables false
set_option linter.unusedSimpArgs false
open Go Go.Proofs Go.RowKit Go.Sort

def headV (o : Option Int) : Int := match o with | some n => n | none => -1
set_option maxRecDepth 100000 in
set_option maxHeartbeats 4000000 in
theorem rfHeaded_any (s word : ByteArray) (hw : word.size ≤ 1000) (w : World) (hE : Env w) :
    Calls Tryz.prog 74 #[.string s, .string word] w fun e w' => e = .returned (.int .i64 (headV (numO word s))) ∧ Below w.heap.size w w' := by
  have HE := Lib.hid hE
  clear hE
  go_enter Tryz.func74, Tryz.ntmps74
  go_wp2_with fail
  go_loopw [5] (fun vn wr => ∃ k : Nat, vn = .int .i64 k ∧ k ≤ 1000 ∧ Hid (∀ n : Int, 0 ≤ n → n < k → s ≠ lineF word n) ∧ Hid (Below w.heap.size w wr)) (fun vn _ => 1000 - (intOf vn).toNat)
  case atStart => exact ⟨0, rfl, by omega, Lib.hid (fun n h0 h1 => by omega), Lib.hid (Below.refl _ _)⟩
  case round =>
    obtain ⟨k, rfl, hk, HN, HB⟩ := hrel
    by_cases hlt : k < 1000
    · have CI := Lib.hid (itoa_any (k : Int) (by omega) (by omega) wr (HE.out.on HB.out))
      have ld := Lib.itoa_length_le (k : Int) (by omega) (by omega)
      have n1 : ¬ 9223372036854775807 < word.size + 1 := by omega
      have n2 : ¬ 9223372036854775807 < word.size + 1 + (Lib.itoa (k : Int)).length := by omega
      by_cases hs : s = lineF word k
      · have e1 : (s.toList == (word ++ ⟨#[32]⟩ ++ ⟨(Lib.itoa (k : Int)).toArray⟩ : ByteArray).toList) = true := by rw [hs]; unfold lineF; simp
        have HR := Lib.hid (numO_of (word := word) (s := s) (k : Int) (by omega) (by omega) hs)
        clear hs ld HN
        go_wp2_with fail
        refine CI.out.mono ?_
        rintro e w1 ⟨rfl, hb1⟩
        go_wp2_with fail
        go_ret
        exact ⟨by rw [HR.out]; rfl, HB.out.trans (hb1.mono HB.out.size)⟩
      · have e1 : (s.toList == (word ++ ⟨#[32]⟩ ++ ⟨(Lib.itoa (k : Int)).toArray⟩ : ByteArray).toList) = false := str_ne (fun h => hs h)
        have HN2 := Lib.hid (show ∀ n : Int, 0 ≤ n → n < (k + 1 : Nat) → s ≠ lineF word n from fun n h0 h1 => by
          by_cases hn : n < k
          · exact HN.out n h0 hn
          · obtain rfl : n = k := by omega
            exact hs)
        clear hs ld HN
        go_wp2_with fail
        refine CI.out.mono ?_
        rintro e w1 ⟨rfl, hb1⟩
        go_wp2_with fail
        exact ⟨⟨k + 1, by go_num, by omega, HN2, Lib.hid (HB.out.trans (hb1.mono HB.out.size))⟩, by simp [intOf]; omega⟩
    · have hk2 : k = 1000 := by omega
      subst hk2
      have HR := Lib.hid (show numO word s = none by
        unfold numO
        rw [dif_neg]
        rintro ⟨n, h0, h1, h2⟩
        exact HN.out n h0 (by omega) h2)
      clear HN
      go_wp2_with fail
      go_ret
      exact ⟨by rw [HR.out]; rfl, HB.out⟩

set_option maxRecDepth 100000 in
set_option maxHeartbeats 2000000 in
theorem rfplace_any (P : ProgM) (f pc : Nat) (hf : f ≤ P.funcs.length) (hl : P.funcs.length ≤ 100000) (hc : ∀ fn ∈ P.funcs, fn.code.length ≤ 1000000) (hpc : pc ≤ 1000000) (v : Value) (w : World) (h : ArgP w v P) :
    Calls Tryz.prog 77 #[v, .agg #[.int .i64 f, .int .i64 pc]] w fun e w' => e = .returned (.int .i64 (placeF P.funcs f pc)) ∧ Below w.heap.size w w' := by
  obtain ⟨vf, rfl, hF⟩ := h
  obtain ⟨F, mu, rw0, gr⟩ := P
  dsimp only at hf hl hc hF ⊢
  have HPL := Lib.hid (show ∀ k, ((F.take k).map fun fn => 1 + fn.code.length).sum ≤ 100000100000 from fun k => by have h1 := place_le hc k; omega)
  have HL := Lib.hid hl
  have HF := Lib.hid hF
  obtain ⟨av, cv, rfl⟩ := hF.form
  have hb1 := bel1 (W := w) (.cells #[.slice av F.length cv, .int .i64 mu, .int .i64 rw0, .int .i64 gr] 58)
  have HB2 := Lib.hid (belA hb1 (.cells #[.int .i64 f, .int .i64 pc] 43))
  have q0 := cell_al (cell_new w #[.slice av F.length cv, .int .i64 mu, .int .i64 rw0, .int .i64 gr] 58 0) (.cells #[.int .i64 f, .int .i64 pc] 43)
  have q1 := cell_two w (.cells #[.slice av F.length cv, .int .i64 mu, .int .i64 rw0, .int .i64 gr] 58) #[.int .i64 f, .int .i64 pc] 43 0
  have q2 := cell_two w (.cells #[.slice av F.length cv, .int .i64 mu, .int .i64 rw0, .int .i64 gr] 58) #[.int .i64 f, .int .i64 pc] 43 1
  have HC := Lib.hid hc
  have HQ := Lib.hid (And.intro q0 (And.intro q1 q2))
  clear hF hb1 hc hl q0 q1 q2
  go_enter Tryz.func77, Tryz.ntmps77
  go_wp2_with fail
  generalize World.alloc (World.alloc _ _) _ = V at HB2 HQ ⊢
  generalize hS : (fun k : Nat => ((F.take k).map fun fn => 1 + fn.code.length).sum) = S at HPL
  have HS0 := Lib.hid (show S 0 = 0 by rw [← hS]; simp)
  have HSt := Lib.hid (show ∀ k x, F[k]? = some x → S (k + 1) = S k + (1 + x.code.length) from fun k x hx => by rw [← hS]; exact place_take F k x hx)
  have HSf := Lib.hid (show placeF F f pc = 3 + S f + 1 + pc by rw [← hS]; rfl)
  have HPL := Lib.hid (show ∀ k, S k ≤ 100000100000 from fun k => by have := HPL.out k; rw [← hS]; exact this)
  clear hS
  go_loopw [5, 6] (fun vn vi wr => ∃ k : Nat, vi = .int .i64 k ∧ vn = .int .i64 (3 + (S k : Int)) ∧ k ≤ f ∧ Hid (Below V.heap.size V wr)) (fun _ vi _ => f - (intOf vi).toNat)
  case atStart => exact ⟨0, rfl, by rw [HS0.out]; rfl, by omega, Lib.hid (Below.refl _ _)⟩
  case round =>
    obtain ⟨k, rfl, rfl, hk, HBr⟩ := hrel
    obtain ⟨q0, q1, q2⟩ := HQ.out
    have q0 := cell_bel q0 HBr.out
    have q1 := cell_bel q1 HBr.out
    have q2 := cell_bel q2 HBr.out
    have s1 := HPL.out k
    have s2 := HPL.out (k + 1)
    have s3 := HL.out
    by_cases hlt : k < f
    · obtain ⟨x, hx⟩ : ∃ x, F[k]? = some x := ⟨F[k]'(by omega), List.getElem?_eq_getElem _⟩
      obtain ⟨b', o', c', vc, hv, -, x0, x1, hcd⟩ := (HF.out.bel (belT HB2.out HBr.out)).at_ hx
      simp only [Value.slice.injEq, true_and] at hv
      obtain ⟨rfl, rfl⟩ := hv
      obtain ⟨ac, cc, rfl⟩ := hcd.form
      have hst := HSt.out k x hx
      have HST := Lib.hid hst
      have hck := HC.out x (List.mem_of_getElem? hx)
      have m0 : IntKind.i64.wrap (3 + (S k : Int) + 1) = 3 + (S k : Int) + 1 := by rw [IntKind.wrap_i64]; omega
      have m1 : IntKind.i64.wrap (3 + (S k : Int) + 1 + (x.code.length : Int)) = 3 + (S k : Int) + 1 + (x.code.length : Int) := by rw [IntKind.wrap_i64]; omega
      have hkF : k < F.length := by omega
      clear hcd hx hst s1 s2
      go_wp2_with fail
      exact ⟨⟨k + 1, by go_num, by rw [HST.out]; congr 1; omega, by omega, HBr⟩, by simp [intOf]; omega⟩
    · have hk2 : k = f := by omega
      subst hk2
      have m1 : IntKind.i64.wrap (3 + (S k : Int) + 1) = 3 + (S k : Int) + 1 := by rw [IntKind.wrap_i64]; omega
      have m2 : IntKind.i64.wrap (3 + (S k : Int) + 1 + (pc : Int)) = 3 + (S k : Int) + 1 + (pc : Int) := by rw [IntKind.wrap_i64]; omega
      clear s1 s2 s3
      go_wp2_with fail
      go_ret
      exact ⟨by rw [HSf.out]; congr 3, belT HB2.out HBr.out⟩
end Go.Proofs.YtfnfcngkaepnjaaGreatDoor

/- Layer 11: num, works, walked. -/
namespace Go.Proofs.YtfnfcngkaepnjaaGreatDoor
set_option linter.unusedVariables false
set_option linter.unusedSimpArgs false
open Go Go.Proofs Go.RowKit Go.Sort

theorem num11_any (n : Int) (w : World) : Calls Tryz.prog 27 #[.int .i64 n] w fun e w' => e = .returned (.int .i64 n) ∧ w = w' := by
  go_enter Tryz.func27, Tryz.ntmps27
  go_wp2
  go_ret
  exact ⟨rfl, rfl⟩

theorem prog1_arg (w : World) : ArgF ((w.alloc (.cells #[.int .i64 9, .int .i64 0, .int .i64 0, .int .i64 0, .int .u32 0] 29)).alloc (.cells #[.int .i64 1, .slice (some ⟨w.heap.size, 0, none⟩) 1 1] 114)) (.slice (some ⟨w.heap.size + 1, 0, none⟩) 1 1) P1.funcs := by
  have h1 := OwnW.made (enc := encN) (e := 29) (size := 5) (fun _ => rfl) w #[.int .i64 9, .int .i64 0, .int .i64 0, .int .i64 0, .int .u32 0] [⟨9, 0, 0, 0, 0⟩] 1 rfl (by simp) (by simp)
  have h2 := OwnW.made (enc := encF) (e := 114) (size := 2) (fun _ => rfl) (w.alloc (.cells #[.int .i64 9, .int .i64 0, .int .i64 0, .int .i64 0, .int .u32 0] 29)) #[.int .i64 1, .slice (some ⟨w.heap.size, 0, none⟩) 1 1] [(1, .slice (some ⟨w.heap.size, 0, none⟩) 1 1)] 1 rfl (by simp) (by simp)
  simp only [World.size_alloc] at h2
  refine ⟨[(1, .slice (some ⟨w.heap.size, 0, none⟩) 1 1)], h2.arg (fun _ => rfl), rfl, fun k r f hr hf => ?_⟩
  match k, hr, hf with
  | 0, hr, hf =>
    simp only [List.getElem?_cons_zero, Option.some.injEq] at hr hf
    subst hr
    subst hf
    exact ⟨rfl, (h1.bel (bel1 _)).arg (fun _ => rfl)⟩
  | k + 1, hr, hf => simp at hr

set_option maxRecDepth 100000 in
set_option maxHeartbeats 4000000 in
theorem works11_any (w : World) (hE : EnvM w) : Calls Tryz.prog 24 #[] w fun e w' => e = .returned (.bool true) ∧ Below w.heap.size w w' := by
  have b0 := belA (bel1 (W := w) (.cells #[.int .i64 9, .int .i64 0, .int .i64 0, .int .i64 0, .int .u32 0] 29)) (.cells #[.int .i64 1, .slice (some ⟨w.heap.size, 0, none⟩) 1 1] 114)
  have C1 := Lib.hid (asmPrint_any P1 ⟨fun f hf x hx => by simp at hf; subst hf; simp at hx; subst hx; decide⟩ (by decide) (progV (.slice (some ⟨w.heap.size + 1, 0, none⟩) 1 1) 1 0 0) _ (hE.env.on b0) ⟨_, rfl, prog1_arg w⟩)
  rw [print_1, show checkP P1 = 0 from by unfold checkP; rw [right_1]; rfl] at C1
  have C2 := Lib.hid fun W hE => asmParse_any tx2 (by decide) (by decide +kernel) W hE
  rw [lns_2.1, lns_2.2] at C2
  have C3 := Lib.hid fun W hE => asmParse_any tx3 (by decide) (by decide +kernel) W hE
  rw [lns_3.1, lns_3.2] at C3
  have HB0 := Lib.hid b0
  have HE := Lib.hid hE
  clear b0 hE
  go_enter Tryz.func24, Tryz.ntmps24
  go_wp2_with fail
  refine C1.out.mono ?_
  rintro e w1 ⟨rfl, hb1⟩
  have HB1 := Lib.hid (belT HB0.out hb1)
  clear C1 hb1
  go_wp2_with fail
  refine (C2.out w1 (HE.out.on HB1.out)).mono ?_
  rintro e w2 ⟨hq, hb2⟩
  rw [read_2] at hq
  obtain rfl := hq
  unfold asmV
  have HB2 := Lib.hid (belA (belT HB1.out hb2) (.cells #[.slice none 0 0, .int .i64 0, .int .i64 0, .int .i64 0] 58))
  clear C2 hb2
  go_wp2_with fail
  refine (C3.out _ (HE.out.on HB2.out)).mono ?_
  rintro e w3 ⟨hq, hb3⟩
  rw [read_3] at hq
  obtain rfl := hq
  unfold asmV
  have HB3 := Lib.hid (belA (belT HB2.out hb3) (.cells #[.slice none 0 0, .int .i64 0, .int .i64 0, .int .i64 0] 58))
  clear C3 hb3
  go_wp2_with (go_at_call 27; refine (num11_any _ _).mono ?_; rintro e wn ⟨rfl, rfl⟩)
  go_ret
  exact ⟨rfl, HB3.out⟩
end Go.Proofs.YtfnfcngkaepnjaaGreatDoor

/- Reference 09: Right, At. -/
namespace Go.Proofs.YtfnfcngkaepnjaaGreatDoor
set_option linter.unusedVariables false
set_option linter.unusedSimpArgs false
open Go Go.Proofs Go.RowKit

set_option maxRecDepth 100000 in
set_option maxHeartbeats 2000000 in
theorem rRightP_any (P : ProgM) (hP : P.Fits) (v : Value) (w : World) (h : ArgP w v P) :
    Calls Tryz.prog 32 #[v] w fun e w' => e = .returned (.bool (rightP P)) ∧ Below w.heap.size w w' := by
  have CN := Lib.hid fun v W h => rNumbers_any P v W h
  have CW := Lib.hid fun v W h => rWrong_any P hP v W h
  obtain ⟨vf, rfl, hF⟩ := h
  have HPG := Lib.hid (PrgB.new w 58 hF)
  have HB := Lib.hid (bel1 (W := w) (.cells #[vf, .int .i64 P.mu, .int .i64 P.rw, .int .i64 P.gr] 58))
  obtain ⟨c0, c1, c2, c3, _⟩ := HPG.out
  have HQ : Hid (numbersF P = false ∧ wrongP P = none ∧ rightP P = false ∨ numbersF P = true ∧ wrongP P = none ∧ rightP P = true ∨ ∃ f pc, numbersF P = true ∧ wrongP P = some (f, pc) ∧ rightP P = false) := Lib.hid (by
    unfold wrongP rightP
    cases numbersF P with
    | false => exact Or.inl ⟨rfl, rfl, rfl⟩
    | true =>
      cases wrongF P.funcs with
      | none => exact Or.inr (Or.inl ⟨rfl, rfl, rfl⟩)
      | some q => exact Or.inr (Or.inr ⟨q.1, q.2, rfl, rfl, rfl⟩))
  rcases HQ.out with ⟨h1, h2, h3⟩ | ⟨h1, h2, h3⟩ | ⟨f, pc, h1, h2, h3⟩
  · rw [h1] at CN
    rw [h2] at CW
    unfold wrongV at CW
    rw [h3]
    clear h1 h2 h3 HQ
    dsimp only at CW
    go_enter Tryz.func32, Tryz.ntmps32
    go_wp2_with fail
    refine (CW.out _ _ HPG.out.arg).mono ?_
    rintro e w1 ⟨rfl, hb1⟩
    clear c0 c1 c2 c3
    have HPG1 := Lib.hid ((HPG.out.bel hb1).bel (bel1 (.cells #[(.int .i64 0), (.int .i64 0)] 43)))
    have HB1 := Lib.hid (belA (belT HB.out hb1) (.cells #[(.int .i64 0), (.int .i64 0)] 43))
    obtain ⟨c0, c1, c2, c3, _⟩ := HPG1.out
    go_wp2_with (refine (CN.out _ _ HPG1.out.arg).mono ?_; rintro e w2 ⟨rfl, hb2⟩)
    go_ret
    exact ⟨rfl, belT HB1.out hb2⟩
  · rw [h1] at CN
    rw [h2] at CW
    unfold wrongV at CW
    rw [h3]
    clear h1 h2 h3 HQ
    dsimp only at CW
    go_enter Tryz.func32, Tryz.ntmps32
    go_wp2_with fail
    refine (CW.out _ _ HPG.out.arg).mono ?_
    rintro e w1 ⟨rfl, hb1⟩
    clear c0 c1 c2 c3
    have HPG1 := Lib.hid ((HPG.out.bel hb1).bel (bel1 (.cells #[(.int .i64 0), (.int .i64 0)] 43)))
    have HB1 := Lib.hid (belA (belT HB.out hb1) (.cells #[(.int .i64 0), (.int .i64 0)] 43))
    obtain ⟨c0, c1, c2, c3, _⟩ := HPG1.out
    go_wp2_with (refine (CN.out _ _ HPG1.out.arg).mono ?_; rintro e w2 ⟨rfl, hb2⟩)
    go_ret
    exact ⟨rfl, belT HB1.out hb2⟩
  · rw [h1] at CN
    rw [h2] at CW
    unfold wrongV at CW
    rw [h3]
    clear h1 h2 h3 HQ
    dsimp only at CW
    go_enter Tryz.func32, Tryz.ntmps32
    go_wp2_with fail
    refine (CW.out _ _ HPG.out.arg).mono ?_
    rintro e w1 ⟨rfl, hb1⟩
    clear c0 c1 c2 c3
    have HPG1 := Lib.hid ((HPG.out.bel hb1).bel (bel1 (.cells #[(.int .i64 f), (.int .i64 pc)] 43)))
    have HB1 := Lib.hid (belA (belT HB.out hb1) (.cells #[(.int .i64 f), (.int .i64 pc)] 43))
    obtain ⟨c0, c1, c2, c3, _⟩ := HPG1.out
    go_wp2_with (refine (CN.out _ _ HPG1.out.arg).mono ?_; rintro e w2 ⟨rfl, hb2⟩)
    go_ret
    exact ⟨rfl, belT HB1.out hb2⟩
end Go.Proofs.YtfnfcngkaepnjaaGreatDoor
