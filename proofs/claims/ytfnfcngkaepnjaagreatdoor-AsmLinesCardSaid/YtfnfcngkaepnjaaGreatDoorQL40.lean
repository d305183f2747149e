/- Joined texts: Layer 11: works, plain: what the chapter's rows give.; The reference of layer 11: headed; place. -/
import Derived.Test.YtfnfcngkaepnjaaGreatDoorQL39
import Derived.Test.YtfnfcngkaepnjaaGreatDoorQL20
import Derived.Test.YtfnfcngkaepnjaaGreatDoorQL38
/- Layer 11: works, plain: what the chapter's rows give. -/
namespace Go.Proofs.YtfnfcngkaepnjaaGreatDoor
set_option linter.unusedVariables false
set_option linter.unusedSimpArgs false
open Go Go.Proofs Go.RowKit Go.Sort

theorem itoa0 : Lib.itoa 0 = [48] := by simp [Lib.itoa, Lib.decDigits]
theorem itoa1 : Lib.itoa 1 = [49] := by simp [Lib.itoa, Lib.decDigits]
theorem dec0 : Lib.decDigits 0 = [48] := by simp [Lib.decDigits]
theorem text_ret : textF 9 0 0 0 0 = [114, 101, 116, 117, 114, 110, 32, 114, 48] := by
  unfold textF textL
  rw [show textP ((namedL.lookup 9).getD []) = [pA] from rfl]
  simp only [List.map_cons, List.map_nil]
  rw [partT_of (p := pA) (n := 0) (by decide) dec0]
  decide +kernel
theorem text_load : textF 6 0 1 0 0 = [108, 111, 97, 100, 32, 114, 48, 32, 114, 49] := by
  unfold textF textL
  rw [show textP ((namedL.lookup 6).getD []) = [pA, pB] from rfl]
  simp only [List.map_cons, List.map_nil]
  rw [partT_of (p := pA) (n := 0) (by decide) dec0, partT_of (p := pB) (n := 1) (by decide) dec1]
  decide +kernel

theorem numO_of {word s : ByteArray} (n : Int) (h0 : 0 ≤ n) (h1 : n ≤ 999) (h : s = lineF word n) : numO word s = some n := numO_yes ⟨fun _ => ⟨h0, h1, h⟩, fun h => by cases h⟩
theorem line_of (word : ByteArray) (n : Int) (l : List UInt8) (s : ByteArray) (hl : Lib.itoa n = l) (h : s = word ++ ⟨#[32]⟩ ++ ⟨l.toArray⟩) : s = lineF word n := by
  unfold lineF
  rw [hl]
  exact h

abbrev sM1 : ByteArray := ⟨#[109, 117, 116, 101, 120, 101, 115, 32, 49]⟩
abbrev sM0 : ByteArray := ⟨#[109, 117, 116, 101, 120, 101, 115, 32, 48]⟩
abbrev sRx : ByteArray := ⟨#[114, 119, 108, 111, 99, 107, 115, 32, 120]⟩
abbrev sR0 : ByteArray := ⟨#[114, 119, 108, 111, 99, 107, 115, 32, 48]⟩
abbrev sG0 : ByteArray := ⟨#[103, 114, 111, 117, 112, 115, 32, 48]⟩
abbrev sF1 : ByteArray := ⟨#[102, 117, 110, 99, 32, 49]⟩
abbrev sLd : ByteArray := ⟨#[108, 111, 97, 100, 32, 114, 48, 32, 114, 49]⟩
abbrev sRt : ByteArray := ⟨#[114, 101, 116, 117, 114, 110, 32, 114, 48]⟩
abbrev tx1 : ByteArray := ⟨#[109, 117, 116, 101, 120, 101, 115, 32, 49, 10, 114, 119, 108, 111, 99, 107, 115, 32, 48, 10, 103, 114, 111, 117, 112, 115, 32, 48, 10, 102, 117, 110, 99, 32, 49, 10, 114, 101, 116, 117, 114, 110, 32, 114, 48, 10]⟩
abbrev tx2 : ByteArray := ⟨#[109, 117, 116, 101, 120, 101, 115, 32, 49, 10, 114, 119, 108, 111, 99, 107, 115, 32, 120, 10]⟩
abbrev tx3 : ByteArray := ⟨#[109, 117, 116, 101, 120, 101, 115, 32, 48, 10, 114, 119, 108, 111, 99, 107, 115, 32, 48, 10, 103, 114, 111, 117, 112, 115, 32, 48, 10, 102, 117, 110, 99, 32, 49, 10, 108, 111, 97, 100, 32, 114, 48, 32, 114, 49, 10, 114, 101, 116, 117, 114, 110, 32, 114, 48, 10]⟩

theorem num_M1 : numO wMu sM1 = some 1 := numO_of 1 (by omega) (by omega) (line_of _ _ _ _ itoa1 rfl)
theorem num_M0 : numO wMu sM0 = some 0 := numO_of 0 (by omega) (by omega) (line_of _ _ _ _ itoa0 rfl)
theorem num_R0 : numO wRw sR0 = some 0 := numO_of 0 (by omega) (by omega) (line_of _ _ _ _ itoa0 rfl)
theorem num_G0 : numO wGr sG0 = some 0 := numO_of 0 (by omega) (by omega) (line_of _ _ _ _ itoa0 rfl)
theorem num_F1 : numO wFn sF1 = some 1 := numO_of 1 (by omega) (by omega) (line_of _ _ _ _ itoa1 rfl)
theorem num_Rx : numO wRw sRx = none := by
  refine numO_no (n := 0) ⟨fun h => (by cases h), fun _ m h0 h9 h => ?_⟩
  have h1 := trim_line wRw sRx m h0 h
  rw [show Lib.trimPrefix sRx.data.toList (wRw ++ ⟨#[32]⟩).data.toList = [120] from by decide +kernel] at h1
  have := (dec_digit m.toNat 120 (by rw [← h1]; simp)).2
  exact absurd this (by decide)
theorem ins_Ld : insO sLd = some ⟨6, 0, 1, 0, 0⟩ := insO_yes (x := ⟨6, 0, 1, 0, 0⟩) ⟨by decide, by decide +kernel, text_load⟩
theorem ins_Rt : insO sRt = some ⟨9, 0, 0, 0, 0⟩ := insO_yes (x := ⟨9, 0, 0, 0, 0⟩) ⟨by decide, by decide +kernel, text_ret⟩

theorem lns_2 : lnsO (nlF tx2) = [sM1, sRx] ∧ endO (nlF tx2) = true := by
  rw [show nlF tx2 = [sM1, sRx, ⟨#[]⟩] from by decide +kernel]
  exact ⟨by decide +kernel, by decide +kernel⟩
theorem lns_3 : lnsO (nlF tx3) = [sM0, sR0, sG0, sF1, sLd, sRt] ∧ endO (nlF tx3) = true := by
  rw [show nlF tx3 = [sM0, sR0, sG0, sF1, sLd, sRt, ⟨#[]⟩] from by decide +kernel]
  exact ⟨by decide +kernel, by decide +kernel⟩
theorem read_2 : readO [sM1, sRx] true = .error 1 := by
  unfold readO
  simp only [linesO, stepO, num_M1, num_Rx, Option.map_some, Option.map_none]
abbrev P3 : ProgM := ⟨[⟨1, [⟨6, 0, 1, 0, 0⟩, ⟨9, 0, 0, 0, 0⟩]⟩], 0, 0, 0⟩
theorem lines_3 : linesO 0 [sM0, sR0, sG0, sF1, sLd, sRt] zeroP = .ok P3 := by
  have f3 : isFn sF1 = true := by decide +kernel
  have f4 : isFn sLd = false := by decide +kernel
  have f5 : isFn sRt = false := by decide +kernel
  simp [linesO, stepO, num_M0, num_R0, num_G0, num_F1, ins_Ld, ins_Rt, f3, f4, f5, zeroP, pushF]
theorem wrong_3 : wrongP P3 = some (0, 0) := by
  unfold wrongP
  rw [show numbersF P3 = true from by decide +kernel, if_pos rfl]
  exact wrongF_some ⟨⟨_, _, rfl, rfl, by decide +kernel⟩, before_start _⟩
theorem read_3 : readO [sM0, sR0, sG0, sF1, sLd, sRt] true = .error 4 := by
  unfold readO
  rw [lines_3]
  simp only [wrong_3]
  rfl

abbrev P1 : ProgM := ⟨[⟨1, [⟨9, 0, 0, 0, 0⟩]⟩], 1, 0, 0⟩
theorem right_1 : rightP P1 = true := by
  unfold rightP
  rw [show numbersF P1 = true from by decide +kernel, wrongF_none]
  · rfl
  · intro f pc fn x h1 h2
    match f, h1 with
    | 0, h1 =>
      simp only [List.getElem?_cons_zero, Option.some.injEq] at h1
      subst h1
      match pc, h2 with
      | 0, h2 =>
        simp only [List.getElem?_cons_zero, Option.some.injEq] at h2
        subst h2
        decide +kernel
      | pc + 1, h2 => simp at h2
    | f + 1, h1 => simp at h1
theorem print_1 : printS P1 = tx1 := by
  unfold printS
  rw [if_pos right_1]
  have h : joinedF (linesF P1) = tx1.data.toList := by
    unfold linesF headLines fnLines insTx lineF
    simp only [List.flatMap_cons, List.flatMap_nil, List.map_cons, List.map_nil]
    rw [itoa0, itoa1, text_ret]
    decide +kernel
  rw [h]
end Go.Proofs.YtfnfcngkaepnjaaGreatDoor

/- The reference of layer 11: headed; place. -/
namespace Go.Proofs.YtfnfcngkaepnjaaGreatDoor
set_option linter.unusedVariables false
set_option linter.unusedSimpArgs false
open Go Go.Proofs Go.RowKit Go.Sort

set_option maxRecDepth 100000 in
set_option maxHeartbeats 2000000 in
theorem rfplace_any (P : ProgM) (f pc : Nat) (hf : f ≤ P.funcs.length) (hl : P.funcs.length ≤ 100000) (hc : ∀ fn ∈ P.funcs, fn.code.length ≤ 1000000) (hpc : pc ≤ 1000000) (v : Value) (w : World) (h : ArgP w v P) :
    Calls Tryz.prog 77 #[v, .agg #[.int .i64 f, .int .i64 pc]] w fun e w' => e = .returned (.int .i64 (placeF P.funcs f pc)) ∧ Below w.heap.size w w' := by
  obtain ⟨vf, rfl, hF⟩ := h
  obtain ⟨F, mu, rw0, gr⟩ := P
  dsimp only at hf hl hc hF ⊢
  have HPL := Lib.hid (show ∀ k, ((F.take k).map fun fn => 1 + fn.code.length).sum ≤ 100000100000 from fun k => by have h1 := place_le hc k; omega)
  have HL := Lib.hid hl
  have HF := Lib.hid hF
  obtain ⟨av, cv, rfl⟩ := hF.form
  have hb1 := bel1 (W := w) (.cells #[.slice av F.length cv, .int .i64 mu, .int .i64 rw0, .int .i64 gr] 58)
  have HB2 := Lib.hid (belA hb1 (.cells #[.int .i64 f, .int .i64 pc] 43))
  have q0 := cell_al (cell_new w #[.slice av F.length cv, .int .i64 mu, .int .i64 rw0, .int .i64 gr] 58 0) (.cells #[.int .i64 f, .int .i64 pc] 43)
  have q1 := cell_two w (.cells #[.slice av F.length cv, .int .i64 mu, .int .i64 rw0, .int .i64 gr] 58) #[.int .i64 f, .int .i64 pc] 43 0
  have q2 := cell_two w (.cells #[.slice av F.length cv, .int .i64 mu, .int .i64 rw0, .int .i64 gr] 58) #[.int .i64 f, .int .i64 pc] 43 1
  have HC := Lib.hid hc
  have HQ := Lib.hid (And.intro q0 (And.intro q1 q2))
  clear hF hb1 hc hl q0 q1 q2
  go_enter Tryz.func77, Tryz.ntmps77
  go_wp2_with fail
  generalize World.alloc (World.alloc _ _) _ = V at HB2 HQ ⊢
  generalize hS : (fun k : Nat => ((F.take k).map fun fn => 1 + fn.code.length).sum) = S at HPL
  have HS0 := Lib.hid (show S 0 = 0 by rw [← hS]; simp)
  have HSt := Lib.hid (show ∀ k x, F[k]? = some x → S (k + 1) = S k + (1 + x.code.length) from fun k x hx => by rw [← hS]; exact place_take F k x hx)
  have HSf := Lib.hid (show placeF F f pc = 3 + S f + 1 + pc by rw [← hS]; rfl)
  have HPL := Lib.hid (show ∀ k, S k ≤ 100000100000 from fun k => by have := HPL.out k; rw [← hS]; exact this)
  clear hS
  go_loopw [5, 6] (fun vn vi wr => ∃ k : Nat, vi = .int .i64 k ∧ vn = .int .i64 (3 + (S k : Int)) ∧ k ≤ f ∧ Hid (Below V.heap.size V wr)) (fun _ vi _ => f - (intOf vi).toNat)
  case atStart => exact ⟨0, rfl, by rw [HS0.out]; rfl, by omega, Lib.hid (Below.refl _ _)⟩
  case round =>
    obtain ⟨k, rfl, rfl, hk, HBr⟩ := hrel
    obtain ⟨q0, q1, q2⟩ := HQ.out
    have q0 := cell_bel q0 HBr.out
    have q1 := cell_bel q1 HBr.out
    have q2 := cell_bel q2 HBr.out
    have s1 := HPL.out k
    have s2 := HPL.out (k + 1)
    have s3 := HL.out
    by_cases hlt : k < f
    · obtain ⟨x, hx⟩ : ∃ x, F[k]? = some x := ⟨F[k]'(by omega), List.getElem?_eq_getElem _⟩
      obtain ⟨b', o', c', vc, hv, -, x0, x1, hcd⟩ := (HF.out.bel (belT HB2.out HBr.out)).at_ hx
      simp only [Value.slice.injEq, true_and] at hv
      obtain ⟨rfl, rfl⟩ := hv
      obtain ⟨ac, cc, rfl⟩ := hcd.form
      have hst := HSt.out k x hx
      have HST := Lib.hid hst
      have hck := HC.out x (List.mem_of_getElem? hx)
      have m0 : IntKind.i64.wrap (3 + (S k : Int) + 1) = 3 + (S k : Int) + 1 := by rw [IntKind.wrap_i64]; omega
      have m1 : IntKind.i64.wrap (3 + (S k : Int) + 1 + (x.code.length : Int)) = 3 + (S k : Int) + 1 + (x.code.length : Int) := by rw [IntKind.wrap_i64]; omega
      have hkF : k < F.length := by omega
      clear hcd hx hst s1 s2
      go_wp2_with fail
      exact ⟨⟨k + 1, by go_num, by rw [HST.out]; congr 1; omega, by omega, HBr⟩, by simp [intOf]; omega⟩
    · have hk2 : k = f := by omega
      subst hk2
      have m1 : IntKind.i64.wrap (3 + (S k : Int) + 1) = 3 + (S k : Int) + 1 := by rw [IntKind.wrap_i64]; omega
      have m2 : IntKind.i64.wrap (3 + (S k : Int) + 1 + (pc : Int)) = 3 + (S k : Int) + 1 + (pc : Int) := by rw [IntKind.wrap_i64]; omega
      clear s1 s2 s3
      go_wp2_with fail
      go_ret
      exact ⟨by rw [HSf.out]; congr 3, belT HB2.out HBr.out⟩
end Go.Proofs.YtfnfcngkaepnjaaGreatDoor
