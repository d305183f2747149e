/- Joined texts: The reference of layer 8: Read tells what the program's tells. -/
import Derived.Test.YtfnfcngkaepnjaaGreatDoorQY31
/- The reference of layer 8: Read tells what the program's tells. -/
namespace Go.Proofs.YtfnfcngkaepnjaaGreatDoor
set_option linter.unusedVariables false
set_option linter.unusedSimpArgs false
open Go Go.Proofs Go.RowKit

theorem leN_one (l : List Nat) (k : Nat) : leN (l.drop k) 1 = l.getD k 0 := by simp [leN, List.getD]
theorem leN_four (l : List Nat) (h : ∀ x ∈ l, x < 256) (k : Nat) : leN (l.drop k) 4 < 4294967296 := leN_pow l h k 4 (by decide)

theorem rs1 (l : List Nat) : readS l ((namedL.lookup ((1 : Nat) : Int)).getD []) 1 (0, 0, 0, 0) = (((l.getD 1 0 : Nat) : Int), (0 : Int), (0 : Int), ((leN (l.drop 2) 4 : Nat) : Int)) := by
  rw [show (namedL.lookup ((1 : Nat) : Int)).getD [] = (namedL.lookup 1).getD [] from rfl]
  simp [namedL, List.lookup, readS, putN, leN, pA, pB, pC, pM, pI]
theorem ra1 (l : List Nat) (hL : l.length ≤ 9223372036854775000) (h0 : l.getD 0 0 = 1) (hmany : 6 ≤ l.length) (b o c : Nat) (hc : l.length ≤ c) (hcm : c ≤ 9223372036854775807) (w : World) (hw : HasB w b o l) :
    Calls Tryz.prog 11 #[.slice (some ⟨b, o, none⟩) l.length c] w fun e w' => e = .returned (readF l) ∧ Below w.heap.size w w' := by
  have hlt := getD_lt l hw.1
  have hF : readF l = rdV ((1 : Nat) : Int) ((l.getD 1 0 : Nat) : Int) (0 : Int) (0 : Int) ((leN (l.drop 2) 4 : Nat) : Int) 6 := by
    have hrs := rs1 l
    cases l with
    | nil => simp at hmany
    | cons x t =>
      obtain rfl : x = 1 := by simpa using h0
      simp only [readF]
      rw [if_pos (by decide), if_neg (by rw [show wideF ((namedL.lookup ((1 : Nat) : Int)).getD []) = 5 from rfl]; omega), hrs]
      rfl
  rw [hF]
  exact rdAI 1 (l.getD 1 0) (leN (l.drop 2) 4) l hL h0 (by decide) hmany (Lib.hid ⟨rfl, hlt 1⟩) (hlt 1) (Lib.hid ⟨rfl, leN_four l hw.1 2⟩) (leN_four l hw.1 2) b o c hc hcm w hw (by decide +kernel) (by decide +kernel) (by decide +kernel) (by decide +kernel) (by decide +kernel) (by decide +kernel) (by decide +kernel)
theorem rs2 (l : List Nat) : readS l ((namedL.lookup ((2 : Nat) : Int)).getD []) 1 (0, 0, 0, 0) = (((l.getD 1 0 : Nat) : Int), ((l.getD 2 0 : Nat) : Int), (0 : Int), (0 : Int)) := by
  rw [show (namedL.lookup ((2 : Nat) : Int)).getD [] = (namedL.lookup 2).getD [] from rfl]
  simp [namedL, List.lookup, readS, putN, leN, pA, pB, pC, pM, pI]
theorem ra2 (l : List Nat) (hL : l.length ≤ 9223372036854775000) (h0 : l.getD 0 0 = 2) (hmany : 3 ≤ l.length) (b o c : Nat) (hc : l.length ≤ c) (hcm : c ≤ 9223372036854775807) (w : World) (hw : HasB w b o l) :
    Calls Tryz.prog 11 #[.slice (some ⟨b, o, none⟩) l.length c] w fun e w' => e = .returned (readF l) ∧ Below w.heap.size w w' := by
  have hlt := getD_lt l hw.1
  have hF : readF l = rdV ((2 : Nat) : Int) ((l.getD 1 0 : Nat) : Int) ((l.getD 2 0 : Nat) : Int) (0 : Int) (0 : Int) 3 := by
    have hrs := rs2 l
    cases l with
    | nil => simp at hmany
    | cons x t =>
      obtain rfl : x = 2 := by simpa using h0
      simp only [readF]
      rw [if_pos (by decide), if_neg (by rw [show wideF ((namedL.lookup ((2 : Nat) : Int)).getD []) = 2 from rfl]; omega), hrs]
      rfl
  rw [hF]
  exact rdAB 2 (l.getD 1 0) (l.getD 2 0) l hL h0 (by decide) hmany (Lib.hid ⟨rfl, hlt 1⟩) (hlt 1) (Lib.hid ⟨rfl, hlt 2⟩) (hlt 2) b o c hc hcm w hw (by decide +kernel) (by decide +kernel) (by decide +kernel) (by decide +kernel) (by decide +kernel) (by decide +kernel) (by decide +kernel)
theorem rs3 (l : List Nat) : readS l ((namedL.lookup ((3 : Nat) : Int)).getD []) 1 (0, 0, 0, 0) = (((l.getD 1 0 : Nat) : Int), ((l.getD 2 0 : Nat) : Int), ((l.getD 3 0 : Nat) : Int), ((leN (l.drop 4) 4 : Nat) : Int)) := by
  rw [show (namedL.lookup ((3 : Nat) : Int)).getD [] = (namedL.lookup 3).getD [] from rfl]
  simp [namedL, List.lookup, readS, putN, leN, pA, pB, pC, pM, pI]
theorem ra3 (l : List Nat) (hL : l.length ≤ 9223372036854775000) (h0 : l.getD 0 0 = 3) (hmany : 8 ≤ l.length) (b o c : Nat) (hc : l.length ≤ c) (hcm : c ≤ 9223372036854775807) (w : World) (hw : HasB w b o l) :
    Calls Tryz.prog 11 #[.slice (some ⟨b, o, none⟩) l.length c] w fun e w' => e = .returned (readF l) ∧ Below w.heap.size w w' := by
  have hlt := getD_lt l hw.1
  have hF : readF l = rdV ((3 : Nat) : Int) ((l.getD 1 0 : Nat) : Int) ((l.getD 2 0 : Nat) : Int) ((l.getD 3 0 : Nat) : Int) ((leN (l.drop 4) 4 : Nat) : Int) 8 := by
    have hrs := rs3 l
    cases l with
    | nil => simp at hmany
    | cons x t =>
      obtain rfl : x = 3 := by simpa using h0
      simp only [readF]
      rw [if_pos (by decide), if_neg (by rw [show wideF ((namedL.lookup ((3 : Nat) : Int)).getD []) = 7 from rfl]; omega), hrs]
      rfl
  rw [hF]
  exact rdABK 3 (l.getD 1 0) (l.getD 2 0) (l.getD 3 0) (leN (l.drop 4) 4) l hL h0 (by decide) hmany (Lib.hid ⟨rfl, hlt 1⟩) (hlt 1) (Lib.hid ⟨rfl, hlt 2⟩) (hlt 2) (Lib.hid ⟨rfl, hlt 3⟩) (hlt 3) (Lib.hid ⟨rfl, leN_four l hw.1 4⟩) (leN_four l hw.1 4) b o c hc hcm w hw (by decide +kernel) (by decide +kernel) (by decide +kernel) (by decide +kernel) (by decide +kernel) (by decide +kernel) (by decide +kernel)
theorem rs4 (l : List Nat) : readS l ((namedL.lookup ((4 : Nat) : Int)).getD []) 1 (0, 0, 0, 0) = ((0 : Int), (0 : Int), (0 : Int), ((leN (l.drop 1) 4 : Nat) : Int)) := by
  rw [show (namedL.lookup ((4 : Nat) : Int)).getD [] = (namedL.lookup 4).getD [] from rfl]
  simp [namedL, List.lookup, readS, putN, leN, pA, pB, pC, pM, pI]
theorem ra4 (l : List Nat) (hL : l.length ≤ 9223372036854775000) (h0 : l.getD 0 0 = 4) (hmany : 5 ≤ l.length) (b o c : Nat) (hc : l.length ≤ c) (hcm : c ≤ 9223372036854775807) (w : World) (hw : HasB w b o l) :
    Calls Tryz.prog 11 #[.slice (some ⟨b, o, none⟩) l.length c] w fun e w' => e = .returned (readF l) ∧ Below w.heap.size w w' := by
  have hlt := getD_lt l hw.1
  have hF : readF l = rdV ((4 : Nat) : Int) (0 : Int) (0 : Int) (0 : Int) ((leN (l.drop 1) 4 : Nat) : Int) 5 := by
    have hrs := rs4 l
    cases l with
    | nil => simp at hmany
    | cons x t =>
      obtain rfl : x = 4 := by simpa using h0
      simp only [readF]
      rw [if_pos (by decide), if_neg (by rw [show wideF ((namedL.lookup ((4 : Nat) : Int)).getD []) = 4 from rfl]; omega), hrs]
      rfl
  rw [hF]
  exact rdI 4 (leN (l.drop 1) 4) l hL h0 (by decide) hmany (Lib.hid ⟨rfl, leN_four l hw.1 1⟩) (leN_four l hw.1 1) b o c hc hcm w hw (by decide +kernel) (by decide +kernel) (by decide +kernel) (by decide +kernel) (by decide +kernel) (by decide +kernel) (by decide +kernel)
theorem rs5 (l : List Nat) : readS l ((namedL.lookup ((5 : Nat) : Int)).getD []) 1 (0, 0, 0, 0) = (((l.getD 1 0 : Nat) : Int), (0 : Int), (0 : Int), ((leN (l.drop 2) 4 : Nat) : Int)) := by
  rw [show (namedL.lookup ((5 : Nat) : Int)).getD [] = (namedL.lookup 5).getD [] from rfl]
  simp [namedL, List.lookup, readS, putN, leN, pA, pB, pC, pM, pI]
theorem ra5 (l : List Nat) (hL : l.length ≤ 9223372036854775000) (h0 : l.getD 0 0 = 5) (hmany : 6 ≤ l.length) (b o c : Nat) (hc : l.length ≤ c) (hcm : c ≤ 9223372036854775807) (w : World) (hw : HasB w b o l) :
    Calls Tryz.prog 11 #[.slice (some ⟨b, o, none⟩) l.length c] w fun e w' => e = .returned (readF l) ∧ Below w.heap.size w w' := by
  have hlt := getD_lt l hw.1
  have hF : readF l = rdV ((5 : Nat) : Int) ((l.getD 1 0 : Nat) : Int) (0 : Int) (0 : Int) ((leN (l.drop 2) 4 : Nat) : Int) 6 := by
    have hrs := rs5 l
    cases l with
    | nil => simp at hmany
    | cons x t =>
      obtain rfl : x = 5 := by simpa using h0
      simp only [readF]
      rw [if_pos (by decide), if_neg (by rw [show wideF ((namedL.lookup ((5 : Nat) : Int)).getD []) = 5 from rfl]; omega), hrs]
      rfl
  rw [hF]
  exact rdAI 5 (l.getD 1 0) (leN (l.drop 2) 4) l hL h0 (by decide) hmany (Lib.hid ⟨rfl, hlt 1⟩) (hlt 1) (Lib.hid ⟨rfl, leN_four l hw.1 2⟩) (leN_four l hw.1 2) b o c hc hcm w hw (by decide +kernel) (by decide +kernel) (by decide +kernel) (by decide +kernel) (by decide +kernel) (by decide +kernel) (by decide +kernel)
theorem rs6 (l : List Nat) : readS l ((namedL.lookup ((6 : Nat) : Int)).getD []) 1 (0, 0, 0, 0) = (((l.getD 1 0 : Nat) : Int), ((l.getD 2 0 : Nat) : Int), (0 : Int), (0 : Int)) := by
  rw [show (namedL.lookup ((6 : Nat) : Int)).getD [] = (namedL.lookup 6).getD [] from rfl]
  simp [namedL, List.lookup, readS, putN, leN, pA, pB, pC, pM, pI]
theorem ra6 (l : List Nat) (hL : l.length ≤ 9223372036854775000) (h0 : l.getD 0 0 = 6) (hmany : 3 ≤ l.length) (b o c : Nat) (hc : l.length ≤ c) (hcm : c ≤ 9223372036854775807) (w : World) (hw : HasB w b o l) :
    Calls Tryz.prog 11 #[.slice (some ⟨b, o, none⟩) l.length c] w fun e w' => e = .returned (readF l) ∧ Below w.heap.size w w' := by
  have hlt := getD_lt l hw.1
  have hF : readF l = rdV ((6 : Nat) : Int) ((l.getD 1 0 : Nat) : Int) ((l.getD 2 0 : Nat) : Int) (0 : Int) (0 : Int) 3 := by
    have hrs := rs6 l
    cases l with
    | nil => simp at hmany
    | cons x t =>
      obtain rfl : x = 6 := by simpa using h0
      simp only [readF]
      rw [if_pos (by decide), if_neg (by rw [show wideF ((namedL.lookup ((6 : Nat) : Int)).getD []) = 2 from rfl]; omega), hrs]
      rfl
  rw [hF]
  exact rdAB 6 (l.getD 1 0) (l.getD 2 0) l hL h0 (by decide) hmany (Lib.hid ⟨rfl, hlt 1⟩) (hlt 1) (Lib.hid ⟨rfl, hlt 2⟩) (hlt 2) b o c hc hcm w hw (by decide +kernel) (by decide +kernel) (by decide +kernel) (by decide +kernel) (by decide +kernel) (by decide +kernel) (by decide +kernel)
theorem rs7 (l : List Nat) : readS l ((namedL.lookup ((7 : Nat) : Int)).getD []) 1 (0, 0, 0, 0) = (((l.getD 1 0 : Nat) : Int), ((l.getD 2 0 : Nat) : Int), (0 : Int), (0 : Int)) := by
  rw [show (namedL.lookup ((7 : Nat) : Int)).getD [] = (namedL.lookup 7).getD [] from rfl]
  simp [namedL, List.lookup, readS, putN, leN, pA, pB, pC, pM, pI]
theorem ra7 (l : List Nat) (hL : l.length ≤ 9223372036854775000) (h0 : l.getD 0 0 = 7) (hmany : 3 ≤ l.length) (b o c : Nat) (hc : l.length ≤ c) (hcm : c ≤ 9223372036854775807) (w : World) (hw : HasB w b o l) :
    Calls Tryz.prog 11 #[.slice (some ⟨b, o, none⟩) l.length c] w fun e w' => e = .returned (readF l) ∧ Below w.heap.size w w' := by
  have hlt := getD_lt l hw.1
  have hF : readF l = rdV ((7 : Nat) : Int) ((l.getD 1 0 : Nat) : Int) ((l.getD 2 0 : Nat) : Int) (0 : Int) (0 : Int) 3 := by
    have hrs := rs7 l
    cases l with
    | nil => simp at hmany
    | cons x t =>
      obtain rfl : x = 7 := by simpa using h0
      simp only [readF]
      rw [if_pos (by decide), if_neg (by rw [show wideF ((namedL.lookup ((7 : Nat) : Int)).getD []) = 2 from rfl]; omega), hrs]
      rfl
  rw [hF]
  exact rdAB 7 (l.getD 1 0) (l.getD 2 0) l hL h0 (by decide) hmany (Lib.hid ⟨rfl, hlt 1⟩) (hlt 1) (Lib.hid ⟨rfl, hlt 2⟩) (hlt 2) b o c hc hcm w hw (by decide +kernel) (by decide +kernel) (by decide +kernel) (by decide +kernel) (by decide +kernel) (by decide +kernel) (by decide +kernel)
theorem rs8 (l : List Nat) : readS l ((namedL.lookup ((8 : Nat) : Int)).getD []) 1 (0, 0, 0, 0) = (((l.getD 1 0 : Nat) : Int), ((l.getD 2 0 : Nat) : Int), ((l.getD 3 0 : Nat) : Int), ((leN (l.drop 4) 4 : Nat) : Int)) := by
  rw [show (namedL.lookup ((8 : Nat) : Int)).getD [] = (namedL.lookup 8).getD [] from rfl]
  simp [namedL, List.lookup, readS, putN, leN, pA, pB, pC, pM, pI]
theorem ra8 (l : List Nat) (hL : l.length ≤ 9223372036854775000) (h0 : l.getD 0 0 = 8) (hmany : 8 ≤ l.length) (b o c : Nat) (hc : l.length ≤ c) (hcm : c ≤ 9223372036854775807) (w : World) (hw : HasB w b o l) :
    Calls Tryz.prog 11 #[.slice (some ⟨b, o, none⟩) l.length c] w fun e w' => e = .returned (readF l) ∧ Below w.heap.size w w' := by
  have hlt := getD_lt l hw.1
  have hF : readF l = rdV ((8 : Nat) : Int) ((l.getD 1 0 : Nat) : Int) ((l.getD 2 0 : Nat) : Int) ((l.getD 3 0 : Nat) : Int) ((leN (l.drop 4) 4 : Nat) : Int) 8 := by
    have hrs := rs8 l
    cases l with
    | nil => simp at hmany
    | cons x t =>
      obtain rfl : x = 8 := by simpa using h0
      simp only [readF]
      rw [if_pos (by decide), if_neg (by rw [show wideF ((namedL.lookup ((8 : Nat) : Int)).getD []) = 7 from rfl]; omega), hrs]
      rfl
  rw [hF]
  exact rdABN 8 (l.getD 1 0) (l.getD 2 0) (l.getD 3 0) (leN (l.drop 4) 4) l hL h0 (by decide) hmany (Lib.hid ⟨rfl, hlt 1⟩) (hlt 1) (Lib.hid ⟨rfl, hlt 2⟩) (hlt 2) (Lib.hid ⟨rfl, hlt 3⟩) (hlt 3) (Lib.hid ⟨rfl, leN_four l hw.1 4⟩) (leN_four l hw.1 4) b o c hc hcm w hw (by decide +kernel) (by decide +kernel) (by decide +kernel) (by decide +kernel) (by decide +kernel) (by decide +kernel) (by decide +kernel)
theorem rs9 (l : List Nat) : readS l ((namedL.lookup ((9 : Nat) : Int)).getD []) 1 (0, 0, 0, 0) = (((l.getD 1 0 : Nat) : Int), (0 : Int), (0 : Int), (0 : Int)) := by
  rw [show (namedL.lookup ((9 : Nat) : Int)).getD [] = (namedL.lookup 9).getD [] from rfl]
  simp [namedL, List.lookup, readS, putN, leN, pA, pB, pC, pM, pI]
theorem ra9 (l : List Nat) (hL : l.length ≤ 9223372036854775000) (h0 : l.getD 0 0 = 9) (hmany : 2 ≤ l.length) (b o c : Nat) (hc : l.length ≤ c) (hcm : c ≤ 9223372036854775807) (w : World) (hw : HasB w b o l) :
    Calls Tryz.prog 11 #[.slice (some ⟨b, o, none⟩) l.length c] w fun e w' => e = .returned (readF l) ∧ Below w.heap.size w w' := by
  have hlt := getD_lt l hw.1
  have hF : readF l = rdV ((9 : Nat) : Int) ((l.getD 1 0 : Nat) : Int) (0 : Int) (0 : Int) (0 : Int) 2 := by
    have hrs := rs9 l
    cases l with
    | nil => simp at hmany
    | cons x t =>
      obtain rfl : x = 9 := by simpa using h0
      simp only [readF]
      rw [if_pos (by decide), if_neg (by rw [show wideF ((namedL.lookup ((9 : Nat) : Int)).getD []) = 1 from rfl]; omega), hrs]
      rfl
  rw [hF]
  exact rdA 9 (l.getD 1 0) l hL h0 (by decide) hmany (Lib.hid ⟨rfl, hlt 1⟩) (hlt 1) b o c hc hcm w hw (by decide +kernel) (by decide +kernel) (by decide +kernel) (by decide +kernel) (by decide +kernel) (by decide +kernel) (by decide +kernel)
theorem rs10 (l : List Nat) : readS l ((namedL.lookup ((10 : Nat) : Int)).getD []) 1 (0, 0, 0, 0) = ((0 : Int), ((l.getD 1 0 : Nat) : Int), ((l.getD 2 0 : Nat) : Int), ((leN (l.drop 3) 4 : Nat) : Int)) := by
  rw [show (namedL.lookup ((10 : Nat) : Int)).getD [] = (namedL.lookup 10).getD [] from rfl]
  simp [namedL, List.lookup, readS, putN, leN, pA, pB, pC, pM, pI]
theorem ra10 (l : List Nat) (hL : l.length ≤ 9223372036854775000) (h0 : l.getD 0 0 = 10) (hmany : 7 ≤ l.length) (b o c : Nat) (hc : l.length ≤ c) (hcm : c ≤ 9223372036854775807) (w : World) (hw : HasB w b o l) :
    Calls Tryz.prog 11 #[.slice (some ⟨b, o, none⟩) l.length c] w fun e w' => e = .returned (readF l) ∧ Below w.heap.size w w' := by
  have hlt := getD_lt l hw.1
  have hF : readF l = rdV ((10 : Nat) : Int) (0 : Int) ((l.getD 1 0 : Nat) : Int) ((l.getD 2 0 : Nat) : Int) ((leN (l.drop 3) 4 : Nat) : Int) 7 := by
    have hrs := rs10 l
    cases l with
    | nil => simp at hmany
    | cons x t =>
      obtain rfl : x = 10 := by simpa using h0
      simp only [readF]
      rw [if_pos (by decide), if_neg (by rw [show wideF ((namedL.lookup ((10 : Nat) : Int)).getD []) = 6 from rfl]; omega), hrs]
      rfl
  rw [hF]
  exact rdBN 10 (l.getD 1 0) (l.getD 2 0) (leN (l.drop 3) 4) l hL h0 (by decide) hmany (Lib.hid ⟨rfl, hlt 1⟩) (hlt 1) (Lib.hid ⟨rfl, hlt 2⟩) (hlt 2) (Lib.hid ⟨rfl, leN_four l hw.1 3⟩) (leN_four l hw.1 3) b o c hc hcm w hw (by decide +kernel) (by decide +kernel) (by decide +kernel) (by decide +kernel) (by decide +kernel) (by decide +kernel) (by decide +kernel)
theorem rs11 (l : List Nat) : readS l ((namedL.lookup ((11 : Nat) : Int)).getD []) 1 (0, 0, 0, 0) = (((l.getD 1 0 : Nat) : Int), (0 : Int), (0 : Int), (0 : Int)) := by
  rw [show (namedL.lookup ((11 : Nat) : Int)).getD [] = (namedL.lookup 11).getD [] from rfl]
  simp [namedL, List.lookup, readS, putN, leN, pA, pB, pC, pM, pI]
theorem ra11 (l : List Nat) (hL : l.length ≤ 9223372036854775000) (h0 : l.getD 0 0 = 11) (hmany : 2 ≤ l.length) (b o c : Nat) (hc : l.length ≤ c) (hcm : c ≤ 9223372036854775807) (w : World) (hw : HasB w b o l) :
    Calls Tryz.prog 11 #[.slice (some ⟨b, o, none⟩) l.length c] w fun e w' => e = .returned (readF l) ∧ Below w.heap.size w w' := by
  have hlt := getD_lt l hw.1
  have hF : readF l = rdV ((11 : Nat) : Int) ((l.getD 1 0 : Nat) : Int) (0 : Int) (0 : Int) (0 : Int) 2 := by
    have hrs := rs11 l
    cases l with
    | nil => simp at hmany
    | cons x t =>
      obtain rfl : x = 11 := by simpa using h0
      simp only [readF]
      rw [if_pos (by decide), if_neg (by rw [show wideF ((namedL.lookup ((11 : Nat) : Int)).getD []) = 1 from rfl]; omega), hrs]
      rfl
  rw [hF]
  exact rdA 11 (l.getD 1 0) l hL h0 (by decide) hmany (Lib.hid ⟨rfl, hlt 1⟩) (hlt 1) b o c hc hcm w hw (by decide +kernel) (by decide +kernel) (by decide +kernel) (by decide +kernel) (by decide +kernel) (by decide +kernel) (by decide +kernel)
theorem rs12 (l : List Nat) : readS l ((namedL.lookup ((12 : Nat) : Int)).getD []) 1 (0, 0, 0, 0) = (((l.getD 1 0 : Nat) : Int), (0 : Int), (0 : Int), (0 : Int)) := by
  rw [show (namedL.lookup ((12 : Nat) : Int)).getD [] = (namedL.lookup 12).getD [] from rfl]
  simp [namedL, List.lookup, readS, putN, leN, pA, pB, pC, pM, pI]
theorem ra12 (l : List Nat) (hL : l.length ≤ 9223372036854775000) (h0 : l.getD 0 0 = 12) (hmany : 2 ≤ l.length) (b o c : Nat) (hc : l.length ≤ c) (hcm : c ≤ 9223372036854775807) (w : World) (hw : HasB w b o l) :
    Calls Tryz.prog 11 #[.slice (some ⟨b, o, none⟩) l.length c] w fun e w' => e = .returned (readF l) ∧ Below w.heap.size w w' := by
  have hlt := getD_lt l hw.1
  have hF : readF l = rdV ((12 : Nat) : Int) ((l.getD 1 0 : Nat) : Int) (0 : Int) (0 : Int) (0 : Int) 2 := by
    have hrs := rs12 l
    cases l with
    | nil => simp at hmany
    | cons x t =>
      obtain rfl : x = 12 := by simpa using h0
      simp only [readF]
      rw [if_pos (by decide), if_neg (by rw [show wideF ((namedL.lookup ((12 : Nat) : Int)).getD []) = 1 from rfl]; omega), hrs]
      rfl
  rw [hF]
  exact rdA 12 (l.getD 1 0) l hL h0 (by decide) hmany (Lib.hid ⟨rfl, hlt 1⟩) (hlt 1) b o c hc hcm w hw (by decide +kernel) (by decide +kernel) (by decide +kernel) (by decide +kernel) (by decide +kernel) (by decide +kernel) (by decide +kernel)
theorem rs13 (l : List Nat) : readS l ((namedL.lookup ((13 : Nat) : Int)).getD []) 1 (0, 0, 0, 0) = (((l.getD 1 0 : Nat) : Int), (0 : Int), (0 : Int), (0 : Int)) := by
  rw [show (namedL.lookup ((13 : Nat) : Int)).getD [] = (namedL.lookup 13).getD [] from rfl]
  simp [namedL, List.lookup, readS, putN, leN, pA, pB, pC, pM, pI]
theorem ra13 (l : List Nat) (hL : l.length ≤ 9223372036854775000) (h0 : l.getD 0 0 = 13) (hmany : 2 ≤ l.length) (b o c : Nat) (hc : l.length ≤ c) (hcm : c ≤ 9223372036854775807) (w : World) (hw : HasB w b o l) :
    Calls Tryz.prog 11 #[.slice (some ⟨b, o, none⟩) l.length c] w fun e w' => e = .returned (readF l) ∧ Below w.heap.size w w' := by
  have hlt := getD_lt l hw.1
  have hF : readF l = rdV ((13 : Nat) : Int) ((l.getD 1 0 : Nat) : Int) (0 : Int) (0 : Int) (0 : Int) 2 := by
    have hrs := rs13 l
    cases l with
    | nil => simp at hmany
    | cons x t =>
      obtain rfl : x = 13 := by simpa using h0
      simp only [readF]
      rw [if_pos (by decide), if_neg (by rw [show wideF ((namedL.lookup ((13 : Nat) : Int)).getD []) = 1 from rfl]; omega), hrs]
      rfl
  rw [hF]
  exact rdA 13 (l.getD 1 0) l hL h0 (by decide) hmany (Lib.hid ⟨rfl, hlt 1⟩) (hlt 1) b o c hc hcm w hw (by decide +kernel) (by decide +kernel) (by decide +kernel) (by decide +kernel) (by decide +kernel) (by decide +kernel) (by decide +kernel)
theorem rs14 (l : List Nat) : readS l ((namedL.lookup ((14 : Nat) : Int)).getD []) 1 (0, 0, 0, 0) = (((l.getD 1 0 : Nat) : Int), (0 : Int), (0 : Int), (0 : Int)) := by
  rw [show (namedL.lookup ((14 : Nat) : Int)).getD [] = (namedL.lookup 14).getD [] from rfl]
  simp [namedL, List.lookup, readS, putN, leN, pA, pB, pC, pM, pI]
theorem ra14 (l : List Nat) (hL : l.length ≤ 9223372036854775000) (h0 : l.getD 0 0 = 14) (hmany : 2 ≤ l.length) (b o c : Nat) (hc : l.length ≤ c) (hcm : c ≤ 9223372036854775807) (w : World) (hw : HasB w b o l) :
    Calls Tryz.prog 11 #[.slice (some ⟨b, o, none⟩) l.length c] w fun e w' => e = .returned (readF l) ∧ Below w.heap.size w w' := by
  have hlt := getD_lt l hw.1
  have hF : readF l = rdV ((14 : Nat) : Int) ((l.getD 1 0 : Nat) : Int) (0 : Int) (0 : Int) (0 : Int) 2 := by
    have hrs := rs14 l
    cases l with
    | nil => simp at hmany
    | cons x t =>
      obtain rfl : x = 14 := by simpa using h0
      simp only [readF]
      rw [if_pos (by decide), if_neg (by rw [show wideF ((namedL.lookup ((14 : Nat) : Int)).getD []) = 1 from rfl]; omega), hrs]
      rfl
  rw [hF]
  exact rdA 14 (l.getD 1 0) l hL h0 (by decide) hmany (Lib.hid ⟨rfl, hlt 1⟩) (hlt 1) b o c hc hcm w hw (by decide +kernel) (by decide +kernel) (by decide +kernel) (by decide +kernel) (by decide +kernel) (by decide +kernel) (by decide +kernel)
theorem rs15 (l : List Nat) : readS l ((namedL.lookup ((15 : Nat) : Int)).getD []) 1 (0, 0, 0, 0) = (((l.getD 1 0 : Nat) : Int), (0 : Int), (0 : Int), (0 : Int)) := by
  rw [show (namedL.lookup ((15 : Nat) : Int)).getD [] = (namedL.lookup 15).getD [] from rfl]
  simp [namedL, List.lookup, readS, putN, leN, pA, pB, pC, pM, pI]
theorem ra15 (l : List Nat) (hL : l.length ≤ 9223372036854775000) (h0 : l.getD 0 0 = 15) (hmany : 2 ≤ l.length) (b o c : Nat) (hc : l.length ≤ c) (hcm : c ≤ 9223372036854775807) (w : World) (hw : HasB w b o l) :
    Calls Tryz.prog 11 #[.slice (some ⟨b, o, none⟩) l.length c] w fun e w' => e = .returned (readF l) ∧ Below w.heap.size w w' := by
  have hlt := getD_lt l hw.1
  have hF : readF l = rdV ((15 : Nat) : Int) ((l.getD 1 0 : Nat) : Int) (0 : Int) (0 : Int) (0 : Int) 2 := by
    have hrs := rs15 l
    cases l with
    | nil => simp at hmany
    | cons x t =>
      obtain rfl : x = 15 := by simpa using h0
      simp only [readF]
      rw [if_pos (by decide), if_neg (by rw [show wideF ((namedL.lookup ((15 : Nat) : Int)).getD []) = 1 from rfl]; omega), hrs]
      rfl
  rw [hF]
  exact rdA 15 (l.getD 1 0) l hL h0 (by decide) hmany (Lib.hid ⟨rfl, hlt 1⟩) (hlt 1) b o c hc hcm w hw (by decide +kernel) (by decide +kernel) (by decide +kernel) (by decide +kernel) (by decide +kernel) (by decide +kernel) (by decide +kernel)
theorem rs16 (l : List Nat) : readS l ((namedL.lookup ((16 : Nat) : Int)).getD []) 1 (0, 0, 0, 0) = (((l.getD 1 0 : Nat) : Int), (0 : Int), (0 : Int), (0 : Int)) := by
  rw [show (namedL.lookup ((16 : Nat) : Int)).getD [] = (namedL.lookup 16).getD [] from rfl]
  simp [namedL, List.lookup, readS, putN, leN, pA, pB, pC, pM, pI]
theorem ra16 (l : List Nat) (hL : l.length ≤ 9223372036854775000) (h0 : l.getD 0 0 = 16) (hmany : 2 ≤ l.length) (b o c : Nat) (hc : l.length ≤ c) (hcm : c ≤ 9223372036854775807) (w : World) (hw : HasB w b o l) :
    Calls Tryz.prog 11 #[.slice (some ⟨b, o, none⟩) l.length c] w fun e w' => e = .returned (readF l) ∧ Below w.heap.size w w' := by
  have hlt := getD_lt l hw.1
  have hF : readF l = rdV ((16 : Nat) : Int) ((l.getD 1 0 : Nat) : Int) (0 : Int) (0 : Int) (0 : Int) 2 := by
    have hrs := rs16 l
    cases l with
    | nil => simp at hmany
    | cons x t =>
      obtain rfl : x = 16 := by simpa using h0
      simp only [readF]
      rw [if_pos (by decide), if_neg (by rw [show wideF ((namedL.lookup ((16 : Nat) : Int)).getD []) = 1 from rfl]; omega), hrs]
      rfl
  rw [hF]
  exact rdA 16 (l.getD 1 0) l hL h0 (by decide) hmany (Lib.hid ⟨rfl, hlt 1⟩) (hlt 1) b o c hc hcm w hw (by decide +kernel) (by decide +kernel) (by decide +kernel) (by decide +kernel) (by decide +kernel) (by decide +kernel) (by decide +kernel)
theorem rs17 (l : List Nat) : readS l ((namedL.lookup ((17 : Nat) : Int)).getD []) 1 (0, 0, 0, 0) = (((l.getD 1 0 : Nat) : Int), ((l.getD 2 0 : Nat) : Int), (0 : Int), (0 : Int)) := by
  rw [show (namedL.lookup ((17 : Nat) : Int)).getD [] = (namedL.lookup 17).getD [] from rfl]
  simp [namedL, List.lookup, readS, putN, leN, pA, pB, pC, pM, pI]
theorem ra17 (l : List Nat) (hL : l.length ≤ 9223372036854775000) (h0 : l.getD 0 0 = 17) (hmany : 3 ≤ l.length) (b o c : Nat) (hc : l.length ≤ c) (hcm : c ≤ 9223372036854775807) (w : World) (hw : HasB w b o l) :
    Calls Tryz.prog 11 #[.slice (some ⟨b, o, none⟩) l.length c] w fun e w' => e = .returned (readF l) ∧ Below w.heap.size w w' := by
  have hlt := getD_lt l hw.1
  have hF : readF l = rdV ((17 : Nat) : Int) ((l.getD 1 0 : Nat) : Int) ((l.getD 2 0 : Nat) : Int) (0 : Int) (0 : Int) 3 := by
    have hrs := rs17 l
    cases l with
    | nil => simp at hmany
    | cons x t =>
      obtain rfl : x = 17 := by simpa using h0
      simp only [readF]
      rw [if_pos (by decide), if_neg (by rw [show wideF ((namedL.lookup ((17 : Nat) : Int)).getD []) = 2 from rfl]; omega), hrs]
      rfl
  rw [hF]
  exact rdAB 17 (l.getD 1 0) (l.getD 2 0) l hL h0 (by decide) hmany (Lib.hid ⟨rfl, hlt 1⟩) (hlt 1) (Lib.hid ⟨rfl, hlt 2⟩) (hlt 2) b o c hc hcm w hw (by decide +kernel) (by decide +kernel) (by decide +kernel) (by decide +kernel) (by decide +kernel) (by decide +kernel) (by decide +kernel)
theorem rs18 (l : List Nat) : readS l ((namedL.lookup ((18 : Nat) : Int)).getD []) 1 (0, 0, 0, 0) = (((l.getD 1 0 : Nat) : Int), (0 : Int), (0 : Int), (0 : Int)) := by
  rw [show (namedL.lookup ((18 : Nat) : Int)).getD [] = (namedL.lookup 18).getD [] from rfl]
  simp [namedL, List.lookup, readS, putN, leN, pA, pB, pC, pM, pI]
theorem ra18 (l : List Nat) (hL : l.length ≤ 9223372036854775000) (h0 : l.getD 0 0 = 18) (hmany : 2 ≤ l.length) (b o c : Nat) (hc : l.length ≤ c) (hcm : c ≤ 9223372036854775807) (w : World) (hw : HasB w b o l) :
    Calls Tryz.prog 11 #[.slice (some ⟨b, o, none⟩) l.length c] w fun e w' => e = .returned (readF l) ∧ Below w.heap.size w w' := by
  have hlt := getD_lt l hw.1
  have hF : readF l = rdV ((18 : Nat) : Int) ((l.getD 1 0 : Nat) : Int) (0 : Int) (0 : Int) (0 : Int) 2 := by
    have hrs := rs18 l
    cases l with
    | nil => simp at hmany
    | cons x t =>
      obtain rfl : x = 18 := by simpa using h0
      simp only [readF]
      rw [if_pos (by decide), if_neg (by rw [show wideF ((namedL.lookup ((18 : Nat) : Int)).getD []) = 1 from rfl]; omega), hrs]
      rfl
  rw [hF]
  exact rdA 18 (l.getD 1 0) l hL h0 (by decide) hmany (Lib.hid ⟨rfl, hlt 1⟩) (hlt 1) b o c hc hcm w hw (by decide +kernel) (by decide +kernel) (by decide +kernel) (by decide +kernel) (by decide +kernel) (by decide +kernel) (by decide +kernel)
theorem rs19 (l : List Nat) : readS l ((namedL.lookup ((19 : Nat) : Int)).getD []) 1 (0, 0, 0, 0) = ((0 : Int), (0 : Int), (0 : Int), (0 : Int)) := by
  rw [show (namedL.lookup ((19 : Nat) : Int)).getD [] = (namedL.lookup 19).getD [] from rfl]
  simp [namedL, List.lookup, readS, putN, leN, pA, pB, pC, pM, pI]
theorem ra19 (l : List Nat) (hL : l.length ≤ 9223372036854775000) (h0 : l.getD 0 0 = 19) (hmany : 1 ≤ l.length) (b o c : Nat) (hc : l.length ≤ c) (hcm : c ≤ 9223372036854775807) (w : World) (hw : HasB w b o l) :
    Calls Tryz.prog 11 #[.slice (some ⟨b, o, none⟩) l.length c] w fun e w' => e = .returned (readF l) ∧ Below w.heap.size w w' := by
  have hlt := getD_lt l hw.1
  have hF : readF l = rdV ((19 : Nat) : Int) (0 : Int) (0 : Int) (0 : Int) (0 : Int) 1 := by
    have hrs := rs19 l
    cases l with
    | nil => simp at hmany
    | cons x t =>
      obtain rfl : x = 19 := by simpa using h0
      simp only [readF]
      rw [if_pos (by decide), if_neg (by rw [show wideF ((namedL.lookup ((19 : Nat) : Int)).getD []) = 0 from rfl]; omega), hrs]
      rfl
  rw [hF]
  exact rd0 19  l hL h0 (by decide) hmany  b o c hc hcm w hw (by decide +kernel) (by decide +kernel) (by decide +kernel) (by decide +kernel) (by decide +kernel) (by decide +kernel) (by decide +kernel)
end Go.Proofs.YtfnfcngkaepnjaaGreatDoor
