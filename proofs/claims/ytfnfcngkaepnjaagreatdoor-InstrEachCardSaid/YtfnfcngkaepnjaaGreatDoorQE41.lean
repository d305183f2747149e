/- Joined texts: Plain laws of instructions' bytes: what is read has the bytes that were read. -/
import Derived.Test.YtfnfcngkaepnjaaGreatDoorQE40
import Derived.Test.YtfnfcngkaepnjaaGreatDoorQE35
/- Plain laws of instructions' bytes: what is read has the bytes that were read. -/
namespace Go.Proofs.YtfnfcngkaepnjaaGreatDoor
set_option linter.unusedVariables false
set_option linter.unusedSimpArgs false
open Go Go.Proofs Go.RowKit

theorem leN_digit (l : List Nat) (h : ∀ x ∈ l, x < 256) (i : Nat) : ∀ k, i < k → leN l k / 256 ^ i % 256 = l.getD i 0
  | 0, hi => absurd hi (Nat.not_lt_zero _)
  | k + 1, hi => by
    simp only [leN]
    have hy := getD_lt l h k
    have hA := leN_lt l h k
    have hp : 0 < 256 ^ i := Nat.pow_pos (by decide)
    by_cases hik : i = k
    · subst hik
      rw [Nat.add_mul_div_right _ _ hp, Nat.div_eq_of_lt hA, Nat.zero_add, Nat.mod_eq_of_lt hy]
    · obtain ⟨d, rfl⟩ : ∃ d, k = i + (d + 1) := ⟨k - i - 1, by omega⟩
      have e : l.getD (i + (d + 1)) 0 * 256 ^ (i + (d + 1)) = (256 * (l.getD (i + (d + 1)) 0 * 256 ^ d)) * 256 ^ i := by
        rw [Nat.pow_add, Nat.pow_succ]
        ac_rfl
      rw [e, Nat.add_mul_div_right _ _ hp, Nat.add_mul_mod_self_left]
      exact leN_digit l h i (i + (d + 1)) (by omega)
theorem leL_leN (l : List Nat) (h : ∀ x ∈ l, x < 256) (k : Nat) (hk : k ≤ l.length) : leL (leN l k) k = l.take k := by
  apply List.ext_getElem?
  intro i
  by_cases hi : i < k
  · rw [List.getElem?_take_of_lt hi]
    unfold leL
    rw [List.getElem?_map, List.getElem?_range hi]
    simp only [Option.map_some]
    rw [leN_digit l h i k hi, List.getD_eq_getElem?_getD, List.getElem?_eq_getElem (by omega)]
    rfl
  · rw [List.getElem?_eq_none (by rw [leL_length]; omega), List.getElem?_eq_none (by rw [List.length_take]; omega)]
theorem leL_one (x : Nat) (h : x < 256) : leL x 1 = [x] := by
  show [x / 256 ^ 0 % 256] = [x]
  rw [Nat.pow_zero, Nat.div_one, Nat.mod_eq_of_lt h]

theorem bk1 (l : List Nat) (hlt : ∀ x ∈ l, x < 256) (h0 : l.getD 0 0 = 1) (hmany : 6 ≤ l.length) : insB ((1 : Nat) : Int) ((l.getD 1 0 : Nat) : Int) (0 : Int) (0 : Int) ((leN (l.drop 2) 4 : Nat) : Int) = l.take 6 := by
  match l, hmany with
  | x0 :: x1 :: x2 :: x3 :: x4 :: x5 :: r, _ =>
    obtain rfl : x0 = 1 := by simpa using h0
    have o1 := leL_one x1 (hlt x1 (by simp))
    have o := leL_leN (x2 :: x3 :: x4 :: x5 :: r) (fun z hz => hlt z (by simp only [List.mem_cons] at hz ⊢; grind)) 4 (by simp)
    simp only [insB]
    rw [show (namedL.lookup ((1 : Nat) : Int)).getD [] = (namedL.lookup 1).getD [] from rfl]
    simp [namedL, List.lookup, partB, getF, pA, pB, pC, pM, pI, o1]
    simpa using o
theorem bk2 (l : List Nat) (hlt : ∀ x ∈ l, x < 256) (h0 : l.getD 0 0 = 2) (hmany : 3 ≤ l.length) : insB ((2 : Nat) : Int) ((l.getD 1 0 : Nat) : Int) ((l.getD 2 0 : Nat) : Int) (0 : Int) (0 : Int) = l.take 3 := by
  match l, hmany with
  | x0 :: x1 :: x2 :: r, _ =>
    obtain rfl : x0 = 2 := by simpa using h0
    have o1 := leL_one x1 (hlt x1 (by simp))
    have o2 := leL_one x2 (hlt x2 (by simp))
    simp only [insB]
    rw [show (namedL.lookup ((2 : Nat) : Int)).getD [] = (namedL.lookup 2).getD [] from rfl]
    simp [namedL, List.lookup, partB, getF, pA, pB, pC, pM, pI, o1, o2]
theorem bk3 (l : List Nat) (hlt : ∀ x ∈ l, x < 256) (h0 : l.getD 0 0 = 3) (hmany : 8 ≤ l.length) : insB ((3 : Nat) : Int) ((l.getD 1 0 : Nat) : Int) ((l.getD 2 0 : Nat) : Int) ((l.getD 3 0 : Nat) : Int) ((leN (l.drop 4) 4 : Nat) : Int) = l.take 8 := by
  match l, hmany with
  | x0 :: x1 :: x2 :: x3 :: x4 :: x5 :: x6 :: x7 :: r, _ =>
    obtain rfl : x0 = 3 := by simpa using h0
    have o1 := leL_one x1 (hlt x1 (by simp))
    have o2 := leL_one x2 (hlt x2 (by simp))
    have o3 := leL_one x3 (hlt x3 (by simp))
    have o := leL_leN (x4 :: x5 :: x6 :: x7 :: r) (fun z hz => hlt z (by simp only [List.mem_cons] at hz ⊢; grind)) 4 (by simp)
    simp only [insB]
    rw [show (namedL.lookup ((3 : Nat) : Int)).getD [] = (namedL.lookup 3).getD [] from rfl]
    simp [namedL, List.lookup, partB, getF, pA, pB, pC, pM, pI, o1, o2, o3]
    simpa using o
theorem bk4 (l : List Nat) (hlt : ∀ x ∈ l, x < 256) (h0 : l.getD 0 0 = 4) (hmany : 5 ≤ l.length) : insB ((4 : Nat) : Int) (0 : Int) (0 : Int) (0 : Int) ((leN (l.drop 1) 4 : Nat) : Int) = l.take 5 := by
  match l, hmany with
  | x0 :: x1 :: x2 :: x3 :: x4 :: r, _ =>
    obtain rfl : x0 = 4 := by simpa using h0

    have o := leL_leN (x1 :: x2 :: x3 :: x4 :: r) (fun z hz => hlt z (by simp only [List.mem_cons] at hz ⊢; grind)) 4 (by simp)
    simp only [insB]
    rw [show (namedL.lookup ((4 : Nat) : Int)).getD [] = (namedL.lookup 4).getD [] from rfl]
    simp [namedL, List.lookup, partB, getF, pA, pB, pC, pM, pI]
    simpa using o
theorem bk5 (l : List Nat) (hlt : ∀ x ∈ l, x < 256) (h0 : l.getD 0 0 = 5) (hmany : 6 ≤ l.length) : insB ((5 : Nat) : Int) ((l.getD 1 0 : Nat) : Int) (0 : Int) (0 : Int) ((leN (l.drop 2) 4 : Nat) : Int) = l.take 6 := by
  match l, hmany with
  | x0 :: x1 :: x2 :: x3 :: x4 :: x5 :: r, _ =>
    obtain rfl : x0 = 5 := by simpa using h0
    have o1 := leL_one x1 (hlt x1 (by simp))
    have o := leL_leN (x2 :: x3 :: x4 :: x5 :: r) (fun z hz => hlt z (by simp only [List.mem_cons] at hz ⊢; grind)) 4 (by simp)
    simp only [insB]
    rw [show (namedL.lookup ((5 : Nat) : Int)).getD [] = (namedL.lookup 5).getD [] from rfl]
    simp [namedL, List.lookup, partB, getF, pA, pB, pC, pM, pI, o1]
    simpa using o
theorem bk6 (l : List Nat) (hlt : ∀ x ∈ l, x < 256) (h0 : l.getD 0 0 = 6) (hmany : 3 ≤ l.length) : insB ((6 : Nat) : Int) ((l.getD 1 0 : Nat) : Int) ((l.getD 2 0 : Nat) : Int) (0 : Int) (0 : Int) = l.take 3 := by
  match l, hmany with
  | x0 :: x1 :: x2 :: r, _ =>
    obtain rfl : x0 = 6 := by simpa using h0
    have o1 := leL_one x1 (hlt x1 (by simp))
    have o2 := leL_one x2 (hlt x2 (by simp))
    simp only [insB]
    rw [show (namedL.lookup ((6 : Nat) : Int)).getD [] = (namedL.lookup 6).getD [] from rfl]
    simp [namedL, List.lookup, partB, getF, pA, pB, pC, pM, pI, o1, o2]
theorem bk7 (l : List Nat) (hlt : ∀ x ∈ l, x < 256) (h0 : l.getD 0 0 = 7) (hmany : 3 ≤ l.length) : insB ((7 : Nat) : Int) ((l.getD 1 0 : Nat) : Int) ((l.getD 2 0 : Nat) : Int) (0 : Int) (0 : Int) = l.take 3 := by
  match l, hmany with
  | x0 :: x1 :: x2 :: r, _ =>
    obtain rfl : x0 = 7 := by simpa using h0
    have o1 := leL_one x1 (hlt x1 (by simp))
    have o2 := leL_one x2 (hlt x2 (by simp))
    simp only [insB]
    rw [show (namedL.lookup ((7 : Nat) : Int)).getD [] = (namedL.lookup 7).getD [] from rfl]
    simp [namedL, List.lookup, partB, getF, pA, pB, pC, pM, pI, o1, o2]
theorem bk8 (l : List Nat) (hlt : ∀ x ∈ l, x < 256) (h0 : l.getD 0 0 = 8) (hmany : 8 ≤ l.length) : insB ((8 : Nat) : Int) ((l.getD 1 0 : Nat) : Int) ((l.getD 2 0 : Nat) : Int) ((l.getD 3 0 : Nat) : Int) ((leN (l.drop 4) 4 : Nat) : Int) = l.take 8 := by
  match l, hmany with
  | x0 :: x1 :: x2 :: x3 :: x4 :: x5 :: x6 :: x7 :: r, _ =>
    obtain rfl : x0 = 8 := by simpa using h0
    have o1 := leL_one x1 (hlt x1 (by simp))
    have o2 := leL_one x2 (hlt x2 (by simp))
    have o3 := leL_one x3 (hlt x3 (by simp))
    have o := leL_leN (x4 :: x5 :: x6 :: x7 :: r) (fun z hz => hlt z (by simp only [List.mem_cons] at hz ⊢; grind)) 4 (by simp)
    simp only [insB]
    rw [show (namedL.lookup ((8 : Nat) : Int)).getD [] = (namedL.lookup 8).getD [] from rfl]
    simp [namedL, List.lookup, partB, getF, pA, pB, pC, pM, pI, o1, o2, o3]
    simpa using o
theorem bk9 (l : List Nat) (hlt : ∀ x ∈ l, x < 256) (h0 : l.getD 0 0 = 9) (hmany : 2 ≤ l.length) : insB ((9 : Nat) : Int) ((l.getD 1 0 : Nat) : Int) (0 : Int) (0 : Int) (0 : Int) = l.take 2 := by
  match l, hmany with
  | x0 :: x1 :: r, _ =>
    obtain rfl : x0 = 9 := by simpa using h0
    have o1 := leL_one x1 (hlt x1 (by simp))
    simp only [insB]
    rw [show (namedL.lookup ((9 : Nat) : Int)).getD [] = (namedL.lookup 9).getD [] from rfl]
    simp [namedL, List.lookup, partB, getF, pA, pB, pC, pM, pI, o1]
theorem bk10 (l : List Nat) (hlt : ∀ x ∈ l, x < 256) (h0 : l.getD 0 0 = 10) (hmany : 7 ≤ l.length) : insB ((10 : Nat) : Int) (0 : Int) ((l.getD 1 0 : Nat) : Int) ((l.getD 2 0 : Nat) : Int) ((leN (l.drop 3) 4 : Nat) : Int) = l.take 7 := by
  match l, hmany with
  | x0 :: x1 :: x2 :: x3 :: x4 :: x5 :: x6 :: r, _ =>
    obtain rfl : x0 = 10 := by simpa using h0
    have o1 := leL_one x1 (hlt x1 (by simp))
    have o2 := leL_one x2 (hlt x2 (by simp))
    have o := leL_leN (x3 :: x4 :: x5 :: x6 :: r) (fun z hz => hlt z (by simp only [List.mem_cons] at hz ⊢; grind)) 4 (by simp)
    simp only [insB]
    rw [show (namedL.lookup ((10 : Nat) : Int)).getD [] = (namedL.lookup 10).getD [] from rfl]
    simp [namedL, List.lookup, partB, getF, pA, pB, pC, pM, pI, o1, o2]
    simpa using o
theorem bk11 (l : List Nat) (hlt : ∀ x ∈ l, x < 256) (h0 : l.getD 0 0 = 11) (hmany : 2 ≤ l.length) : insB ((11 : Nat) : Int) ((l.getD 1 0 : Nat) : Int) (0 : Int) (0 : Int) (0 : Int) = l.take 2 := by
  match l, hmany with
  | x0 :: x1 :: r, _ =>
    obtain rfl : x0 = 11 := by simpa using h0
    have o1 := leL_one x1 (hlt x1 (by simp))
    simp only [insB]
    rw [show (namedL.lookup ((11 : Nat) : Int)).getD [] = (namedL.lookup 11).getD [] from rfl]
    simp [namedL, List.lookup, partB, getF, pA, pB, pC, pM, pI, o1]
theorem bk12 (l : List Nat) (hlt : ∀ x ∈ l, x < 256) (h0 : l.getD 0 0 = 12) (hmany : 2 ≤ l.length) : insB ((12 : Nat) : Int) ((l.getD 1 0 : Nat) : Int) (0 : Int) (0 : Int) (0 : Int) = l.take 2 := by
  match l, hmany with
  | x0 :: x1 :: r, _ =>
    obtain rfl : x0 = 12 := by simpa using h0
    have o1 := leL_one x1 (hlt x1 (by simp))
    simp only [insB]
    rw [show (namedL.lookup ((12 : Nat) : Int)).getD [] = (namedL.lookup 12).getD [] from rfl]
    simp [namedL, List.lookup, partB, getF, pA, pB, pC, pM, pI, o1]
theorem bk13 (l : List Nat) (hlt : ∀ x ∈ l, x < 256) (h0 : l.getD 0 0 = 13) (hmany : 2 ≤ l.length) : insB ((13 : Nat) : Int) ((l.getD 1 0 : Nat) : Int) (0 : Int) (0 : Int) (0 : Int) = l.take 2 := by
  match l, hmany with
  | x0 :: x1 :: r, _ =>
    obtain rfl : x0 = 13 := by simpa using h0
    have o1 := leL_one x1 (hlt x1 (by simp))
    simp only [insB]
    rw [show (namedL.lookup ((13 : Nat) : Int)).getD [] = (namedL.lookup 13).getD [] from rfl]
    simp [namedL, List.lookup, partB, getF, pA, pB, pC, pM, pI, o1]
theorem bk14 (l : List Nat) (hlt : ∀ x ∈ l, x < 256) (h0 : l.getD 0 0 = 14) (hmany : 2 ≤ l.length) : insB ((14 : Nat) : Int) ((l.getD 1 0 : Nat) : Int) (0 : Int) (0 : Int) (0 : Int) = l.take 2 := by
  match l, hmany with
  | x0 :: x1 :: r, _ =>
    obtain rfl : x0 = 14 := by simpa using h0
    have o1 := leL_one x1 (hlt x1 (by simp))
    simp only [insB]
    rw [show (namedL.lookup ((14 : Nat) : Int)).getD [] = (namedL.lookup 14).getD [] from rfl]
    simp [namedL, List.lookup, partB, getF, pA, pB, pC, pM, pI, o1]
theorem bk15 (l : List Nat) (hlt : ∀ x ∈ l, x < 256) (h0 : l.getD 0 0 = 15) (hmany : 2 ≤ l.length) : insB ((15 : Nat) : Int) ((l.getD 1 0 : Nat) : Int) (0 : Int) (0 : Int) (0 : Int) = l.take 2 := by
  match l, hmany with
  | x0 :: x1 :: r, _ =>
    obtain rfl : x0 = 15 := by simpa using h0
    have o1 := leL_one x1 (hlt x1 (by simp))
    simp only [insB]
    rw [show (namedL.lookup ((15 : Nat) : Int)).getD [] = (namedL.lookup 15).getD [] from rfl]
    simp [namedL, List.lookup, partB, getF, pA, pB, pC, pM, pI, o1]
theorem bk16 (l : List Nat) (hlt : ∀ x ∈ l, x < 256) (h0 : l.getD 0 0 = 16) (hmany : 2 ≤ l.length) : insB ((16 : Nat) : Int) ((l.getD 1 0 : Nat) : Int) (0 : Int) (0 : Int) (0 : Int) = l.take 2 := by
  match l, hmany with
  | x0 :: x1 :: r, _ =>
    obtain rfl : x0 = 16 := by simpa using h0
    have o1 := leL_one x1 (hlt x1 (by simp))
    simp only [insB]
    rw [show (namedL.lookup ((16 : Nat) : Int)).getD [] = (namedL.lookup 16).getD [] from rfl]
    simp [namedL, List.lookup, partB, getF, pA, pB, pC, pM, pI, o1]
theorem bk17 (l : List Nat) (hlt : ∀ x ∈ l, x < 256) (h0 : l.getD 0 0 = 17) (hmany : 3 ≤ l.length) : insB ((17 : Nat) : Int) ((l.getD 1 0 : Nat) : Int) ((l.getD 2 0 : Nat) : Int) (0 : Int) (0 : Int) = l.take 3 := by
  match l, hmany with
  | x0 :: x1 :: x2 :: r, _ =>
    obtain rfl : x0 = 17 := by simpa using h0
    have o1 := leL_one x1 (hlt x1 (by simp))
    have o2 := leL_one x2 (hlt x2 (by simp))
    simp only [insB]
    rw [show (namedL.lookup ((17 : Nat) : Int)).getD [] = (namedL.lookup 17).getD [] from rfl]
    simp [namedL, List.lookup, partB, getF, pA, pB, pC, pM, pI, o1, o2]
theorem bk18 (l : List Nat) (hlt : ∀ x ∈ l, x < 256) (h0 : l.getD 0 0 = 18) (hmany : 2 ≤ l.length) : insB ((18 : Nat) : Int) ((l.getD 1 0 : Nat) : Int) (0 : Int) (0 : Int) (0 : Int) = l.take 2 := by
  match l, hmany with
  | x0 :: x1 :: r, _ =>
    obtain rfl : x0 = 18 := by simpa using h0
    have o1 := leL_one x1 (hlt x1 (by simp))
    simp only [insB]
    rw [show (namedL.lookup ((18 : Nat) : Int)).getD [] = (namedL.lookup 18).getD [] from rfl]
    simp [namedL, List.lookup, partB, getF, pA, pB, pC, pM, pI, o1]
theorem bk19 (l : List Nat) (hlt : ∀ x ∈ l, x < 256) (h0 : l.getD 0 0 = 19) (hmany : 1 ≤ l.length) : insB ((19 : Nat) : Int) (0 : Int) (0 : Int) (0 : Int) (0 : Int) = l.take 1 := by
  match l, hmany with
  | x0 :: r, _ =>
    obtain rfl : x0 = 19 := by simpa using h0
    simp only [insB]
    rw [show (namedL.lookup ((19 : Nat) : Int)).getD [] = (namedL.lookup 19).getD [] from rfl]
    simp [namedL, List.lookup, partB, getF, pA, pB, pC, pM, pI]

theorem bk_all (l : List Nat) (hlt : ∀ x ∈ l, x < 256) (x : Nat) (h0 : l.getD 0 0 = x) (hx : 1 ≤ x ∧ x ≤ 19) (hs : ¬ l.length < 1 + wideF ((namedL.lookup (x : Int)).getD [])) (s : Int × Int × Int × Int) (he : s = readS l ((namedL.lookup (x : Int)).getD []) 1 (0, 0, 0, 0)) :
    insB x s.1 s.2.1 s.2.2.1 s.2.2.2 = l.take (1 + wideF ((namedL.lookup (x : Int)).getD [])) := by
  have : x = 1 ∨ x = 2 ∨ x = 3 ∨ x = 4 ∨ x = 5 ∨ x = 6 ∨ x = 7 ∨ x = 8 ∨ x = 9 ∨ x = 10 ∨ x = 11 ∨ x = 12 ∨ x = 13 ∨ x = 14 ∨ x = 15 ∨ x = 16 ∨ x = 17 ∨ x = 18 ∨ x = 19 := by omega
  rcases this with rfl | rfl | rfl | rfl | rfl | rfl | rfl | rfl | rfl | rfl | rfl | rfl | rfl | rfl | rfl | rfl | rfl | rfl | rfl
  · rw [show wideF ((namedL.lookup ((1 : Nat) : Int)).getD []) = 5 from rfl] at hs ⊢
    rw [rs1] at he
    subst he
    exact bk1 l hlt h0 (by omega)
  · rw [show wideF ((namedL.lookup ((2 : Nat) : Int)).getD []) = 2 from rfl] at hs ⊢
    rw [rs2] at he
    subst he
    exact bk2 l hlt h0 (by omega)
  · rw [show wideF ((namedL.lookup ((3 : Nat) : Int)).getD []) = 7 from rfl] at hs ⊢
    rw [rs3] at he
    subst he
    exact bk3 l hlt h0 (by omega)
  · rw [show wideF ((namedL.lookup ((4 : Nat) : Int)).getD []) = 4 from rfl] at hs ⊢
    rw [rs4] at he
    subst he
    exact bk4 l hlt h0 (by omega)
  · rw [show wideF ((namedL.lookup ((5 : Nat) : Int)).getD []) = 5 from rfl] at hs ⊢
    rw [rs5] at he
    subst he
    exact bk5 l hlt h0 (by omega)
  · rw [show wideF ((namedL.lookup ((6 : Nat) : Int)).getD []) = 2 from rfl] at hs ⊢
    rw [rs6] at he
    subst he
    exact bk6 l hlt h0 (by omega)
  · rw [show wideF ((namedL.lookup ((7 : Nat) : Int)).getD []) = 2 from rfl] at hs ⊢
    rw [rs7] at he
    subst he
    exact bk7 l hlt h0 (by omega)
  · rw [show wideF ((namedL.lookup ((8 : Nat) : Int)).getD []) = 7 from rfl] at hs ⊢
    rw [rs8] at he
    subst he
    exact bk8 l hlt h0 (by omega)
  · rw [show wideF ((namedL.lookup ((9 : Nat) : Int)).getD []) = 1 from rfl] at hs ⊢
    rw [rs9] at he
    subst he
    exact bk9 l hlt h0 (by omega)
  · rw [show wideF ((namedL.lookup ((10 : Nat) : Int)).getD []) = 6 from rfl] at hs ⊢
    rw [rs10] at he
    subst he
    exact bk10 l hlt h0 (by omega)
  · rw [show wideF ((namedL.lookup ((11 : Nat) : Int)).getD []) = 1 from rfl] at hs ⊢
    rw [rs11] at he
    subst he
    exact bk11 l hlt h0 (by omega)
  · rw [show wideF ((namedL.lookup ((12 : Nat) : Int)).getD []) = 1 from rfl] at hs ⊢
    rw [rs12] at he
    subst he
    exact bk12 l hlt h0 (by omega)
  · rw [show wideF ((namedL.lookup ((13 : Nat) : Int)).getD []) = 1 from rfl] at hs ⊢
    rw [rs13] at he
    subst he
    exact bk13 l hlt h0 (by omega)
  · rw [show wideF ((namedL.lookup ((14 : Nat) : Int)).getD []) = 1 from rfl] at hs ⊢
    rw [rs14] at he
    subst he
    exact bk14 l hlt h0 (by omega)
  · rw [show wideF ((namedL.lookup ((15 : Nat) : Int)).getD []) = 1 from rfl] at hs ⊢
    rw [rs15] at he
    subst he
    exact bk15 l hlt h0 (by omega)
  · rw [show wideF ((namedL.lookup ((16 : Nat) : Int)).getD []) = 1 from rfl] at hs ⊢
    rw [rs16] at he
    subst he
    exact bk16 l hlt h0 (by omega)
  · rw [show wideF ((namedL.lookup ((17 : Nat) : Int)).getD []) = 2 from rfl] at hs ⊢
    rw [rs17] at he
    subst he
    exact bk17 l hlt h0 (by omega)
  · rw [show wideF ((namedL.lookup ((18 : Nat) : Int)).getD []) = 1 from rfl] at hs ⊢
    rw [rs18] at he
    subst he
    exact bk18 l hlt h0 (by omega)
  · rw [show wideF ((namedL.lookup ((19 : Nat) : Int)).getD []) = 0 from rfl] at hs ⊢
    rw [rs19] at he
    subst he
    exact bk19 l hlt h0 (by omega)

/-- What is read may be, and has the bytes that were read. -/
theorem read_back (l : List Nat) (hlt : ∀ x ∈ l, x < 256) (op a b c m n : Int) (h : readF l = readV op a b c m n 0) : rightF op a b c m = true ∧ (0 ≤ m ∧ m < 4294967296) ∧ ∃ k : Nat, n = k ∧ k ≤ l.length ∧ insB op a b c m = l.take k := by
  cases l with
  | nil =>
    have := (readV_inj (show readV 0 0 0 0 0 0 110 = readV op a b c m n 0 from h)).2.2
    omega
  | cons x t =>
    simp only [readF] at h
    by_cases hx : 1 ≤ (x : Int) ∧ (x : Int) ≤ 19
    · rw [if_pos hx] at h
      by_cases hs : (x :: t).length < 1 + wideF ((namedL.lookup (x : Int)).getD [])
      · rw [if_pos hs] at h
        have := (readV_inj h).2.2
        omega
      · rw [if_neg hs] at h
        have hbd := readS_bd (x :: t) hlt ((namedL.lookup (x : Int)).getD []) 1 (0, 0, 0, 0) (named_parts x) ⟨by simp, by simp⟩
        have hall := bk_all (x :: t) hlt x rfl ⟨by omega, by omega⟩ hs _ rfl
        generalize readS (x :: t) ((namedL.lookup (x : Int)).getD []) 1 (0, 0, 0, 0) = s at h hbd hall
        cases hr : rightF x s.1 s.2.1 s.2.2.1 s.2.2.2 with
        | false =>
          rw [if_neg (by rw [hr]; decide)] at h
          have := (readV_inj h).2.2
          omega
        | true =>
          rw [if_pos hr] at h
          obtain ⟨⟨rfl, rfl, rfl, rfl, rfl⟩, rfl, _⟩ := readV_inj h
          exact ⟨hr, hbd, _, rfl, by omega, hall⟩
    · rw [if_neg hx] at h
      have := (readV_inj h).2.2
      omega
end Go.Proofs.YtfnfcngkaepnjaaGreatDoor
