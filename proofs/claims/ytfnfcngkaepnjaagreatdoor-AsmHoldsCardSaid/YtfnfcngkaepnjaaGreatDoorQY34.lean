/- Joined texts: The reference of layer 8: Bytes tells what the program's tells. -/
import Derived.Test.YtfnfcngkaepnjaaGreatDoorQY33
/- The reference of layer 8: Bytes tells what the program's tells. -/
namespace Go.Proofs.YtfnfcngkaepnjaaGreatDoor
set_option linter.unusedVariables false
set_option linter.unusedSimpArgs false
open Go Go.Proofs Go.RowKit

theorem bi1 (a b c : Int) (n : Nat) (ha : 0 ≤ a ∧ a < 16) (hb : 0 ≤ b ∧ b < 16) (hc : 0 ≤ c ∧ c ≤ 16) : bytesR 1 a b c n = insB 1 a b c n := by
  have e1 : inR 1 97 = true := by decide +kernel
  have e2 : inR 1 98 = false := by decide +kernel
  have e3 : inR 1 110 = false := by decide +kernel
  have e4 : inR 1 107 = false := by decide +kernel
  have e5 : inR 1 105 = true := by decide +kernel
  have e6 : inR 1 102 = false := by decide +kernel
  have a1 : a.toNat % 256 = a.toNat := by omega
  have b1 : b.toNat % 256 = b.toNat := by omega
  have c1 : c.toNat % 256 = c.toNat := by omega
  unfold bytesR
  rw [e1, e2, e3, e4, e5, e6]
  simp [insB, namedL, List.lookup, partB, getF, pA, pB, pC, pM, pI, leL, List.range_succ, a1, b1, c1]
theorem bi2 (a b c : Int) (n : Nat) (ha : 0 ≤ a ∧ a < 16) (hb : 0 ≤ b ∧ b < 16) (hc : 0 ≤ c ∧ c ≤ 16) : bytesR 2 a b c n = insB 2 a b c n := by
  have e1 : inR 2 97 = true := by decide +kernel
  have e2 : inR 2 98 = true := by decide +kernel
  have e3 : inR 2 110 = false := by decide +kernel
  have e4 : inR 2 107 = false := by decide +kernel
  have e5 : inR 2 105 = false := by decide +kernel
  have e6 : inR 2 102 = false := by decide +kernel
  have a1 : a.toNat % 256 = a.toNat := by omega
  have b1 : b.toNat % 256 = b.toNat := by omega
  have c1 : c.toNat % 256 = c.toNat := by omega
  unfold bytesR
  rw [e1, e2, e3, e4, e5, e6]
  simp [insB, namedL, List.lookup, partB, getF, pA, pB, pC, pM, pI, leL, List.range_succ, a1, b1, c1]
theorem bi3 (a b c : Int) (n : Nat) (ha : 0 ≤ a ∧ a < 16) (hb : 0 ≤ b ∧ b < 16) (hc : 0 ≤ c ∧ c ≤ 16) : bytesR 3 a b c n = insB 3 a b c n := by
  have e1 : inR 3 97 = true := by decide +kernel
  have e2 : inR 3 98 = true := by decide +kernel
  have e3 : inR 3 110 = false := by decide +kernel
  have e4 : inR 3 107 = true := by decide +kernel
  have e5 : inR 3 105 = false := by decide +kernel
  have e6 : inR 3 102 = false := by decide +kernel
  have a1 : a.toNat % 256 = a.toNat := by omega
  have b1 : b.toNat % 256 = b.toNat := by omega
  have c1 : c.toNat % 256 = c.toNat := by omega
  unfold bytesR
  rw [e1, e2, e3, e4, e5, e6]
  simp [insB, namedL, List.lookup, partB, getF, pA, pB, pC, pM, pI, leL, List.range_succ, a1, b1, c1]
theorem bi4 (a b c : Int) (n : Nat) (ha : 0 ≤ a ∧ a < 16) (hb : 0 ≤ b ∧ b < 16) (hc : 0 ≤ c ∧ c ≤ 16) : bytesR 4 a b c n = insB 4 a b c n := by
  have e1 : inR 4 97 = false := by decide +kernel
  have e2 : inR 4 98 = false := by decide +kernel
  have e3 : inR 4 110 = false := by decide +kernel
  have e4 : inR 4 107 = false := by decide +kernel
  have e5 : inR 4 105 = true := by decide +kernel
  have e6 : inR 4 102 = false := by decide +kernel
  have a1 : a.toNat % 256 = a.toNat := by omega
  have b1 : b.toNat % 256 = b.toNat := by omega
  have c1 : c.toNat % 256 = c.toNat := by omega
  unfold bytesR
  rw [e1, e2, e3, e4, e5, e6]
  simp [insB, namedL, List.lookup, partB, getF, pA, pB, pC, pM, pI, leL, List.range_succ, a1, b1, c1]
theorem bi5 (a b c : Int) (n : Nat) (ha : 0 ≤ a ∧ a < 16) (hb : 0 ≤ b ∧ b < 16) (hc : 0 ≤ c ∧ c ≤ 16) : bytesR 5 a b c n = insB 5 a b c n := by
  have e1 : inR 5 97 = true := by decide +kernel
  have e2 : inR 5 98 = false := by decide +kernel
  have e3 : inR 5 110 = false := by decide +kernel
  have e4 : inR 5 107 = false := by decide +kernel
  have e5 : inR 5 105 = true := by decide +kernel
  have e6 : inR 5 102 = false := by decide +kernel
  have a1 : a.toNat % 256 = a.toNat := by omega
  have b1 : b.toNat % 256 = b.toNat := by omega
  have c1 : c.toNat % 256 = c.toNat := by omega
  unfold bytesR
  rw [e1, e2, e3, e4, e5, e6]
  simp [insB, namedL, List.lookup, partB, getF, pA, pB, pC, pM, pI, leL, List.range_succ, a1, b1, c1]
theorem bi6 (a b c : Int) (n : Nat) (ha : 0 ≤ a ∧ a < 16) (hb : 0 ≤ b ∧ b < 16) (hc : 0 ≤ c ∧ c ≤ 16) : bytesR 6 a b c n = insB 6 a b c n := by
  have e1 : inR 6 97 = true := by decide +kernel
  have e2 : inR 6 98 = true := by decide +kernel
  have e3 : inR 6 110 = false := by decide +kernel
  have e4 : inR 6 107 = false := by decide +kernel
  have e5 : inR 6 105 = false := by decide +kernel
  have e6 : inR 6 102 = false := by decide +kernel
  have a1 : a.toNat % 256 = a.toNat := by omega
  have b1 : b.toNat % 256 = b.toNat := by omega
  have c1 : c.toNat % 256 = c.toNat := by omega
  unfold bytesR
  rw [e1, e2, e3, e4, e5, e6]
  simp [insB, namedL, List.lookup, partB, getF, pA, pB, pC, pM, pI, leL, List.range_succ, a1, b1, c1]
theorem bi7 (a b c : Int) (n : Nat) (ha : 0 ≤ a ∧ a < 16) (hb : 0 ≤ b ∧ b < 16) (hc : 0 ≤ c ∧ c ≤ 16) : bytesR 7 a b c n = insB 7 a b c n := by
  have e1 : inR 7 97 = true := by decide +kernel
  have e2 : inR 7 98 = true := by decide +kernel
  have e3 : inR 7 110 = false := by decide +kernel
  have e4 : inR 7 107 = false := by decide +kernel
  have e5 : inR 7 105 = false := by decide +kernel
  have e6 : inR 7 102 = false := by decide +kernel
  have a1 : a.toNat % 256 = a.toNat := by omega
  have b1 : b.toNat % 256 = b.toNat := by omega
  have c1 : c.toNat % 256 = c.toNat := by omega
  unfold bytesR
  rw [e1, e2, e3, e4, e5, e6]
  simp [insB, namedL, List.lookup, partB, getF, pA, pB, pC, pM, pI, leL, List.range_succ, a1, b1, c1]
theorem bi8 (a b c : Int) (n : Nat) (ha : 0 ≤ a ∧ a < 16) (hb : 0 ≤ b ∧ b < 16) (hc : 0 ≤ c ∧ c ≤ 16) : bytesR 8 a b c n = insB 8 a b c n := by
  have e1 : inR 8 97 = true := by decide +kernel
  have e2 : inR 8 98 = true := by decide +kernel
  have e3 : inR 8 110 = true := by decide +kernel
  have e4 : inR 8 107 = false := by decide +kernel
  have e5 : inR 8 105 = false := by decide +kernel
  have e6 : inR 8 102 = true := by decide +kernel
  have a1 : a.toNat % 256 = a.toNat := by omega
  have b1 : b.toNat % 256 = b.toNat := by omega
  have c1 : c.toNat % 256 = c.toNat := by omega
  unfold bytesR
  rw [e1, e2, e3, e4, e5, e6]
  simp [insB, namedL, List.lookup, partB, getF, pA, pB, pC, pM, pI, leL, List.range_succ, a1, b1, c1]
theorem bi9 (a b c : Int) (n : Nat) (ha : 0 ≤ a ∧ a < 16) (hb : 0 ≤ b ∧ b < 16) (hc : 0 ≤ c ∧ c ≤ 16) : bytesR 9 a b c n = insB 9 a b c n := by
  have e1 : inR 9 97 = true := by decide +kernel
  have e2 : inR 9 98 = false := by decide +kernel
  have e3 : inR 9 110 = false := by decide +kernel
  have e4 : inR 9 107 = false := by decide +kernel
  have e5 : inR 9 105 = false := by decide +kernel
  have e6 : inR 9 102 = false := by decide +kernel
  have a1 : a.toNat % 256 = a.toNat := by omega
  have b1 : b.toNat % 256 = b.toNat := by omega
  have c1 : c.toNat % 256 = c.toNat := by omega
  unfold bytesR
  rw [e1, e2, e3, e4, e5, e6]
  simp [insB, namedL, List.lookup, partB, getF, pA, pB, pC, pM, pI, leL, List.range_succ, a1, b1, c1]
theorem bi10 (a b c : Int) (n : Nat) (ha : 0 ≤ a ∧ a < 16) (hb : 0 ≤ b ∧ b < 16) (hc : 0 ≤ c ∧ c ≤ 16) : bytesR 10 a b c n = insB 10 a b c n := by
  have e1 : inR 10 97 = false := by decide +kernel
  have e2 : inR 10 98 = true := by decide +kernel
  have e3 : inR 10 110 = true := by decide +kernel
  have e4 : inR 10 107 = false := by decide +kernel
  have e5 : inR 10 105 = false := by decide +kernel
  have e6 : inR 10 102 = true := by decide +kernel
  have a1 : a.toNat % 256 = a.toNat := by omega
  have b1 : b.toNat % 256 = b.toNat := by omega
  have c1 : c.toNat % 256 = c.toNat := by omega
  unfold bytesR
  rw [e1, e2, e3, e4, e5, e6]
  simp [insB, namedL, List.lookup, partB, getF, pA, pB, pC, pM, pI, leL, List.range_succ, a1, b1, c1]
theorem bi11 (a b c : Int) (n : Nat) (ha : 0 ≤ a ∧ a < 16) (hb : 0 ≤ b ∧ b < 16) (hc : 0 ≤ c ∧ c ≤ 16) : bytesR 11 a b c n = insB 11 a b c n := by
  have e1 : inR 11 97 = true := by decide +kernel
  have e2 : inR 11 98 = false := by decide +kernel
  have e3 : inR 11 110 = false := by decide +kernel
  have e4 : inR 11 107 = false := by decide +kernel
  have e5 : inR 11 105 = false := by decide +kernel
  have e6 : inR 11 102 = false := by decide +kernel
  have a1 : a.toNat % 256 = a.toNat := by omega
  have b1 : b.toNat % 256 = b.toNat := by omega
  have c1 : c.toNat % 256 = c.toNat := by omega
  unfold bytesR
  rw [e1, e2, e3, e4, e5, e6]
  simp [insB, namedL, List.lookup, partB, getF, pA, pB, pC, pM, pI, leL, List.range_succ, a1, b1, c1]
theorem bi12 (a b c : Int) (n : Nat) (ha : 0 ≤ a ∧ a < 16) (hb : 0 ≤ b ∧ b < 16) (hc : 0 ≤ c ∧ c ≤ 16) : bytesR 12 a b c n = insB 12 a b c n := by
  have e1 : inR 12 97 = true := by decide +kernel
  have e2 : inR 12 98 = false := by decide +kernel
  have e3 : inR 12 110 = false := by decide +kernel
  have e4 : inR 12 107 = false := by decide +kernel
  have e5 : inR 12 105 = false := by decide +kernel
  have e6 : inR 12 102 = false := by decide +kernel
  have a1 : a.toNat % 256 = a.toNat := by omega
  have b1 : b.toNat % 256 = b.toNat := by omega
  have c1 : c.toNat % 256 = c.toNat := by omega
  unfold bytesR
  rw [e1, e2, e3, e4, e5, e6]
  simp [insB, namedL, List.lookup, partB, getF, pA, pB, pC, pM, pI, leL, List.range_succ, a1, b1, c1]
theorem bi13 (a b c : Int) (n : Nat) (ha : 0 ≤ a ∧ a < 16) (hb : 0 ≤ b ∧ b < 16) (hc : 0 ≤ c ∧ c ≤ 16) : bytesR 13 a b c n = insB 13 a b c n := by
  have e1 : inR 13 97 = true := by decide +kernel
  have e2 : inR 13 98 = false := by decide +kernel
  have e3 : inR 13 110 = false := by decide +kernel
  have e4 : inR 13 107 = false := by decide +kernel
  have e5 : inR 13 105 = false := by decide +kernel
  have e6 : inR 13 102 = false := by decide +kernel
  have a1 : a.toNat % 256 = a.toNat := by omega
  have b1 : b.toNat % 256 = b.toNat := by omega
  have c1 : c.toNat % 256 = c.toNat := by omega
  unfold bytesR
  rw [e1, e2, e3, e4, e5, e6]
  simp [insB, namedL, List.lookup, partB, getF, pA, pB, pC, pM, pI, leL, List.range_succ, a1, b1, c1]
theorem bi14 (a b c : Int) (n : Nat) (ha : 0 ≤ a ∧ a < 16) (hb : 0 ≤ b ∧ b < 16) (hc : 0 ≤ c ∧ c ≤ 16) : bytesR 14 a b c n = insB 14 a b c n := by
  have e1 : inR 14 97 = true := by decide +kernel
  have e2 : inR 14 98 = false := by decide +kernel
  have e3 : inR 14 110 = false := by decide +kernel
  have e4 : inR 14 107 = false := by decide +kernel
  have e5 : inR 14 105 = false := by decide +kernel
  have e6 : inR 14 102 = false := by decide +kernel
  have a1 : a.toNat % 256 = a.toNat := by omega
  have b1 : b.toNat % 256 = b.toNat := by omega
  have c1 : c.toNat % 256 = c.toNat := by omega
  unfold bytesR
  rw [e1, e2, e3, e4, e5, e6]
  simp [insB, namedL, List.lookup, partB, getF, pA, pB, pC, pM, pI, leL, List.range_succ, a1, b1, c1]
theorem bi15 (a b c : Int) (n : Nat) (ha : 0 ≤ a ∧ a < 16) (hb : 0 ≤ b ∧ b < 16) (hc : 0 ≤ c ∧ c ≤ 16) : bytesR 15 a b c n = insB 15 a b c n := by
  have e1 : inR 15 97 = true := by decide +kernel
  have e2 : inR 15 98 = false := by decide +kernel
  have e3 : inR 15 110 = false := by decide +kernel
  have e4 : inR 15 107 = false := by decide +kernel
  have e5 : inR 15 105 = false := by decide +kernel
  have e6 : inR 15 102 = false := by decide +kernel
  have a1 : a.toNat % 256 = a.toNat := by omega
  have b1 : b.toNat % 256 = b.toNat := by omega
  have c1 : c.toNat % 256 = c.toNat := by omega
  unfold bytesR
  rw [e1, e2, e3, e4, e5, e6]
  simp [insB, namedL, List.lookup, partB, getF, pA, pB, pC, pM, pI, leL, List.range_succ, a1, b1, c1]
theorem bi16 (a b c : Int) (n : Nat) (ha : 0 ≤ a ∧ a < 16) (hb : 0 ≤ b ∧ b < 16) (hc : 0 ≤ c ∧ c ≤ 16) : bytesR 16 a b c n = insB 16 a b c n := by
  have e1 : inR 16 97 = true := by decide +kernel
  have e2 : inR 16 98 = false := by decide +kernel
  have e3 : inR 16 110 = false := by decide +kernel
  have e4 : inR 16 107 = false := by decide +kernel
  have e5 : inR 16 105 = false := by decide +kernel
  have e6 : inR 16 102 = false := by decide +kernel
  have a1 : a.toNat % 256 = a.toNat := by omega
  have b1 : b.toNat % 256 = b.toNat := by omega
  have c1 : c.toNat % 256 = c.toNat := by omega
  unfold bytesR
  rw [e1, e2, e3, e4, e5, e6]
  simp [insB, namedL, List.lookup, partB, getF, pA, pB, pC, pM, pI, leL, List.range_succ, a1, b1, c1]
theorem bi17 (a b c : Int) (n : Nat) (ha : 0 ≤ a ∧ a < 16) (hb : 0 ≤ b ∧ b < 16) (hc : 0 ≤ c ∧ c ≤ 16) : bytesR 17 a b c n = insB 17 a b c n := by
  have e1 : inR 17 97 = true := by decide +kernel
  have e2 : inR 17 98 = true := by decide +kernel
  have e3 : inR 17 110 = false := by decide +kernel
  have e4 : inR 17 107 = false := by decide +kernel
  have e5 : inR 17 105 = false := by decide +kernel
  have e6 : inR 17 102 = false := by decide +kernel
  have a1 : a.toNat % 256 = a.toNat := by omega
  have b1 : b.toNat % 256 = b.toNat := by omega
  have c1 : c.toNat % 256 = c.toNat := by omega
  unfold bytesR
  rw [e1, e2, e3, e4, e5, e6]
  simp [insB, namedL, List.lookup, partB, getF, pA, pB, pC, pM, pI, leL, List.range_succ, a1, b1, c1]
theorem bi18 (a b c : Int) (n : Nat) (ha : 0 ≤ a ∧ a < 16) (hb : 0 ≤ b ∧ b < 16) (hc : 0 ≤ c ∧ c ≤ 16) : bytesR 18 a b c n = insB 18 a b c n := by
  have e1 : inR 18 97 = true := by decide +kernel
  have e2 : inR 18 98 = false := by decide +kernel
  have e3 : inR 18 110 = false := by decide +kernel
  have e4 : inR 18 107 = false := by decide +kernel
  have e5 : inR 18 105 = false := by decide +kernel
  have e6 : inR 18 102 = false := by decide +kernel
  have a1 : a.toNat % 256 = a.toNat := by omega
  have b1 : b.toNat % 256 = b.toNat := by omega
  have c1 : c.toNat % 256 = c.toNat := by omega
  unfold bytesR
  rw [e1, e2, e3, e4, e5, e6]
  simp [insB, namedL, List.lookup, partB, getF, pA, pB, pC, pM, pI, leL, List.range_succ, a1, b1, c1]
theorem bi19 (a b c : Int) (n : Nat) (ha : 0 ≤ a ∧ a < 16) (hb : 0 ≤ b ∧ b < 16) (hc : 0 ≤ c ∧ c ≤ 16) : bytesR 19 a b c n = insB 19 a b c n := by
  have e1 : inR 19 97 = false := by decide +kernel
  have e2 : inR 19 98 = false := by decide +kernel
  have e3 : inR 19 110 = false := by decide +kernel
  have e4 : inR 19 107 = false := by decide +kernel
  have e5 : inR 19 105 = false := by decide +kernel
  have e6 : inR 19 102 = false := by decide +kernel
  have a1 : a.toNat % 256 = a.toNat := by omega
  have b1 : b.toNat % 256 = b.toNat := by omega
  have c1 : c.toNat % 256 = c.toNat := by omega
  unfold bytesR
  rw [e1, e2, e3, e4, e5, e6]
  simp [insB, namedL, List.lookup, partB, getF, pA, pB, pC, pM, pI, leL, List.range_succ, a1, b1, c1]

theorem bytesR_F (op a b c : Int) (n : Nat) (hop : 1 ≤ op ∧ op ≤ 19) (ha : 0 ≤ a ∧ a < 16) (hb : 0 ≤ b ∧ b < 16) (hc : 0 ≤ c ∧ c ≤ 16) : bytesR op a b c n = insB op a b c n := by
  have : op = 1 ∨ op = 2 ∨ op = 3 ∨ op = 4 ∨ op = 5 ∨ op = 6 ∨ op = 7 ∨ op = 8 ∨ op = 9 ∨ op = 10 ∨ op = 11 ∨ op = 12 ∨ op = 13 ∨ op = 14 ∨ op = 15 ∨ op = 16 ∨ op = 17 ∨ op = 18 ∨ op = 19 := by omega
  rcases this with rfl | rfl | rfl | rfl | rfl | rfl | rfl | rfl | rfl | rfl | rfl | rfl | rfl | rfl | rfl | rfl | rfl | rfl | rfl
  · exact bi1 a b c n ha hb hc
  · exact bi2 a b c n ha hb hc
  · exact bi3 a b c n ha hb hc
  · exact bi4 a b c n ha hb hc
  · exact bi5 a b c n ha hb hc
  · exact bi6 a b c n ha hb hc
  · exact bi7 a b c n ha hb hc
  · exact bi8 a b c n ha hb hc
  · exact bi9 a b c n ha hb hc
  · exact bi10 a b c n ha hb hc
  · exact bi11 a b c n ha hb hc
  · exact bi12 a b c n ha hb hc
  · exact bi13 a b c n ha hb hc
  · exact bi14 a b c n ha hb hc
  · exact bi15 a b c n ha hb hc
  · exact bi16 a b c n ha hb hc
  · exact bi17 a b c n ha hb hc
  · exact bi18 a b c n ha hb hc
  · exact bi19 a b c n ha hb hc
/-- The reference's Bytes, of an instruction that may be. -/
theorem rBytes_right (op a b c m : Int) (hm : 0 ≤ m ∧ m < 4294967296) (hr : rightF op a b c m = true) (w : World) :
    Calls Tryz.prog 43 #[insV op a b c m] w fun e w' => ∃ v, e = .returned v ∧ OwnB w.heap.size v (insB op a b c m) w' ∧ Below w.heap.size w w' := by
  obtain ⟨hop, ha, hb, hc⟩ := rightF_bd hr
  obtain ⟨n, rfl⟩ := Int.eq_ofNat_of_zero_le hm.1
  have := rBytes_any op a b c n hop ⟨by omega, by omega⟩ ⟨by omega, by omega⟩ ⟨by omega, by omega⟩ (by omega) w
  rwa [bytesR_F op a b c n hop ha hb hc] at this
/-- The reference's Right is the program's. -/
theorem rRight_F (op a b c m : Int) (hm : 0 ≤ m ∧ m < 4294967296) (w : World) :
    Calls Tryz.prog 46 #[insV op a b c m] w fun e w' => e = .returned (.bool (rightF op a b c m)) ∧ Below w.heap.size w w' := by
  have := rRight_any op a b c m hm w
  rwa [rightR_F op a b c m hm.1] at this
end Go.Proofs.YtfnfcngkaepnjaaGreatDoor
