/- Joined texts: The reference of layer 8: what Right tells is what the program's tells.; Walks of the reference of layer 1: right, Fixed, ReadFixed, at four bytes.; Plain laws of instructions' bytes: what is read of them; none's begin another one's. -/
import Derived.Test.YtfnfcngkaepnjaaGreatDoorQL18
import Derived.Test.YtfnfcngkaepnjaaGreatDoorQL7
import Derived.Deep.OwnRows
/- The reference of layer 8: what Right tells is what the program's tells. -/
namespace Go.Proofs.YtfnfcngkaepnjaaGreatDoor
set_option linter.unusedVariables false
set_option linter.unusedSimpArgs false
open Go Go.Proofs Go.RowKit

theorem rf1 (a b c m : Int) : rightR 1 a b c m = rightF 1 a b c m := by
  have e1 : inR 1 97 = true := by decide +kernel
  have e2 : inR 1 98 = false := by decide +kernel
  have e3 : inR 1 110 = false := by decide +kernel
  have e4 : inR 1 107 = false := by decide +kernel
  have e5 : inR 1 105 = true := by decide +kernel
  unfold rightR rightF restR restF regR
  rw [e1, e2, e3, e4, e5, Bool.eq_iff_iff]
  simp [putsF, namedL, List.lookup, putF, pA, pB, pC, pM, pI]
  try omega
theorem rf2 (a b c m : Int) : rightR 2 a b c m = rightF 2 a b c m := by
  have e1 : inR 2 97 = true := by decide +kernel
  have e2 : inR 2 98 = true := by decide +kernel
  have e3 : inR 2 110 = false := by decide +kernel
  have e4 : inR 2 107 = false := by decide +kernel
  have e5 : inR 2 105 = false := by decide +kernel
  unfold rightR rightF restR restF regR
  rw [e1, e2, e3, e4, e5, Bool.eq_iff_iff]
  simp [putsF, namedL, List.lookup, putF, pA, pB, pC, pM, pI]
  try omega
theorem rf3 (a b c m : Int) : rightR 3 a b c m = rightF 3 a b c m := by
  have e1 : inR 3 97 = true := by decide +kernel
  have e2 : inR 3 98 = true := by decide +kernel
  have e3 : inR 3 110 = false := by decide +kernel
  have e4 : inR 3 107 = true := by decide +kernel
  have e5 : inR 3 105 = false := by decide +kernel
  unfold rightR rightF restR restF regR
  rw [e1, e2, e3, e4, e5, Bool.eq_iff_iff]
  simp [putsF, namedL, List.lookup, putF, pA, pB, pC, pM, pI]
  try omega
theorem rf4 (a b c m : Int) : rightR 4 a b c m = rightF 4 a b c m := by
  have e1 : inR 4 97 = false := by decide +kernel
  have e2 : inR 4 98 = false := by decide +kernel
  have e3 : inR 4 110 = false := by decide +kernel
  have e4 : inR 4 107 = false := by decide +kernel
  have e5 : inR 4 105 = true := by decide +kernel
  unfold rightR rightF restR restF regR
  rw [e1, e2, e3, e4, e5, Bool.eq_iff_iff]
  simp [putsF, namedL, List.lookup, putF, pA, pB, pC, pM, pI]
  try omega
theorem rf5 (a b c m : Int) : rightR 5 a b c m = rightF 5 a b c m := by
  have e1 : inR 5 97 = true := by decide +kernel
  have e2 : inR 5 98 = false := by decide +kernel
  have e3 : inR 5 110 = false := by decide +kernel
  have e4 : inR 5 107 = false := by decide +kernel
  have e5 : inR 5 105 = true := by decide +kernel
  unfold rightR rightF restR restF regR
  rw [e1, e2, e3, e4, e5, Bool.eq_iff_iff]
  simp [putsF, namedL, List.lookup, putF, pA, pB, pC, pM, pI]
  try omega
theorem rf6 (a b c m : Int) : rightR 6 a b c m = rightF 6 a b c m := by
  have e1 : inR 6 97 = true := by decide +kernel
  have e2 : inR 6 98 = true := by decide +kernel
  have e3 : inR 6 110 = false := by decide +kernel
  have e4 : inR 6 107 = false := by decide +kernel
  have e5 : inR 6 105 = false := by decide +kernel
  unfold rightR rightF restR restF regR
  rw [e1, e2, e3, e4, e5, Bool.eq_iff_iff]
  simp [putsF, namedL, List.lookup, putF, pA, pB, pC, pM, pI]
  try omega
theorem rf7 (a b c m : Int) : rightR 7 a b c m = rightF 7 a b c m := by
  have e1 : inR 7 97 = true := by decide +kernel
  have e2 : inR 7 98 = true := by decide +kernel
  have e3 : inR 7 110 = false := by decide +kernel
  have e4 : inR 7 107 = false := by decide +kernel
  have e5 : inR 7 105 = false := by decide +kernel
  unfold rightR rightF restR restF regR
  rw [e1, e2, e3, e4, e5, Bool.eq_iff_iff]
  simp [putsF, namedL, List.lookup, putF, pA, pB, pC, pM, pI]
  try omega
theorem rf8 (a b c m : Int) : rightR 8 a b c m = rightF 8 a b c m := by
  have e1 : inR 8 97 = true := by decide +kernel
  have e2 : inR 8 98 = true := by decide +kernel
  have e3 : inR 8 110 = true := by decide +kernel
  have e4 : inR 8 107 = false := by decide +kernel
  have e5 : inR 8 105 = false := by decide +kernel
  unfold rightR rightF restR restF regR
  rw [e1, e2, e3, e4, e5, Bool.eq_iff_iff]
  simp [putsF, namedL, List.lookup, putF, pA, pB, pC, pM, pI]
  try omega
theorem rf9 (a b c m : Int) : rightR 9 a b c m = rightF 9 a b c m := by
  have e1 : inR 9 97 = true := by decide +kernel
  have e2 : inR 9 98 = false := by decide +kernel
  have e3 : inR 9 110 = false := by decide +kernel
  have e4 : inR 9 107 = false := by decide +kernel
  have e5 : inR 9 105 = false := by decide +kernel
  unfold rightR rightF restR restF regR
  rw [e1, e2, e3, e4, e5, Bool.eq_iff_iff]
  simp [putsF, namedL, List.lookup, putF, pA, pB, pC, pM, pI]
  try omega
theorem rf10 (a b c m : Int) : rightR 10 a b c m = rightF 10 a b c m := by
  have e1 : inR 10 97 = false := by decide +kernel
  have e2 : inR 10 98 = true := by decide +kernel
  have e3 : inR 10 110 = true := by decide +kernel
  have e4 : inR 10 107 = false := by decide +kernel
  have e5 : inR 10 105 = false := by decide +kernel
  unfold rightR rightF restR restF regR
  rw [e1, e2, e3, e4, e5, Bool.eq_iff_iff]
  simp [putsF, namedL, List.lookup, putF, pA, pB, pC, pM, pI]
  try omega
theorem rf11 (a b c m : Int) : rightR 11 a b c m = rightF 11 a b c m := by
  have e1 : inR 11 97 = true := by decide +kernel
  have e2 : inR 11 98 = false := by decide +kernel
  have e3 : inR 11 110 = false := by decide +kernel
  have e4 : inR 11 107 = false := by decide +kernel
  have e5 : inR 11 105 = false := by decide +kernel
  unfold rightR rightF restR restF regR
  rw [e1, e2, e3, e4, e5, Bool.eq_iff_iff]
  simp [putsF, namedL, List.lookup, putF, pA, pB, pC, pM, pI]
  try omega
theorem rf12 (a b c m : Int) : rightR 12 a b c m = rightF 12 a b c m := by
  have e1 : inR 12 97 = true := by decide +kernel
  have e2 : inR 12 98 = false := by decide +kernel
  have e3 : inR 12 110 = false := by decide +kernel
  have e4 : inR 12 107 = false := by decide +kernel
  have e5 : inR 12 105 = false := by decide +kernel
  unfold rightR rightF restR restF regR
  rw [e1, e2, e3, e4, e5, Bool.eq_iff_iff]
  simp [putsF, namedL, List.lookup, putF, pA, pB, pC, pM, pI]
  try omega
theorem rf13 (a b c m : Int) : rightR 13 a b c m = rightF 13 a b c m := by
  have e1 : inR 13 97 = true := by decide +kernel
  have e2 : inR 13 98 = false := by decide +kernel
  have e3 : inR 13 110 = false := by decide +kernel
  have e4 : inR 13 107 = false := by decide +kernel
  have e5 : inR 13 105 = false := by decide +kernel
  unfold rightR rightF restR restF regR
  rw [e1, e2, e3, e4, e5, Bool.eq_iff_iff]
  simp [putsF, namedL, List.lookup, putF, pA, pB, pC, pM, pI]
  try omega
theorem rf14 (a b c m : Int) : rightR 14 a b c m = rightF 14 a b c m := by
  have e1 : inR 14 97 = true := by decide +kernel
  have e2 : inR 14 98 = false := by decide +kernel
  have e3 : inR 14 110 = false := by decide +kernel
  have e4 : inR 14 107 = false := by decide +kernel
  have e5 : inR 14 105 = false := by decide +kernel
  unfold rightR rightF restR restF regR
  rw [e1, e2, e3, e4, e5, Bool.eq_iff_iff]
  simp [putsF, namedL, List.lookup, putF, pA, pB, pC, pM, pI]
  try omega
theorem rf15 (a b c m : Int) : rightR 15 a b c m = rightF 15 a b c m := by
  have e1 : inR 15 97 = true := by decide +kernel
  have e2 : inR 15 98 = false := by decide +kernel
  have e3 : inR 15 110 = false := by decide +kernel
  have e4 : inR 15 107 = false := by decide +kernel
  have e5 : inR 15 105 = false := by decide +kernel
  unfold rightR rightF restR restF regR
  rw [e1, e2, e3, e4, e5, Bool.eq_iff_iff]
  simp [putsF, namedL, List.lookup, putF, pA, pB, pC, pM, pI]
  try omega
theorem rf16 (a b c m : Int) : rightR 16 a b c m = rightF 16 a b c m := by
  have e1 : inR 16 97 = true := by decide +kernel
  have e2 : inR 16 98 = false := by decide +kernel
  have e3 : inR 16 110 = false := by decide +kernel
  have e4 : inR 16 107 = false := by decide +kernel
  have e5 : inR 16 105 = false := by decide +kernel
  unfold rightR rightF restR restF regR
  rw [e1, e2, e3, e4, e5, Bool.eq_iff_iff]
  simp [putsF, namedL, List.lookup, putF, pA, pB, pC, pM, pI]
  try omega
theorem rf17 (a b c m : Int) : rightR 17 a b c m = rightF 17 a b c m := by
  have e1 : inR 17 97 = true := by decide +kernel
  have e2 : inR 17 98 = true := by decide +kernel
  have e3 : inR 17 110 = false := by decide +kernel
  have e4 : inR 17 107 = false := by decide +kernel
  have e5 : inR 17 105 = false := by decide +kernel
  unfold rightR rightF restR restF regR
  rw [e1, e2, e3, e4, e5, Bool.eq_iff_iff]
  simp [putsF, namedL, List.lookup, putF, pA, pB, pC, pM, pI]
  try omega
theorem rf18 (a b c m : Int) : rightR 18 a b c m = rightF 18 a b c m := by
  have e1 : inR 18 97 = true := by decide +kernel
  have e2 : inR 18 98 = false := by decide +kernel
  have e3 : inR 18 110 = false := by decide +kernel
  have e4 : inR 18 107 = false := by decide +kernel
  have e5 : inR 18 105 = false := by decide +kernel
  unfold rightR rightF restR restF regR
  rw [e1, e2, e3, e4, e5, Bool.eq_iff_iff]
  simp [putsF, namedL, List.lookup, putF, pA, pB, pC, pM, pI]
  try omega
theorem rf19 (a b c m : Int) : rightR 19 a b c m = rightF 19 a b c m := by
  have e1 : inR 19 97 = false := by decide +kernel
  have e2 : inR 19 98 = false := by decide +kernel
  have e3 : inR 19 110 = false := by decide +kernel
  have e4 : inR 19 107 = false := by decide +kernel
  have e5 : inR 19 105 = false := by decide +kernel
  unfold rightR rightF restR restF regR
  rw [e1, e2, e3, e4, e5, Bool.eq_iff_iff]
  simp [putsF, namedL, List.lookup, putF, pA, pB, pC, pM, pI]
  try omega

theorem rightR_F (op a b c m : Int) (hm : 0 ≤ m) : rightR op a b c m = rightF op a b c m := by
  by_cases h : 1 ≤ op ∧ op ≤ 19
  · have : op = 1 ∨ op = 2 ∨ op = 3 ∨ op = 4 ∨ op = 5 ∨ op = 6 ∨ op = 7 ∨ op = 8 ∨ op = 9 ∨ op = 10 ∨ op = 11 ∨ op = 12 ∨ op = 13 ∨ op = 14 ∨ op = 15 ∨ op = 16 ∨ op = 17 ∨ op = 18 ∨ op = 19 := by omega
    rcases this with rfl | rfl | rfl | rfl | rfl | rfl | rfl | rfl | rfl | rfl | rfl | rfl | rfl | rfl | rfl | rfl | rfl | rfl | rfl
    · exact rf1 ..
    · exact rf2 ..
    · exact rf3 ..
    · exact rf4 ..
    · exact rf5 ..
    · exact rf6 ..
    · exact rf7 ..
    · exact rf8 ..
    · exact rf9 ..
    · exact rf10 ..
    · exact rf11 ..
    · exact rf12 ..
    · exact rf13 ..
    · exact rf14 ..
    · exact rf15 ..
    · exact rf16 ..
    · exact rf17 ..
    · exact rf18 ..
    · exact rf19 ..
  · unfold rightR rightF
    rw [decide_eq_false h]
    simp
end Go.Proofs.YtfnfcngkaepnjaaGreatDoor

/- Walks of the reference of layer 1: right, Fixed, ReadFixed, at four bytes. -/
namespace Go.Proofs.YtfnfcngkaepnjaaGreatDoor
set_option linter.unusedVariables false
open Go Go.Proofs Go.RowKit

end Go.Proofs.YtfnfcngkaepnjaaGreatDoor

/- Plain laws of instructions' bytes: what is read of them; none's begin another one's. -/
namespace Go.Proofs.YtfnfcngkaepnjaaGreatDoor
set_option linter.unusedVariables false
open Go Go.Proofs Go.RowKit

end Go.Proofs.YtfnfcngkaepnjaaGreatDoor
