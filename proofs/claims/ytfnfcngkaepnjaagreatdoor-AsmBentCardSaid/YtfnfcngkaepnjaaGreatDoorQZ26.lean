/- Joined texts: The reference of layers 5 and 8: lists of words; what a word is; numbers. -/
import Derived.Test.YtfnfcngkaepnjaaGreatDoorQZ25
import Derived.Test.YtfnfcngkaepnjaaGreatDoorQZ8
/- The reference of layers 5 and 8: lists of words; what a word is; numbers. -/
namespace Go.Proofs.YtfnfcngkaepnjaaGreatDoor
set_option linter.unusedVariables false
open Go Go.Proofs Go.RowKit

/-- A row of strings. -/
def RowS (B : Nat) (L : List ByteArray) (w : World) : Prop := ∀ j x, L[j]? = some x → w.cell? ⟨B, j, none⟩ = some (.string x)
theorem RowS.bel {B : Nat} {L : List ByteArray} {w w' : World} (h : RowS B L w) (hb : Below w.heap.size w w') : RowS B L w' := fun j x hj => cell_bel (h j x hj) hb
theorem rowS_new (L : List ByteArray) (w : World) (t : TypeId) : RowS w.heap.size L (w.alloc (.cells (L.map Value.string).toArray t)) := fun j x hj => by
  refine (cell_new w _ t j).trans ?_
  simp [hj]

def wordRL : List ByteArray := wordL.drop 1
/-- What Words and Names tell. -/
def RowQ (L : List ByteArray) (w : World) (e : Ending) (w' : World) : Prop := ∃ B, e = .returned (.slice (some ⟨B, 0, none⟩) L.length L.length) ∧ RowS B L w' ∧ Below w.heap.size w w'

theorem rWords_any (w : World) : Calls Tryz.prog 134 #[] w (RowQ wordRL w) := by
  have HR := Lib.hid (rowS_new wordRL w 9)
  go_enter Tryz.func134, Tryz.ntmps134
  go_wp2
  go_ret
  exact ⟨_, rfl, HR.out, bel1 _⟩
theorem rKinds_any (w : World) : Calls Tryz.prog 135 #[] w (RowQ kindL w) := by
  have HR := Lib.hid (rowS_new kindL w 9)
  go_enter Tryz.func135, Tryz.ntmps135
  go_wp2
  go_ret
  exact ⟨_, rfl, HR.out, bel1 _⟩

theorem rWords19 (w : World) : Calls Tryz.prog 134 #[] w fun e w' => ∃ B, e = .returned (.slice (some ⟨B, 0, none⟩) 19 19) ∧ RowS B wordRL w' ∧ Below w.heap.size w w' := rWords_any w
theorem rKinds12 (w : World) : Calls Tryz.prog 135 #[] w fun e w' => ∃ B, e = .returned (.slice (some ⟨B, 0, none⟩) 12 12) ∧ RowS B kindL w' ∧ Below w.heap.size w w' := rKinds_any w

/-- The kind that a word is; 0: of none. -/
def KindP (s : ByteArray) (k : Int) : Prop := (∃ j : Nat, j < 12 ∧ kindN j = s ∧ k = (j : Int) + 1) ∨ ((∀ j : Nat, j < 12 → kindN j ≠ s) ∧ k = 0)
def KindQ (s : ByteArray) (w : World) (e : Ending) (w' : World) : Prop := ∃ k, KindP s k ∧ e = .returned (.int .i64 k) ∧ Below w.heap.size w w'

theorem kindN_at (j : Nat) (h : j < 12) : kindL[j]? = some (kindN j) := by
  unfold kindN
  rw [List.getD_eq_getElem?_getD, List.getElem?_eq_getElem (show j < kindL.length from h)]
  rfl

set_option maxRecDepth 100000 in
set_option maxHeartbeats 1000000 in
theorem rKind_any (s : ByteArray) (w : World) : Calls Tryz.prog 137 #[.string s] w (KindQ s w) := by
  have CN := Lib.hid fun W => rKinds12 W
  have HAT := Lib.hid kindN_at
  generalize kindL = KL at CN HAT
  go_enter Tryz.func137, Tryz.ntmps137
  go_wp2_with fail
  refine (CN.out _).mono ?_
  rintro e w1 ⟨B, rfl, hR, hb1⟩
  have HR := Lib.hid hR
  clear hR
  go_wp2_with fail
  go_loop [4] (fun vi => ∃ k : Nat, vi = .int .i64 k ∧ k ≤ 12 ∧ Hid (∀ j : Nat, j < k → kindN j ≠ s)) (fun vi => 12 - (intOf vi).toNat)
  case atStart => exact ⟨0, rfl, by omega, Lib.hid (fun j h => absurd h (Nat.not_lt_zero _))⟩
  case round =>
    obtain ⟨k, rfl, hk, hh⟩ := hrel
    by_cases hlt : k < 12
    · have x0 := HR.out k _ (HAT.out k hlt)
      by_cases he : kindN k = s
      · have e1 : ((kindN k).toList == s.toList) = true := by rw [he]; simp
        have HK := Lib.hid (show KindP s ((k : Int) + 1) from Or.inl ⟨k, hlt, he, rfl⟩)
        clear he
        generalize kindN k = x at x0 e1
        go_wp2
        go_ret
        exact ⟨_, HK.out, rfl, hb1⟩
      · have e1 := str_ne he
        have HN : Hid (∀ j : Nat, j < k + 1 → kindN j ≠ s) := Lib.hid (fun j hj => by
          by_cases h : j < k
          · exact hh.out j h
          · have : j = k := by omega
            subst this
            exact he)
        clear he hh
        generalize kindN k = x at x0 e1
        go_wp2
        exact ⟨⟨k + 1, by go_num, by omega, HN⟩, by simp [intOf]; omega⟩
    · have hk2 : k = 12 := by omega
      subst hk2
      go_wp2
      go_ret
      exact ⟨_, Or.inr ⟨hh.out, rfl⟩, rfl, hb1⟩

end Go.Proofs.YtfnfcngkaepnjaaGreatDoor
