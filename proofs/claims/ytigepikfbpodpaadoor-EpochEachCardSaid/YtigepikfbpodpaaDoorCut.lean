/- Walks of strings.Cut at a separator of one byte. -/
import Derived.Test.YtigepikfbpodpaaDoorEnv
import Derived.Lib.IndexLaws
namespace Go.Proofs.YtigepikfbpodpaaDoor
set_option linter.unusedVariables false
open Go Go.Proofs Go.RowKit

/-- What strings.Cut tells at one byte. -/
def cutBytes (s : ByteArray) (c : UInt8) : ByteArray × ByteArray × Bool :=
  if Lib.indexByte s.data.toList c = -1 then (s, ⟨#[]⟩, false) else (s.extract 0 (Lib.indexByte s.data.toList c).toNat, s.extract ((Lib.indexByte s.data.toList c).toNat + 1) s.size, true)

theorem indexByte_lt : ∀ (l : List UInt8) (c : UInt8), Lib.indexByte l c < l.length ∨ l = [] := by
  intro l c
  induction l with
  | nil => exact Or.inr rfl
  | cons b l ih =>
    left
    unfold Lib.indexByte
    split
    · simp
    · split
      · simp; omega
      · rcases ih with h | h
        · simp; omega
        · subst h; simp [Lib.indexByte] at *

theorem indexByte_cases (s : ByteArray) (c : UInt8) : Lib.indexByte s.data.toList c = -1 ∨ ∃ i : Nat, Lib.indexByte s.data.toList c = i ∧ i + 1 ≤ s.size := by
  have h1 := Lib.indexByte_ge s.data.toList c
  by_cases h : Lib.indexByte s.data.toList c = -1
  · exact Or.inl h
  · right
    refine ⟨(Lib.indexByte s.data.toList c).toNat, by omega, ?_⟩
    rcases indexByte_lt s.data.toList c with h2 | h2
    · rw [← Lib.size_eq] at h2; omega
    · rw [h2] at h; exact absurd rfl h

theorem cut_size (s : ByteArray) (c : UInt8) : (cutBytes s c).1.size ≤ s.size ∧ (cutBytes s c).2.1.size ≤ s.size := by
  unfold cutBytes
  split
  · exact ⟨Nat.le_refl _, Nat.zero_le _⟩
  · simp only [ByteArray.size_extract]
    omega

set_option maxRecDepth 100000 in
set_option maxHeartbeats 1000000 in
theorem cut_in (s : ByteArray) (c : UInt8) (hs : s.size ≤ 9223372036854775806) (w : World) :
    Calls Tryd.prog 38 #[.string s, .string ⟨#[c]⟩] w fun e w' => e = .returned (.tuple #[.string (cutBytes s c).1, .string (cutBytes s c).2.1, .bool (cutBytes s c).2.2]) ∧ Below w.heap.size w w' := by
  rcases indexByte_cases s c with hm | ⟨i, hi, hle⟩
  · have e1 : cutBytes s c = (s, ⟨#[]⟩, false) := by unfold cutBytes; rw [if_pos hm]
    rw [e1]
    have hix : ∀ w, Calls Tryd.prog 47 #[.string s, .string ⟨#[c]⟩] w fun e w' => e = .returned (.int .i64 (-1)) ∧ w' = w := by
      intro w
      have := Tryd.stringslite_Index_one s c w
      rw [hm] at this
      exact this
    have HX := Lib.hid hix
    clear hix hm e1
    go_enter Tryd.func38, Tryd.ntmps38
    go_wp2_with (go_at_call 47; refine (HX.out _).mono ?_; rintro e w' ⟨rfl, rfl⟩)
    try go_region
    all_goals (try go_wp2)
    all_goals (go_ret3; exact ⟨rfl, by first | exact Below.refl _ _ | exact (Below.refl _ _).drew⟩)
  · have e1 : cutBytes s c = (s.extract 0 i, s.extract (i + 1) s.size, true) := by unfold cutBytes; rw [if_neg (by omega), hi]; rfl
    rw [e1]
    have hix : ∀ w, Calls Tryd.prog 47 #[.string s, .string ⟨#[c]⟩] w fun e w' => e = .returned (.int .i64 i) ∧ w' = w := by
      intro w
      have := Tryd.stringslite_Index_one s c w
      rw [hi] at this
      exact this
    have HX := Lib.hid hix
    clear hix hi e1
    go_enter Tryd.func38, Tryd.ntmps38
    go_wp2_with (go_at_call 47; refine (HX.out _).mono ?_; rintro e w' ⟨rfl, rfl⟩)
    have b1 : (i : Int) + 1 ≤ s.size := by omega
    have b2 : 0 ≤ (i : Int) + 1 := by omega
    have b3 : (i : Int) ≤ s.size := by omega
    have b4 : IntKind.i64.wrap ((i : Int) + 1) = (i : Int) + 1 := IntWalk.i64_in _ (by omega)
    have b5 : ((i : Int) + 1).toNat = i + 1 := by omega
    go_quiet (fail)
    all_goals go_wp2
    go_ret3
    exact ⟨rfl, bel_drewN _ _⟩

set_option maxRecDepth 100000 in
set_option maxHeartbeats 1000000 in
theorem cut_any (s : ByteArray) (c : UInt8) (hs : s.size ≤ 9223372036854775806) (w : World) :
    Calls Tryd.prog 27 #[.string s, .string ⟨#[c]⟩] w fun e w' => e = .returned (.tuple #[.string (cutBytes s c).1, .string (cutBytes s c).2.1, .bool (cutBytes s c).2.2]) ∧ Below w.heap.size w w' := by
  have HX := Lib.hid (cut_in s c hs)
  generalize cutBytes s c = q at HX ⊢
  go_enter Tryd.func27, Tryd.ntmps27
  go_wp2_with (go_at_call 38; refine (HX.out _).mono ?_; rintro e w' ⟨rfl, hb⟩)
  go_ret3
  exact ⟨rfl, hb⟩
end Go.Proofs.YtigepikfbpodpaaDoor
