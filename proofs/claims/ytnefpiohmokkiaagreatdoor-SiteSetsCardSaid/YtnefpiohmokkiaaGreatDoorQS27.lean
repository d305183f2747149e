/- Joined texts: strconv.Atoi at every text: some int and an error or none; of a numeral without a sign or a leading zero its number. -/
import Derived.Test.YtnefpiohmokkiaaGreatDoorQS3
import Derived.Test.YtnefpiohmokkiaaGreatDoorQS26
import Derived.Lib.AtoiAll
import Derived.Lib.AtoiAllCases
/- strconv.Atoi at every text: some int and an error or none; of a numeral without a sign or a leading zero its number. -/
namespace Go.Proofs.YtnefpiohmokkiaaGreatDoor
set_option linter.unusedVariables false
open Go Go.Proofs Go.RowKit

theorem pu10_append : ∀ (l1 l2 : List UInt8) (acc a : Nat), Lib.parseUint10 acc l1 = .ok a → Lib.parseUint10 acc (l1 ++ l2) = Lib.parseUint10 a l2 := by
  intro l1
  induction l1 with
  | nil => intro l2 acc a h; simp only [Lib.parseUint10] at h; injection h with h; subst h; rfl
  | cons c l ih =>
    intro l2 acc a h
    simp only [List.cons_append, Lib.parseUint10] at h ⊢
    split at h
    · rename_i hd
      rw [if_pos hd]
      split at h
      · cases h
      · rename_i h2
        rw [if_neg h2]
        split at h
        · cases h
        · rename_i h3
          rw [if_neg h3]
          exact ih _ _ _ h
    · cases h

theorem pu10_dec : ∀ u : Nat, u < 1000000000 → Lib.parseUint10 0 (Lib.decDigits u) = .ok u := by
  intro u
  induction u using Nat.strongRecOn with
  | _ u ih =>
    intro hu
    by_cases h : u < 10
    · rw [Lib.decDigits, dif_pos h]
      simp only [Lib.parseUint10, dig_toNat u h]
      rw [if_pos (by omega), if_neg (by omega), if_neg (by omega)]
      congr 1; omega
    · rw [Lib.decDigits, dif_neg h, pu10_append _ _ _ _ (ih (u / 10) (by omega) (by omega))]
      simp only [Lib.parseUint10, dig_toNat (u % 10) (by omega)]
      rw [if_pos (by omega), if_neg (by omega), if_neg (by omega)]
      congr 1; omega

theorem atoi_dec (u : Nat) (hu : u < 1000000000) : Lib.atoiAll (Lib.decDigits u) = .ok (u : Int) := by
  have h1 := pu10_dec u hu
  have h2 := dec_digit u
  have h3 := dec_ne u
  generalize Lib.decDigits u = l at h1 h2 h3
  cases l with
  | nil => exact absurd rfl h3
  | cons c r =>
    have hc := h2 c (by simp)
    unfold Lib.atoiAll
    have hn : ¬ (c.toNat = 43 ∨ c.toNat = 45) := by omega
    have hm : Lib.parseMag (c :: r) = .ok u := by unfold Lib.parseMag; rw [if_neg (by simp)]; exact h1
    simp only
    rw [if_neg hn, hm]
    simp only
    rw [if_neg (by omega), if_neg (by omega), if_neg (by omega)]

/-- What strconv.Atoi tells of a text. -/
def atoiOut (l : List UInt8) (e : Ending) : Prop :=
  ∃ (v : Int) (er : Value), e = .returned (.tuple #[.int .i64 v, er]) ∧ (er = .nilIface ∨ ∃ t x, er = .iface t x) ∧ -9223372036854775808 ≤ v ∧ v ≤ 9223372036854775807 ∧
    ∀ n : Nat, n < 1000000000 → l = Lib.decDigits n → v = n ∧ er = .nilIface

theorem bytesWorld_bel (w : World) (e : TypeId) (s : ByteArray) : Below w.heap.size w (Lib.bytesWorld w e s) := Lib.bytesWorld_below w e s

theorem atoi_any (s : ByteArray) (hlim : s.size ≤ 281474976710656) (w : World) (hE : Env w) :
    Calls Tryz.prog 76 #[.string s] w fun e w' => atoiOut s.data.toList e ∧ Below w.heap.size w w' := by
  rcases h : Lib.atoiAll s.data.toList with v | _ | _
  · refine (Tryz.strconv_Atoi_ok s (by omega) v h w).mono ?_
    rintro e w' ⟨rfl, hw⟩
    have hb := Lib.atoiAll_bounds h
    refine ⟨⟨v, .nilIface, rfl, Or.inl rfl, hb.1, hb.2, ?_⟩, ?_⟩
    · intro n hn he
      rw [he, atoi_dec n hn] at h
      injection h with h
      exact ⟨h.symm, rfl⟩
    · rcases hw with rfl | ⟨t, rfl⟩
      · exact Below.refl _ _
      · exact bytesWorld_bel _ _ _
  · obtain ⟨ev, h1, h2⟩ := hE.syn
    refine (Any.strconv_Atoi_syntax Tryz.laysC172 s hlim h ev w h1 h2).mono ?_
    rintro e w' ⟨N, rfl, _, _, hb⟩
    refine ⟨⟨_, _, rfl, Or.inr ⟨_, _, rfl⟩, by omega, by omega, ?_⟩, hb⟩
    intro n hn he
    rw [he, atoi_dec n hn] at h
    cases h
  · obtain ⟨ev, h1, h2⟩ := hE.rng
    refine (Any.strconv_Atoi_range Tryz.laysC172 s hlim h ev w h1 h2).mono ?_
    rintro e w' ⟨N, rfl, _, _, hb⟩
    refine ⟨⟨_, _, rfl, Or.inr ⟨_, _, rfl⟩, ?_, ?_, ?_⟩, hb⟩
    · unfold Lib.atoiSat; split <;> omega
    · unfold Lib.atoiSat; split <;> omega
    · intro n hn he
      rw [he, atoi_dec n hn] at h
      cases h
end Go.Proofs.YtnefpiohmokkiaaGreatDoor
