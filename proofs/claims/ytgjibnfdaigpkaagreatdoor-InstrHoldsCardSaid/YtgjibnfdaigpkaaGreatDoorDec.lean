/- Plain laws of decimals. -/
import Derived.Test.YtgjibnfdaigpkaaGreatDoorNumP
import Derived.Lib.ItoaLen
namespace Go.Proofs.YtgjibnfdaigpkaaGreatDoor
set_option linter.unusedVariables false
open Go Go.Proofs Go.RowKit

theorem puF_append (m : Nat) : ∀ (l1 l2 : List UInt8) (acc : Nat), puF m acc (l1 ++ l2) = (puF m acc l1).bind fun a => puF m a l2 := by
  intro l1
  induction l1 with
  | nil => intro l2 acc; rfl
  | cons c l ih =>
    intro l2 acc
    simp only [List.cons_append, puF]
    split
    · split
      · rfl
      · exact ih _ _
    · rfl

theorem puF_le (m : Nat) : ∀ (l : List UInt8) (acc n : Nat), acc ≤ m → puF m acc l = some n → n ≤ m := by
  intro l
  induction l with
  | nil => intro acc n h e; simp [puF] at e; omega
  | cons c l ih =>
    intro acc n h e
    simp only [puF] at e
    split at e
    · split at e
      · cases e
      · exact ih _ _ (by omega) e
    · cases e

theorem puG_le {m n : Nat} {l : List UInt8} (h : puG m l = some n) : n ≤ m := by
  unfold puG at h
  split at h
  · cases h
  · exact puF_le m l 0 n (Nat.zero_le _) h

theorem dig_toNat (d : Nat) (h : d < 10) : (UInt8.ofNat (48 + d)).toNat = 48 + d := by
  rw [UInt8.toNat_ofNat']; omega

theorem puF_dec (m : Nat) : ∀ u : Nat, u ≤ m → puF m 0 (Lib.decDigits u) = some u := by
  intro u
  induction u using Nat.strongRecOn with
  | _ u ih =>
    intro hu
    by_cases h : u < 10
    · rw [Lib.decDigits, dif_pos h]
      simp only [puF, dig_toNat u h]
      rw [if_pos (by omega), if_neg (by omega)]
      congr 1; omega
    · rw [Lib.decDigits, dif_neg h, puF_append, ih (u / 10) (by omega) (by omega)]
      simp only [Option.bind_some, puF, dig_toNat (u % 10) (by omega)]
      rw [if_pos (by omega), if_neg (by omega)]
      congr 1; omega

theorem dec_ne (u : Nat) : Lib.decDigits u ≠ [] := by
  have h1 := Lib.nDigits_pos u
  have h2 := Lib.decDigits_length u
  intro h
  rw [h] at h2
  simp at h2
  omega

theorem puG_dec (m u : Nat) (h : u ≤ m) : puG m (Lib.decDigits u) = some u := by
  unfold puG
  rw [if_neg (dec_ne u), puF_dec m u h]

theorem dec_digit (u : Nat) : ∀ c ∈ Lib.decDigits u, 48 ≤ c.toNat ∧ c.toNat ≤ 57 := by
  induction u using Nat.strongRecOn with
  | _ u ih =>
    intro c hc
    by_cases h : u < 10
    · rw [Lib.decDigits, dif_pos h] at hc
      rw [List.mem_singleton] at hc
      subst hc
      rw [dig_toNat u h]; omega
    · rw [Lib.decDigits, dif_neg h] at hc
      rcases List.mem_append.1 hc with h1 | h1
      · exact ih (u / 10) (by omega) c h1
      · rw [List.mem_singleton] at h1
        subst h1
        rw [dig_toNat (u % 10) (by omega)]; omega
end Go.Proofs.YtgjibnfdaigpkaaGreatDoor
