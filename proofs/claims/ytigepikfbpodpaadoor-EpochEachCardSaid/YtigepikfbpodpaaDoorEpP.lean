/- Plain laws of epochs' texts: what is cut and read of a text is what it was made of. -/
import Derived.Test.YtigepikfbpodpaaDoorEpT
namespace Go.Proofs.YtigepikfbpodpaaDoor
set_option linter.unusedVariables false
open Go Go.Proofs Go.RowKit

theorem puF_append (m : Nat) : ∀ (l1 l2 : List UInt8) (acc : Nat), puF m acc (l1 ++ l2) = (puF m acc l1).bind fun a => puF m a l2 := by
  intro l1
  induction l1 with
  | nil => intro l2 acc; rfl
  | cons c l ih =>
    intro l2 acc
    simp only [List.cons_append, puF]
    split
    · split
      · rfl
      · exact ih _ _
    · rfl

theorem puF_le (m : Nat) : ∀ (l : List UInt8) (acc n : Nat), acc ≤ m → puF m acc l = some n → n ≤ m := by
  intro l
  induction l with
  | nil => intro acc n h e; simp [puF] at e; omega
  | cons c l ih =>
    intro acc n h e
    simp only [puF] at e
    split at e
    · split at e
      · cases e
      · exact ih _ _ (by omega) e
    · cases e

theorem puG_le {m n : Nat} {l : List UInt8} (h : puG m l = some n) : n ≤ m := by
  unfold puG at h
  split at h
  · cases h
  · exact puF_le m l 0 n (Nat.zero_le _) h

theorem dig_toNat (d : Nat) (h : d < 10) : (UInt8.ofNat (48 + d)).toNat = 48 + d := by
  rw [UInt8.toNat_ofNat']; omega

theorem puF_dec (m : Nat) : ∀ u : Nat, u ≤ m → puF m 0 (Lib.decDigits u) = some u := by
  intro u
  induction u using Nat.strongRecOn with
  | _ u ih =>
    intro hu
    by_cases h : u < 10
    · rw [Lib.decDigits, dif_pos h]
      simp only [puF, dig_toNat u h]
      rw [if_pos (by omega), if_neg (by omega)]
      congr 1; omega
    · rw [Lib.decDigits, dif_neg h, puF_append, ih (u / 10) (by omega) (by omega)]
      simp only [Option.bind_some, puF, dig_toNat (u % 10) (by omega)]
      rw [if_pos (by omega), if_neg (by omega)]
      congr 1; omega

theorem dec_ne (u : Nat) : Lib.decDigits u ≠ [] := by
  have h1 := Lib.nDigits_pos u
  have h2 := Lib.decDigits_length u
  intro h
  rw [h] at h2
  simp at h2
  omega

theorem puG_dec (m u : Nat) (h : u ≤ m) : puG m (Lib.decDigits u) = some u := by
  unfold puG
  rw [if_neg (dec_ne u), puF_dec m u h]

theorem dec_digit (u : Nat) : ∀ c ∈ Lib.decDigits u, 48 ≤ c.toNat ∧ c.toNat ≤ 57 := by
  induction u using Nat.strongRecOn with
  | _ u ih =>
    intro c hc
    by_cases h : u < 10
    · rw [Lib.decDigits, dif_pos h] at hc
      rw [List.mem_singleton] at hc
      subst hc
      rw [dig_toNat u h]; omega
    · rw [Lib.decDigits, dif_neg h] at hc
      rcases List.mem_append.1 hc with h1 | h1
      · exact ih (u / 10) (by omega) c h1
      · rw [List.mem_singleton] at h1
        subst h1
        rw [dig_toNat (u % 10) (by omega)]; omega

theorem indexByte_append (c : UInt8) : ∀ (l r : List UInt8), (∀ x ∈ l, x ≠ c) → Lib.indexByte (l ++ c :: r) c = l.length := by
  intro l
  induction l with
  | nil => intro r _; simp [Lib.indexByte]
  | cons b l ih =>
    intro r h
    have hb : (b == c) = false := by simpa using h b (by simp)
    have := ih r (fun x hx => h x (by simp [hx]))
    simp only [List.cons_append, Lib.indexByte, hb, this]
    simp

theorem at_not (u : Nat) : ∀ x ∈ Lib.decDigits u, x ≠ (64 : UInt8) := by
  intro x hx h
  have := (dec_digit u x hx).2
  subst h
  simp at this

theorem cut_text (s : ByteArray) (x : Nat) (h : textE x = s.data.toList) : (cutBytes s 64).1.data.toList = Lib.decDigits (x / 281474976710656) ∧ (cutBytes s 64).2.1.data.toList = Lib.decDigits (x % 281474976710656) := by
  have hi : Lib.indexByte s.data.toList 64 = (Lib.decDigits (x / 281474976710656)).length := by
    rw [← h]
    exact indexByte_append 64 _ _ (at_not _)
  unfold cutBytes
  rw [if_neg (by omega), hi]
  simp only [Int.toNat_natCast]
  have hl : s.data.toList.length = s.size := by rw [Lib.size_eq]
  constructor
  · rw [Lib.extract_data, ← h]
    simp [textE]
  · rw [Lib.extract_data, ← hl, ← h]
    simp [textE]
    rw [List.take_of_length_le (by omega)]

theorem text_reads (s : ByteArray) (x : Nat) (hx : x < 18446744073709551616) (h : textE x = s.data.toList) :
    puG 65535 (cutBytes s 64).1.data.toList = some (x / 281474976710656) ∧ puG 281474976710655 (cutBytes s 64).2.1.data.toList = some (x % 281474976710656) := by
  obtain ⟨h1, h2⟩ := cut_text s x h
  rw [h1, h2]
  exact ⟨puG_dec _ _ (by omega), puG_dec _ _ (by omega)⟩

/-- What a text's epoch is: the epoch that has it, or an error. -/
def parsePost (s : ByteArray) (e : Ending) : Prop :=
  (∃ x : Nat, x < 18446744073709551616 ∧ textE x = s.data.toList ∧ e = .returned (.tuple #[.int .u64 x, .int .i64 0])) ∨
    ((∀ x : Nat, x < 18446744073709551616 → textE x ≠ s.data.toList) ∧ e = .returned (.tuple #[.int .u64 0, .int .i64 131]))

theorem text_inj (x y : Nat) (hx : x < 18446744073709551616) (hy : y < 18446744073709551616) (h : textE x = textE y) : x = y := by
  have e : (⟨(textE x).toArray⟩ : ByteArray).data.toList = textE x := rfl
  obtain ⟨h1, h2⟩ := text_reads ⟨(textE x).toArray⟩ x hx e.symm
  obtain ⟨h3, h4⟩ := text_reads ⟨(textE x).toArray⟩ y hy (h.symm.trans e.symm)
  rw [h1] at h3; rw [h2] at h4
  have h5 := Option.some.inj h3
  have h6 := Option.some.inj h4
  omega
end Go.Proofs.YtigepikfbpodpaaDoor
