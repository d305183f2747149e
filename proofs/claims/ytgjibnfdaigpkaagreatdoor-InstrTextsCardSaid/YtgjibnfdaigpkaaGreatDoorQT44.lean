/- Joined texts: The reference of layer 8: number. -/
import Derived.Test.YtgjibnfdaigpkaaGreatDoorQT41
/- The reference of layer 8: number. -/
namespace Go.Proofs.YtgjibnfdaigpkaaGreatDoor
set_option linter.unusedVariables false
open Go Go.Proofs Go.RowKit

/-- What number tells, of a text of which Y says that it is a number's. -/
def NumY (Y : Nat → Prop) (n : Int) (f : Bool) : Prop := (f = true → 0 ≤ n ∧ n < 4294967296) ∧ ∀ x : Nat, x < 4294967296 → Y x → f = true ∧ n = x
def NumYQ (Y : Nat → Prop) (w : World) (e : Ending) (w' : World) : Prop := ∃ n f, Hid (NumY Y n f) ∧ e = .returned (.tuple #[.int .u64 n, .bool f]) ∧ w = w'

set_option maxRecDepth 100000 in
set_option maxHeartbeats 4000000 in
theorem rNum_bare (s : ByteArray) (hs : s.size ≤ 1000000) (Y : Nat → Prop) (HY : Hid (∀ x : Nat, x < 4294967296 → Y x → puF 4294967295 0 s.data.toList = some x ∧ s.data.toList ≠ [])) (w : World) :
    Calls Tryz.prog 62 #[.string s, .int .u8 0] w (NumYQ Y w) := by
  obtain ⟨bs, hL⟩ : ∃ bs, bs = s.data.toList := ⟨_, rfl⟩
  have hLn : bs.length = s.size := by rw [hL, Lib.size_eq]
  have hat : ∀ k (h : k < s.size), s[k]'h = bs[k]'(by omega) := fun k h => by subst hL; exact bytes_at s k h
  rw [← hL] at HY
  clear hL
  have HAT := Lib.hid hat
  have hLn := Lib.hid hLn
  clear hat
  go_enter Tryz.func62, Tryz.ntmps62
  go_wp2_with fail
  go_loop [6, 7] (fun vn vi => ∃ (k n : Nat), vi = .int .i64 k ∧ vn = .int .u64 n ∧ k ≤ (s).size ∧ n ≤ 42949672960 ∧ Hid (∀ x : Nat, x < 4294967296 → Y x → puF 4294967295 n (bs.drop k) = some x)) (fun _ vi => (s).size - (intOf vi).toNat)
  case atStart => exact ⟨0, 0, rfl, rfl, by omega, by omega, Lib.hid (fun x h1 h2 => (HY.out x h1 h2).1)⟩
  case round =>
    obtain ⟨k, n, rfl, rfl, hk, hn, hh⟩ := hrel
    by_cases hkn : k < (s).size
    · have hx := HAT.out k hkn
      have hbk : k < bs.length := by have := hLn.out; omega
      have hdk := List.drop_eq_getElem_cons hbk
      generalize bs[k] = ch at hx hdk
      have HD := Lib.hid hdk
      clear hdk hbk
      by_cases h1 : (ch.toNat : Int) < 48
      · have HN := Lib.hid (show ∀ x : Nat, x < 4294967296 → ¬ Y x from fun x hx hy => by
          have h2 := hh.out x hx hy
          rw [HD.out] at h2
          have := (puF_step h2).1.1
          omega)
        go_wp2
        go_ret2
        exact ⟨0, false, Lib.hid ⟨fun h => (by cases h), fun x h1 h2 => absurd h2 (HN.out x h1)⟩, rfl, rfl⟩
      · by_cases h2 : 57 < (ch.toNat : Int)
        · have HN := Lib.hid (show ∀ x : Nat, x < 4294967296 → ¬ Y x from fun x hx hy => by
            have h2 := hh.out x hx hy
            rw [HD.out] at h2
            have := (puF_step h2).1.2
            omega)
          go_wp2
          go_ret2
          exact ⟨0, false, Lib.hid ⟨fun h => (by cases h), fun x h1 h2 => absurd h2 (HN.out x h1)⟩, rfl, rfl⟩
        · by_cases h3 : 4294967295 < (n : Int)
          · have HN := Lib.hid (show ∀ x : Nat, x < 4294967296 → ¬ Y x from fun x hx hy => by
              have h2 := hh.out x hx hy
              rw [HD.out] at h2
              have := (puF_step h2).2.1
              omega)
            go_wp2
            go_ret2
            exact ⟨0, false, Lib.hid ⟨fun h => (by cases h), fun x h1 h2 => absurd h2 (HN.out x h1)⟩, rfl, rfl⟩
          · have HN := Lib.hid (show ∀ x : Nat, x < 4294967296 → Y x → puF 4294967295 (10 * n + (ch.toNat - 48)) (bs.drop (k + 1)) = some x from fun x hx hy => by
              have h2 := hh.out x hx hy
              rw [HD.out] at h2
              have := (puF_step h2).2.2
              rw [show 10 * n + (ch.toNat - 48) = n * 10 + (ch.toNat - 48) by omega]
              exact this)
            have g1 : (0 : Int) ≤ (ch.toNat : Int) - 48 := by omega
            have g2 : (ch.toNat : Int) - 48 ≤ 9 := by omega
            go_wp2
            refine ⟨⟨k + 1, 10 * n + (ch.toNat - 48), by go_num, ?_, by omega, by omega, HN⟩, by simp [intOf]; omega⟩
            congr 1
            omega
    · have hk2 : k = (s).size := by omega
      have HF := Lib.hid (show ∀ x : Nat, x < 4294967296 → Y x → (n : Int) = x ∧ 0 < (s).size from fun x hx hy => by
        have h2 := hh.out x hx hy
        rw [List.drop_of_length_le (by have := hLn.out; omega)] at h2
        have h4 := (HY.out x hx hy).2
        have h5 := Option.some.inj h2
        have h6 : bs.length ≠ 0 := fun h => h4 (List.eq_nil_of_length_eq_zero h)
        have := hLn.out
        exact ⟨by omega, by omega⟩)
      subst hk2
      by_cases h0 : 0 < (s).size
      · by_cases h3 : (n : Int) ≤ 4294967295
        · go_wp2
          go_ret2
          exact ⟨n, true, Lib.hid ⟨fun _ => ⟨by omega, by omega⟩, fun x h1 h2 => ⟨rfl, (HF.out x h1 h2).1⟩⟩, rfl, rfl⟩
        · have h3' : 4294967295 < (n : Int) := by omega
          go_wp2
          go_ret2
          exact ⟨n, false, Lib.hid ⟨fun h => (by cases h), fun x h1 h2 => by have := (HF.out x h1 h2).1; omega⟩, rfl, rfl⟩
      · go_wp2
        go_ret2
        exact ⟨n, false, Lib.hid ⟨fun h => (by cases h), fun x h1 h2 => absurd (HF.out x h1 h2).2 h0⟩, rfl, rfl⟩

set_option maxRecDepth 100000 in
set_option maxHeartbeats 4000000 in
theorem rNum_mark (s : ByteArray) (hs : s.size ≤ 1000000) (c : Nat) (hc : 0 < c ∧ c < 256) (Y : Nat → Prop)
    (HY' : Hid (∀ x : Nat, x < 4294967296 → Y x → ∃ l, s.data.toList = UInt8.ofNat c :: l ∧ puF 4294967295 0 l = some x ∧ l ≠ [])) (w : World) :
    Calls Tryz.prog 62 #[.string s, .int .u8 c] w (NumYQ Y w) := by
  obtain ⟨c1, c2⟩ := hc
  have ec : ((c : Int) == 0) = false := beq_eq_false_iff_ne.2 (by omega)
  have en : ((c : Int) != 0) = true := by rw [bne, ec]; rfl
  by_cases h0 : s.size = 0
  · have hse : s = ⟨#[]⟩ := ByteArray.ext (Array.eq_empty_of_size_eq_zero h0)
    subst hse
    have HN := Lib.hid (show ∀ x : Nat, x < 4294967296 → ¬ Y x from fun x hx hy => by
      obtain ⟨l, h, _⟩ := HY'.out x hx hy
      cases h)
    go_enter Tryz.func62, Tryz.ntmps62
    go_wp2
    go_ret2
    exact ⟨0, false, Lib.hid ⟨fun h => (by cases h), fun x h1 h2 => absurd h2 (HN.out x h1)⟩, rfl, rfl⟩
  · have hne : (s.toList == []) = false := by
      rw [beq_eq_false_iff_ne, toList_data]
      intro h
      have := Lib.size_eq s
      rw [h] at this
      exact h0 this
    have hp : 0 < s.size := by omega
    have h00 : s[0]'hp = s.data.toList[0]'(by rw [← Lib.size_eq]; exact hp) := bytes_at s 0 hp
    have hcons : s.data.toList = s[0] :: s.data.toList.drop 1 := by
      rw [h00]
      have := List.drop_eq_getElem_cons (l := s.data.toList) (i := 0) (by rw [← Lib.size_eq]; exact hp)
      simpa using this
    generalize hx0 : s[0] = x0 at hcons
    clear h00
    by_cases he : x0.toNat = c
    · have e1 : ((x0.toNat : Int) != (c : Int)) = false := by rw [he]; simp
      obtain ⟨t, ht⟩ : ∃ t, t = s.extract 1 s.size := ⟨_, rfl⟩
      have htl : t.data.toList = s.data.toList.drop 1 := by
        rw [ht, ext_list, List.take_of_length_le (by rw [← Lib.size_eq]; exact Nat.le_refl _)]
      have hts : t.size ≤ 1000000 := by rw [ht, ByteArray.size_extract]; omega
      have HY : Hid (∀ x : Nat, x < 4294967296 → Y x → puF 4294967295 0 t.data.toList = some x ∧ t.data.toList ≠ []) := Lib.hid (fun x hx hy => by
        obtain ⟨l, h1, h2, h3⟩ := HY'.out x hx hy
        rw [htl, h1]
        exact ⟨h2, h3⟩)
      have HT := Lib.hid ht
      have HX := Lib.hid hx0
      clear ht htl HY' hcons he
      obtain ⟨bs, hL⟩ : ∃ bs, bs = t.data.toList := ⟨_, rfl⟩
      have hLn : bs.length = t.size := by rw [hL, Lib.size_eq]
      have hat : ∀ k (h : k < t.size), t[k]'h = bs[k]'(by omega) := fun k h => by subst hL; exact bytes_at t k h
      rw [← hL] at HY
      clear hL
      have HAT := Lib.hid hat
      have hLn := Lib.hid hLn
      clear hat
      go_enter Tryz.func62, Tryz.ntmps62
      go_wp2_with fail
      rw [← HT.out]
      clear hne h0 hp hx0 HX hs
      go_loop [6, 7] (fun vn vi => ∃ (k n : Nat), vi = .int .i64 k ∧ vn = .int .u64 n ∧ k ≤ (t).size ∧ n ≤ 42949672960 ∧ Hid (∀ x : Nat, x < 4294967296 → Y x → puF 4294967295 n (bs.drop k) = some x)) (fun _ vi => (t).size - (intOf vi).toNat)
      case atStart => exact ⟨0, 0, rfl, rfl, by omega, by omega, Lib.hid (fun x h1 h2 => (HY.out x h1 h2).1)⟩
      case round =>
        obtain ⟨k, n, rfl, rfl, hk, hn, hh⟩ := hrel
        by_cases hkn : k < (t).size
        · have hx := HAT.out k hkn
          have hbk : k < bs.length := by have := hLn.out; omega
          have hdk := List.drop_eq_getElem_cons hbk
          generalize bs[k] = ch at hx hdk
          have HD := Lib.hid hdk
          clear hdk hbk
          by_cases h1 : (ch.toNat : Int) < 48
          · have HN := Lib.hid (show ∀ x : Nat, x < 4294967296 → ¬ Y x from fun x hx hy => by
              have h2 := hh.out x hx hy
              rw [HD.out] at h2
              have := (puF_step h2).1.1
              omega)
            go_wp2
            go_ret2
            exact ⟨0, false, Lib.hid ⟨fun h => (by cases h), fun x h1 h2 => absurd h2 (HN.out x h1)⟩, rfl, rfl⟩
          · by_cases h2 : 57 < (ch.toNat : Int)
            · have HN := Lib.hid (show ∀ x : Nat, x < 4294967296 → ¬ Y x from fun x hx hy => by
                have h2 := hh.out x hx hy
                rw [HD.out] at h2
                have := (puF_step h2).1.2
                omega)
              go_wp2
              go_ret2
              exact ⟨0, false, Lib.hid ⟨fun h => (by cases h), fun x h1 h2 => absurd h2 (HN.out x h1)⟩, rfl, rfl⟩
            · by_cases h3 : 4294967295 < (n : Int)
              · have HN := Lib.hid (show ∀ x : Nat, x < 4294967296 → ¬ Y x from fun x hx hy => by
                  have h2 := hh.out x hx hy
                  rw [HD.out] at h2
                  have := (puF_step h2).2.1
                  omega)
                go_wp2
                go_ret2
                exact ⟨0, false, Lib.hid ⟨fun h => (by cases h), fun x h1 h2 => absurd h2 (HN.out x h1)⟩, rfl, rfl⟩
              · have HN := Lib.hid (show ∀ x : Nat, x < 4294967296 → Y x → puF 4294967295 (10 * n + (ch.toNat - 48)) (bs.drop (k + 1)) = some x from fun x hx hy => by
                  have h2 := hh.out x hx hy
                  rw [HD.out] at h2
                  have := (puF_step h2).2.2
                  rw [show 10 * n + (ch.toNat - 48) = n * 10 + (ch.toNat - 48) by omega]
                  exact this)
                have g1 : (0 : Int) ≤ (ch.toNat : Int) - 48 := by omega
                have g2 : (ch.toNat : Int) - 48 ≤ 9 := by omega
                go_wp2
                refine ⟨⟨k + 1, 10 * n + (ch.toNat - 48), by go_num, ?_, by omega, by omega, HN⟩, by simp [intOf]; omega⟩
                congr 1
                omega
        · have hk2 : k = (t).size := by omega
          have HF := Lib.hid (show ∀ x : Nat, x < 4294967296 → Y x → (n : Int) = x ∧ 0 < (t).size from fun x hx hy => by
            have h2 := hh.out x hx hy
            rw [List.drop_of_length_le (by have := hLn.out; omega)] at h2
            have h4 := (HY.out x hx hy).2
            have h5 := Option.some.inj h2
            have h6 : bs.length ≠ 0 := fun h => h4 (List.eq_nil_of_length_eq_zero h)
            have := hLn.out
            exact ⟨by omega, by omega⟩)
          subst hk2
          by_cases h0 : 0 < (t).size
          · by_cases h3 : (n : Int) ≤ 4294967295
            · go_wp2
              go_ret2
              exact ⟨n, true, Lib.hid ⟨fun _ => ⟨by omega, by omega⟩, fun x h1 h2 => ⟨rfl, (HF.out x h1 h2).1⟩⟩, rfl, rfl⟩
            · have h3' : 4294967295 < (n : Int) := by omega
              go_wp2
              go_ret2
              exact ⟨n, false, Lib.hid ⟨fun h => (by cases h), fun x h1 h2 => by have := (HF.out x h1 h2).1; omega⟩, rfl, rfl⟩
          · go_wp2
            go_ret2
            exact ⟨n, false, Lib.hid ⟨fun h => (by cases h), fun x h1 h2 => absurd (HF.out x h1 h2).2 h0⟩, rfl, rfl⟩
    · have e1 : ((x0.toNat : Int) != (c : Int)) = true := by rw [bne, beq_eq_false_iff_ne.2 (by omega)]; rfl
      have HN := Lib.hid (show ∀ x : Nat, x < 4294967296 → ¬ Y x from fun x hx hy => by
        obtain ⟨l, h, _⟩ := HY'.out x hx hy
        rw [hcons] at h
        have := (List.cons.inj h).1
        exact he (by rw [this, UInt8.toNat_ofNat']; omega))
      clear he HY' hcons
      go_enter Tryz.func62, Tryz.ntmps62
      go_wp2
      go_ret2
      exact ⟨0, false, Lib.hid ⟨fun h => (by cases h), fun x h1 h2 => absurd h2 (HN.out x h1)⟩, rfl, rfl⟩

/-- A word that is a number behind a letter; letter 0: behind none. -/
def MarkY (s : ByteArray) (c : Nat) (x : Nat) : Prop := s.data.toList = (if c = 0 then [] else [UInt8.ofNat c]) ++ Lib.decDigits x
theorem rNum_any (s : ByteArray) (hs : s.size ≤ 1000000) (c : Nat) (hc : c < 256) (w : World) : Calls Tryz.prog 62 #[.string s, .int .u8 c] w (NumYQ (MarkY s c) w) := by
  by_cases h0 : c = 0
  · subst h0
    refine rNum_bare s hs _ (Lib.hid (fun x hx hy => ?_)) w
    rw [MarkY, if_pos rfl, List.nil_append] at hy
    rw [hy]
    exact ⟨puF_dec _ x (by omega), dec_ne x⟩
  · refine rNum_mark s hs c ⟨by omega, hc⟩ _ (Lib.hid (fun x hx hy => ?_)) w
    rw [MarkY, if_neg h0] at hy
    exact ⟨_, hy, puF_dec _ x (by omega), dec_ne x⟩
end Go.Proofs.YtgjibnfdaigpkaaGreatDoor
