/- Walks of the reference of layer 3: an epoch's text, digits, the epoch of any text; the statement EpochTexts. -/
import Derived.Test.YtigepikfbpodpaaDoorEpL
namespace Go.Proofs.YtigepikfbpodpaaDoor
set_option linter.unusedVariables false
open Go Go.Proofs Go.RowKit

/-- The number of digits, as the reference reckons it: at most ten times the greatest clock and nine. -/
def dgF : Nat → List UInt8 → Option Nat
  | acc, [] => some acc
  | acc, c :: l => if (48 ≤ c.toNat ∧ c.toNat ≤ 57) ∧ acc ≤ 281474976710655 then dgF (10 * acc + (c.toNat - 48)) l else none

def dgPost (l : List UInt8) (e : Ending) : Prop :=
  (∃ n, dgF 0 l = some n ∧ l ≠ [] ∧ n < 18446744073709551616 ∧ e = .returned (.tuple #[.int .u64 n, .bool true])) ∨
    ((dgF 0 l = none ∨ l = []) ∧ ∃ n : Int, e = .returned (.tuple #[.int .u64 n, .bool false]))

theorem dgF_append : ∀ (l1 l2 : List UInt8) (acc : Nat), dgF acc (l1 ++ l2) = (dgF acc l1).bind fun a => dgF a l2 := by
  intro l1
  induction l1 with
  | nil => intro l2 acc; rfl
  | cons c l ih =>
    intro l2 acc
    simp only [List.cons_append, dgF]
    split
    · exact ih _ _
    · rfl

theorem dgF_dec : ∀ u : Nat, u ≤ 281474976710655 → dgF 0 (Lib.decDigits u) = some u := by
  intro u
  induction u using Nat.strongRecOn with
  | _ u ih =>
    intro hu
    by_cases h : u < 10
    · rw [Lib.decDigits, dif_pos h]
      simp only [dgF, dig_toNat u h]
      rw [if_pos (by omega)]
      congr 1; omega
    · rw [Lib.decDigits, dif_neg h, dgF_append, ih (u / 10) (by omega) (by omega)]
      simp only [Option.bind_some, dgF, dig_toNat (u % 10) (by omega)]
      rw [if_pos (by omega)]
      congr 1; omega

theorem bytes_at (t : ByteArray) (k : Nat) (h : k < t.size) : t[k]'h = t.data.toList[k]'(by rw [← Lib.size_eq]; exact h) := rfl

set_option maxRecDepth 100000 in
set_option maxHeartbeats 2000000 in
theorem digits_any (t : ByteArray) (hs : t.size ≤ 1000000) (w : World) :
    Calls Tryd.prog 29 #[.string t] w fun e w' => dgPost t.data.toList e ∧ w = w' := by
  obtain ⟨bs, hL⟩ : ∃ bs, bs = t.data.toList := ⟨_, rfl⟩
  have hLn : bs.length = t.size := by rw [hL, Lib.size_eq]
  have hat : ∀ k (h : k < t.size), t[k]'h = bs[k]'(by omega) := fun k h => by subst hL; exact bytes_at t k h
  rw [← hL]
  clear hL
  have HAT := Lib.hid hat
  clear hat
  go_enter Tryd.func29, Tryd.ntmps29
  go_wp2
  go_loop [4, 5] (fun vn vi => ∃ (k acc : Nat) (a : Int), vn = .int .u64 a ∧ vi = .int .i64 k ∧ k ≤ t.size ∧ Hid (a = (acc : Int) ∧ acc ≤ 2814749767106559 ∧ dgF 0 bs = dgF acc (bs.drop k)))
    (fun _ vi => t.size - (intOf vi).toNat)
  case atStart => exact ⟨0, 0, 0, rfl, rfl, by omega, rfl, by omega, rfl⟩
  case round =>
    obtain ⟨k, acc, a, rfl, rfl, hk, hh⟩ := hrel
    obtain ⟨ha, hacc, hdec⟩ := hh.out
    clear hh
    have a0 : 0 ≤ a := by omega
    have a1 : a ≤ 2814749767106559 := by omega
    by_cases hkn : k < t.size
    · have hc := HAT.out k hkn
      have hdrop : bs.drop k = bs[k]'(by omega) :: bs.drop (k + 1) := List.drop_eq_getElem_cons (by omega)
      rw [hdrop] at hdec
      generalize bs[k]'(by omega) = c at hc hdec
      have hc256 : c.toNat < 256 := c.toNat_lt
      clear hdrop
      by_cases hdig : (48 ≤ c.toNat ∧ c.toNat ≤ 57) ∧ acc ≤ 281474976710655
      · have hF : dgF acc (c :: bs.drop (k + 1)) = dgF (10 * acc + (c.toNat - 48)) (bs.drop (k + 1)) := by simp only [dgF]; rw [if_pos hdig]
        have HN : Hid (10 * a + ((c.toNat : Int) - 48) = ((10 * acc + (c.toNat - 48) : Nat) : Int) ∧ 10 * acc + (c.toNat - 48) ≤ 2814749767106559 ∧ dgF 0 bs = dgF (10 * acc + (c.toNat - 48)) (bs.drop (k + 1))) := Lib.hid ⟨by omega, by omega, hdec.trans hF⟩
        obtain ⟨⟨hd0, hd1⟩, hd2⟩ := hdig
        have a2 : a ≤ 281474976710655 := by omega
        clear hacc hF hdec ha hd2
        go_wp2
        all_goals first
          | (exfalso; omega)
          | exact ⟨⟨k + 1, 10 * acc + (c.toNat - 48), 10 * a + ((c.toNat : Int) - 48), rfl, by go_num, by omega, HN⟩, by simp [intOf]; omega⟩
      · have hF : dgF acc (c :: bs.drop (k + 1)) = none := by simp only [dgF]; rw [if_neg hdig]
        rw [hF] at hdec
        have HD := Lib.hid hdec
        have HG := Lib.hid hdig
        have HA := Lib.hid ha
        clear hF hdec hdig ha hacc
        go_wp2
        all_goals first
          | (exfalso; have h1 := HG.out; have h2 := HA.out; omega)
          | (go_ret2; exact ⟨Or.inr ⟨Or.inl HD.out, _, rfl⟩, rfl⟩)
    · have hkk : k = t.size := by omega
      subst hkk
      have hF : dgF acc (bs.drop t.size) = some acc := by rw [List.drop_eq_nil_of_le (by omega)]; rfl
      rw [hF] at hdec
      have HD := Lib.hid hdec
      subst ha
      clear hF a0 a1 hdec
      have HL := Lib.hid hLn
      clear HAT hLn
      go_wp2
      go_ret2
      have hLn := HL.out
      by_cases hz : t.size = 0
      · have hb : bs = [] := List.eq_nil_of_length_eq_zero (by omega)
        refine ⟨Or.inr ⟨Or.inr hb, acc, ?_⟩, rfl⟩
        have hd : decide ((0 : Int) < (t.size : Int)) = false := decide_eq_false (by omega)
        have hd2 : decide (0 < t.size) = false := decide_eq_false (by omega)
        first | rfl | (simp only [hd2]; rfl) | (rw [hd]; rfl) | (simp [hz]; done)
      · have hb : bs ≠ [] := by intro h; rw [h] at hLn; simp at hLn; omega
        refine ⟨Or.inl ⟨acc, HD.out, hb, by omega, ?_⟩, rfl⟩
        have hd : decide ((0 : Int) < (t.size : Int)) = true := decide_eq_true (by omega)
        have hd2 : decide (0 < t.size) = true := decide_eq_true (by omega)
        first | rfl | (simp only [hd2]; rfl) | (rw [hd]; rfl)

/-- The bytes of two strings put together. -/
theorem cat_data (a b : ByteArray) : (a ++ b).data.toList = a.data.toList ++ b.data.toList := by simp

set_option maxRecDepth 100000 in
set_option maxHeartbeats 1000000 in
theorem rText_any (x : Int) (h0 : 0 ≤ x) (h1 : x < 18446744073709551616) (w : World) (hE : Env w) :
    Calls Tryd.prog 15 #[.int .u64 x] w fun e w' => e = .returned (.string ⟨(textE x.toNat).toArray⟩) ∧ Below w.heap.size w w' := by
  have n1 := Lib.nDigits_le20 (x.toNat / 281474976710656) (by omega)
  have n2 := Lib.nDigits_le20 (x.toNat % 281474976710656) (by omega)
  rw [← Lib.decDigits_length] at n1 n2
  have e1 : Lib.itoa (x / 281474976710656) = Lib.decDigits (x.toNat / 281474976710656) := by
    rw [show x / 281474976710656 = ((x.toNat / 281474976710656 : Nat) : Int) by omega]; exact Lib.itoa_nonneg _
  have e2 : (x % 281474976710656).toNat = x.toNat % 281474976710656 := by omega
  have cI := fun w hE => itoa_any (x / 281474976710656) (by omega) (by omega) w hE
  have cF := fun w hE => formatUint_any (x % 281474976710656) (by omega) (by omega) w hE
  rw [e1] at cI
  rw [e2] at cF
  have HI := Lib.hid cI
  have HF := Lib.hid cF
  have HT := Lib.hid (show textE x.toNat = Lib.decDigits (x.toNat / 281474976710656) ++ 64 :: Lib.decDigits (x.toNat % 281474976710656) from rfl)
  clear cI cF e1 e2
  generalize Lib.decDigits (x.toNat / 281474976710656) = l1 at *
  generalize Lib.decDigits (x.toNat % 281474976710656) = l2 at *
  have HC := Lib.hid (show (⟨l1.toArray⟩ ++ ⟨#[64]⟩ ++ ⟨l2.toArray⟩ : ByteArray) = ⟨(l1 ++ 64 :: l2).toArray⟩ from by
    apply WideShapes.bytes_inj
    simp)
  go_enter Tryd.func15, Tryd.ntmps15
  go_wp2_with (first
    | (go_at_call 19; refine (rParts_any x _ h0 h1).mono ?_; rintro e w1 ⟨rfl, hw1⟩; subst hw1)
    | (go_at_call 30; refine (HI.out _ hE).mono ?_; rintro e w2 ⟨rfl, hb2⟩)
    | (go_at_call 31; refine (HF.out _ (hE.on hb2)).mono ?_; rintro e w3 ⟨rfl, hb3⟩))
  go_ret
  refine ⟨?_, belT hb2 hb3⟩
  rw [HT.out, ← HC.out]
  rfl

/-- Parse's answers, at a reference's loop: no '@' up to a place. -/
theorem no_at_text (s : ByteArray) (h : ∀ j, j < s.size → s.data.toList[j]? ≠ some (64 : UInt8)) (x : Nat) : textE x ≠ s.data.toList := by
  intro hx
  have h1 : (64 : UInt8) ∈ s.data.toList := by rw [← hx]; simp [textE]
  obtain ⟨j, hj, he⟩ := List.getElem_of_mem h1
  exact h j (by rw [Lib.size_eq]; exact hj) (by rw [List.getElem?_eq_getElem hj, he])

theorem first_at (s : ByteArray) (i : Nat) (hi : i < s.size) (h64 : s.data.toList[i]? = some (64 : UInt8)) (hb : ∀ j, j < i → s.data.toList[j]? ≠ some (64 : UInt8)) (x : Nat) (hx : textE x = s.data.toList) :
    (s.extract 0 i).data.toList = Lib.decDigits (x / 281474976710656) ∧ (s.extract (i + 1) s.size).data.toList = Lib.decDigits (x % 281474976710656) := by
  have e : i = (Lib.decDigits (x / 281474976710656)).length := by
    rcases Nat.lt_trichotomy i (Lib.decDigits (x / 281474976710656)).length with h | h | h
    · exfalso
      rw [← hx] at h64
      unfold textE at h64
      rw [List.getElem?_append_left h, List.getElem?_eq_getElem h] at h64
      exact at_not _ _ (List.getElem_mem h) (Option.some.inj h64)
    · exact h
    · exfalso
      refine hb _ h ?_
      rw [← hx]
      unfold textE
      rw [List.getElem?_append_right (Nat.le_refl _)]
      simp
  have hl : s.data.toList.length = s.size := by rw [Lib.size_eq]
  constructor
  · rw [Lib.extract_data, ← hx]
    subst e
    simp [textE]
  · rw [Lib.extract_data, ← hl, ← hx]
    subst e
    simp [textE]
    rw [List.take_of_length_le (by omega)]

set_option maxRecDepth 100000 in
set_option maxHeartbeats 1000000 in
theorem rParse_any (s : ByteArray) (hs : s.size ≤ 1000) (w : World) (hE : Env w) :
    Calls Tryd.prog 14 #[.string s] w fun e w' => parsePost s e ∧ Below w.heap.size w w' := by
  have hat : ∀ k (h : k < s.size), s[k]'h = s.data.toList[k]'(by rw [← Lib.size_eq]; exact h) := fun k h => rfl
  have HAT := Lib.hid hat
  have HF := Lib.hid (first_at s)
  have HN := Lib.hid (no_at_text s)
  clear hat
  go_enter Tryd.func14, Tryd.ntmps14
  go_wp2
  go_loop [4] (fun vi => ∃ k : Nat, vi = .int .i64 k ∧ k ≤ s.size ∧ Hid (∀ j, j < k → s.data.toList[j]? ≠ some (64 : UInt8)))
    (fun vi => s.size - (intOf vi).toNat)
  case atStart => exact ⟨0, rfl, by omega, fun j hj => by omega⟩
  case round =>
    obtain ⟨k, rfl, hk, hb⟩ := hrel
    by_cases hkn : k < s.size
    · have hc := HAT.out k hkn
      obtain ⟨c, hcc⟩ : ∃ c, c = s.data.toList[k]'(by rw [← Lib.size_eq]; exact hkn) := ⟨_, rfl⟩
      rw [← hcc] at hc
      have HC := Lib.hid (show s.data.toList[k]? = some c by rw [hcc, List.getElem?_eq_getElem])
      clear hcc
      have hc256 : c.toNat < 256 := c.toNat_lt
      by_cases h64 : c = 64
      · subst h64
        have b1 : 0 ≤ (k : Int) + 1 := by omega
        have b2 : (k : Int) + 1 ≤ s.size := by omega
        have HG : Hid (∀ x : Nat, x < 18446744073709551616 → textE x = s.data.toList → dgF 0 (s.extract 0 k).data.toList = some (x / 281474976710656) ∧ dgF 0 (s.extract (k + 1) s.size).data.toList = some (x % 281474976710656)) := by
          intro x hx0 hx1
          obtain ⟨g1, g2⟩ := HF.out k hkn HC.out hb.out x hx1
          rw [g1, g2]
          exact ⟨dgF_dec _ (by omega), dgF_dec _ (by omega)⟩
        have z1 : (s.extract 0 k).size ≤ 1000000 := by rw [ByteArray.size_extract]; omega
        have z2 : (s.extract (k + 1) s.size).size ≤ 1000000 := by rw [ByteArray.size_extract]; omega
        have D1 := Lib.hid fun w => digits_any (s.extract 0 k) z1 w
        have D2 := Lib.hid fun w => digits_any (s.extract (k + 1) s.size) z2 w
        go_wp2_with fail
        refine (D1.out _).mono ?_
        rintro e w1 ⟨p1, rfl⟩
        generalize hsa : s.extract 0 k = sa at HG D1 z1 p1 ⊢
        rcases p1 with ⟨n1, q1, q2, q3, rfl⟩ | ⟨q1, v1, rfl⟩
        · have Q1 := Lib.hid q1
          clear q1 q2
          go_wp2_with fail
          refine (D2.out _).mono ?_
          rintro e w2 ⟨p2, rfl⟩
          generalize hsb : s.extract (k + 1) s.size = sb at HG D2 z2 p2 ⊢
          rcases p2 with ⟨n2, r1, r2, r3, rfl⟩ | ⟨r1, v2, rfl⟩
          · have R1 := Lib.hid r1
            clear r1 r2 hsb hsa
            by_cases hg : n1 ≤ 65535 ∧ n2 ≤ 281474976710655
            · obtain ⟨g1, g2⟩ := hg
              have cp := rPack_any n1 n2 w (by omega) (by omega) (by omega) (by omega)
              have ep : packF n1 n2 = ((n1 : Int) * 281474976710656 + n2, 0) := by unfold packF; rw [if_pos (by omega)]
              rw [ep] at cp
              have CP := Lib.hid cp
              have e1 : ((n1 : Int) * 281474976710656 + n2).toNat = n1 * 281474976710656 + n2 := by omega
              have hT := rText_any ((n1 : Int) * 281474976710656 + n2) (by omega) (by omega) w hE
              rw [e1] at hT
              have HT := Lib.hid hT
              clear cp ep e1 hT
              go_wp2_with (first
                | (go_at_call 18; refine CP.out.mono ?_; rintro e w3 ⟨rfl, hw3⟩; obtain rfl : w = w3 := hw3.symm)
                | (go_at_call 15; refine HT.out.mono ?_; rintro e w4 ⟨rfl, hb4⟩))
              · have hx : (!textE (n1 * 281474976710656 + n2) == s.toList) = true := by assumption
                go_ret2
                refine ⟨Or.inr ⟨?_, rfl⟩, hb4⟩
                intro x hx0 hx1
                obtain ⟨h3, h4⟩ := HG.out x hx0 hx1
                have h5 := Option.some.inj (Q1.out.symm.trans h3)
                have h6 := Option.some.inj (R1.out.symm.trans h4)
                have h7 : n1 * 281474976710656 + n2 = x := by omega
                rw [h7, hx1, toList_data] at hx
                simp at hx
              · have hx : (!textE (n1 * 281474976710656 + n2) == s.toList) = false := by assumption
                go_ret2
                refine ⟨Or.inl ⟨n1 * 281474976710656 + n2, by omega, ?_, ?_⟩, hb4⟩
                · rw [toList_data] at hx; simpa using hx
                · congr 1
            · have HGG := Lib.hid hg
              clear hg
              have fin : Hid (∀ x : Nat, x < 18446744073709551616 → textE x ≠ s.data.toList) := by
                intro x hx0 hx1
                obtain ⟨h3, h4⟩ := HG.out x hx0 hx1
                have h5 := Option.some.inj (Q1.out.symm.trans h3)
                have h6 := Option.some.inj (R1.out.symm.trans h4)
                exact HGG.out ⟨by omega, by omega⟩
              go_wp2_with fail
              all_goals first
                | (exfalso; have := HGG.out; omega)
                | (go_ret2; exact ⟨Or.inr ⟨fin.out, rfl⟩, Below.refl _ _⟩)
          · have fin : Hid (∀ x : Nat, x < 18446744073709551616 → textE x ≠ s.data.toList) := by
              intro x hx0 hx1
              obtain ⟨h3, h4⟩ := HG.out x hx0 hx1
              rcases r1 with r1 | r1
              · rw [r1] at h4; cases h4
              · have g2 := (HF.out k hkn HC.out hb.out x hx1).2
                have h6 : sb.data.toList = Lib.decDigits (x % 281474976710656) := by rw [← hsb]; exact g2
                rw [r1] at h6
                exact dec_ne _ h6.symm
            clear r1 hsb hsa
            go_wp2_with fail
            go_ret2
            exact ⟨Or.inr ⟨fin.out, rfl⟩, Below.refl _ _⟩
        · have fin : Hid (∀ x : Nat, x < 18446744073709551616 → textE x ≠ s.data.toList) := by
            intro x hx0 hx1
            obtain ⟨h3, h4⟩ := HG.out x hx0 hx1
            rcases q1 with q1 | q1
            · rw [q1] at h3; cases h3
            · have g2 := (HF.out k hkn HC.out hb.out x hx1).1
              have h6 : sa.data.toList = Lib.decDigits (x / 281474976710656) := by rw [← hsa]; exact g2
              rw [q1] at h6
              exact dec_ne _ h6.symm
          clear q1
          have HSA := Lib.hid hsa
          clear hsa
          go_wp2_with fail
          refine (D2.out _).mono ?_
          rintro e w2 ⟨p2, rfl⟩
          rcases p2 with ⟨n2, r1, r2, r3, rfl⟩ | ⟨r1, v2, rfl⟩
          · clear r1 r2
            go_wp2_with fail
            go_ret2
            exact ⟨Or.inr ⟨fin.out, rfl⟩, Below.refl _ _⟩
          · clear r1
            go_wp2_with fail
            go_ret2
            exact ⟨Or.inr ⟨fin.out, rfl⟩, Below.refl _ _⟩
      · have e64 : ((c.toNat : Int) == 64) = false := by
          rw [beq_eq_false_iff_ne]; intro h; apply h64; apply UInt8.toNat_inj.1; have h2 : (c.toNat : Int) = 64 := by simpa using h
          simp; omega
        have HB2 : Hid (∀ j, j < k + 1 → s.data.toList[j]? ≠ some (64 : UInt8)) := by
          intro j hj
          rcases Nat.lt_or_ge j k with h | h
          · exact hb.out j h
          · obtain rfl : j = k := by omega
            rw [HC.out]; intro h; exact h64 (Option.some.inj h)
        go_wp2
        exact ⟨⟨k + 1, by go_num, by omega, HB2⟩, by simp [intOf]; omega⟩
    · obtain rfl : k = s.size := by omega
      go_wp2
      go_ret2
      exact ⟨Or.inr ⟨fun x _ => HN.out hb.out x, rfl⟩, Below.refl _ _⟩

set_option maxRecDepth 100000 in
set_option maxHeartbeats 1000000 in
theorem law_texts (x : Int) (s : ByteArray) (w : World) (hE : Env w) (h0 : 0 ≤ x) (h1 : x < 18446744073709551616) (hmax : s.size ≤ 9223372036854775807) :
    Calls Tryd.prog 4 #[.int .u64 x, .string s] w fun e w' => e = .returned (.bool true) ∧ Below w.heap.size w w' := by
  by_cases hs : s.size ≤ 60
  · have hi : (s.size : Int) ≤ 60 := by omega
    have hp : parsePost ⟨(textE x.toNat).toArray⟩ = fun e => e = .returned (.tuple #[.int .u64 x, .int .i64 0]) := by
      funext e
      apply propext
      constructor
      · rintro (⟨y, hy, he, rfl⟩ | ⟨hn, _⟩)
        · have := text_inj y x.toNat hy (by omega) he
          subst this
          congr 3
          rw [Int.toNat_of_nonneg h0]
        · exact absurd rfl (hn x.toNat (by omega))
      · rintro rfl
        refine Or.inl ⟨x.toNat, by omega, rfl, ?_⟩
        rw [Int.toNat_of_nonneg h0]
    have hz : (⟨(textE x.toNat).toArray⟩ : ByteArray).size ≤ 1000000 := by
      have n1 := Lib.nDigits_le20 (x.toNat / 281474976710656) (by omega)
      have n2 := Lib.nDigits_le20 (x.toNat % 281474976710656) (by omega)
      rw [← Lib.decDigits_length] at n1 n2
      simp [ByteArray.size, textE]; omega
    have c1 := text_any x h0 h1
    have c2 := parse_any _ hz
    rw [hp] at c2
    have C3 := Lib.hid (parse_any s (by omega))
    have C4 := Lib.hid (rParse_any s (by omega))
    have c5 := rText_any x h0 h1
    generalize (⟨(textE x.toNat).toArray⟩ : ByteArray) = T at c1 c2 c5
    have C1 := Lib.hid c1
    have C2 := Lib.hid c2
    have C5 := Lib.hid c5
    clear c1 c2 c5 hp hz
    have key : ∀ (e1 e2 : Ending), parsePost s e1 → parsePost s e2 → ∃ (z f : Int), e1 = .returned (.tuple #[.int .u64 z, .int .i64 f]) ∧ e2 = .returned (.tuple #[.int .u64 z, .int .i64 f]) ∧ (f = 0 → 0 ≤ z ∧ z < 18446744073709551616 ∧ (⟨(textE z.toNat).toArray⟩ : ByteArray) = s) ∧ (f = 0 ∨ f = 131) := by
      rintro e1 e2 (⟨a, ha, hea, rfl⟩ | ⟨hna, rfl⟩) (⟨b, hb, heb, rfl⟩ | ⟨hnb, rfl⟩)
      · have := text_inj a b ha hb (hea.trans heb.symm)
        subst this
        refine ⟨a, 0, rfl, rfl, fun _ => ⟨by omega, by omega, ?_⟩, Or.inl rfl⟩
        apply WideShapes.bytes_inj
        rw [Int.toNat_natCast]
        exact hea
      · exact absurd hea (hnb a ha)
      · exact absurd heb (hna b hb)
      · exact ⟨0, 131, rfl, rfl, fun h => by omega, Or.inr rfl⟩
    have KEY := Lib.hid key
    clear key
    go_enter Tryd.func4, Tryd.ntmps4
    go_wp2_with fail
    refine (C1.out _ hE).mono ?_
    rintro e w1 ⟨rfl, hb1⟩
    go_wp2_with fail
    refine (C2.out _ (hE.on hb1)).mono ?_
    rintro e w2 ⟨rfl, hb2⟩
    have B2 := belT hb1 hb2
    go_wp2_with fail
    refine (C3.out _ (hE.on B2)).mono ?_
    rintro e1 w3 ⟨p3, hb3⟩
    have B3 := belT B2 hb3
    obtain ⟨z, f, rfl, -, hz, hf⟩ := KEY.out e1 e1 p3 p3
    have P3 := Lib.hid p3
    clear p3 hz
    go_wp2_with fail
    refine (C4.out _ (hE.on B3)).mono ?_
    rintro e2 w4 ⟨p4, hb4⟩
    have B4 := belT B3 hb4
    obtain ⟨z', f', h5, rfl, hz, -⟩ := KEY.out _ e2 P3.out p4
    obtain ⟨rfl, rfl⟩ : z = z' ∧ f = f' := by
      simp at h5; exact h5
    clear p4 h5
    rcases hf with rfl | rfl
    · obtain ⟨z0, z1, z2⟩ := hz rfl
      clear hz
      have c6 := text_any z z0 z1
      rw [z2] at c6
      have C6 := Lib.hid c6
      clear c6 z2
      go_wp2_with (first
        | (go_at_call 10; refine (num_any _ _).mono ?_; rintro e wn ⟨rfl, rfl⟩)
        | (go_at_call 15; refine (C5.out _ (hE.on B4)).mono ?_; rintro e w5 ⟨rfl, hb5⟩)
        | (go_at_call 12; refine (C6.out _ (hE.on (belT B4 hb5))).mono ?_; rintro e w6 ⟨rfl, hb6⟩)
        | (go_at_call 11; refine (works_any _ (hE.on (belT (belT B4 hb5) hb6))).mono ?_; rintro e w7 ⟨rfl, hb7⟩))
      go_ret
      exact ⟨rfl, belT (belT (belT B4 hb5) hb6) hb7⟩
    · clear hz
      go_wp2_with (first
        | (go_at_call 10; refine (num_any _ _).mono ?_; rintro e wn ⟨rfl, rfl⟩)
        | (go_at_call 15; refine (C5.out _ (hE.on B4)).mono ?_; rintro e w5 ⟨rfl, hb5⟩)
        | (go_at_call 11; refine (works_any _ (hE.on (belT B4 hb5))).mono ?_; rintro e w7 ⟨rfl, hb7⟩))
      go_ret
      exact ⟨rfl, belT (belT B4 hb5) hb7⟩
  · have hi : 60 < (s.size : Int) := by omega
    go_enter Tryd.func4, Tryd.ntmps4
    go_wp2_with (go_at_call 11; refine (works_any _ hE).mono ?_; rintro e w7 ⟨rfl, hb7⟩)
    go_ret
    exact ⟨rfl, hb7⟩
end Go.Proofs.YtigepikfbpodpaaDoor
