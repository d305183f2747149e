/- Plain laws and walks of the reference of layer 7: Right, Text, digits. -/
import Derived.Test.YtgjibnfdaigpkaaDoorSiD
namespace Go.Proofs.YtgjibnfdaigpkaaDoor
set_option linter.unusedVariables false
open Go Go.Proofs Go.RowKit Go.Sort

/-- The number of digits, as the reference reckons it. -/
def dgF : Nat → List UInt8 → Option Nat
  | acc, [] => some acc
  | acc, c :: l => if (48 ≤ c.toNat ∧ c.toNat ≤ 57) ∧ acc ≤ 999 then dgF (10 * acc + (c.toNat - 48)) l else none

def dgPost (l : List UInt8) (e : Ending) : Prop :=
  (∃ n : Nat, dgF 0 l = some n ∧ l ≠ [] ∧ n ≤ 9999 ∧ e = .returned (.tuple #[.int .i64 n, .bool true])) ∨
    ((dgF 0 l = none ∨ l = []) ∧ ∃ n : Nat, n ≤ 9999 ∧ e = .returned (.tuple #[.int .i64 n, .bool false]))

theorem dgF_append : ∀ (l1 l2 : List UInt8) (acc : Nat), dgF acc (l1 ++ l2) = (dgF acc l1).bind fun a => dgF a l2 := by
  intro l1
  induction l1 with
  | nil => intro l2 acc; rfl
  | cons c l ih =>
    intro l2 acc
    simp only [List.cons_append, dgF]
    split
    · exact ih _ _
    · rfl

theorem dgF_dec : ∀ u : Nat, u ≤ 9999 → dgF 0 (Lib.decDigits u) = some u := by
  intro u
  induction u using Nat.strongRecOn with
  | _ u ih =>
    intro hu
    by_cases h : u < 10
    · rw [Lib.decDigits, dif_pos h]
      simp only [dgF, dig_toNat u h]
      rw [if_pos (by omega)]
      congr 1; omega
    · rw [Lib.decDigits, dif_neg h, dgF_append, ih (u / 10) (by omega) (by omega)]
      simp only [Option.bind_some, dgF, dig_toNat (u % 10) (by omega)]
      rw [if_pos (by omega)]
      congr 1; omega

theorem bytes_at (t : ByteArray) (k : Nat) (h : k < t.size) : t[k]'h = t.data.toList[k]'(by rw [← Lib.size_eq]; exact h) := rfl

set_option maxRecDepth 100000 in
set_option maxHeartbeats 2000000 in
theorem digits_any (t : ByteArray) (hs : t.size ≤ 1000000) (w : World) :
    Calls Tryd.prog 28 #[.string t] w fun e w' => dgPost t.data.toList e ∧ w = w' := by
  obtain ⟨bs, hL⟩ : ∃ bs, bs = t.data.toList := ⟨_, rfl⟩
  have hLn : bs.length = t.size := by rw [hL, Lib.size_eq]
  have hat : ∀ k (h : k < t.size), t[k]'h = bs[k]'(by omega) := fun k h => by subst hL; exact bytes_at t k h
  rw [← hL]
  clear hL
  have HAT := Lib.hid hat
  clear hat
  go_enter Tryd.func28, Tryd.ntmps28
  go_wp2
  go_loop [4, 5] (fun vn vi => ∃ (k acc : Nat) (a : Int), vn = .int .i64 a ∧ vi = .int .i64 k ∧ k ≤ t.size ∧ Hid (a = (acc : Int) ∧ acc ≤ 9999 ∧ dgF 0 bs = dgF acc (bs.drop k)))
    (fun _ vi => t.size - (intOf vi).toNat)
  case atStart => exact ⟨0, 0, 0, rfl, rfl, by omega, rfl, by omega, rfl⟩
  case round =>
    obtain ⟨k, acc, a, rfl, rfl, hk, hh⟩ := hrel
    obtain ⟨ha, hacc, hdec⟩ := hh.out
    clear hh
    have a0 : 0 ≤ a := by omega
    have a1 : a ≤ 9999 := by omega
    by_cases hkn : k < t.size
    · have hc := HAT.out k hkn
      have hdrop : bs.drop k = bs[k]'(by omega) :: bs.drop (k + 1) := List.drop_eq_getElem_cons (by omega)
      rw [hdrop] at hdec
      generalize bs[k]'(by omega) = c at hc hdec
      have hc256 : c.toNat < 256 := c.toNat_lt
      clear hdrop
      by_cases hdig : (48 ≤ c.toNat ∧ c.toNat ≤ 57) ∧ acc ≤ 999
      · have hF : dgF acc (c :: bs.drop (k + 1)) = dgF (10 * acc + (c.toNat - 48)) (bs.drop (k + 1)) := by simp only [dgF]; rw [if_pos hdig]
        have HN : Hid (10 * a + ((c.toNat : Int) - 48) = ((10 * acc + (c.toNat - 48) : Nat) : Int) ∧ 10 * acc + (c.toNat - 48) ≤ 9999 ∧ dgF 0 bs = dgF (10 * acc + (c.toNat - 48)) (bs.drop (k + 1))) := Lib.hid ⟨by omega, by omega, hdec.trans hF⟩
        obtain ⟨⟨hd0, hd1⟩, hd2⟩ := hdig
        have a2 : a ≤ 999 := by omega
        clear hacc hF hdec ha hd2
        go_wp2
        all_goals first
          | (exfalso; omega)
          | exact ⟨⟨k + 1, 10 * acc + (c.toNat - 48), 10 * a + ((c.toNat : Int) - 48), rfl, by go_num, by omega, HN⟩, by simp [intOf]; omega⟩
      · have hF : dgF acc (c :: bs.drop (k + 1)) = none := by simp only [dgF]; rw [if_neg hdig]
        rw [hF] at hdec
        have HD := Lib.hid hdec
        have HG := Lib.hid hdig
        have HA := Lib.hid ha
        clear hF hdec hdig ha hacc
        go_wp2
        all_goals first
          | (exfalso; have h1 := HG.out; have h2 := HA.out; omega)
          | (go_ret2; exact ⟨Or.inr ⟨Or.inl HD.out, 0, by omega, rfl⟩, rfl⟩)
    · have hkk : k = t.size := by omega
      subst hkk
      have hF : dgF acc (bs.drop t.size) = some acc := by rw [List.drop_eq_nil_of_le (by omega)]; rfl
      rw [hF] at hdec
      have HD := Lib.hid hdec
      subst ha
      clear hF a0 a1 hdec
      have HL := Lib.hid hLn
      have HC := Lib.hid hacc
      clear HAT hLn hacc
      go_wp2
      go_ret2
      have hLn := HL.out
      have hacc := HC.out
      by_cases hz : t.size = 0
      · have hb : bs = [] := List.eq_nil_of_length_eq_zero (by omega)
        refine ⟨Or.inr ⟨Or.inr hb, acc, hacc, ?_⟩, rfl⟩
        have hd : decide ((0 : Int) < (t.size : Int)) = false := decide_eq_false (by omega)
        have hd2 : decide (0 < t.size) = false := decide_eq_false (by omega)
        first | rfl | (simp only [hd2]; rfl) | (rw [hd]; rfl) | (simp [hz]; done)
      · have hb : bs ≠ [] := by intro h; rw [h] at hLn; simp at hLn; omega
        refine ⟨Or.inl ⟨acc, HD.out, hb, hacc, ?_⟩, rfl⟩
        have hd : decide ((0 : Int) < (t.size : Int)) = true := decide_eq_true (by omega)
        have hd2 : decide (0 < t.size) = true := decide_eq_true (by omega)
        first | rfl | (simp only [hd2]; rfl) | (rw [hd]; rfl)

/-- The reference's Right. -/
def rgF (f p : Int) : Bool := decide (0 ≤ f ∧ f < 32 ∧ 0 ≤ p ∧ p < 512)

set_option maxRecDepth 100000 in
set_option maxHeartbeats 400000 in
theorem rRight_any (f p : Int) (w : World) :
    Calls Tryd.prog 11 #[.agg #[.int .i64 f, .int .i64 p]] w fun e w' => e = .returned (.bool (rgF f p)) ∧ Below w.heap.size w w' := by
  unfold rgF
  go_enter Tryd.func11, Tryd.ntmps11
  go_wp2
  all_goals (go_ret; refine ⟨ret_bool ?_, bel1 _⟩; first | (symm; exact decide_eq_true (by omega)) | (symm; exact decide_eq_false (by omega)) | (symm; simp; omega) | (simp; omega) | (simp [*]; done))

set_option maxRecDepth 100000 in
set_option maxHeartbeats 400000 in
theorem rText_any (f p : Nat) (hf : f < 32) (hp : p < 512) (w : World) (hE : Env w) :
    Calls Tryd.prog 13 #[.agg #[.int .i64 f, .int .i64 p]] w fun e w' => e = .returned (.string ⟨(textS f p).toArray⟩) ∧ Below w.heap.size w w' := by
  have n1 := Lib.nDigits_le20 f (by omega)
  have n2 := Lib.nDigits_le20 p (by omega)
  rw [← Lib.decDigits_length] at n1 n2
  have cf := fun w hE => itoa_any (f : Int) (by omega) (by omega) w hE
  have cp := fun w hE => itoa_any (p : Int) (by omega) (by omega) w hE
  rw [Lib.itoa_nonneg] at cf cp
  have HT := Lib.hid (show textS f p = 102 :: (Lib.decDigits f ++ 58 :: Lib.decDigits p) from rfl)
  generalize Lib.decDigits f = l1 at n1 cf HT
  generalize Lib.decDigits p = l2 at n2 cp HT
  have HC := Lib.hid (show (⟨#[102]⟩ ++ ⟨l1.toArray⟩ ++ ⟨#[58]⟩ ++ ⟨l2.toArray⟩ : ByteArray) = ⟨(102 :: (l1 ++ 58 :: l2)).toArray⟩ from by
    apply WideShapes.bytes_inj
    simp)
  have CF := Lib.hid cf
  have CP := Lib.hid cp
  clear cf cp
  go_enter Tryd.func13, Tryd.ntmps13
  go_wp2_with fail
  have m1 : ¬ 9223372036854775807 < 1 + l1.length := by omega
  have m2 : ¬ 9223372036854775807 < 1 + l1.length + 1 := by omega
  have m3 : ¬ 9223372036854775807 < 1 + l1.length + 1 + l2.length := by omega
  have hB1 : Below w.heap.size w (w.alloc (.cells #[.int .i64 f, .int .i64 p] 23)) := bel1 _
  have hE1 := hE.on hB1
  have k0 := cell_new w #[.int .i64 f, .int .i64 p] 23 0
  have k1 := cell_new w #[.int .i64 f, .int .i64 p] 23 1
  generalize w.alloc (.cells #[.int .i64 f, .int .i64 p] 23) = w1 at hB1 hE1 k0 k1 ⊢
  have c0 := cell_regrown k0
  have c1 := cell_regrown k1
  have cQ : ∀ d os, Calls Tryd.prog 23 #[.int .i64 f] (grow (redrawn w1 d) os) fun e w'' => e = .returned (.string ⟨l1.toArray⟩) ∧ ∃ p : Regrown, w'' = grow (redrawn w1 p.d) p.os := fun d os => Calls.regrown_of (CF.out _ (hE1.on (below_regrown w1 d os)))
  have cR : ∀ d os, Calls Tryd.prog 23 #[.int .i64 p] (grow (redrawn w1 d) os) fun e w'' => e = .returned (.string ⟨l2.toArray⟩) ∧ ∃ p : Regrown, w'' = grow (redrawn w1 p.d) p.os := fun d os => Calls.regrown_of (CP.out _ (hE1.on (below_regrown w1 d os)))
  have CQ := Lib.hid cQ
  have CR := Lib.hid cR
  clear k0 k1 cQ cR
  refine wp_region_quiet_below (by kernel_rfl) (by kernel_rfl) ?_
  repeat (quiet_step (first | exact CQ.out _ _ | exact CR.out _ _))
  refine wpQuiet_nil ?_
  intro _ hw'
  obtain ⟨⟨dq, osq⟩, hw''⟩ := hw'
  subst hw''
  go_wp2
  go_ret
  refine ⟨?_, belT hB1 (below_regrown w1 dq osq)⟩
  rw [HT.out, ← HC.out]
  rfl
end Go.Proofs.YtgjibnfdaigpkaaDoor
