/- The statements of layer 3, walked: EpochNext, EpochPacks, EpochHolds answer true. -/
import Derived.Test.YtigepikfbpodpaaDoorEpW
namespace Go.Proofs.YtigepikfbpodpaaDoor
open Go Go.Proofs Go.RowKit

set_option maxRecDepth 100000 in
set_option maxHeartbeats 2000000 in
theorem law_next (x d : Int) (w : World) (hE : Env w) (h0 : 0 ≤ x) (h1 : x < 18446744073709551616) (h2 : 0 ≤ d) (h3 : d < 18446744073709551616) :
    Calls Tryd.prog 3 #[.int .u64 x, .int .u64 d] w fun e w' => e = .returned (.bool true) ∧ Below w.heap.size w w' := by
  have c1 := Lib.hid (next_any x d w h0 h1 h2 h3)
  have c2 := Lib.hid fun w => rNext_any x d w h0 h1 h2 h3
  generalize nextF x d = r at c1 c2
  go_enter Tryd.func3, Tryd.ntmps3
  go_wp2_with (first
    | (go_at_call 8; refine c1.out.mono ?_; rintro e w1 ⟨rfl, hb1⟩)
    | (go_at_call 9; refine (c2.out _).mono ?_; rintro e w2 ⟨rfl, hw2⟩; subst hw2)
    | (go_at_call 10; refine (num_any _ _).mono ?_; rintro e wn ⟨rfl, rfl⟩)
    | (go_at_call 11; refine (works_any _ (hE.on hb1)).mono ?_; rintro e w3 ⟨rfl, hb3⟩))
  go_ret
  exact ⟨rfl, belT hb1 hb3⟩

set_option maxRecDepth 100000 in
set_option maxHeartbeats 2000000 in
theorem law_packs (id c x : Int) (w : World) (hE : Env w) (h0 : -9223372036854775808 ≤ id) (h1 : id ≤ 9223372036854775807) (h2 : 0 ≤ c) (h3 : c < 18446744073709551616) (h4 : 0 ≤ x) (h5 : x < 18446744073709551616) :
    Calls Tryd.prog 6 #[.int .i64 id, .int .u64 c, .int .u64 x] w fun e w' => e = .returned (.bool true) ∧ Below w.heap.size w w' := by
  have c1 := Lib.hid (pack_any id c w h0 h1 h2 h3)
  have c2 := Lib.hid fun w => rPack_any id c w h0 h1 h2 h3
  generalize packF id c = r at c1 c2
  have hx : x / 281474976710656 * 281474976710656 + x % 281474976710656 = x := by omega
  have c3 := fun w => pack_yes (x / 281474976710656) (x % 281474976710656) w (by omega) (by omega) (by omega) (by omega)
  rw [hx] at c3
  have C3 := Lib.hid c3
  clear c3 hx
  go_enter Tryd.func6, Tryd.ntmps6
  go_wp2_with fail
  refine c1.out.mono ?_
  rintro e w1 ⟨rfl, hb1⟩
  go_wp2_with fail
  refine (c2.out _).mono ?_
  rintro e w2 ⟨rfl, hw2⟩
  subst hw2
  go_wp2_with fail
  refine (Parts_any x _ h4 h5).mono ?_
  rintro e w3 ⟨rfl, hb3⟩
  have B3 := belT hb1 hb3
  go_wp2_with fail
  refine (rParts_any x _ h4 h5).mono ?_
  rintro e w4 ⟨rfl, hw2⟩
  subst hw2
  go_wp2_with fail
  refine (C3.out _).mono ?_
  rintro e w5 ⟨rfl, hb5⟩
  have B5 := belT B3 hb5
  go_wp2_with (first
    | (go_at_call 20; refine (None_any x _ h4 h5).mono ?_; rintro e w6 ⟨rfl, hb6⟩)
    | (go_at_call 10; refine (num_any _ _).mono ?_; rintro e wn ⟨rfl, rfl⟩)
    | (go_at_call 11; refine (works_any _ (hE.on (belT B5 hb6))).mono ?_; rintro e w7 ⟨rfl, hb7⟩))
  go_ret
  exact ⟨rfl, belT (belT B5 hb6) hb7⟩

theorem holds_eq (x y : Int) (h : x / 281474976710656 = y / 281474976710656) : (!(x == y) == (x % 281474976710656 == y % 281474976710656)) = false := by
  by_cases h3 : x % 281474976710656 = y % 281474976710656
  · have h4 : x = y := by omega
    subst h4
    simp
  · have h4 : ¬ x = y := by omega
    have h5 : (x == y) = false := by simpa using h4
    have h6 : (x % 281474976710656 == y % 281474976710656) = false := by simpa using h3
    rw [h5, h6]; rfl

theorem holds_tail (x d z e : Int) (h0 : 0 ≤ x) (h : nextF x d = (z, e)) (he : ¬ e = 0) : z = 0 ∧ (d < 1 ∨ 281474976710655 < d ∨ d ≤ x % 281474976710656) := by
  unfold nextF at h
  split at h
  · cases h; omega
  · split at h
    · cases h; omega
    · cases h; omega

theorem holds_good (x d z : Int) (h0 : 0 ≤ x) (h : nextF x d = (z, 0)) : z = x + 1 ∧ d ≤ 281474976710655 ∧ x % 281474976710656 < d := by
  unfold nextF at h
  split at h
  · cases h
  · split at h
    · cases h
    · cases h; omega

set_option maxRecDepth 100000 in
set_option maxHeartbeats 2000000 in
/-- The second half of the statement, behind its first test. -/
theorem next_split (x d : Int) (w : World) (h0 : 0 ≤ x) (h1 : x < 18446744073709551616) (h4 : 0 ≤ d) (h5 : d < 18446744073709551616) :
    Calls Tryd.prog 8 #[.int .u64 x, .int .u64 d] w fun e w' =>
      (((e = .returned (.tuple #[.int .u64 0, .int .i64 2]) ∧ (d < 1 ∨ 281474976710655 < d)) ∨ (e = .returned (.tuple #[.int .u64 0, .int .i64 130]) ∧ d ≤ x % 281474976710656) ∨ (e = .returned (.tuple #[.int .u64 (x + 1), .int .i64 0]) ∧ d ≤ 281474976710655 ∧ x % 281474976710656 < d))) ∧ Below w.heap.size w w' := by
  refine (next_any x d w h0 h1 h4 h5).mono ?_
  rintro e w' ⟨rfl, hb⟩
  refine ⟨?_, hb⟩
  unfold nextF
  split
  · exact Or.inl ⟨rfl, by omega⟩
  · split
    · exact Or.inr (Or.inl ⟨rfl, by assumption⟩)
    · exact Or.inr (Or.inr ⟨rfl, by omega, by omega⟩)

set_option maxRecDepth 100000 in
set_option maxHeartbeats 2000000 in
theorem law_holds (x y d : Int) (w : World) (hE : Env w) (h0 : 0 ≤ x) (h1 : x < 18446744073709551616) (h2 : 0 ≤ y) (h3 : y < 18446744073709551616) (h4 : 0 ≤ d) (h5 : d < 18446744073709551616) :
    Calls Tryd.prog 5 #[.int .u64 x, .int .u64 y, .int .u64 d] w fun e w' => e = .returned (.bool true) ∧ Below w.heap.size w w' := by
  have hH := Lib.hid (holds_eq x y)
  go_enter Tryd.func5, Tryd.ntmps5
  go_wp2_with fail
  refine (Parts_any x _ h0 h1).mono ?_
  rintro e w1 ⟨rfl, hb1⟩
  go_wp2_with fail
  refine (Parts_any y _ h2 h3).mono ?_
  rintro e w2 ⟨rfl, hb2⟩
  have B2 := belT hb1 hb2
  go_wp2_with fail
  · have e1 : x / 281474976710656 = y / 281474976710656 := by assumption
    have e2 := hH.out e1
    have e3 : (!(x == y) == (x % 281474976710656 == y % 281474976710656)) = true := by assumption
    rw [e2] at e3
    cases e3
  all_goals
    refine (next_split x d _ h0 h1 h4 h5).mono ?_
    rintro e w3 ⟨hq, hb3⟩
    have B3 := belT B2 hb3
    rcases hq with ⟨rfl, hd⟩ | ⟨rfl, hd⟩ | ⟨rfl, hd, hd2⟩
    · have HD := Lib.hid hd
      clear hd
      go_wp2_with (first
        | (go_at_call 10; refine (num_any _ _).mono ?_; rintro e wn ⟨rfl, rfl⟩)
        | (go_at_call 11; refine (works_any _ (hE.on B3)).mono ?_; rintro e w7 ⟨rfl, hb7⟩))
      all_goals first
        | (exfalso; have := HD.out; omega)
        | (go_ret; exact ⟨rfl, belT B3 hb7⟩)
    · have hd' : ¬ (d < 1 ∧ False) := by simp
      clear hd'
      go_wp2_with (first
        | (go_at_call 10; refine (num_any _ _).mono ?_; rintro e wn ⟨rfl, rfl⟩)
        | (go_at_call 11; refine (works_any _ (hE.on B3)).mono ?_; rintro e w7 ⟨rfl, hb7⟩))
      all_goals (go_ret; exact ⟨rfl, belT B3 hb7⟩)
    · have q1 : (x + 1) / 281474976710656 = x / 281474976710656 := by omega
      have q2 : (x + 1) % 281474976710656 = x % 281474976710656 + 1 := by omega
      have cP := Parts_any (x + 1) w3 (by omega) (by omega)
      rw [q1, q2] at cP
      have CP := Lib.hid cP
      have q3 : 0 ≤ x % 281474976710656 := by omega
      have q4 : x % 281474976710656 + 1 ≤ 281474976710655 := by omega
      have q5 : x % 281474976710656 + 1 ≤ d := by omega
      clear cP q1 q2
      go_wp2_with (first
        | (go_at_call 10; refine (num_any _ _).mono ?_; rintro e wn ⟨rfl, rfl⟩)
        | (go_at_call 16; refine CP.out.mono ?_; rintro e w6 ⟨rfl, hb6⟩)
        | (go_at_call 11; refine (works_any _ (hE.on (belT B3 hb6))).mono ?_; rintro e w7 ⟨rfl, hb7⟩))
      all_goals (go_ret; exact ⟨rfl, belT (belT B3 hb6) hb7⟩)
end Go.Proofs.YtigepikfbpodpaaDoor
