/- Walks of the statements' own helpers of layer 3: num; works, the chapter's rows. -/
import Derived.Test.YtigepikfbpodpaaDoorEpQ
import Derived.Test.YtigepikfbpodpaaDoorEpR
namespace Go.Proofs.YtigepikfbpodpaaDoor
set_option linter.unusedVariables false
open Go Go.Proofs Go.RowKit

theorem num_any (n : Int) (w : World) : Calls Tryd.prog 10 #[.int .i64 n] w fun e w' => e = .returned (.int .i64 n) ∧ w = w' := by
  go_enter Tryd.func10, Tryd.ntmps10
  go_wp2
  go_ret
  exact ⟨rfl, rfl⟩

theorem text_a : textE 281474976710658 = [49, 64, 50] := by simp [textE, Lib.decDigits]
theorem text_b : textE 281474976710659 = [49, 64, 51] := by simp [textE, Lib.decDigits]

theorem text_01 (x : Nat) (hx : x < 18446744073709551616) : textE x ≠ [48, 49, 64, 50] := by
  intro h
  have e : textE x = (⟨#[48, 49, 64, 50]⟩ : ByteArray).data.toList := h
  obtain ⟨h1, _⟩ := cut_text _ x e
  obtain ⟨h3, _⟩ := text_reads _ x hx e
  have e2 : (cutBytes ⟨#[48, 49, 64, 50]⟩ 64).1.data.toList = [48, 49] := by decide +kernel
  rw [e2] at h1 h3
  have e3 : puG 65535 [48, 49] = some 1 := by decide
  rw [e3] at h3
  have h4 := Option.some.inj h3
  rw [← h4] at h1
  simp [Lib.decDigits] at h1

theorem pack_1 : packF 1 2 = (281474976710658, 0) := by decide
theorem pack_2 : packF 65536 0 = (0, 2) := by decide
theorem next_1 : nextF 281474976710658 3 = (281474976710659, 0) := by decide
theorem next_2 : nextF 281474976710659 3 = (0, 130) := by decide
theorem next_3 : nextF 281474976710658 0 = (0, 2) := by decide

set_option maxRecDepth 100000 in
set_option maxHeartbeats 2000000 in
theorem works_any (w : World) (hE : Env w) : Calls Tryd.prog 11 #[] w fun e w' => e = .returned (.bool true) ∧ Below w.heap.size w w' := by
  have c1 := pack_any 1 2
  rw [pack_1] at c1
  have c2 := pack_any 65536 0
  rw [pack_2] at c2
  have c3 := Parts_any 281474976710658
  have c4 := next_any 281474976710658 3
  rw [next_1] at c4
  have c5 := next_any 281474976710659 3
  rw [next_2] at c5
  have c6 := next_any 281474976710658 0
  rw [next_3] at c6
  have H1 := Lib.hid c1
  have H2 := Lib.hid c2
  have H3 := Lib.hid c3
  have H4 := Lib.hid c4
  have H5 := Lib.hid c5
  have H6 := Lib.hid c6
  clear c1 c2 c3 c4 c5 c6
  go_enter Tryd.func11, Tryd.ntmps11
  go_wp2_with fail
  refine (H1.out _ (by omega) (by omega) (by omega) (by omega)).mono ?_
  rintro e w1 ⟨rfl, hb1⟩
  go_wp2_with fail
  refine (H2.out _ (by omega) (by omega) (by omega) (by omega)).mono ?_
  rintro e w2 ⟨rfl, hb2⟩
  have B2 := belT hb1 hb2
  go_wp2_with fail
  refine (H3.out _ (by omega) (by omega)).mono ?_
  rintro e w3 ⟨rfl, hb3⟩
  have B3 := belT B2 hb3
  go_wp2_with fail
  refine (H4.out _ (by omega) (by omega) (by omega) (by omega)).mono ?_
  rintro e w4 ⟨rfl, hb4⟩
  have B4 := belT B3 hb4
  go_wp2_with fail
  refine (H5.out _ (by omega) (by omega) (by omega) (by omega)).mono ?_
  rintro e w5 ⟨rfl, hb5⟩
  have B5 := belT B4 hb5
  go_wp2_with fail
  refine (H6.out _ (by omega) (by omega) (by omega) (by omega)).mono ?_
  rintro e w6 ⟨rfl, hb6⟩
  have B6 := belT B5 hb6
  have hp := parse_any ⟨#[48, 49, 64, 50]⟩ (by decide) w6 (hE.on B6)
  go_wp2_with fail
  refine hp.mono ?_
  rintro e w7 ⟨hq, hb7⟩
  obtain rfl : e = .returned (.tuple #[.int .u64 0, .int .i64 131]) := by
    rcases hq with ⟨x, hx, h, _⟩ | ⟨_, h⟩
    · exact absurd h (text_01 x hx)
    · exact h
  have B7 := belT B6 hb7
  clear hq hp
  have ta := text_any 281474976710658 (by omega) (by omega)
  have tb := text_any 281474976710659 (by omega) (by omega)
  rw [show ((281474976710658 : Int)).toNat = 281474976710658 from rfl, text_a] at ta
  rw [show ((281474976710659 : Int)).toNat = 281474976710659 from rfl, text_b] at tb
  have TA := Lib.hid ta
  have TB := Lib.hid tb
  clear ta tb
  go_wp2_with (first
    | (go_at_call 10; refine (num_any _ _).mono ?_; rintro e wn ⟨rfl, rfl⟩)
    | (go_at_call_of 12 (Value.int IntKind.u64 281474976710658); refine (TA.out w7 (hE.on B7)).mono ?_; rintro e w8 ⟨rfl, hb8⟩)
    | (go_at_call_of 12 (Value.int IntKind.u64 281474976710659); refine (TB.out w8 (hE.on (belT B7 hb8))).mono ?_; rintro e w9 ⟨rfl, hb9⟩))
  go_ret
  exact ⟨rfl, belT (belT B7 hb8) hb9⟩
end Go.Proofs.YtigepikfbpodpaaDoor
