/- Joined texts: The walk of InstrTexts. -/
import Derived.Test.YtgjibnfdaigpkaaGreatDoorQT39
import Derived.Test.YtgjibnfdaigpkaaGreatDoorQT48
/- The walk of InstrTexts. -/
namespace Go.Proofs.YtgjibnfdaigpkaaGreatDoor
set_option linter.unusedVariables false
set_option linter.unusedSimpArgs false
open Go Go.Proofs Go.RowKit Go.Sort

theorem parse_same {s : ByteArray} {e e' : Ending} (h : ParsePost s e) (h' : ParsePost s e') : ∃ op a b c m n, e = .returned (parseV op a b c m n) ∧ e' = .returned (parseV op a b c m n) := by
  rcases h with ⟨op, a, b, c, m, h, rfl⟩ | ⟨h, rfl⟩
  · rcases h' with ⟨op', a', b', c', m', h', rfl⟩ | ⟨h', rfl⟩
    · obtain ⟨rfl, rfl, rfl, rfl, rfl⟩ := isT_inj h h'
      exact ⟨_, _, _, _, _, _, rfl, rfl⟩
    · exact absurd h (h' _ _ _ _ _)
  · rcases h' with ⟨op', a', b', c', m', h', rfl⟩ | ⟨h', rfl⟩
    · exact absurd h' (h _ _ _ _ _)
    · exact ⟨_, _, _, _, _, _, rfl, rfl⟩

theorem flat_len2 {α β : Type} (f : α → List β) (B : Nat) (h : ∀ x, (f x).length ≤ B) : ∀ l : List α, (l.flatMap f).length ≤ B * l.length
  | [] => by simp
  | x :: l => by
    have h1 := flat_len2 f B h l
    have h2 := h x
    rw [List.flatMap_cons, List.length_append, List.length_cons, Nat.mul_succ]
    omega
theorem textF_len {op a b c m : Int} (hm : 0 ≤ m ∧ m < 4294967296) (hr : rightF op a b c m = true) : (textF op a b c m).length ≤ 200 := by
  obtain ⟨h19, ha, hb, hc⟩ := rightF_bd hr
  rw [← textR_F op a b c m h19]
  unfold textR
  rw [List.length_append]
  have h1 := insN_small op m
  have h2 := namesR_size op
  have h3 := flat_len2 (fun x : UInt8 => letT x.toNat a b c m) 25 (fun x => letT_len x.toNat a b c m ⟨ha.1, by omega⟩ ⟨hb.1, by omega⟩ ⟨hc.1, by omega⟩ hm) (namesR op).data.toList
  rw [← Lib.size_eq] at h3
  rw [← Lib.size_eq]
  have h4 : 25 * (namesR op).size ≤ 25 * 4 := Nat.mul_le_mul_left _ h2
  omega

theorem parse_text {op a b c m : Int} (hm : 0 ≤ m ∧ m < 4294967296) (hr : rightF op a b c m = true) (w : World) (hE : EnvM w) :
    Calls Tryz.prog 17 #[.string ⟨(textF op a b c m).toArray⟩] w fun e w' => e = .returned (parseV op a b c m 0) ∧ Below w.heap.size w w' := by
  have hl := textF_len hm hr
  refine (insParse_any _ (by simp only [ByteArray.size, List.size_toArray]; omega) w hE).mono ?_
  rintro e w' ⟨hp, hb⟩
  refine ⟨?_, hb⟩
  have hT : IsT ⟨(textF op a b c m).toArray⟩ op a b c m := ⟨hm, hr, by simp⟩
  rcases hp with ⟨op', a', b', c', m', h, rfl⟩ | ⟨h, _⟩
  · obtain ⟨rfl, rfl, rfl, rfl, rfl⟩ := isT_inj h hT
    rfl
  · exact absurd hT (h _ _ _ _ _)

set_option maxRecDepth 100000 in
set_option maxHeartbeats 4000000 in
theorem instrTexts_long (op a b c m : Int) (s : ByteArray) (hl : 100 < s.size) (hm : s.size ≤ 9223372036854775807) (w : World) (hE : EnvM w) :
    Calls Tryz.prog 4 #[insV op a b c m, .string s] w fun e w' => e = .returned (.bool true) ∧ Below w.heap.size w w' := by
  have CW := Lib.hid fun W hE => works_any W hE
  have h60 : (100 : Int) < (s.size : Int) := by omega
  unfold insV
  have hB := bel1 (W := w) (.cells #[.int .i64 op, .int .i64 a, .int .i64 b, .int .i64 c, .int .u32 m] 25)
  go_enter Tryz.func4, Tryz.ntmps4
  go_wp2_with (refine (CW.out _ (hE.on hB)).mono ?_; rintro e w7 ⟨rfl, hb7⟩)
  go_ret
  exact ⟨rfl, belT hB hb7⟩

set_option maxRecDepth 100000 in
set_option maxHeartbeats 4000000 in
theorem instrTexts_short (op a b c m : Int) (hm : 0 ≤ m ∧ m < 4294967296) (s : ByteArray) (hl : s.size ≤ 100) (w : World) (hE : EnvM w) :
    Calls Tryz.prog 4 #[insV op a b c m, .string s] w fun e w' => e = .returned (.bool true) ∧ Below w.heap.size w w' := by
  have CX := Lib.hid fun W hE => insText_any op a b c m hm W hE
  have CP := Lib.hid fun W hE => insParse_any s (by omega) W hE
  have CQ := Lib.hid fun W hE => rParse_any s (by omega) W hE
  have CT := Lib.hid fun W => rRight_P op a b c m hm W
  have CW := Lib.hid fun W hE => works_any W hE
  have h60 : ¬ (100 : Int) < (s.size : Int) := by omega
  unfold insV at CX CT ⊢
  have hI := Bare.new op a b c m w 25
  have hB := bel1 (W := w) (.cells #[.int .i64 op, .int .i64 a, .int .i64 b, .int .i64 c, .int .u32 m] 25)
  go_enter Tryz.func4, Tryz.ntmps4
  go_wp2_with fail
  generalize w.alloc _ = V at hI hB ⊢
  refine (CX.out _ (hE.on hB).env).mono ?_
  rintro e w1 ⟨rfl, hb1⟩
  have hI := hI.bel hb1
  have hB := belT hB hb1
  clear hb1 CX
  go_wp2_with fail
  refine (CP.out _ (hE.on hB)).mono ?_
  rintro e w2 ⟨hp, hb2⟩
  have hI := hI.bel hb2
  have hB := belT hB hb2
  have HP := Lib.hid hp
  have hf : ∃ x xa xb xc xm n, e = .returned (parseV x xa xb xc xm n) := by
    rcases hp with ⟨_, _, _, _, _, _, rfl⟩ | ⟨_, rfl⟩ <;> exact ⟨_, _, _, _, _, _, rfl⟩
  obtain ⟨x, xa, xb, xc, xm, n, rfl⟩ := hf
  clear hb2 CP hp
  unfold parseV insV at HP
  unfold parseV insV
  go_wp2_with fail
  have hX := Bare.new x xa xb xc xm w2 25
  have hI := hI.bel (bel1 (.cells #[.int .i64 x, .int .i64 xa, .int .i64 xb, .int .i64 xc, .int .u32 xm] 25))
  have hB := belA hB (.cells #[.int .i64 x, .int .i64 xa, .int .i64 xb, .int .i64 xc, .int .u32 xm] 25)
  generalize w2.alloc _ = V2 at hX hI hB ⊢
  refine (CQ.out _ (hE.on hB).env).mono ?_
  rintro e w3 ⟨hq, hb3⟩
  have hX := hX.bel hb3
  have hI := hI.bel hb3
  have hB := belT hB hb3
  obtain ⟨x', xa', xb', xc', xm', n', he, rfl⟩ := parse_same HP.out hq
  unfold parseV insV at he
  simp only [Ending.returned.injEq, Value.tuple.injEq, Array.mk.injEq, List.cons.injEq, Value.agg.injEq, Value.int.injEq, true_and, and_true] at he
  obtain ⟨⟨rfl, rfl, rfl, rfl, rfl⟩, rfl⟩ := he
  unfold parseV insV
  clear hb3 CQ hq HP
  have hne : ∀ w, (binOp .neq 25 (.agg #[.int .i64 x, .int .i64 xa, .int .i64 xb, .int .i64 xc, .int .u32 xm]) (.agg #[.int .i64 x, .int .i64 xa, .int .i64 xb, .int .i64 xc, .int .u32 xm])).run Tryz.prog w = .ok (.bool false) w := fun w => by rw [ins_ne]; simp
  obtain ⟨k0, k1, k2, k3, k4, _, _, _, _⟩ := id hX
  dsimp only at k1 k2 k3 k4
  have hlk := lt_of_cell k0
  obtain ⟨i0, i1, i2, i3, i4, _, _, _, _⟩ := id hI
  dsimp only at i1 i2 i3 i4
  have hli := lt_of_cell i0
  have b3 := bel1 (W := w3) (.cells #[.int .i64 x, .int .i64 xa, .int .i64 xb, .int .i64 xc, .int .u32 xm] 25)
  have hI := hI.bel b3
  have hB := belT hB b3
  clear b3
  go_wp2_with (go_at_call 13; refine (num_any _ _).mono ?_; rintro e wn ⟨rfl, rfl⟩)
  refine (CT.out _).mono ?_
  rintro e w4 ⟨rfl, hb4⟩
  have hI := hI.bel hb4
  have hB := belT hB hb4
  clear hb4 i0 i1 i2 i3 i4 k0 k1 k2 k3 k4 hlk hli hX
  cases hr : rightF op a b c m with
  | false =>
    have e5 : bytesE op a b c m = 2 := if_neg (by rw [hr]; decide)
    have e6 : textE op a b c m = ⟨#[]⟩ := if_neg (by rw [hr]; decide)
    rw [e5, e6]
    clear hI e5 e6
    go_wp2_with (first
      | (go_at_call 13; refine (num_any _ _).mono ?_; rintro e wn ⟨rfl, rfl⟩)
      | (go_at_call 9; refine (CW.out _ (hE.on hB)).mono ?_; rintro e w7 ⟨rfl, hb7⟩))
    go_ret
    exact ⟨rfl, belT hB hb7⟩
  | true =>
    have e5 : bytesE op a b c m = 0 := if_pos hr
    have e6 : textE op a b c m = ⟨(textF op a b c m).toArray⟩ := if_pos hr
    rw [e5, e6]
    clear e5 e6
    have CY := Lib.hid fun W hE => parse_text hm hr W hE
    have CZ := Lib.hid fun W hE => rText_any op a b c m hm hr W hE
    unfold parseV insV at CY
    unfold insV at CZ
    generalize (⟨(textF op a b c m).toArray⟩ : ByteArray) = tx at CY CZ ⊢
    go_wp2_with fail
    refine (CY.out _ (hE.on hB)).mono ?_
    rintro e w5 ⟨rfl, hb5⟩
    have hI := hI.bel hb5
    have hB := belT hB hb5
    clear hb5 CY
    have hsq : ∀ w, (binOp .eql 25 (.agg #[.int .i64 op, .int .i64 a, .int .i64 b, .int .i64 c, .int .u32 m]) (.agg #[.int .i64 op, .int .i64 a, .int .i64 b, .int .i64 c, .int .u32 m])).run Tryz.prog w = .ok (.bool true) w := fun w => by rw [ins_eq]; simp
    have hY := Lib.hid (Bare.new op a b c m w5 25)
    obtain ⟨i0, i1, i2, i3, i4, _, _, _, _⟩ := id hI
    dsimp only at i1 i2 i3 i4
    have HI := Lib.hid (hI.bel (bel1 (.cells #[.int .i64 op, .int .i64 a, .int .i64 b, .int .i64 c, .int .u32 m] 25)))
    have hlt5 := lt_of_cell i0
    have HB := Lib.hid (belA hB (.cells #[.int .i64 op, .int .i64 a, .int .i64 b, .int .i64 c, .int .u32 m] 25))
    clear hI hB
    have hte : (tx.toList == tx.toList) = true := by simp
    go_wp2_with (first
      | (go_at_call 13; refine (num_any _ _).mono ?_; rintro e wn ⟨rfl, rfl⟩)
      | (go_at_call 19; refine (CZ.out _ (hE.on HB.out).env).mono ?_; rintro e w6 ⟨rfl, hb6⟩; obtain ⟨j0, j1, j2, j3, j4, _, _, _, _⟩ := HI.out.bel hb6; obtain ⟨y0, y1, y2, y3, y4, _, _, _, _⟩ := hY.out.bel hb6; dsimp only at j1 j2 j3 j4 y1 y2 y3 y4; have HB6 := Lib.hid (belT HB.out hb6); clear hb6)
      | (go_at_call 9; refine (CW.out _ (hE.on HB6.out)).mono ?_; rintro e w7 ⟨rfl, hb7⟩))
    go_ret
    exact ⟨rfl, belT HB6.out hb7⟩

theorem instrTexts_row (op a b c m : Int) (s : ByteArray) (w : World) (hE : EnvM w) (hm : 0 ≤ m ∧ m < 4294967296) (hs : s.size ≤ 9223372036854775807) :
    Calls Tryz.prog 4 #[insV op a b c m, .string s] w fun e w' => e = .returned (.bool true) ∧ Below w.heap.size w w' := by
  by_cases h : s.size ≤ 100
  · exact instrTexts_short op a b c m hm s h w hE
  · exact instrTexts_long op a b c m s (by omega) hs w hE
end Go.Proofs.YtgjibnfdaigpkaaGreatDoor
