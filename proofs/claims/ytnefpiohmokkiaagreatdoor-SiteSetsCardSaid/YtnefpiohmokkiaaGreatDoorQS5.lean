/- Joined texts: Walks of package site: Check, Order; every argument.; Walks of package site: Order; every argument.; Walks of strings.Cut at a separator of one byte. -/
import Derived.Test.YtnefpiohmokkiaaGreatDoorQS1
import Derived.StillTailTactics
import Derived.Test.YtnefpiohmokkiaaGreatDoorQS3
import Derived.Lib.IndexLaws
/- Walks of package site: Check, Order; every argument. -/
namespace Go.Proofs.YtnefpiohmokkiaaGreatDoor
set_option linter.unusedVariables false
open Go Go.Proofs Go.RowKit

theorem si_fn (f p : Int) (w : World) : Calls Tryz.prog 185 #[.agg #[.int .i64 f, .int .i64 p]] w fun e w' => e = .returned (.int .i64 f) ∧ Below w.heap.size w w' := by
  go_enter Tryz.func185, Tryz.ntmps185
  go_wp2
  go_ret
  exact ⟨rfl, bel1 _⟩

theorem si_pc (f p : Int) (w : World) : Calls Tryz.prog 186 #[.agg #[.int .i64 f, .int .i64 p]] w fun e w' => e = .returned (.int .i64 p) ∧ Below w.heap.size w w' := by
  go_enter Tryz.func186, Tryz.ntmps186
  go_wp2
  go_ret
  exact ⟨rfl, bel1 _⟩

theorem si_bounds (w : World) : Calls Tryz.prog 125 #[] w fun e w' => e = .returned (.agg #[.func (.func 185) #[] #[], .int .i64 32, .func (.func 186) #[] #[], .int .i64 512]) ∧ Below w.heap.size w w' := by
  go_enter Tryz.func125, Tryz.ntmps125
  go_wp2
  exact bodyPost_ret (v := .agg #[.func (.func 185) #[] #[], .int .i64 32, .func (.func 186) #[] #[], .int .i64 512]) (by simp [results, Tryz.results125, go_sem]) rfl ⟨rfl, bel1 _⟩

theorem idxB0 (a b c d : Value) (w : World) : (Instr.index 244 (.agg #[a, b, c, d]) (.int .i64 0)).run Tryz.prog w = .ok (.agg #[a, b]) w := by kernel_rfl
theorem idxB1 (a b c d : Value) (w : World) : (Instr.index 244 (.agg #[a, b, c, d]) (.int .i64 1)).run Tryz.prog w = .ok (.agg #[c, d]) w := by kernel_rfl

/-- Check, as a function. -/
def chkF (f p : Int) : Int := if 0 ≤ f ∧ f < 32 ∧ 0 ≤ p ∧ p < 512 then 0 else 2

set_option maxRecDepth 100000 in
set_option maxHeartbeats 400000 in
theorem check_any (f p : Int) (w : World) :
    Calls Tryz.prog 72 #[.agg #[.int .i64 f, .int .i64 p]] w fun e w' => e = .returned (.int .i64 (chkF f p)) ∧ Below w.heap.size w w' := by
  have i0 := idxB0
  have i1 := idxB1
  go_enter Tryz.func72, Tryz.ntmps72
  go_wp2_with (go_at_call 125; refine (si_bounds _).mono ?_; rintro e w1 ⟨rfl, hb1⟩)
  have k0 := cell_bel (cell_new w #[.int .i64 f, .int .i64 p] 30 0) hb1
  have k1 := cell_bel (cell_new w #[.int .i64 f, .int .i64 p] 30 1) hb1
  have hz1 := lt_of_cell k0
  have hB1 := belT (bel1 _) hb1
  clear hb1
  refine wp_loop_rounds 3 ?_
  rw [rounds_succ]
  go_wp2_with (go_at_call 185; refine (si_fn _ _ _).mono ?_; rintro e w2 ⟨rfl, hb2⟩; have m0 := cell_bel (cell_al k0 _) hb2; have m1 := cell_bel (cell_al k1 _) hb2; have n1 := cell_bel (cell_new w1 #[.func (.func 185) #[] #[], .int .i64 32] 243 1) hb2; have hz2 := lt_of_cell m0; have hB2 := belT (belA hB1 _) hb2)
  · have h : f < 0 ∨ 32 ≤ f := by assumption
    go_ret
    exact ⟨ret_int (by unfold chkF; rw [if_neg (by omega)]), hB2⟩
  · have h : 0 ≤ f ∧ f < 32 := by assumption
    rw [rounds_succ]
    go_wp2_with (go_at_call 186; refine (si_pc _ _ _).mono ?_; rintro e w3 ⟨rfl, hb3⟩; have n2 := cell_bel (cell_new w2 #[.func (.func 186) #[] #[], .int .i64 512] 243 1) hb3; have hB3 := belT (belA hB2 _) hb3)
    · have h3 : p < 0 ∨ 512 ≤ p := by assumption
      go_ret
      exact ⟨ret_int (by unfold chkF; rw [if_neg (by omega)]), hB3⟩
    · have h3 : 0 ≤ p ∧ p < 512 := by assumption
      rw [rounds_succ]
      go_wp2
      go_ret
      exact ⟨ret_int (by unfold chkF; rw [if_pos (by omega)]), hB3⟩
    · have h3 : p < 0 := by assumption
      go_ret
      exact ⟨ret_int (by unfold chkF; rw [if_neg (by omega)]), hB3⟩
  · have h : f < 0 := by assumption
    go_ret
    exact ⟨ret_int (by unfold chkF; rw [if_neg (by omega)]), hB2⟩

/-- cmp.Compare at int. -/
def cmpF (a b : Int) : Int := if a < b then -1 else if b < a then 1 else 0

theorem cmp_any (a b : Int) (w : World) : Calls Tryz.prog 197 #[.int .i64 a, .int .i64 b] w fun e w' => e = .returned (.int .i64 (cmpF a b)) ∧ w = w' := by
  unfold cmpF
  by_cases h1 : a < b
  · rw [if_pos h1]
    go_enter Tryz.func197, Tryz.ntmps197
    go_wp2
    go_ret
    exact ⟨rfl, rfl⟩
  · rw [if_neg h1]
    by_cases h2 : b < a
    · rw [if_pos h2]
      go_enter Tryz.func197, Tryz.ntmps197
      go_wp2
      go_ret
      exact ⟨rfl, rfl⟩
    · rw [if_neg h2]
      go_enter Tryz.func197, Tryz.ntmps197
      go_wp2
      go_ret
      exact ⟨rfl, rfl⟩

/-- cmp.Or at two ints. -/
def orF (a b : Int) : Int := if a = 0 then b else a

set_option maxRecDepth 100000 in
set_option maxHeartbeats 400000 in
theorem or_any (a b : Int) (B : Nat) (w : World) (c0 : w.cell? ⟨B, 0, none⟩ = some (.int .i64 a)) (c1 : w.cell? ⟨B, 1, none⟩ = some (.int .i64 b)) :
    Calls Tryz.prog 84 #[.slice (some ⟨B, 0, none⟩) 2 2] w fun e w' => e = .returned (.int .i64 (orF a b)) ∧ Below w.heap.size w w' := by
  unfold orF
  by_cases ha : a = 0
  · rw [if_pos ha]
    have e1 : (a == 0) = true := by simpa using ha
    clear ha
    by_cases hb : b = 0
    · subst hb
      go_enter Tryz.func84, Tryz.ntmps84
      go_wp2
      refine wp_loop_rounds 4 ?_
      repeat (rw [rounds_succ]; go_wp2)
      go_ret
      exact ⟨rfl, Below.refl _ _⟩
    · have e2 : (b == 0) = false := by simpa using hb
      clear hb
      go_enter Tryz.func84, Tryz.ntmps84
      go_wp2
      refine wp_loop_rounds 4 ?_
      repeat (rw [rounds_succ]; go_wp2)
      go_ret
      exact ⟨rfl, Below.refl _ _⟩
  · rw [if_neg ha]
    have e1 : (a == 0) = false := by simpa using ha
    clear ha
    go_enter Tryz.func84, Tryz.ntmps84
    go_wp2
    refine wp_loop_rounds 4 ?_
    repeat (rw [rounds_succ]; go_wp2)
    go_ret
    exact ⟨rfl, Below.refl _ _⟩

/-- Order, as a function. -/
def ordF (f p f' p' : Int) : Int := orF (cmpF f f') (cmpF p p')

end Go.Proofs.YtnefpiohmokkiaaGreatDoor

/- Walks of package site: Order; every argument. -/
namespace Go.Proofs.YtnefpiohmokkiaaGreatDoor
set_option linter.unusedVariables false
open Go Go.Proofs Go.RowKit

theorem cmp_still (a b : Int) (w : World) : Calls Tryz.prog 197 #[.int .i64 a, .int .i64 b] w fun e w' => e = .returned (.int .i64 (cmpF a b)) ∧ w' = w :=
  (cmp_any a b w).mono fun _ _ ⟨h1, h2⟩ => ⟨h1, h2.symm⟩

set_option maxRecDepth 100000 in
set_option maxHeartbeats 200000 in
theorem order_in (f p f' p' : Int) (w : World) :
    Calls Tryz.prog 132 #[.agg #[.int .i64 f, .int .i64 p], .agg #[.int .i64 f', .int .i64 p']] w fun e w' => e = .returned (.int .i64 (ordF f p f' p')) ∧ Below w.heap.size w w' := by
  go_enter Tryz.func132, Tryz.ntmps132
  go_wp2
  have d0 : (((w.alloc (.cells #[.int .i64 f, .int .i64 p] 249)).alloc (.cells #[.int .i64 f', .int .i64 p'] 249)).drew).cell? ⟨w.heap.size, 0, none⟩ = some (.int .i64 f) := cell_al (cell_new w _ _ 0) _
  have d1 : (((w.alloc (.cells #[.int .i64 f, .int .i64 p] 249)).alloc (.cells #[.int .i64 f', .int .i64 p'] 249)).drew).cell? ⟨w.heap.size, 1, none⟩ = some (.int .i64 p) := cell_al (cell_new w _ _ 1) _
  have d2 : (((w.alloc (.cells #[.int .i64 f, .int .i64 p] 249)).alloc (.cells #[.int .i64 f', .int .i64 p'] 249)).drew).cell? ⟨w.heap.size + 1, 0, none⟩ = some (.int .i64 f') := (World.cell?_alloc_at _ _ _ _ (by simp)).trans rfl
  have d3 : (((w.alloc (.cells #[.int .i64 f, .int .i64 p] 249)).alloc (.cells #[.int .i64 f', .int .i64 p'] 249)).drew).cell? ⟨w.heap.size + 1, 1, none⟩ = some (.int .i64 p') := (World.cell?_alloc_at _ _ _ _ (by simp)).trans rfl
  have hB := (belA (bel1 (W := w) (.cells #[.int .i64 f, .int .i64 p] 249)) (.cells #[.int .i64 f', .int .i64 p'] 249)).drew
  refine wp_region_tail 10 (by kernel_rfl) (by kernel_rfl) ?_
  intro W2 hW
  rw [hW] at d0 d1 d2 d3 hB
  clear hW
  simp only [List.take_succ_cons, List.take_zero, List.drop_succ_cons, List.drop_zero]
  repeat still_step
  still_call (cmp_still f f' _)
  repeat still_step
  still_call (cmp_still p p' _)
  refine wpStill_nil ?_
  go_wp2_with fail
  refine (or_any (cmpF f f') (cmpF p p') _ _ (cell_new _ _ _ 0) (cell_new _ _ _ 1)).mono ?_
  rintro e w2 ⟨rfl, hb⟩
  go_wp2
  go_ret
  exact ⟨rfl, belT (belA hB _) hb⟩

set_option maxRecDepth 100000 in
set_option maxHeartbeats 200000 in
theorem order_any (f p f' p' : Int) (w : World) :
    Calls Tryz.prog 79 #[.agg #[.int .i64 f, .int .i64 p], .agg #[.int .i64 f', .int .i64 p']] w fun e w' => e = .returned (.int .i64 (ordF f p f' p')) ∧ Below w.heap.size w w' := by
  go_enter Tryz.func79, Tryz.ntmps79
  go_wp2_with fail
  refine (order_in f p f' p' _).mono ?_
  rintro e w1 ⟨rfl, hb⟩
  go_wp2
  go_ret
  exact ⟨rfl, belT (belA (bel1 _) _) hb⟩
end Go.Proofs.YtnefpiohmokkiaaGreatDoor

/- Walks of strings.Cut at a separator of one byte. -/
namespace Go.Proofs.YtnefpiohmokkiaaGreatDoor
set_option linter.unusedVariables false
open Go Go.Proofs Go.RowKit

/-- What strings.Cut tells at one byte. -/
def cutBytes (s : ByteArray) (c : UInt8) : ByteArray × ByteArray × Bool :=
  if Lib.indexByte s.data.toList c = -1 then (s, ⟨#[]⟩, false) else (s.extract 0 (Lib.indexByte s.data.toList c).toNat, s.extract ((Lib.indexByte s.data.toList c).toNat + 1) s.size, true)

theorem indexByte_lt : ∀ (l : List UInt8) (c : UInt8), Lib.indexByte l c < l.length ∨ l = [] := by
  intro l c
  induction l with
  | nil => exact Or.inr rfl
  | cons b l ih =>
    left
    unfold Lib.indexByte
    split
    · simp
    · split
      · simp; omega
      · rcases ih with h | h
        · simp; omega
        · subst h; simp [Lib.indexByte] at *

theorem indexByte_cases (s : ByteArray) (c : UInt8) : Lib.indexByte s.data.toList c = -1 ∨ ∃ i : Nat, Lib.indexByte s.data.toList c = i ∧ i + 1 ≤ s.size := by
  have h1 := Lib.indexByte_ge s.data.toList c
  by_cases h : Lib.indexByte s.data.toList c = -1
  · exact Or.inl h
  · right
    refine ⟨(Lib.indexByte s.data.toList c).toNat, by omega, ?_⟩
    rcases indexByte_lt s.data.toList c with h2 | h2
    · rw [← Lib.size_eq] at h2; omega
    · rw [h2] at h; exact absurd rfl h

theorem cut_size (s : ByteArray) (c : UInt8) : (cutBytes s c).1.size ≤ s.size ∧ (cutBytes s c).2.1.size ≤ s.size := by
  unfold cutBytes
  split
  · exact ⟨Nat.le_refl _, Nat.zero_le _⟩
  · simp only [ByteArray.size_extract]
    omega

set_option maxRecDepth 100000 in
set_option maxHeartbeats 1000000 in
theorem cut_in (s : ByteArray) (c : UInt8) (hs : s.size ≤ 9223372036854775806) (w : World) :
    Calls Tryz.prog 128 #[.string s, .string ⟨#[c]⟩] w fun e w' => e = .returned (.tuple #[.string (cutBytes s c).1, .string (cutBytes s c).2.1, .bool (cutBytes s c).2.2]) ∧ Below w.heap.size w w' := by
  rcases indexByte_cases s c with hm | ⟨i, hi, hle⟩
  · have e1 : cutBytes s c = (s, ⟨#[]⟩, false) := by unfold cutBytes; rw [if_pos hm]
    rw [e1]
    have hix : ∀ w, Calls Tryz.prog 189 #[.string s, .string ⟨#[c]⟩] w fun e w' => e = .returned (.int .i64 (-1)) ∧ w' = w := by
      intro w
      have := Tryz.stringslite_Index_one s c w
      rw [hm] at this
      exact this
    have HX := Lib.hid hix
    clear hix hm e1
    go_enter Tryz.func128, Tryz.ntmps128
    go_wp2_with (go_at_call 189; refine (HX.out _).mono ?_; rintro e w' ⟨rfl, rfl⟩)
    try go_region
    all_goals (try go_wp2)
    all_goals (go_ret3; exact ⟨rfl, by first | exact Below.refl _ _ | exact (Below.refl _ _).drew⟩)
  · have e1 : cutBytes s c = (s.extract 0 i, s.extract (i + 1) s.size, true) := by unfold cutBytes; rw [if_neg (by omega), hi]; rfl
    rw [e1]
    have hix : ∀ w, Calls Tryz.prog 189 #[.string s, .string ⟨#[c]⟩] w fun e w' => e = .returned (.int .i64 i) ∧ w' = w := by
      intro w
      have := Tryz.stringslite_Index_one s c w
      rw [hi] at this
      exact this
    have HX := Lib.hid hix
    clear hix hi e1
    go_enter Tryz.func128, Tryz.ntmps128
    go_wp2_with (go_at_call 189; refine (HX.out _).mono ?_; rintro e w' ⟨rfl, rfl⟩)
    have b1 : (i : Int) + 1 ≤ s.size := by omega
    have b2 : 0 ≤ (i : Int) + 1 := by omega
    have b3 : (i : Int) ≤ s.size := by omega
    have b4 : IntKind.i64.wrap ((i : Int) + 1) = (i : Int) + 1 := IntWalk.i64_in _ (by omega)
    have b5 : ((i : Int) + 1).toNat = i + 1 := by omega
    go_quiet (fail)
    all_goals go_wp2
    go_ret3
    exact ⟨rfl, bel_drewN _ _⟩

set_option maxRecDepth 100000 in
set_option maxHeartbeats 1000000 in
theorem cut_any (s : ByteArray) (c : UInt8) (hs : s.size ≤ 9223372036854775806) (w : World) :
    Calls Tryz.prog 75 #[.string s, .string ⟨#[c]⟩] w fun e w' => e = .returned (.tuple #[.string (cutBytes s c).1, .string (cutBytes s c).2.1, .bool (cutBytes s c).2.2]) ∧ Below w.heap.size w w' := by
  have HX := Lib.hid (cut_in s c hs)
  generalize cutBytes s c = q at HX ⊢
  go_enter Tryz.func75, Tryz.ntmps75
  go_wp2_with (go_at_call 128; refine (HX.out _).mono ?_; rintro e w' ⟨rfl, hb⟩)
  go_ret3
  exact ⟨rfl, hb⟩
end Go.Proofs.YtnefpiohmokkiaaGreatDoor
