/- The number in a word, behind a mark. -/
import Derived.Test.YtgjibnfdaigpkaaGreatDoorInW
namespace Go.Proofs.YtgjibnfdaigpkaaGreatDoor
set_option linter.unusedVariables false
open Go Go.Proofs Go.RowKit

/-- The number of a word behind a mark; is it one? -/
structure NumP (word mark : ByteArray) (n : Int) (f : Bool) : Prop where
  bd : f = true → 0 ≤ n ∧ n < 4294967296
  name : ∀ x : Nat, x < 4294967296 → word = mark ++ ⟨(Lib.decDigits x).toArray⟩ → f = true ∧ n = x
def NumQ (word mark : ByteArray) (w : World) (e : Ending) (w' : World) : Prop := ∃ n f, NumP word mark n f ∧ e = .returned (.tuple #[.int .u64 n, .bool f]) ∧ Below w.heap.size w w'

theorem cut_word (mark : ByteArray) (l : List UInt8) (word : ByteArray) (h : word = mark ++ ⟨l.toArray⟩) : Lib.hasPrefix word.data.toList mark.data.toList = true ∧ Lib.trimPrefix word.data.toList mark.data.toList = l := by
  have e : word.data.toList = mark.data.toList ++ l := by rw [h]; simp [ByteArray.data_append]
  have h1 : Lib.hasPrefix (mark.data.toList ++ l) mark.data.toList = true := by simp [Lib.hasPrefix]
  rw [e]
  refine ⟨h1, ?_⟩
  unfold Lib.trimPrefix
  rw [if_pos h1]
  simp

theorem trim_le (l p : List UInt8) : (Lib.trimPrefix l p).length ≤ l.length := by unfold Lib.trimPrefix; split <;> simp

set_option maxRecDepth 100000 in
set_option maxHeartbeats 1000000 in
theorem parseNum_any (V P KB PB : Nat) (k : Nat) (word mark : ByteArray) (L : List ByteArray) (hL : L.length ≤ 9223372036854775000) (hk : L[k + 1]? = some word) (hws : word.size ≤ 281474976710656) (w : World) (hE : Env w) (h : Wds V P L w)
    (hK : w.cell? ⟨KB, 0, none⟩ = some (.int .i64 k)) (hP : w.cell? ⟨PB, 1, none⟩ = some (.string mark)) :
    Calls Tryz.prog 55 #[.pointer (some ⟨V, 0, none⟩), .pointer (some ⟨KB, 0, none⟩), .pointer (some ⟨PB, 0, none⟩)] w (NumQ word mark w) := by
  have v0 := h.var
  have v1 := h.at_ (k + 1) word hk
  have hkl : k + 1 < L.length := (List.getElem?_eq_some_iff.1 hk).1
  have CC := Tryz.strings_CutPrefix word mark
  have HC := Lib.hid (cut_word mark · word)
  have hts : (⟨(Lib.trimPrefix word.data.toList mark.data.toList).toArray⟩ : ByteArray).size ≤ 281474976710656 := by
    have h1 := trim_le word.data.toList mark.data.toList
    rw [← Lib.size_eq] at h1
    simp only [ByteArray.size, List.size_toArray] at h1 ⊢
    exact Nat.le_trans h1 hws
  have CU := fun W hE => parseUint_any ⟨(Lib.trimPrefix word.data.toList mark.data.toList).toArray⟩ hts W 32 4294967295 (by decide) (by decide) (by decide) (by decide) (by rw [IntKind.wrap_u64]; decide) hE
  generalize Lib.trimPrefix word.data.toList mark.data.toList = rest at CC CU HC
  generalize Lib.hasPrefix word.data.toList mark.data.toList = is at CC HC
  have CU' := Lib.hid CU
  have CC' := Lib.hid CC
  have hw1 : IntKind.i64.wrap ((k : Int) + 1) = (k : Int) + 1 := by rw [IntKind.wrap_i64]; omega
  have b0 : (0 : Int) ≤ (k : Int) + 1 := by omega
  have b1 : (k : Int) + 1 < (L.length : Int) := by omega
  have b2 : ((k : Int) + 1).toNat = k + 1 := by omega
  clear h hk hws CU CC hkl hts
  go_enter Tryz.func55, Tryz.ntmps55
  go_wp2_with fail
  go_quiet ((go_at_call 56; exact Calls.quiet_of_same (CC'.out _)))
  go_wp2_with fail
  refine (CU'.out _ (hE.on (bel_drewN w nq))).mono ?_
  rintro e w1 ⟨hp, hb1⟩
  have hB1 : Below w.heap.size w w1 := (bel_drewN w nq).trans (hb1.mono (by simp))
  have hnn : ∀ w, (binOp .eql 117 .nilIface .nilIface).run Tryz.prog w = .ok (.bool true) w := fun _ => by kernel_rfl
  have hni : ∀ t x w, (binOp .eql 117 (.iface t x) .nilIface).run Tryz.prog w = .ok (.bool false) w := fun _ _ _ => by kernel_rfl
  clear v0 v1 hK hP b0 b1 b2 hw1 CC' CU' hb1
  rcases hp with ⟨n, hr, rfl⟩ | ⟨hr, v, t, x, hv0, hv1, rfl⟩
  · have HR := Lib.hid hr
    clear hr
    cases is with
    | true =>
      go_wp2_with fail
      go_quiet (fail)
      go_wp2
      go_ret2
      refine ⟨n, true, ⟨fun _ => ?_, fun y hy hw => ?_⟩, rfl, hB1.trans ((bel_drewN w1 _).mono hB1.size)⟩
      · have := puG_le HR.out; omega
      · obtain ⟨_, h2⟩ := HC.out _ hw
        have h3 := HR.out
        rw [h2, puG_dec _ _ (by omega)] at h3
        exact ⟨rfl, by have := Option.some.inj h3; omega⟩
    | false =>
      go_wp2_with fail
      go_quiet (fail)
      go_wp2
      go_ret2
      refine ⟨n, false, ⟨fun h => (by cases h), fun y hy hw => ?_⟩, rfl, hB1.trans ((bel_drewN w1 _).mono hB1.size)⟩
      exact absurd (HC.out _ hw).1 (by decide)
  · have HR := Lib.hid hr
    clear hr
    cases is with
    | true =>
      go_wp2_with fail
      go_quiet (fail)
      go_wp2
      go_ret2
      refine ⟨v, false, ⟨fun h => (by cases h), fun y hy hw => ?_⟩, rfl, hB1.trans ((bel_drewN w1 _).mono hB1.size)⟩
      obtain ⟨_, h2⟩ := HC.out _ hw
      have h3 := HR.out
      rw [h2, puG_dec _ _ (by omega)] at h3
      cases h3
    | false =>
      go_wp2_with fail
      go_quiet (fail)
      go_wp2
      go_ret2
      refine ⟨v, false, ⟨fun h => (by cases h), fun y hy hw => ?_⟩, rfl, hB1.trans ((bel_drewN w1 _).mono hB1.size)⟩
      exact absurd (HC.out _ hw).1 (by decide)

def FnuQ (word mark : ByteArray) (w : World) (e : Ending) (w' : World) : Prop := ((∃ n, NumP word mark n true ∧ e = .returned (.int .u64 n)) ∨ ((∃ n, NumP word mark n false) ∧ e = gaveUp 180)) ∧ Below w.heap.size w w'

set_option maxRecDepth 100000 in
set_option maxHeartbeats 1000000 in
theorem foundNum_any (V P KB PB : Nat) (k : Nat) (word mark : ByteArray) (L : List ByteArray) (hL : L.length ≤ 9223372036854775000) (hk : L[k + 1]? = some word) (hws : word.size ≤ 281474976710656) (w : World) (hE : Env w) (h : Wds V P L w)
    (hK : w.cell? ⟨KB, 0, none⟩ = some (.int .i64 k)) (hP : w.cell? ⟨PB, 1, none⟩ = some (.string mark)) :
    Calls Tryz.prog 54 #[.func (.func 55) #[] #[.pointer (some ⟨V, 0, none⟩), .pointer (some ⟨KB, 0, none⟩), .pointer (some ⟨PB, 0, none⟩)]] w (FnuQ word mark w) := by
  have CB := Lib.hid (parseNum_any V P KB PB k word mark L hL hk hws w hE h hK hP)
  clear h hK hP hk hws hE
  go_enter Tryz.func54, Tryz.ntmps54
  go_wp2_with fail
  refine CB.out.mono ?_
  rintro e w1 ⟨n, f, hn, rfl, hb1⟩
  have HN := Lib.hid hn
  cases f with
  | false =>
    clear hn
    go_wp2_with (go_at_call 37; refine (must_no _ _).mono ?_; rintro e w3 ⟨rfl, rfl⟩)
    exact ⟨rfl, Or.inr ⟨⟨n, HN.out⟩, rfl⟩, hb1⟩
  | true =>
    clear hn
    go_wp2_with (go_at_call 37; refine (must_yes _ _).mono ?_; rintro e w3 ⟨rfl, rfl⟩)
    go_ret
    exact ⟨Or.inl ⟨n, HN.out, rfl⟩, hb1⟩
end Go.Proofs.YtgjibnfdaigpkaaGreatDoor
