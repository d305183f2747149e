/- Walks of strconv.ParseUint in base 10. -/
import Derived.Test.YtgjibnfdaigpkaaGreatDoorNumA
import Derived.Test.YtgjibnfdaigpkaaGreatDoorEnv
namespace Go.Proofs.YtgjibnfdaigpkaaGreatDoor
set_option linter.unusedVariables false
open Go Go.Proofs Go.RowKit Go.Sort Go.Lib

/-- What strconv.ParseUint tells: the number and no error; or some number and an error. -/
def puOut (m : Nat) (r : Option Nat) (e : Ending) : Prop :=
  (∃ n, r = some n ∧ e = .returned (.tuple #[.int .u64 n, .nilIface])) ∨
    (r = none ∧ ∃ (v : Int) (t : TypeId) (x : Value), 0 ≤ v ∧ v ≤ m ∧ e = .returned (.tuple #[.int .u64 v, .iface t x]))

set_option maxRecDepth 100000 in
/-- ParseUint's own text at the empty string. -/
theorem parseUint_nil (w : World) (b : Int) :
    Calls Tryz.prog 100 #[.string ⟨#[]⟩, .int .i64 10, .int .i64 b] w fun e w' => e = .returned (.tuple #[.int .u64 0, .iface 194 (.int .i64 2)]) ∧ w' = w := by
  go_enter Tryz.func100, Tryz.ntmps100
  go_wp2
  go_ret2
  exact ⟨rfl, rfl⟩

/-- The number of a text: digits, at least one, none above m. -/
def puG (m : Nat) (l : List UInt8) : Option Nat := if l = [] then none else puF m 0 l

set_option maxRecDepth 100000 in
set_option maxHeartbeats 1000000 in
theorem parseUint_any (t : ByteArray) (hlim : t.size ≤ 281474976710656) (w : World) (b : Int) (m : Nat) (hb0 : 1 ≤ b) (hb1 : b ≤ 48) (hm0 : 9 ≤ m) (hm1 : m ≤ 281474976710655)
    (hsh : IntKind.u64.wrap (2 ^ b.toNat) = m + 1) (hE : Env w) :
    Calls Tryz.prog 57 #[.string t, .int .i64 10, .int .i64 b] w fun e w' => puOut m (puG m t.data.toList) e ∧ Below w.heap.size w w' := by
  have key : Calls Tryz.prog 100 #[.string t, .int .i64 10, .int .i64 b] w fun e w' => puPost m (puG m t.data.toList) e ∧ Below w.heap.size w w' := by
    by_cases h0 : t.size = 0
    · have ht : t = ⟨#[]⟩ := by
        apply ByteArray.ext
        exact Array.eq_empty_of_size_eq_zero h0
      subst ht
      refine (parseUint_nil w b).mono ?_
      rintro e w' ⟨rfl, rfl⟩
      exact ⟨Or.inr ⟨rfl, 0, 2, by omega, by omega, Or.inr rfl, rfl⟩, Below.refl _ _⟩
    · have hne : t.data.toList ≠ [] := fun h => h0 (by rw [Lib.size_eq, h]; rfl)
      unfold puG
      rw [if_neg hne]
      exact parseUint_in t h0 (by omega) w b m hb0 hb1 hm0 hm1 hsh
  clear hsh
  generalize puG m t.data.toList = r at key ⊢
  go_enter Tryz.func57, Tryz.ntmps57
  go_wp2_with fail
  go_at_call 100
  refine key.mono ?_
  rintro e w1 ⟨hp, hb⟩
  rcases hp with ⟨n, hr, rfl⟩ | ⟨hr, v, k, hv0, hv1, hk, rfl⟩
  · have HR := Lib.hid hr
    clear hr
    go_wp2_with fail
    go_ret2
    exact ⟨Or.inl ⟨n, HR.out, rfl⟩, hb⟩
  · have HR := Lib.hid hr
    have HK := Lib.hid hk
    clear hr hk
    go_wp2_with (go_at_call 101; refine (toError_any _ _ _ _ HK.out _ hlim (hE.on hb)).mono ?_; rintro e w2 ⟨t', x, rfl, hb2⟩)
    go_ret2
    exact ⟨Or.inr ⟨HR.out, v, t', x, hv0, hv1, rfl⟩, belT hb hb2⟩
end Go.Proofs.YtgjibnfdaigpkaaGreatDoor
