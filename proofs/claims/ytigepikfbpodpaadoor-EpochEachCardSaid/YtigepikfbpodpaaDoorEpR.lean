/- Walks of the reference of layer 3: Parts, Pack, Next; every argument. -/
import Derived.Test.YtigepikfbpodpaaDoorEpB
namespace Go.Proofs.YtigepikfbpodpaaDoor
set_option linter.unusedVariables false
open Go Go.Proofs Go.RowKit

set_option maxRecDepth 100000 in
set_option maxHeartbeats 400000 in
theorem rParts_any (x : Int) (w : World) (h0 : 0 ≤ x) (h1 : x < 18446744073709551616) :
    Calls Tryd.prog 19 #[.int .u64 x] w fun e w' => e = .returned (.tuple #[.int .i64 (x / 281474976710656), .int .u64 (x % 281474976710656)]) ∧ w' = w := by
  have b1 : 0 ≤ x / 281474976710656 := by omega
  have b2 : x / 281474976710656 ≤ 65535 := by omega
  go_enter Tryd.func19, Tryd.ntmps19
  go_wp2
  go_ret2
  exact ⟨rfl, rfl⟩

set_option maxRecDepth 100000 in
set_option maxHeartbeats 400000 in
theorem rPack_any (id c : Int) (w : World) (h0 : -9223372036854775808 ≤ id) (h1 : id ≤ 9223372036854775807) (h2 : 0 ≤ c) (h3 : c < 18446744073709551616) :
    Calls Tryd.prog 18 #[.int .i64 id, .int .u64 c] w fun e w' => e = .returned (.tuple #[.int .u64 (packF id c).1, .int .i64 (packF id c).2]) ∧ w' = w := by
  unfold packF
  split
  · rename_i h
    obtain ⟨h4, h5, h6⟩ := h
    have h7 : id * 281474976710656 + c < 18446744073709551616 := by omega
    go_enter Tryd.func18, Tryd.ntmps18
    go_wp2
    go_ret2
    exact ⟨rfl, rfl⟩
  · rename_i h
    have HH := Lib.hid h
    clear h
    go_enter Tryd.func18, Tryd.ntmps18
    go_wp2
    all_goals first
      | (exfalso; have := HH.out; omega)
      | (go_ret2; exact ⟨rfl, rfl⟩)

set_option maxRecDepth 100000 in
set_option maxHeartbeats 400000 in
theorem rNext_any (x d : Int) (w : World) (h0 : 0 ≤ x) (h1 : x < 18446744073709551616) (h2 : 0 ≤ d) (h3 : d < 18446744073709551616) :
    Calls Tryd.prog 9 #[.int .u64 x, .int .u64 d] w fun e w' => e = .returned (.tuple #[.int .u64 (nextF x d).1, .int .i64 (nextF x d).2]) ∧ w' = w := by
  unfold nextF
  split
  · rename_i h
    have HH := Lib.hid h
    clear h
    go_enter Tryd.func9, Tryd.ntmps9
    go_wp2_with (go_at_call 19; refine (rParts_any _ _ h0 h1).mono ?_; rintro e w' ⟨rfl, rfl⟩)
    all_goals first
      | (exfalso; have := HH.out; omega)
      | (go_ret2; exact ⟨rfl, rfl⟩)
  · rename_i h
    have hd0 : 1 ≤ d := by omega
    have hd1 : d ≤ 281474976710655 := by omega
    clear h
    split
    all_goals rename_i hx
    · go_enter Tryd.func9, Tryd.ntmps9
      go_wp2_with (go_at_call 19; refine (rParts_any _ _ h0 h1).mono ?_; rintro e w' ⟨rfl, rfl⟩)
      go_ret2
      exact ⟨rfl, rfl⟩
    · have hx1 : x + 1 < 18446744073709551616 := by omega
      have hx2 : x % 281474976710656 < d := by omega
      clear hx
      go_enter Tryd.func9, Tryd.ntmps9
      go_wp2_with (go_at_call 19; refine (rParts_any _ _ h0 h1).mono ?_; rintro e w' ⟨rfl, rfl⟩)
      go_ret2
      exact ⟨rfl, rfl⟩
end Go.Proofs.YtigepikfbpodpaaDoor
