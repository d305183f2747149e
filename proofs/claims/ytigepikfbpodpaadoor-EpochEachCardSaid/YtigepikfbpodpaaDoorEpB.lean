/- Walks of package epoch: parts, Parts, None, Pack, Next; every argument. -/
import Derived.Test.YtigepikfbpodpaaDoorEpA
namespace Go.Proofs.YtigepikfbpodpaaDoor
set_option linter.unusedVariables false
open Go Go.Proofs Go.RowKit

theorem mask48 (x : Int) (h0 : 0 ≤ x) (h1 : x < 18446744073709551616) : bits .and .u64 x 281474976710655 = x % 281474976710656 := by
  rw [u64_and x _ h0 h1 (by omega) (by omega)]
  rw [show (281474976710655 : Int).toNat = 281474976710655 from rfl, nat_mask48]
  omega

theorem join48 (i c : Int) (h0 : 0 ≤ i) (h1 : i ≤ 65535) (h2 : 0 ≤ c) (h3 : c ≤ 281474976710655) : bits .or .u64 (i * 281474976710656) c = i * 281474976710656 + c := by
  rw [u64_or _ _ (by omega) (by omega) h2 (by omega)]
  rw [nat_join 48 _ _ (by omega) (by omega)]
  omega

set_option maxHeartbeats 400000 in
theorem parts_any (x : Int) (w : World) (h0 : 0 ≤ x) (h1 : x < 18446744073709551616) :
    Calls Tryd.prog 23 #[.agg #[.int .u64 x]] w fun e w' => e = .returned (.agg #[.int .u64 (x / 281474976710656), .int .u64 (x % 281474976710656)]) ∧ Below w.heap.size w w' := by
  have hm := mask48 x h0 h1
  go_enter Tryd.func23, Tryd.ntmps23
  go_wp2
  exact bodyPost_ret (v := .agg #[.int .u64 (x / 281474976710656), .int .u64 (x % 281474976710656)]) (by simp [results, Tryd.results23, go_sem]) rfl ⟨rfl, belA (bel1 _) _⟩

set_option maxHeartbeats 400000 in
theorem Parts_any (x : Int) (w : World) (h0 : 0 ≤ x) (h1 : x < 18446744073709551616) :
    Calls Tryd.prog 16 #[.int .u64 x] w fun e w' => e = .returned (.tuple #[.int .i64 (x / 281474976710656), .int .u64 (x % 281474976710656)]) ∧ Below w.heap.size w w' := by
  have b1 : 0 ≤ x / 281474976710656 := by omega
  have b2 : x / 281474976710656 ≤ 65535 := by omega
  go_enter Tryd.func16, Tryd.ntmps16
  go_wp2_with (go_at_call 23; refine (parts_any _ _ h0 h1).mono ?_; rintro e w' ⟨rfl, hb2⟩)
  go_region
  all_goals
    go_wp2
    go_ret2
    exact ⟨rfl, (belA hb2 _).drew⟩

theorem idx2_1 (a b : Value) (w : World) : (Instr.index 50 (.agg #[a, b]) (.int .i64 1)).run Tryd.prog w = .ok b w := by kernel_rfl
theorem idx2_0 (a b : Value) (w : World) : (Instr.index 50 (.agg #[a, b]) (.int .i64 0)).run Tryd.prog w = .ok a w := by kernel_rfl

set_option maxRecDepth 100000 in
set_option maxHeartbeats 400000 in
theorem None_any (x : Int) (w : World) (h0 : 0 ≤ x) (h1 : x < 18446744073709551616) :
    Calls Tryd.prog 20 #[.int .u64 x] w fun e w' => e = .returned (.bool (x % 281474976710656 == 0)) ∧ Below w.heap.size w w' := by
  have i1 := idx2_1
  go_enter Tryd.func20, Tryd.ntmps20
  go_wp2_with (go_at_call 23; refine (parts_any _ _ h0 h1).mono ?_; rintro e w' ⟨rfl, hb2⟩)
  go_ret
  exact ⟨rfl, hb2⟩

set_option maxHeartbeats 400000 in
theorem pack_yes (id c : Int) (w : World) (h0 : 0 ≤ id) (h1 : id ≤ 65535) (h2 : 0 ≤ c) (h3 : c ≤ 281474976710655) :
    Calls Tryd.prog 17 #[.int .i64 id, .int .u64 c] w fun e w' => e = .returned (.tuple #[.int .u64 (id * 281474976710656 + c), .int .i64 0]) ∧ Below w.heap.size w w' := by
  have hk : (okB id 0 65535 && okB c 0 281474976710655) = true := by simp [okB]; omega
  have hj := join48 id c h0 h1 h2 h3
  go_enter Tryd.func17, Tryd.ntmps17
  go_wp2_with (go_at_call 22; refine (fine_two id 0 65535 c 0 281474976710655 _ _ (by simp) (by go_simp) (by go_simp) (by go_simp) (by go_simp) (by go_simp) (by go_simp)).mono ?_; rintro e w' ⟨rfl, hb⟩)
  go_ret2
  exact ⟨rfl, belT (bel1 _) hb⟩

set_option maxHeartbeats 400000 in
theorem pack_neg (id c : Int) (w : World) (h0 : id < 0) :
    Calls Tryd.prog 17 #[.int .i64 id, .int .u64 c] w fun e w' => e = .returned (.tuple #[.int .u64 0, .int .i64 2]) ∧ Below w.heap.size w w' := by
  go_enter Tryd.func17, Tryd.ntmps17
  go_wp2_with fail
  go_ret2
  exact ⟨rfl, Below.refl _ _⟩

set_option maxHeartbeats 400000 in
theorem pack_no (id c : Int) (w : World) (h0 : 0 ≤ id) (h1 : id ≤ 9223372036854775807) (h2 : 0 ≤ c) (h3 : c < 18446744073709551616) (hno : 65535 < id ∨ 281474976710655 < c) :
    Calls Tryd.prog 17 #[.int .i64 id, .int .u64 c] w fun e w' => e = .returned (.tuple #[.int .u64 0, .int .i64 2]) ∧ Below w.heap.size w w' := by
  have hk : (okB id 0 65535 && okB c 0 281474976710655) = false := by simp [okB]; omega
  clear hno
  go_enter Tryd.func17, Tryd.ntmps17
  go_wp2_with (go_at_call 22; refine (fine_two id 0 65535 c 0 281474976710655 _ _ (by simp) (by go_simp) (by go_simp) (by go_simp) (by go_simp) (by go_simp) (by go_simp)).mono ?_; rintro e w' ⟨rfl, hb⟩)
  go_ret2
  exact ⟨rfl, belT (bel1 _) hb⟩

/-- Pack, as a function. -/
def packF (id c : Int) : Int × Int := if 0 ≤ id ∧ id ≤ 65535 ∧ c ≤ 281474976710655 then (id * 281474976710656 + c, 0) else (0, 2)

theorem pack_any (id c : Int) (w : World) (h0 : -9223372036854775808 ≤ id) (h1 : id ≤ 9223372036854775807) (h2 : 0 ≤ c) (h3 : c < 18446744073709551616) :
    Calls Tryd.prog 17 #[.int .i64 id, .int .u64 c] w fun e w' => e = .returned (.tuple #[.int .u64 (packF id c).1, .int .i64 (packF id c).2]) ∧ Below w.heap.size w w' := by
  unfold packF
  split
  · rename_i h
    exact pack_yes id c w h.1 h.2.1 h2 h.2.2
  · rename_i h
    by_cases hn : id < 0
    · exact pack_neg id c w hn
    · exact pack_no id c w (by omega) h1 h2 h3 (by omega)

set_option maxRecDepth 100000 in
set_option maxHeartbeats 400000 in
theorem next_arg (x d : Int) (w : World) (h0 : 0 ≤ x) (h1 : x < 18446744073709551616) (h2 : 0 ≤ d) (h3 : d < 18446744073709551616) (hno : okB d 1 281474976710655 = false) :
    Calls Tryd.prog 8 #[.int .u64 x, .int .u64 d] w fun e w' => e = .returned (.tuple #[.int .u64 0, .int .i64 2]) ∧ Below w.heap.size w w' := by
  go_enter Tryd.func8, Tryd.ntmps8
  go_wp2
  refine wp_scope_fwd 0 rfl ?_
  go_wp2_with (go_at_call 22; refine (fine_one d 1 281474976710655 _ _ (by simp) (by go_simp) (by go_simp) (by go_simp)).mono ?_; rintro e w' ⟨rfl, hb⟩)
  go_step3
  refine ⟨rfl, ?_⟩
  go_wp2
  rw [Exit.noGoto_ret]
  go_ret2
  exact ⟨rfl, belT (bel1 _) hb⟩

set_option maxRecDepth 100000 in
set_option maxHeartbeats 400000 in
theorem next_full (x d : Int) (w : World) (h0 : 0 ≤ x) (h1 : x < 18446744073709551616) (h2 : 0 ≤ d) (h3 : d < 18446744073709551616) (hno : okB d 1 281474976710655 = true) (hf : d ≤ x % 281474976710656) :
    Calls Tryd.prog 8 #[.int .u64 x, .int .u64 d] w fun e w' => e = .returned (.tuple #[.int .u64 0, .int .i64 130]) ∧ Below w.heap.size w w' := by
  have i1 := idx2_1
  go_enter Tryd.func8, Tryd.ntmps8
  go_wp2
  refine wp_scope_fwd 0 rfl ?_
  go_wp2_with (first | (go_at_call 22; refine (fine_one d 1 281474976710655 _ _ (by simp) (by go_simp) (by go_simp) (by go_simp)).mono ?_; rintro e w' ⟨rfl, hb⟩) | (go_at_call 23; refine (parts_any _ _ h0 h1).mono ?_; rintro e w' ⟨rfl, hb2⟩))
  go_step3
  refine ⟨rfl, ?_⟩
  go_wp2
  rw [Exit.noGoto_ret]
  go_ret2
  exact ⟨rfl, belT (belT (bel1 _) hb) hb2⟩

set_option maxRecDepth 100000 in
set_option maxHeartbeats 400000 in
theorem next_yes (x d : Int) (w : World) (h0 : 0 ≤ x) (h1 : x < 18446744073709551616) (h2 : 0 ≤ d) (h3 : d < 18446744073709551616) (hno : okB d 1 281474976710655 = true) (hd : d ≤ 281474976710655) (hf : x % 281474976710656 < d) :
    Calls Tryd.prog 8 #[.int .u64 x, .int .u64 d] w fun e w' => e = .returned (.tuple #[.int .u64 (x + 1), .int .i64 0]) ∧ Below w.heap.size w w' := by
  have i1 := idx2_1
  have hx : x + 1 < 18446744073709551616 := by omega
  go_enter Tryd.func8, Tryd.ntmps8
  go_wp2
  refine wp_scope_fwd 0 rfl ?_
  go_wp2_with (first | (go_at_call 22; refine (fine_one d 1 281474976710655 _ _ (by simp) (by go_simp) (by go_simp) (by go_simp)).mono ?_; rintro e w' ⟨rfl, hb⟩) | (go_at_call 23; refine (parts_any _ _ h0 h1).mono ?_; rintro e w' ⟨rfl, hb2⟩))
  rw [fwd_ret]
  go_ret2
  exact ⟨rfl, belT (belT (bel1 _) hb) hb2⟩

/-- Next, as a function. -/
def nextF (x d : Int) : Int × Int := if ¬ (1 ≤ d ∧ d ≤ 281474976710655) then (0, 2) else if d ≤ x % 281474976710656 then (0, 130) else (x + 1, 0)

theorem next_any (x d : Int) (w : World) (h0 : 0 ≤ x) (h1 : x < 18446744073709551616) (h2 : 0 ≤ d) (h3 : d < 18446744073709551616) :
    Calls Tryd.prog 8 #[.int .u64 x, .int .u64 d] w fun e w' => e = .returned (.tuple #[.int .u64 (nextF x d).1, .int .i64 (nextF x d).2]) ∧ Below w.heap.size w w' := by
  unfold nextF
  split
  · rename_i h
    exact next_arg x d w h0 h1 h2 h3 (by simp [okB]; omega)
  · rename_i h
    split
    · exact next_full x d w h0 h1 h2 h3 (by simp [okB]; omega) (by assumption)
    · exact next_yes x d w h0 h1 h2 h3 (by simp [okB]; omega) (by omega) (by omega)
end Go.Proofs.YtigepikfbpodpaaDoor
