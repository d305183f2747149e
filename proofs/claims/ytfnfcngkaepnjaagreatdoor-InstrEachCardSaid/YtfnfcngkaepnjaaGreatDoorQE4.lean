/- Joined texts: A part's two functions.; Is an Op among some. -/
import Derived.Test.YtfnfcngkaepnjaaGreatDoorQE3
/- A part's two functions. -/
namespace Go.Proofs.YtfnfcngkaepnjaaGreatDoor
set_option linter.unusedVariables false
open Go Go.Proofs Go.RowKit

def insV (op a b c m : Int) : Value := .agg #[.int .i64 op, .int .i64 a, .int .i64 b, .int .i64 c, .int .u32 m]

theorem getA (op a b c m : Int) (hx : 0 ≤ a ∧ a < 4294967296) (w : World) : Calls Tryz.prog 188 #[insV op a b c m] w fun e w' => e = .returned (.int .u64 a) ∧ ∃ o, w' = w.alloc o := by
  unfold insV
  go_enter Tryz.func188, Tryz.ntmps188
  go_wp2
  refine bodyPost_ret (v := .int .u64 a) ?_ rfl ⟨rfl, _, rfl⟩
  simp [results, Tryz.results188, go_sem]
theorem getB (op a b c m : Int) (hx : 0 ≤ b ∧ b < 4294967296) (w : World) : Calls Tryz.prog 190 #[insV op a b c m] w fun e w' => e = .returned (.int .u64 b) ∧ ∃ o, w' = w.alloc o := by
  unfold insV
  go_enter Tryz.func190, Tryz.ntmps190
  go_wp2
  refine bodyPost_ret (v := .int .u64 b) ?_ rfl ⟨rfl, _, rfl⟩
  simp [results, Tryz.results190, go_sem]
theorem getC (op a b c m : Int) (hx : 0 ≤ c ∧ c < 4294967296) (w : World) : Calls Tryz.prog 194 #[insV op a b c m] w fun e w' => e = .returned (.int .u64 c) ∧ ∃ o, w' = w.alloc o := by
  unfold insV
  go_enter Tryz.func194, Tryz.ntmps194
  go_wp2
  refine bodyPost_ret (v := .int .u64 c) ?_ rfl ⟨rfl, _, rfl⟩
  simp [results, Tryz.results194, go_sem]
theorem getI (op a b c m : Int) (hx : 0 ≤ m ∧ m < 4294967296) (w : World) : Calls Tryz.prog 192 #[insV op a b c m] w fun e w' => e = .returned (.int .u64 m) ∧ ∃ o, w' = w.alloc o := by
  unfold insV
  go_enter Tryz.func192, Tryz.ntmps192
  go_wp2
  refine bodyPost_ret (v := .int .u64 m) ?_ rfl ⟨rfl, _, rfl⟩
  simp [results, Tryz.results192, go_sem]

theorem putA (bk : Nat) (x : Value) (n : Int) (hx : 0 ≤ n ∧ n < 4294967296) (w : World) (hc : w.cell? ⟨bk, 1, none⟩ = some x) (hf : w.frozen? ⟨bk, 1, none⟩ = false) : Calls Tryz.prog 189 #[.pointer (some ⟨bk, 0, none⟩), .int .u64 n] w fun e w' => e = .returned (.tuple #[]) ∧ w' = w.setCell ⟨bk, 1, none⟩ (.int .i64 n) := by
  go_enter Tryz.func189, Tryz.ntmps189
  go_wp2
  exact bodyPost_end (v := .tuple #[]) (by simp [results, Tryz.results189]) rfl ⟨rfl, rfl⟩
theorem putB (bk : Nat) (x : Value) (n : Int) (hx : 0 ≤ n ∧ n < 4294967296) (w : World) (hc : w.cell? ⟨bk, 2, none⟩ = some x) (hf : w.frozen? ⟨bk, 2, none⟩ = false) : Calls Tryz.prog 191 #[.pointer (some ⟨bk, 0, none⟩), .int .u64 n] w fun e w' => e = .returned (.tuple #[]) ∧ w' = w.setCell ⟨bk, 2, none⟩ (.int .i64 n) := by
  go_enter Tryz.func191, Tryz.ntmps191
  go_wp2
  exact bodyPost_end (v := .tuple #[]) (by simp [results, Tryz.results191]) rfl ⟨rfl, rfl⟩
theorem putC (bk : Nat) (x : Value) (n : Int) (hx : 0 ≤ n ∧ n < 4294967296) (w : World) (hc : w.cell? ⟨bk, 3, none⟩ = some x) (hf : w.frozen? ⟨bk, 3, none⟩ = false) : Calls Tryz.prog 195 #[.pointer (some ⟨bk, 0, none⟩), .int .u64 n] w fun e w' => e = .returned (.tuple #[]) ∧ w' = w.setCell ⟨bk, 3, none⟩ (.int .i64 n) := by
  go_enter Tryz.func195, Tryz.ntmps195
  go_wp2
  exact bodyPost_end (v := .tuple #[]) (by simp [results, Tryz.results195]) rfl ⟨rfl, rfl⟩
theorem putI (bk : Nat) (x : Value) (n : Int) (hx : 0 ≤ n ∧ n < 4294967296) (w : World) (hc : w.cell? ⟨bk, 4, none⟩ = some x) (hf : w.frozen? ⟨bk, 4, none⟩ = false) : Calls Tryz.prog 193 #[.pointer (some ⟨bk, 0, none⟩), .int .u64 n] w fun e w' => e = .returned (.tuple #[]) ∧ w' = w.setCell ⟨bk, 4, none⟩ (.int .u32 n) := by
  go_enter Tryz.func193, Tryz.ntmps193
  go_wp2
  exact bodyPost_end (v := .tuple #[]) (by simp [results, Tryz.results193]) rfl ⟨rfl, rfl⟩
theorem is_any (op : Int) (w : World) : Calls Tryz.prog 102 #[.int .i64 op] w fun e w' => e = .returned (.bool (decide (1 ≤ op ∧ op ≤ 19))) ∧ w' = w := by
  go_enter Tryz.func102, Tryz.ntmps102
  go_wp2
  · exact bodyPost_ret (v := .bool (decide (op ≤ 19))) (by simp [results, Tryz.results102, go_sem]) rfl ⟨ret_bool (by simp [*]), rfl⟩
  · exact bodyPost_ret (v := .bool false) (by simp [results, Tryz.results102, go_sem]) rfl ⟨ret_bool (by
      have h : decide (1 ≤ op) = false := by simp; omega
      rw [h]; rfl), rfl⟩
end Go.Proofs.YtfnfcngkaepnjaaGreatDoor

/- Is an Op among some. -/
namespace Go.Proofs.YtfnfcngkaepnjaaGreatDoor
set_option linter.unusedVariables false
open Go Go.Proofs Go.RowKit

theorem opIndex_any (zs : List Int) (b : Nat) (x : Int) (w : World) (hl : zs.length ≤ 100) (hc : ∀ j (h : j < zs.length), w.cell? ⟨b, j, none⟩ = some (.int .i64 zs[j])) :
    Calls Tryz.prog 239 #[.slice (some ⟨b, 0, none⟩) zs.length zs.length, .int .i64 x] w fun e w' =>
      ∃ r : Int, e = .returned (.int .i64 r) ∧ (0 ≤ r ↔ x ∈ zs) ∧ w' = w := by
  have HC := Lib.hid hc
  clear hc
  go_enter Tryz.func239, Tryz.ntmps239
  go_wp2
  go_loop [5, 8] (fun _ i => ∃ k : Nat, i = .int .i64 k ∧ k ≤ zs.length ∧ Hid (∀ j (h : j < zs.length), j < k → zs[j] ≠ x)) (fun _ i => zs.length - (intOf i).toNat)
  case atStart => exact ⟨0, rfl, by omega, fun j h hj => by omega⟩
  case round =>
    obtain ⟨k, rfl, hk, hb⟩ := hrel
    by_cases hlt : k < zs.length
    · have c0 := HC.out k hlt
      generalize hz : zs[k] = z at c0
      have HZ := Lib.hid hz
      clear hz
      by_cases hx : x = z
      · subst hx
        have HM : Hid (x ∈ zs) := Lib.hid (by rw [← HZ.out]; exact List.getElem_mem _)
        go_wp2
        exact bodyPost_ret (v := .int .i64 k) (by simp [results, Tryz.results239, go_sem]) rfl ⟨k, rfl, ⟨fun _ => HM.out, fun _ => by omega⟩, rfl⟩
      · go_wp2
        refine ⟨⟨k + 1, by simp, by omega, fun j h hj => ?_⟩, by simp [intOf]; omega⟩
        by_cases hjk : j = k
        · subst hjk
          rw [HZ.out]
          exact fun q => hx q.symm
        · exact hb.out j h (by omega)
    · have HM : Hid (x ∉ zs) := Lib.hid (by
        intro hm
        obtain ⟨j, h, hj⟩ := List.getElem_of_mem hm
        exact hb.out j h (by omega) hj)
      go_wp2
      exact bodyPost_ret (v := .int .i64 (-1)) (by simp [results, Tryz.results239, go_sem]) rfl ⟨-1, rfl, ⟨fun h => by omega, fun h => absurd h HM.out⟩, rfl⟩

theorem opContains_any (zs : List Int) (b : Nat) (x : Int) (w : World) (hl : zs.length ≤ 100) (hc : ∀ j (h : j < zs.length), w.cell? ⟨b, j, none⟩ = some (.int .i64 zs[j])) :
    Calls Tryz.prog 209 #[.slice (some ⟨b, 0, none⟩) zs.length zs.length, .int .i64 x] w fun e w' => e = .returned (.bool (decide (x ∈ zs))) ∧ w' = w := by
  have HC := Lib.hid hc
  clear hc
  go_enter Tryz.func209, Tryz.ntmps209
  go_wp2_with (go_at_call 239; refine (opIndex_any zs b x _ hl HC.out).mono ?_; rintro e w1 ⟨r, rfl, hr, rfl⟩)
  exact bodyPost_ret (v := .bool (decide (x ∈ zs))) (by simp [results, Tryz.results209, go_sem]) rfl ⟨rfl, rfl⟩

theorem amongOp_any (zs : List Int) (b : Nat) (x : Int) (w : World) (hl : zs.length ≤ 100) (hc : ∀ j (h : j < zs.length), w.cell? ⟨b, j, none⟩ = some (.int .i64 zs[j])) :
    Calls Tryz.prog 159 #[.int .i64 x, .slice (some ⟨b, 0, none⟩) zs.length zs.length] w fun e w' => e = .returned (.bool (decide (x ∈ zs))) ∧ w' = w := by
  have HC := Lib.hid hc
  clear hc
  go_enter Tryz.func159, Tryz.ntmps159
  go_wp2_with (go_at_call 209; refine (opContains_any zs b x _ hl HC.out).mono ?_; rintro e w1 ⟨rfl, rfl⟩)
  exact bodyPost_ret (v := .bool (decide (x ∈ zs))) (by simp [results, Tryz.results159, go_sem]) rfl ⟨rfl, rfl⟩
end Go.Proofs.YtfnfcngkaepnjaaGreatDoor
