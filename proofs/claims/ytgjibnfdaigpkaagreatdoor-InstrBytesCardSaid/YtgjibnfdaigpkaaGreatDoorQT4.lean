/- Joined texts: A part's two functions.; Is an Op among some. -/
import Derived.Test.YtgjibnfdaigpkaaGreatDoorQT3
/- A part's two functions. -/
namespace Go.Proofs.YtgjibnfdaigpkaaGreatDoor
set_option linter.unusedVariables false
open Go Go.Proofs Go.RowKit

def insV (op a b c m : Int) : Value := .agg #[.int .i64 op, .int .i64 a, .int .i64 b, .int .i64 c, .int .u32 m]

theorem getA (op a b c m : Int) (hx : 0 ≤ a ∧ a < 4294967296) (w : World) : Calls Tryz.prog 115 #[insV op a b c m] w fun e w' => e = .returned (.int .u64 a) ∧ ∃ o, w' = w.alloc o := by
  unfold insV
  go_enter Tryz.func115, Tryz.ntmps115
  go_wp2
  refine bodyPost_ret (v := .int .u64 a) ?_ rfl ⟨rfl, _, rfl⟩
  simp [results, Tryz.results115, go_sem]
theorem getB (op a b c m : Int) (hx : 0 ≤ b ∧ b < 4294967296) (w : World) : Calls Tryz.prog 117 #[insV op a b c m] w fun e w' => e = .returned (.int .u64 b) ∧ ∃ o, w' = w.alloc o := by
  unfold insV
  go_enter Tryz.func117, Tryz.ntmps117
  go_wp2
  refine bodyPost_ret (v := .int .u64 b) ?_ rfl ⟨rfl, _, rfl⟩
  simp [results, Tryz.results117, go_sem]
theorem getC (op a b c m : Int) (hx : 0 ≤ c ∧ c < 4294967296) (w : World) : Calls Tryz.prog 121 #[insV op a b c m] w fun e w' => e = .returned (.int .u64 c) ∧ ∃ o, w' = w.alloc o := by
  unfold insV
  go_enter Tryz.func121, Tryz.ntmps121
  go_wp2
  refine bodyPost_ret (v := .int .u64 c) ?_ rfl ⟨rfl, _, rfl⟩
  simp [results, Tryz.results121, go_sem]
theorem getI (op a b c m : Int) (hx : 0 ≤ m ∧ m < 4294967296) (w : World) : Calls Tryz.prog 119 #[insV op a b c m] w fun e w' => e = .returned (.int .u64 m) ∧ ∃ o, w' = w.alloc o := by
  unfold insV
  go_enter Tryz.func119, Tryz.ntmps119
  go_wp2
  refine bodyPost_ret (v := .int .u64 m) ?_ rfl ⟨rfl, _, rfl⟩
  simp [results, Tryz.results119, go_sem]

theorem putA (bk : Nat) (x : Value) (n : Int) (hx : 0 ≤ n ∧ n < 4294967296) (w : World) (hc : w.cell? ⟨bk, 1, none⟩ = some x) (hf : w.frozen? ⟨bk, 1, none⟩ = false) : Calls Tryz.prog 116 #[.pointer (some ⟨bk, 0, none⟩), .int .u64 n] w fun e w' => e = .returned (.tuple #[]) ∧ w' = w.setCell ⟨bk, 1, none⟩ (.int .i64 n) := by
  go_enter Tryz.func116, Tryz.ntmps116
  go_wp2
  exact bodyPost_end (v := .tuple #[]) (by simp [results, Tryz.results116]) rfl ⟨rfl, rfl⟩
theorem putB (bk : Nat) (x : Value) (n : Int) (hx : 0 ≤ n ∧ n < 4294967296) (w : World) (hc : w.cell? ⟨bk, 2, none⟩ = some x) (hf : w.frozen? ⟨bk, 2, none⟩ = false) : Calls Tryz.prog 118 #[.pointer (some ⟨bk, 0, none⟩), .int .u64 n] w fun e w' => e = .returned (.tuple #[]) ∧ w' = w.setCell ⟨bk, 2, none⟩ (.int .i64 n) := by
  go_enter Tryz.func118, Tryz.ntmps118
  go_wp2
  exact bodyPost_end (v := .tuple #[]) (by simp [results, Tryz.results118]) rfl ⟨rfl, rfl⟩
theorem putC (bk : Nat) (x : Value) (n : Int) (hx : 0 ≤ n ∧ n < 4294967296) (w : World) (hc : w.cell? ⟨bk, 3, none⟩ = some x) (hf : w.frozen? ⟨bk, 3, none⟩ = false) : Calls Tryz.prog 122 #[.pointer (some ⟨bk, 0, none⟩), .int .u64 n] w fun e w' => e = .returned (.tuple #[]) ∧ w' = w.setCell ⟨bk, 3, none⟩ (.int .i64 n) := by
  go_enter Tryz.func122, Tryz.ntmps122
  go_wp2
  exact bodyPost_end (v := .tuple #[]) (by simp [results, Tryz.results122]) rfl ⟨rfl, rfl⟩
theorem putI (bk : Nat) (x : Value) (n : Int) (hx : 0 ≤ n ∧ n < 4294967296) (w : World) (hc : w.cell? ⟨bk, 4, none⟩ = some x) (hf : w.frozen? ⟨bk, 4, none⟩ = false) : Calls Tryz.prog 120 #[.pointer (some ⟨bk, 0, none⟩), .int .u64 n] w fun e w' => e = .returned (.tuple #[]) ∧ w' = w.setCell ⟨bk, 4, none⟩ (.int .u32 n) := by
  go_enter Tryz.func120, Tryz.ntmps120
  go_wp2
  exact bodyPost_end (v := .tuple #[]) (by simp [results, Tryz.results120]) rfl ⟨rfl, rfl⟩
theorem is_any (op : Int) (w : World) : Calls Tryz.prog 38 #[.int .i64 op] w fun e w' => e = .returned (.bool (decide (1 ≤ op ∧ op ≤ 19))) ∧ w' = w := by
  go_enter Tryz.func38, Tryz.ntmps38
  go_wp2
  · exact bodyPost_ret (v := .bool (decide (op ≤ 19))) (by simp [results, Tryz.results38, go_sem]) rfl ⟨ret_bool (by simp [*]), rfl⟩
  · exact bodyPost_ret (v := .bool false) (by simp [results, Tryz.results38, go_sem]) rfl ⟨ret_bool (by
      have h : decide (1 ≤ op) = false := by simp; omega
      rw [h]; rfl), rfl⟩
end Go.Proofs.YtgjibnfdaigpkaaGreatDoor

/- Is an Op among some. -/
namespace Go.Proofs.YtgjibnfdaigpkaaGreatDoor
set_option linter.unusedVariables false
open Go Go.Proofs Go.RowKit

theorem opIndex_any (zs : List Int) (b : Nat) (x : Int) (w : World) (hl : zs.length ≤ 100) (hc : ∀ j (h : j < zs.length), w.cell? ⟨b, j, none⟩ = some (.int .i64 zs[j])) :
    Calls Tryz.prog 152 #[.slice (some ⟨b, 0, none⟩) zs.length zs.length, .int .i64 x] w fun e w' =>
      ∃ r : Int, e = .returned (.int .i64 r) ∧ (0 ≤ r ↔ x ∈ zs) ∧ w' = w := by
  have HC := Lib.hid hc
  clear hc
  go_enter Tryz.func152, Tryz.ntmps152
  go_wp2
  go_loop [5, 8] (fun _ i => ∃ k : Nat, i = .int .i64 k ∧ k ≤ zs.length ∧ Hid (∀ j (h : j < zs.length), j < k → zs[j] ≠ x)) (fun _ i => zs.length - (intOf i).toNat)
  case atStart => exact ⟨0, rfl, by omega, fun j h hj => by omega⟩
  case round =>
    obtain ⟨k, rfl, hk, hb⟩ := hrel
    by_cases hlt : k < zs.length
    · have c0 := HC.out k hlt
      generalize hz : zs[k] = z at c0
      have HZ := Lib.hid hz
      clear hz
      by_cases hx : x = z
      · subst hx
        have HM : Hid (x ∈ zs) := Lib.hid (by rw [← HZ.out]; exact List.getElem_mem _)
        go_wp2
        exact bodyPost_ret (v := .int .i64 k) (by simp [results, Tryz.results152, go_sem]) rfl ⟨k, rfl, ⟨fun _ => HM.out, fun _ => by omega⟩, rfl⟩
      · go_wp2
        refine ⟨⟨k + 1, by simp, by omega, fun j h hj => ?_⟩, by simp [intOf]; omega⟩
        by_cases hjk : j = k
        · subst hjk
          rw [HZ.out]
          exact fun q => hx q.symm
        · exact hb.out j h (by omega)
    · have HM : Hid (x ∉ zs) := Lib.hid (by
        intro hm
        obtain ⟨j, h, hj⟩ := List.getElem_of_mem hm
        exact hb.out j h (by omega) hj)
      go_wp2
      exact bodyPost_ret (v := .int .i64 (-1)) (by simp [results, Tryz.results152, go_sem]) rfl ⟨-1, rfl, ⟨fun h => by omega, fun h => absurd h HM.out⟩, rfl⟩

theorem opContains_any (zs : List Int) (b : Nat) (x : Int) (w : World) (hl : zs.length ≤ 100) (hc : ∀ j (h : j < zs.length), w.cell? ⟨b, j, none⟩ = some (.int .i64 zs[j])) :
    Calls Tryz.prog 125 #[.slice (some ⟨b, 0, none⟩) zs.length zs.length, .int .i64 x] w fun e w' => e = .returned (.bool (decide (x ∈ zs))) ∧ w' = w := by
  have HC := Lib.hid hc
  clear hc
  go_enter Tryz.func125, Tryz.ntmps125
  go_wp2_with (go_at_call 152; refine (opIndex_any zs b x _ hl HC.out).mono ?_; rintro e w1 ⟨r, rfl, hr, rfl⟩)
  exact bodyPost_ret (v := .bool (decide (x ∈ zs))) (by simp [results, Tryz.results125, go_sem]) rfl ⟨rfl, rfl⟩

theorem amongOp_any (zs : List Int) (b : Nat) (x : Int) (w : World) (hl : zs.length ≤ 100) (hc : ∀ j (h : j < zs.length), w.cell? ⟨b, j, none⟩ = some (.int .i64 zs[j])) :
    Calls Tryz.prog 87 #[.int .i64 x, .slice (some ⟨b, 0, none⟩) zs.length zs.length] w fun e w' => e = .returned (.bool (decide (x ∈ zs))) ∧ w' = w := by
  have HC := Lib.hid hc
  clear hc
  go_enter Tryz.func87, Tryz.ntmps87
  go_wp2_with (go_at_call 125; refine (opContains_any zs b x _ hl HC.out).mono ?_; rintro e w1 ⟨rfl, rfl⟩)
  exact bodyPost_ret (v := .bool (decide (x ∈ zs))) (by simp [results, Tryz.results87, go_sem]) rfl ⟨rfl, rfl⟩
end Go.Proofs.YtgjibnfdaigpkaaGreatDoor
