/- Is an Op among some. -/
import Derived.Test.YtgjibnfdaigpkaaGreatDoorInD
namespace Go.Proofs.YtgjibnfdaigpkaaGreatDoor
set_option linter.unusedVariables false
open Go Go.Proofs Go.RowKit

theorem opIndex_any (zs : List Int) (b : Nat) (x : Int) (w : World) (hl : zs.length ≤ 100) (hc : ∀ j (h : j < zs.length), w.cell? ⟨b, j, none⟩ = some (.int .i64 zs[j])) :
    Calls Tryz.prog 152 #[.slice (some ⟨b, 0, none⟩) zs.length zs.length, .int .i64 x] w fun e w' =>
      ∃ r : Int, e = .returned (.int .i64 r) ∧ (0 ≤ r ↔ x ∈ zs) ∧ w' = w := by
  have HC := Lib.hid hc
  clear hc
  go_enter Tryz.func152, Tryz.ntmps152
  go_wp2
  go_loop [5, 8] (fun _ i => ∃ k : Nat, i = .int .i64 k ∧ k ≤ zs.length ∧ Hid (∀ j (h : j < zs.length), j < k → zs[j] ≠ x)) (fun _ i => zs.length - (intOf i).toNat)
  case atStart => exact ⟨0, rfl, by omega, fun j h hj => by omega⟩
  case round =>
    obtain ⟨k, rfl, hk, hb⟩ := hrel
    by_cases hlt : k < zs.length
    · have c0 := HC.out k hlt
      generalize hz : zs[k] = z at c0
      have HZ := Lib.hid hz
      clear hz
      by_cases hx : x = z
      · subst hx
        have HM : Hid (x ∈ zs) := Lib.hid (by rw [← HZ.out]; exact List.getElem_mem _)
        go_wp2
        exact bodyPost_ret (v := .int .i64 k) (by simp [results, Tryz.results152, go_sem]) rfl ⟨k, rfl, ⟨fun _ => HM.out, fun _ => by omega⟩, rfl⟩
      · go_wp2
        refine ⟨⟨k + 1, by simp, by omega, fun j h hj => ?_⟩, by simp [intOf]; omega⟩
        by_cases hjk : j = k
        · subst hjk
          rw [HZ.out]
          exact fun q => hx q.symm
        · exact hb.out j h (by omega)
    · have HM : Hid (x ∉ zs) := Lib.hid (by
        intro hm
        obtain ⟨j, h, hj⟩ := List.getElem_of_mem hm
        exact hb.out j h (by omega) hj)
      go_wp2
      exact bodyPost_ret (v := .int .i64 (-1)) (by simp [results, Tryz.results152, go_sem]) rfl ⟨-1, rfl, ⟨fun h => by omega, fun h => absurd h HM.out⟩, rfl⟩

theorem opContains_any (zs : List Int) (b : Nat) (x : Int) (w : World) (hl : zs.length ≤ 100) (hc : ∀ j (h : j < zs.length), w.cell? ⟨b, j, none⟩ = some (.int .i64 zs[j])) :
    Calls Tryz.prog 125 #[.slice (some ⟨b, 0, none⟩) zs.length zs.length, .int .i64 x] w fun e w' => e = .returned (.bool (decide (x ∈ zs))) ∧ w' = w := by
  have HC := Lib.hid hc
  clear hc
  go_enter Tryz.func125, Tryz.ntmps125
  go_wp2_with (go_at_call 152; refine (opIndex_any zs b x _ hl HC.out).mono ?_; rintro e w1 ⟨r, rfl, hr, rfl⟩)
  exact bodyPost_ret (v := .bool (decide (x ∈ zs))) (by simp [results, Tryz.results125, go_sem]) rfl ⟨rfl, rfl⟩

theorem amongOp_any (zs : List Int) (b : Nat) (x : Int) (w : World) (hl : zs.length ≤ 100) (hc : ∀ j (h : j < zs.length), w.cell? ⟨b, j, none⟩ = some (.int .i64 zs[j])) :
    Calls Tryz.prog 87 #[.int .i64 x, .slice (some ⟨b, 0, none⟩) zs.length zs.length] w fun e w' => e = .returned (.bool (decide (x ∈ zs))) ∧ w' = w := by
  have HC := Lib.hid hc
  clear hc
  go_enter Tryz.func87, Tryz.ntmps87
  go_wp2_with (go_at_call 125; refine (opContains_any zs b x _ hl HC.out).mono ?_; rintro e w1 ⟨rfl, rfl⟩)
  exact bodyPost_ret (v := .bool (decide (x ∈ zs))) (by simp [results, Tryz.results87, go_sem]) rfl ⟨rfl, rfl⟩
end Go.Proofs.YtgjibnfdaigpkaaGreatDoor
