/- Joined texts: right: every instruction; Check. -/
import Derived.Test.YtfnfcngkaepnjaaGreatDoorQE8
/- right: every instruction; Check. -/
namespace Go.Proofs.YtfnfcngkaepnjaaGreatDoor
set_option linter.unusedVariables false
open Go Go.Proofs Go.RowKit

set_option maxRecDepth 100000 in
set_option maxHeartbeats 4000000 in
theorem right_out (op a b c m : Int) (h : ¬ ((1 ≤ op ∧ op ≤ 19) ∧ (0 ≤ a ∧ a < 16) ∧ (0 ≤ b ∧ b < 16) ∧ (0 ≤ c ∧ c ≤ 16))) (w : World) :
    Calls Tryz.prog 103 #[insV op a b c m] w fun e w' => e = .returned (.bool false) ∧ Below w.heap.size w w' := by
  by_cases h1 : 1 ≤ op ∧ op ≤ 19
  · by_cases ha : a < 0
    · clear h
      obtain ⟨h1, h2⟩ := h1
      unfold insV
      go_enter Tryz.func103, Tryz.ntmps103
      go_wp2_with (go_at_call 102; refine (is_any _ _).mono ?_; rintro e w1 ⟨rfl, rfl⟩)
      exact bodyPost_ret (v := .bool false) (by simp [results, Tryz.results103, go_sem]) rfl ⟨rfl, bel1 _⟩
    · by_cases hb : b < 0
      · clear h
        obtain ⟨h1, h2⟩ := h1
        have ha : 0 ≤ a := by omega
        unfold insV
        go_enter Tryz.func103, Tryz.ntmps103
        go_wp2_with (go_at_call 102; refine (is_any _ _).mono ?_; rintro e w1 ⟨rfl, rfl⟩)
        exact bodyPost_ret (v := .bool false) (by simp [results, Tryz.results103, go_sem]) rfl ⟨rfl, bel1 _⟩
      · by_cases hc : c < 0
        · clear h
          obtain ⟨h1, h2⟩ := h1
          have ha : 0 ≤ a := by omega
          have hb : 0 ≤ b := by omega
          unfold insV
          go_enter Tryz.func103, Tryz.ntmps103
          go_wp2_with (go_at_call 102; refine (is_any _ _).mono ?_; rintro e w1 ⟨rfl, rfl⟩)
          exact bodyPost_ret (v := .bool false) (by simp [results, Tryz.results103, go_sem]) rfl ⟨rfl, bel1 _⟩
        · by_cases ha2 : 16 ≤ a
          · clear h
            obtain ⟨h1, h2⟩ := h1
            have ha : 0 ≤ a := by omega
            have hb : 0 ≤ b := by omega
            have hc : 0 ≤ c := by omega
            unfold insV
            go_enter Tryz.func103, Tryz.ntmps103
            go_wp2_with (go_at_call 102; refine (is_any _ _).mono ?_; rintro e w1 ⟨rfl, rfl⟩)
            exact bodyPost_ret (v := .bool false) (by simp [results, Tryz.results103, go_sem]) rfl ⟨rfl, bel1 _⟩
          · by_cases hb2 : 16 ≤ b
            · clear h
              obtain ⟨h1, h2⟩ := h1
              have ha : 0 ≤ a := by omega
              have hb : 0 ≤ b := by omega
              have hc : 0 ≤ c := by omega
              have ha2 : a < 16 := by omega
              unfold insV
              go_enter Tryz.func103, Tryz.ntmps103
              go_wp2_with (go_at_call 102; refine (is_any _ _).mono ?_; rintro e w1 ⟨rfl, rfl⟩)
              exact bodyPost_ret (v := .bool false) (by simp [results, Tryz.results103, go_sem]) rfl ⟨rfl, bel1 _⟩
            · have hc2 : 16 < c := by
                rcases Int.lt_or_le 16 c with h' | h'
                · exact h'
                · exact (h ⟨h1, ⟨by omega, by omega⟩, ⟨by omega, by omega⟩, by omega, h'⟩).elim
              clear h
              obtain ⟨h1, h2⟩ := h1
              have ha : 0 ≤ a := by omega
              have hb : 0 ≤ b := by omega
              have hc : 0 ≤ c := by omega
              have ha2 : a < 16 := by omega
              have hb2 : b < 16 := by omega
              unfold insV
              go_enter Tryz.func103, Tryz.ntmps103
              go_wp2_with (go_at_call 102; refine (is_any _ _).mono ?_; rintro e w1 ⟨rfl, rfl⟩)
              exact bodyPost_ret (v := .bool false) (by simp [results, Tryz.results103, go_sem]) rfl ⟨rfl, bel1 _⟩
  · have hd : decide (1 ≤ op ∧ op ≤ 19) = false := by simpa using h1
    clear h h1
    unfold insV
    go_enter Tryz.func103, Tryz.ntmps103
    go_wp2_with (go_at_call 102; refine (is_any _ _).mono ?_; rintro e w1 ⟨rfl, rfl⟩)
    exact bodyPost_ret (v := .bool false) (by simp [results, Tryz.results103, go_sem]) rfl ⟨rfl, bel1 _⟩

theorem rightF_out (op a b c m : Int) (h : ¬ ((1 ≤ op ∧ op ≤ 19) ∧ (0 ≤ a ∧ a < 16) ∧ (0 ≤ b ∧ b < 16) ∧ (0 ≤ c ∧ c ≤ 16))) : rightF op a b c m = false := by
  cases hr : rightF op a b c m with
  | false => rfl
  | true =>
    exfalso
    unfold rightF at hr
    simp only [Bool.and_eq_true, decide_eq_true_eq] at hr
    exact h ⟨hr.1.1.1.1, hr.1.1.1.2, hr.1.1.2, hr.1.2⟩
theorem rightF_bd {op a b c m : Int} (h : rightF op a b c m = true) : (1 ≤ op ∧ op ≤ 19) ∧ (0 ≤ a ∧ a < 16) ∧ (0 ≤ b ∧ b < 16) ∧ (0 ≤ c ∧ c ≤ 16) := by
  rcases Decidable.em ((1 ≤ op ∧ op ≤ 19) ∧ (0 ≤ a ∧ a < 16) ∧ (0 ≤ b ∧ b < 16) ∧ (0 ≤ c ∧ c ≤ 16)) with h' | h'
  · exact h'
  · rw [rightF_out _ _ _ _ _ h'] at h; cases h

theorem insRight_any (op a b c m : Int) (hm : 0 ≤ m ∧ m < 4294967296) (w : World) :
    Calls Tryz.prog 103 #[insV op a b c m] w fun e w' => e = .returned (.bool (rightF op a b c m)) ∧ Below w.heap.size w w' := by
  rcases Decidable.em ((1 ≤ op ∧ op ≤ 19) ∧ (0 ≤ a ∧ a < 16) ∧ (0 ≤ b ∧ b < 16) ∧ (0 ≤ c ∧ c ≤ 16)) with h | h
  · exact right_in op a b c m h.1 h.2.1 h.2.2.1 h.2.2.2 hm w
  · rw [rightF_out _ _ _ _ _ h]
    exact right_out op a b c m h w

/-- Check. -/
def insCheckF (op a b c m : Int) : Int := if rightF op a b c m = true then 0 else 2
theorem insCheck_any (op a b c m : Int) (hm : 0 ≤ m ∧ m < 4294967296) (w : World) :
    Calls Tryz.prog 42 #[insV op a b c m] w fun e w' => e = .returned (.int .i64 (insCheckF op a b c m)) ∧ Below w.heap.size w w' := by
  unfold insCheckF
  have C := Lib.hid fun W => insRight_any op a b c m hm W
  unfold insV at C ⊢
  cases hr : rightF op a b c m
  · rw [hr] at C
    go_enter Tryz.func42, Tryz.ntmps42
    go_wp2_with (go_at_call 103; refine (C.out _).mono ?_; rintro e w1 ⟨rfl, hb1⟩)
    go_ret
    exact ⟨rfl, belT (bel1 _) hb1⟩
  · rw [hr] at C
    go_enter Tryz.func42, Tryz.ntmps42
    go_wp2_with (go_at_call 103; refine (C.out _).mono ?_; rintro e w1 ⟨rfl, hb1⟩)
    go_ret
    exact ⟨rfl, belT (bel1 _) hb1⟩
end Go.Proofs.YtfnfcngkaepnjaaGreatDoor
