/- Each of package epoch; the statement EpochEach. -/
import Derived.Test.YtigepikfbpodpaaDoorEpE
import Derived.Test.YtigepikfbpodpaaDoorEpW
namespace Go.Proofs.YtigepikfbpodpaaDoor
set_option linter.unusedVariables false
open Go Go.Proofs Go.RowKit

set_option maxRecDepth 100000 in
/-- Each's closure, where there is nothing. -/
theorem each_no (n Bi Be Bd : Nat) (x d : Int) (m : Nat) :
    SeqB Fence.wide n Tryd.prog 32 #[.pointer (some ⟨Bi, 0, none⟩), .pointer (some ⟨Be, 0, none⟩), .pointer (some ⟨Bd, 0, none⟩)] (epAt x) (fun k => k = Bi ∨ k = Be ∨ k = Bd) (fun _ => False)
      (fun xs => xs = []) (fun _ => False) 0 (fun W => W.cell? ⟨Bi, 0, none⟩ = some (.bool false) ∧ W.cell? ⟨Be, 0, none⟩ = some (.int .u64 x) ∧ W.cell? ⟨Bd, 0, none⟩ = some (.int .u64 d)) := by
  rintro l J Jx W ⟨ci, ce, cd⟩ hJ hJx hY hj0
  clear hY
  refine callsIn_wide.2 ?_
  simp only [List.append_toArray, List.cons_append, List.nil_append]
  have ci := cell_al ci (.cells #[.func (.yield l) #[] #[]] 75)
  go_enter Tryd.func32, Tryd.ntmps32
  go_wp2
  refine wp_scope_straight ?_
  go_wp2
  rw [Exit.noGoto_ret]
  refine bodyPost_ret (results_none rfl _ _ _) rfl ?_
  exact ⟨⟨_, rfl⟩, .inl ⟨[], rfl, hJ _ _ _ hj0 (.of_below (bel1 _))⟩⟩


/-- Each's closure: so many. -/
theorem each_K (n Bi Be Bd : Nat) (hn : 9 ≤ n) (x d : Int) (K : Nat) (h0 : 0 ≤ x) (h1 : x < 18446744073709551616)
    (hK : (okB d (max 1 (x % 281474976710656)) 281474976710655 = true ∧ x % 281474976710656 + K = d + 1) ∨ (okB d (max 1 (x % 281474976710656)) 281474976710655 = false ∧ K = 0)) :
    SeqB Fence.wide n Tryd.prog 32 #[.pointer (some ⟨Bi, 0, none⟩), .pointer (some ⟨Be, 0, none⟩), .pointer (some ⟨Bd, 0, none⟩)] (epAt x) (fun k => k = Bi ∨ k = Be ∨ k = Bd) (fun _ => False)
      (fun xs => xs = List.range K) (fun pre => ∃ j, 1 ≤ j ∧ j ≤ K ∧ pre = List.range j) K
      (fun W => W.cell? ⟨Bi, 0, none⟩ = some (.bool (okB d (max 1 (x % 281474976710656)) 281474976710655)) ∧ W.cell? ⟨Be, 0, none⟩ = some (.int .u64 x) ∧ W.cell? ⟨Bd, 0, none⟩ = some (.int .u64 d)) := by
  rcases hK with ⟨ho, hd⟩ | ⟨ho, rfl⟩
  · rw [ho]
    have hb : 1 ≤ d ∧ d ≤ 281474976710655 ∧ x % 281474976710656 ≤ d := by
      simp [okB] at ho
      omega
    obtain ⟨m, rfl⟩ : ∃ m, K = m + 1 := ⟨K - 1, by omega⟩
    exact each_yes n Bi Be Bd hn x d m h0 h1 ⟨hb.1, hb.2.1⟩ (by omega)
  · rw [ho]
    intro l J Jx W hc hJ hJx hY hj
    refine (each_no n Bi Be Bd x d 0 l J Jx W hc hJ hJx (fun pre x W1 _ _ h => absurd h (Nat.not_lt_zero _)) hj).mono ?_
    rintro e W' ⟨hv, ⟨xs, rfl, h⟩ | ⟨pre, h, _⟩⟩
    · exact ⟨hv, .inl ⟨[], rfl, h⟩⟩
    · exact h.elim
end Go.Proofs.YtigepikfbpodpaaDoor
