/- Walks of package site: Bytes. -/
import Derived.Test.YtgjibnfdaigpkaaGreatDoorSiE
import Derived.Test.YtgjibnfdaigpkaaGreatDoorOcu
import Derived.Test.YtgjibnfdaigpkaaGreatDoorTail
import Derived.Test.YtgjibnfdaigpkaaGreatDoorEnv
namespace Go.Proofs.YtgjibnfdaigpkaaGreatDoor
set_option linter.unusedVariables false
open Go Go.Proofs Go.RowKit

theorem own_below {w w' : World} {base : Nat} {e : TypeId} {s : Nat} {v : Value} {n : Nat} {xs : List Value} (h : w.ownsRowF base e s v n xs) (hb : Below w.heap.size w w') : w'.ownsRowF base e s v n xs := by
  refine ⟨h.1, ?_⟩
  rcases h.2 with hn | ⟨g, cap, cur, fz, rfl, hbg, hg, rest⟩
  · exact .inl hn
  · refine .inr ⟨g, cap, cur, fz, rfl, hbg, ?_, rest⟩
    rw [hb.block g (Array.getElem?_eq_some_iff.1 hg).1]
    exact hg

theorem own_base {w : World} {base base' : Nat} {e : TypeId} {s : Nat} {v : Value} {n : Nat} {xs : List Value} (h : w.ownsRowF base e s v n xs) (hb : base' ≤ base) : w.ownsRowF base' e s v n xs := by
  refine ⟨h.1, ?_⟩
  rcases h.2 with hn | ⟨g, cap, cur, fz, rfl, hbg, rest⟩
  · exact .inl hn
  · exact .inr ⟨g, cap, cur, fz, rfl, Nat.le_trans hb hbg, rest⟩

theorem own_slice {w : World} {base : Nat} {e : TypeId} {s : Nat} {v : Value} {n : Nat} {xs : List Value} (h : w.ownsRowF base e s v n xs) (hn : 0 < n) : ∃ g cap, v = .slice (some ⟨g, 0, none⟩) n cap ∧ base ≤ g ∧ n ≤ cap ∧ cap ≤ maxLen ∧ g < w.heap.size := by
  rcases h.2 with ⟨_, h0⟩ | ⟨g, cap, cur, fz, hv, hbg, hg, _, hc, hm, _⟩
  · omega
  · exact ⟨g, cap, hv, hbg, hc, hm, (Array.getElem?_eq_some_iff.1 hg).1⟩

set_option maxRecDepth 100000 in
set_option maxHeartbeats 1000000 in
theorem siBytes_yes (f p : Nat) (hf : f < 32) (hp : p < 512) (w : World) :
    Calls Tryz.prog 70 #[.agg #[.int .i64 f, .int .i64 p]] w fun e w' => ∃ v, e = .returned (.tuple #[v, .int .i64 0]) ∧ w'.ownsRowF w.heap.size 5 1 v 3 (leB f 1 ++ leB p 2) ∧ Below w.heap.size w w' := by
  obtain ⟨i0, hi, hz0, hz1, hz2⟩ := info_of info_octet
  have c1 := check_any f p
  have h1 : chkF f p = 0 := by unfold chkF; rw [if_pos (by omega)]
  rw [h1] at c1
  have C1 := Lib.hid c1
  clear c1 h1
  have k0 := cell_new w #[.int .i64 f, .int .i64 p] 60 0
  have k1 := cell_new w #[.int .i64 f, .int .i64 p] 60 1
  go_enter Tryz.func70, Tryz.ntmps70
  go_wp2_with fail
  refine (C1.out _).mono ?_
  rintro e w1 ⟨rfl, hb1⟩
  have m0 := cell_bel k0 hb1
  have m1 := cell_bel k1 hb1
  have hB1 := belT (bel1 _) hb1
  clear k0 k1 hb1
  go_wp2_with fail
  refine (fixed_yes f 1 (by simp) (by omega) _).mono ?_
  rintro e w2 ⟨v, rfl, hown, hb2⟩
  have n0 := cell_bel m0 hb2
  have n1 := cell_bel m1 hb2
  have hB2 := belT hB1 hb2
  go_wp2_with fail
  refine (fixed_yes p 2 (by simp) (by omega) _).mono ?_
  rintro e w3 ⟨v', rfl, hown', hb3⟩
  have hB3 := belT hB2 hb3
  have hownA := own_below hown hb3
  obtain ⟨g, cap, rfl, hg1, hg2, hg3, hg4⟩ := own_slice hown (by omega)
  obtain ⟨g', cap', rfl, hg1', hg2', hg3', hg4'⟩ := own_slice hown' (by omega)
  have hsz := hB1.size
  have hsz2 := hB2.size
  have hle := hown.1
  go_wp2_with (at_builtin; refine wpList_append_ownF _ rfl _ _ 26 rfl w1.heap.size 5 i0 (.int .u8 0) 1 1 Tryz.underlying26 hi hz0 hz1 hz2 rfl (by decide) _ _ _ rfl hownA ⟨g', 0, none⟩ 2 cap' (leB p 2) rfl (by rw [leB_length]) ?c1 ?c2 ?c3 ?c4 ?c5 ?_)
  case c1 =>
    intro j u hj
    exact hown'.cells rfl j u hj
  case c2 =>
    intro u hu
    simp only [leB, List.mem_map] at hu
    obtain ⟨i, _, rfl⟩ := hu
    rfl
  case c3 => unfold maxLen; omega
  case c4 => omega
  case c5 => have := hb2.size; have := hb3.size; omega
  intro v' w4 hown4 hgrow _
  have hB4 : Below w.heap.size w w4 := hB3.grown hgrow hB3.size (fun k hk => by have := (hownA.lt k hk).1; omega)
  go_wp2
  go_ret2
  exact ⟨_, rfl, own_base hown4 hsz, hB4⟩

set_option maxHeartbeats 400000 in
theorem siBytes_no (f p : Int) (hn : chkF f p = 2) (w : World) :
    Calls Tryz.prog 70 #[.agg #[.int .i64 f, .int .i64 p]] w fun e w' => e = .returned (.tuple #[.slice none 0 0, .int .i64 2]) ∧ Below w.heap.size w w' := by
  have c1 := check_any f p
  rw [hn] at c1
  have C1 := Lib.hid c1
  clear c1 hn
  go_enter Tryz.func70, Tryz.ntmps70
  go_wp2_with fail
  refine (C1.out _).mono ?_
  rintro e w1 ⟨rfl, hb1⟩
  have hB1 := belT (bel1 _) hb1
  go_wp2
  go_ret2
  exact ⟨rfl, hB1⟩

end Go.Proofs.YtgjibnfdaigpkaaGreatDoor
