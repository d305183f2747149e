/- Joined texts: Walks of package octet: the widths.; Bytes that are read, plain.; Cells of the last of two or three new blocks; cells below a bound. -/
import Derived.Test.YtnefpiohmokkiaaGreatDoorQS1
import Derived.Test.YtnefpiohmokkiaaGreatDoorQS2
import Derived.Lib.FrozenHead2
import Derived.Lib.FrozenHead
import Derived.Laws.BitsAllLaws
/- Walks of package octet: the widths. -/
namespace Go.Proofs.YtnefpiohmokkiaaGreatDoor
set_option linter.unusedVariables false
open Go Go.Proofs Go.RowKit

theorem widths_any (w : World) : Calls Tryz.prog 195 #[] w fun e w' => e = .returned (.agg #[.int .i64 1, .int .i64 2, .int .i64 4, .int .i64 8]) ∧ Below w.heap.size w w' := by
  go_enter Tryz.func195, Tryz.ntmps195
  go_wp2
  exact bodyPost_ret (v := .agg #[.int .i64 1, .int .i64 2, .int .i64 4, .int .i64 8]) (by simp [results, Tryz.results195, go_sem]) rfl ⟨rfl, bel1 _⟩

theorem width_bool (k : Int) : (decide (k = 1) || (decide (k = 2) || (decide (k = 4) || decide (k = 8)))) = [1, 2, 4, 8].contains k := by
  simp [List.contains_eq_mem]

theorem among_any (b : Nat) (k : Int) (w : World) (hc : ∀ j, j < 4 → w.cell? ⟨b, j, none⟩ = some (.int .i64 ([1, 2, 4, 8].getD j 0))) :
    Calls Tryz.prog 196 #[.int .i64 k, .slice (some ⟨b, 0, none⟩) 4 4] w fun e w' => e = .returned (.bool ([1, 2, 4, 8].contains k)) ∧ w = w' := by
  go_enter Tryz.func196, Tryz.ntmps196
  go_wp2_with fail
  refine (Tryz.slices_Contains_int b 0 4 4 [1, 2, 4, 8] k _ (by simp) (by omega) (fun j hj => by rw [Nat.zero_add]; exact hc j hj)).mono ?_
  rintro e w1 ⟨rfl, rfl⟩
  go_wp2
  go_ret
  exact ⟨ret_bool (width_bool k), rfl⟩

set_option maxHeartbeats 400000 in
theorem octRight_any (k : Int) (w : World) : Calls Tryz.prog 131 #[.int .i64 k] w fun e w' => e = .returned (.bool ([1, 2, 4, 8].contains k)) ∧ Below w.heap.size w w' := by
  go_enter Tryz.func131, Tryz.ntmps131
  go_wp2_with fail
  refine (widths_any _).mono ?_
  rintro e w1 ⟨rfl, hb1⟩
  go_wp2_with fail
  refine (among_any _ k _ ?_).mono ?_
  · intro j hj
    refine (cell_new w1 _ _ j).trans ?_
    match j, hj with
    | 0, _ => rfl
    | 1, _ => rfl
    | 2, _ => rfl
    | 3, _ => rfl
  rintro e w2 ⟨rfl, rfl⟩
  go_wp2
  go_ret
  exact ⟨ret_bool (width_bool k), belA hb1 _⟩
theorem info_octet : (Tryz.prog.info? 5).map (fun i => (i.zero, i.size, i.bytes)) = some (some (.int .u8 0), 1, 1) := by kernel_rfl
theorem info_of {P : Program} {e : TypeId} {z : Value} {s b : Nat} (h : (P.info? e).map (fun i => (i.zero, i.size, i.bytes)) = some (some z, s, b)) : ∃ i, P.info? e = some i ∧ i.zero = some z ∧ i.size = s ∧ i.bytes = b := by
  cases h' : P.info? e with
  | none => simp [h'] at h
  | some i =>
    rw [h'] at h
    simp only [Option.map_some, Option.some.injEq, Prod.mk.injEq] at h
    exact ⟨i, rfl, h.1, h.2.1, h.2.2⟩

/-- The bytes of a number, the least first. -/
def leB (n : Nat) (k : Nat) : List Value := (List.range k).map fun i => .int .u8 ((n : Int) / 256 ^ i % 256)

theorem leB_succ (n k : Nat) : leB n (k + 1) = leB n k ++ [.int .u8 ((n : Int) / 256 ^ k % 256)] := by
  unfold leB
  rw [List.range_succ, List.map_append]
  rfl
theorem leB_length (n k : Nat) : (leB n k).length = k := by simp [leB]

set_option maxRecDepth 100000 in
set_option maxHeartbeats 1000000 in
theorem fixed_yes (n k : Nat) (hk : k = 1 ∨ k = 2 ∨ k = 4 ∨ k = 8) (hn : n < 256 ^ k) (w : World) :
    Calls Tryz.prog 78 #[.int .u64 n, .int .i64 k] w fun e w' => ∃ v, e = .returned (.tuple #[v, .int .i64 0]) ∧ w'.ownsRowF w.heap.size 5 1 v k (leB n k) ∧ Below w.heap.size w w' := by
  obtain ⟨i0, hi, hz0, hz1, hz2⟩ := info_of info_octet
  have cr := octRight_any k
  have hc : ([1, 2, 4, 8] : List Int).contains (k : Int) = true := by rcases hk with rfl | rfl | rfl | rfl <;> rfl
  rw [hc] at cr
  have hk8 : 1 ≤ k ∧ k ≤ 8 := by omega
  have hn64 : n < 18446744073709551616 := by
    rcases hk with rfl | rfl | rfl | rfl <;> simp at hn <;> omega
  have hz : (n : Int) / 2 ^ (8 * k) = 0 := by
    have : n / 2 ^ (8 * k) = 0 := by
      rw [Nat.pow_mul]
      exact Nat.div_eq_of_lt hn
    exact_mod_cast this
  clear hc
  go_enter Tryz.func78, Tryz.ntmps78
  go_wp2
  refine wp_scope_fwd 0 rfl ?_
  go_wp2_with fail
  refine (cr _).mono ?_
  rintro e w1 ⟨rfl, hb1⟩
  go_wp2_with fail
  all_goals (
    try simp only [hz]
    clear hz
    go_loopw [20, 4] (fun vi v wr => ∃ (i : Nat) (ao : Option Addr) (n' cap : Nat), vi = .int .i64 i ∧ v = .slice ao n' cap ∧ i ≤ k ∧ wr.ownsRowF w.heap.size 5 1 (.slice ao n' cap) i (leB n i) ∧ Below w.heap.size w wr) (fun vi _ _ => k - (intOf vi).toNat))
  case atStart => exact ⟨0, none, 0, 0, rfl, rfl, by omega, World.ownsRowF_nil _ _ _ _, hb1⟩
  case round =>
    obtain ⟨i, ao, n', cap, rfl, rfl, hik, hown, hB⟩ := hrel
    by_cases hi' : i < k
    · have hpow : (2 : Int) ^ (8 * i) = (256 ^ i : Nat) := by rw [Int.pow_mul]; norm_cast
      go_wp2_with (at_builtin; refine wpList_append_ownF _ rfl _ _ 80 rfl w.heap.size 5 i0 (.int .u8 0) 1 1 Tryz.underlying80 hi hz0 hz1 hz2 rfl (by decide) _ _ _ rfl (hown.alloc _) ⟨wr.heap.size, 0, none⟩ 1 1 [.int .u8 ((n : Int) / 256 ^ i % 256)] rfl rfl ?c1 ?c2 ?c3 ?c4 ?c5 ?_)
      case c1 =>
        intro j u hj
        match j, hj with
        | 0, hj =>
          simp at hj
          subst hj
          simp [Addr.add]
      case c2 => intro u hu; simp at hu; subst hu; rfl
      case c3 => unfold maxLen; omega
      case c4 => omega
      case c5 => have := hB.size; simp; omega
      intro v' w2 hown' hgrow _
      rw [← leB_succ] at hown'
      have hB2 : Below w.heap.size w w2 := (hB.alloc (by have := hB.size; omega) _).grown hgrow (by have := hB.size; simp; omega) (fun g hg => (hown.lt g hg).1)
      obtain ⟨ao', m', cap', rfl⟩ : ∃ ao n' cap, v' = .slice ao n' cap := by
        rcases hown'.2 with ⟨hv, _⟩ | ⟨g, cap, cur, fz, hv, _⟩
        · exact ⟨_, _, _, hv⟩
        · exact ⟨_, _, _, hv⟩
      go_wp2
      exact ⟨⟨i + 1, ao', m', cap', by go_num, rfl, by omega, hown', hB2⟩, by simp [intOf]; omega⟩
    · obtain rfl : i = k := by omega
      go_wp2
      rw [fwd_ret]
      go_ret2
      exact ⟨_, rfl, hown, hB⟩
  case atStart => exact ⟨0, none, 0, 0, rfl, rfl, by omega, World.ownsRowF_nil _ _ _ _, hb1⟩
  case round =>
    obtain ⟨i, ao, n', cap, rfl, rfl, hik, hown, hB⟩ := hrel
    by_cases hi' : i < k
    · have hpow : (2 : Int) ^ (8 * i) = (256 ^ i : Nat) := by rw [Int.pow_mul]; norm_cast
      go_wp2_with (at_builtin; refine wpList_append_ownF _ rfl _ _ 80 rfl w.heap.size 5 i0 (.int .u8 0) 1 1 Tryz.underlying80 hi hz0 hz1 hz2 rfl (by decide) _ _ _ rfl (hown.alloc _) ⟨wr.heap.size, 0, none⟩ 1 1 [.int .u8 ((n : Int) / 256 ^ i % 256)] rfl rfl ?c1 ?c2 ?c3 ?c4 ?c5 ?_)
      case c1 =>
        intro j u hj
        match j, hj with
        | 0, hj =>
          simp at hj
          subst hj
          simp [Addr.add]
      case c2 => intro u hu; simp at hu; subst hu; rfl
      case c3 => unfold maxLen; omega
      case c4 => omega
      case c5 => have := hB.size; simp; omega
      intro v' w2 hown' hgrow _
      rw [← leB_succ] at hown'
      have hB2 : Below w.heap.size w w2 := (hB.alloc (by have := hB.size; omega) _).grown hgrow (by have := hB.size; simp; omega) (fun g hg => (hown.lt g hg).1)
      obtain ⟨ao', m', cap', rfl⟩ : ∃ ao n' cap, v' = .slice ao n' cap := by
        rcases hown'.2 with ⟨hv, _⟩ | ⟨g, cap, cur, fz, hv, _⟩
        · exact ⟨_, _, _, hv⟩
        · exact ⟨_, _, _, hv⟩
      go_wp2
      exact ⟨⟨i + 1, ao', m', cap', by go_num, rfl, by omega, hown', hB2⟩, by simp [intOf]; omega⟩
    · obtain rfl : i = k := by omega
      go_wp2
      rw [fwd_ret]
      go_ret2
      exact ⟨_, rfl, hown, hB⟩
end Go.Proofs.YtnefpiohmokkiaaGreatDoor

/- Bytes that are read, plain. -/
namespace Go.Proofs.YtnefpiohmokkiaaGreatDoor
set_option linter.unusedVariables false
open Go Go.Proofs Go.RowKit

/-- The slice holds these bytes. -/
def HasB (w : World) (b o : Nat) (l : List Nat) : Prop := (∀ x ∈ l, x < 256) ∧ ∀ j, j < l.length → w.cell? ⟨b, o + j, none⟩ = some (.int .u8 (l.getD j 0 : Nat))

end Go.Proofs.YtnefpiohmokkiaaGreatDoor

/- Cells of the last of two or three new blocks; cells below a bound. -/
namespace Go.Proofs.YtnefpiohmokkiaaGreatDoor
set_option linter.unusedVariables false
open Go Go.Proofs Go.RowKit

theorem cell_two (w : World) (o : Obj) (c : Array Value) (t : TypeId) (i : Nat) : ((w.alloc o).alloc (.cells c t)).cell? ⟨w.heap.size + 1, i, none⟩ = c[i]? := by
  have := cell_new (w.alloc o) c t i
  rwa [World.size_alloc] at this
theorem froz_two (w : World) (o : Obj) (c : Array Value) (t : TypeId) (i : Nat) : ((w.alloc o).alloc (.cells c t)).frozen? ⟨w.heap.size + 1, i, none⟩ = false := by
  have := World.frozen?_alloc_new (w.alloc o) c t i
  rwa [World.size_alloc] at this

theorem cell_belB {w w' : World} {B0 b o : Nat} {v : Value} (h : w.cell? ⟨b, o, none⟩ = some v) (hb : Below B0 w w') (hlt : b < B0) : w'.cell? ⟨b, o, none⟩ = some v := (hb.cell (p := ⟨b, o, none⟩) hlt).trans h
theorem froz_belB {w w' : World} {B0 b o : Nat} (hf : w.frozen? ⟨b, o, none⟩ = false) (hb : Below B0 w w') (hlt : b < B0) : w'.frozen? ⟨b, o, none⟩ = false := (hb.frozen (p := ⟨b, o, none⟩) hlt).trans hf
end Go.Proofs.YtnefpiohmokkiaaGreatDoor
