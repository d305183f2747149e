/- Joined texts: Walks of package octet: the widths.; Walks of package octet: ReadFixed. -/
import Derived.Test.YtfnfcngkaepnjaaGreatDoorQY1
import Derived.Test.YtfnfcngkaepnjaaGreatDoorQY6
import Derived.Lib.FrozenHead2
import Derived.Lib.FrozenHead
import Derived.Laws.BitsAllLaws
/- Walks of package octet: the widths. -/
namespace Go.Proofs.YtfnfcngkaepnjaaGreatDoor
set_option linter.unusedVariables false
open Go Go.Proofs Go.RowKit

theorem widths_any (w : World) : Calls Tryz.prog 207 #[] w fun e w' => e = .returned (.agg #[.int .i64 1, .int .i64 2, .int .i64 4, .int .i64 8]) ∧ Below w.heap.size w w' := by
  go_enter Tryz.func207, Tryz.ntmps207
  go_wp2
  exact bodyPost_ret (v := .agg #[.int .i64 1, .int .i64 2, .int .i64 4, .int .i64 8]) (by simp [results, Tryz.results207, go_sem]) rfl ⟨rfl, bel1 _⟩

theorem width_bool (k : Int) : (decide (k = 1) || (decide (k = 2) || (decide (k = 4) || decide (k = 8)))) = [1, 2, 4, 8].contains k := by
  simp [List.contains_eq_mem]

theorem among_any (b : Nat) (k : Int) (w : World) (hc : ∀ j, j < 4 → w.cell? ⟨b, j, none⟩ = some (.int .i64 ([1, 2, 4, 8].getD j 0))) :
    Calls Tryz.prog 208 #[.int .i64 k, .slice (some ⟨b, 0, none⟩) 4 4] w fun e w' => e = .returned (.bool ([1, 2, 4, 8].contains k)) ∧ w = w' := by
  go_enter Tryz.func208, Tryz.ntmps208
  go_wp2_with fail
  refine (Tryz.slices_Contains_int b 0 4 4 [1, 2, 4, 8] k _ (by simp) (by omega) (fun j hj => by rw [Nat.zero_add]; exact hc j hj)).mono ?_
  rintro e w1 ⟨rfl, rfl⟩
  go_wp2
  go_ret
  exact ⟨ret_bool (width_bool k), rfl⟩

set_option maxHeartbeats 400000 in
theorem octRight_any (k : Int) (w : World) : Calls Tryz.prog 156 #[.int .i64 k] w fun e w' => e = .returned (.bool ([1, 2, 4, 8].contains k)) ∧ Below w.heap.size w w' := by
  go_enter Tryz.func156, Tryz.ntmps156
  go_wp2_with fail
  refine (widths_any _).mono ?_
  rintro e w1 ⟨rfl, hb1⟩
  go_wp2_with fail
  refine (among_any _ k _ ?_).mono ?_
  · intro j hj
    refine (cell_new w1 _ _ j).trans ?_
    match j, hj with
    | 0, _ => rfl
    | 1, _ => rfl
    | 2, _ => rfl
    | 3, _ => rfl
  rintro e w2 ⟨rfl, rfl⟩
  go_wp2
  go_ret
  exact ⟨ret_bool (width_bool k), belA hb1 _⟩
theorem info_octet : (Tryz.prog.info? 5).map (fun i => (i.zero, i.size, i.bytes)) = some (some (.int .u8 0), 1, 1) := by kernel_rfl
theorem info_of {P : Program} {e : TypeId} {z : Value} {s b : Nat} (h : (P.info? e).map (fun i => (i.zero, i.size, i.bytes)) = some (some z, s, b)) : ∃ i, P.info? e = some i ∧ i.zero = some z ∧ i.size = s ∧ i.bytes = b := by
  cases h' : P.info? e with
  | none => simp [h'] at h
  | some i =>
    rw [h'] at h
    simp only [Option.map_some, Option.some.injEq, Prod.mk.injEq] at h
    exact ⟨i, rfl, h.1, h.2.1, h.2.2⟩

/-- The bytes of a number, the least first. -/
def leB (n : Nat) (k : Nat) : List Value := (List.range k).map fun i => .int .u8 ((n : Int) / 256 ^ i % 256)

theorem leB_succ (n k : Nat) : leB n (k + 1) = leB n k ++ [.int .u8 ((n : Int) / 256 ^ k % 256)] := by
  unfold leB
  rw [List.range_succ, List.map_append]
  rfl
theorem leB_length (n k : Nat) : (leB n k).length = k := by simp [leB]

set_option maxRecDepth 100000 in
set_option maxHeartbeats 1000000 in
theorem fixed_yes (n k : Nat) (hk : k = 1 ∨ k = 2 ∨ k = 4 ∨ k = 8) (hn : n < 256 ^ k) (w : World) :
    Calls Tryz.prog 99 #[.int .u64 n, .int .i64 k] w fun e w' => ∃ v, e = .returned (.tuple #[v, .int .i64 0]) ∧ w'.ownsRowF w.heap.size 5 1 v k (leB n k) ∧ Below w.heap.size w w' := by
  obtain ⟨i0, hi, hz0, hz1, hz2⟩ := info_of info_octet
  have cr := octRight_any k
  have hc : ([1, 2, 4, 8] : List Int).contains (k : Int) = true := by rcases hk with rfl | rfl | rfl | rfl <;> rfl
  rw [hc] at cr
  have hk8 : 1 ≤ k ∧ k ≤ 8 := by omega
  have hn64 : n < 18446744073709551616 := by
    rcases hk with rfl | rfl | rfl | rfl <;> simp at hn <;> omega
  have hz : (n : Int) / 2 ^ (8 * k) = 0 := by
    have : n / 2 ^ (8 * k) = 0 := by
      rw [Nat.pow_mul]
      exact Nat.div_eq_of_lt hn
    exact_mod_cast this
  clear hc
  go_enter Tryz.func99, Tryz.ntmps99
  go_wp2
  refine wp_scope_fwd 0 rfl ?_
  go_wp2_with fail
  refine (cr _).mono ?_
  rintro e w1 ⟨rfl, hb1⟩
  go_wp2_with fail
  all_goals (
    try simp only [hz]
    clear hz
    go_loopw [20, 4] (fun vi v wr => ∃ (i : Nat) (ao : Option Addr) (n' cap : Nat), vi = .int .i64 i ∧ v = .slice ao n' cap ∧ i ≤ k ∧ wr.ownsRowF w.heap.size 5 1 (.slice ao n' cap) i (leB n i) ∧ Below w.heap.size w wr) (fun vi _ _ => k - (intOf vi).toNat))
  case atStart => exact ⟨0, none, 0, 0, rfl, rfl, by omega, World.ownsRowF_nil _ _ _ _, hb1⟩
  case round =>
    obtain ⟨i, ao, n', cap, rfl, rfl, hik, hown, hB⟩ := hrel
    by_cases hi' : i < k
    · have hpow : (2 : Int) ^ (8 * i) = (256 ^ i : Nat) := by rw [Int.pow_mul]; norm_cast
      go_wp2_with (at_builtin; refine wpList_append_ownF _ rfl _ _ 22 rfl w.heap.size 5 i0 (.int .u8 0) 1 1 Tryz.underlying22 hi hz0 hz1 hz2 rfl (by decide) _ _ _ rfl (hown.alloc _) ⟨wr.heap.size, 0, none⟩ 1 1 [.int .u8 ((n : Int) / 256 ^ i % 256)] rfl rfl ?c1 ?c2 ?c3 ?c4 ?c5 ?_)
      case c1 =>
        intro j u hj
        match j, hj with
        | 0, hj =>
          simp at hj
          subst hj
          simp [Addr.add]
      case c2 => intro u hu; simp at hu; subst hu; rfl
      case c3 => unfold maxLen; omega
      case c4 => omega
      case c5 => have := hB.size; simp; omega
      intro v' w2 hown' hgrow _
      rw [← leB_succ] at hown'
      have hB2 : Below w.heap.size w w2 := (hB.alloc (by have := hB.size; omega) _).grown hgrow (by have := hB.size; simp; omega) (fun g hg => (hown.lt g hg).1)
      obtain ⟨ao', m', cap', rfl⟩ : ∃ ao n' cap, v' = .slice ao n' cap := by
        rcases hown'.2 with ⟨hv, _⟩ | ⟨g, cap, cur, fz, hv, _⟩
        · exact ⟨_, _, _, hv⟩
        · exact ⟨_, _, _, hv⟩
      go_wp2
      exact ⟨⟨i + 1, ao', m', cap', by go_num, rfl, by omega, hown', hB2⟩, by simp [intOf]; omega⟩
    · obtain rfl : i = k := by omega
      go_wp2
      rw [fwd_ret]
      go_ret2
      exact ⟨_, rfl, hown, hB⟩
  case atStart => exact ⟨0, none, 0, 0, rfl, rfl, by omega, World.ownsRowF_nil _ _ _ _, hb1⟩
  case round =>
    obtain ⟨i, ao, n', cap, rfl, rfl, hik, hown, hB⟩ := hrel
    by_cases hi' : i < k
    · have hpow : (2 : Int) ^ (8 * i) = (256 ^ i : Nat) := by rw [Int.pow_mul]; norm_cast
      go_wp2_with (at_builtin; refine wpList_append_ownF _ rfl _ _ 22 rfl w.heap.size 5 i0 (.int .u8 0) 1 1 Tryz.underlying22 hi hz0 hz1 hz2 rfl (by decide) _ _ _ rfl (hown.alloc _) ⟨wr.heap.size, 0, none⟩ 1 1 [.int .u8 ((n : Int) / 256 ^ i % 256)] rfl rfl ?c1 ?c2 ?c3 ?c4 ?c5 ?_)
      case c1 =>
        intro j u hj
        match j, hj with
        | 0, hj =>
          simp at hj
          subst hj
          simp [Addr.add]
      case c2 => intro u hu; simp at hu; subst hu; rfl
      case c3 => unfold maxLen; omega
      case c4 => omega
      case c5 => have := hB.size; simp; omega
      intro v' w2 hown' hgrow _
      rw [← leB_succ] at hown'
      have hB2 : Below w.heap.size w w2 := (hB.alloc (by have := hB.size; omega) _).grown hgrow (by have := hB.size; simp; omega) (fun g hg => (hown.lt g hg).1)
      obtain ⟨ao', m', cap', rfl⟩ : ∃ ao n' cap, v' = .slice ao n' cap := by
        rcases hown'.2 with ⟨hv, _⟩ | ⟨g, cap, cur, fz, hv, _⟩
        · exact ⟨_, _, _, hv⟩
        · exact ⟨_, _, _, hv⟩
      go_wp2
      exact ⟨⟨i + 1, ao', m', cap', by go_num, rfl, by omega, hown', hB2⟩, by simp [intOf]; omega⟩
    · obtain rfl : i = k := by omega
      go_wp2
      rw [fwd_ret]
      go_ret2
      exact ⟨_, rfl, hown, hB⟩
end Go.Proofs.YtfnfcngkaepnjaaGreatDoor

/- Walks of package octet: ReadFixed. -/
namespace Go.Proofs.YtfnfcngkaepnjaaGreatDoor
set_option linter.unusedVariables false
open Go Go.Proofs Go.RowKit

/-- The slice holds these bytes. -/
def HasB (w : World) (b o : Nat) (l : List Nat) : Prop := (∀ x ∈ l, x < 256) ∧ ∀ j, j < l.length → w.cell? ⟨b, o + j, none⟩ = some (.int .u8 (l.getD j 0 : Nat))

/-- The number that the first k bytes tell. -/
def leN (l : List Nat) : Nat → Nat
  | 0 => 0
  | k + 1 => leN l k + l.getD k 0 * 256 ^ k

theorem getD_lt (l : List Nat) (h : ∀ x ∈ l, x < 256) (j : Nat) : l.getD j 0 < 256 := by
  rw [List.getD_eq_getElem?_getD]
  cases hx : l[j]? with
  | none => simp
  | some x => exact h x (List.mem_of_getElem? hx)

theorem leN_lt (l : List Nat) (h : ∀ x ∈ l, x < 256) : ∀ k, leN l k < 256 ^ k
  | 0 => by simp [leN]
  | k + 1 => by
    have h1 := leN_lt l h k
    have h2 := getD_lt l h k
    simp only [leN, Nat.pow_succ]
    have h3 : l.getD k 0 * 256 ^ k ≤ 255 * 256 ^ k := Nat.mul_le_mul_right _ (by omega)
    omega

theorem or_step (N x i : Nat) (hi : i < 8) (hN : N < 256 ^ i) (hx : x < 256) : bits .or .u64 (N : Int) (IntKind.u64.wrap ((x : Int) * 2 ^ (8 * i))) = ((N + x * 256 ^ i : Nat) : Int) := by
  have hp : (256 : Nat) ^ i ≤ 256 ^ 7 := Nat.pow_le_pow_right (by decide) (by omega)
  have h7 : (256 : Nat) ^ 7 = 72057594037927936 := by decide
  have hm : x * 256 ^ i ≤ 255 * 256 ^ i := Nat.mul_le_mul_right _ (by omega)
  have e : ((x : Int) * 2 ^ (8 * i)) = ((x * 256 ^ i : Nat) : Int) := by rw [Int.pow_mul]; norm_cast
  have hw : IntKind.u64.wrap ((x * 256 ^ i : Nat) : Int) = ((x * 256 ^ i : Nat) : Int) := by
    rw [IntKind.wrap_u64]
    exact Int.emod_eq_of_lt (by omega) (by omega)
  rw [e, hw, u64_or_nat N (x * 256 ^ i) (by omega) (by omega)]
  have e2 : (256 : Nat) ^ i = 2 ^ (8 * i) := by rw [Nat.pow_mul]
  congr 1
  rw [Nat.or_comm, Nat.add_comm, e2, ← Nat.shiftLeft_eq, Nat.shiftLeft_add_eq_or_of_lt (by rw [← e2]; exact hN)]

set_option maxRecDepth 100000 in
set_option maxHeartbeats 1000000 in
theorem readFixed_yes (k : Nat) (hk : k = 1 ∨ k = 2 ∨ k = 4 ∨ k = 8) (b o c : Nat) (l : List Nat) (hl : k ≤ l.length) (hc : l.length ≤ c) (hcm : c ≤ 9223372036854775807) (w : World) (hw : HasB w b o l) :
    Calls Tryz.prog 158 #[.slice (some ⟨b, o, none⟩) l.length c, .int .i64 k] w fun e w' => e = .returned (.tuple #[.int .u64 (leN l k), .int .i64 0]) ∧ Below w.heap.size w w' := by
  have cr := octRight_any k
  have hcn : ([1, 2, 4, 8] : List Int).contains (k : Int) = true := by rcases hk with rfl | rfl | rfl | rfl <;> rfl
  rw [hcn] at cr
  have hk8 : 1 ≤ k ∧ k ≤ 8 := by omega
  clear hcn
  go_enter Tryz.func158, Tryz.ntmps158
  go_wp2_with fail
  refine (cr _).mono ?_
  rintro e w1 ⟨rfl, hb1⟩
  go_wp2_with fail
  have hcell : ∀ j, j < l.length → w1.cell? ⟨b, o + j, none⟩ = some (.int .u8 (l.getD j 0 : Nat)) := fun j hj => cell_bel (hw.2 j hj) hb1
  go_loop [21, 4] (fun vi vn => ∃ i : Nat, vi = .int .i64 i ∧ vn = .int .u64 (leN l i : Nat) ∧ i ≤ k) (fun vi _ => k - (intOf vi).toNat)
  case atStart => exact ⟨0, rfl, rfl, by omega⟩
  case round =>
    obtain ⟨i, rfl, rfl, hik⟩ := hrel
    by_cases hi : i < k
    · have hx := hcell i (by omega)
      have hx2 := getD_lt l hw.1 i
      have hn := leN_lt l hw.1 i
      have hn2 := leN_lt l hw.1 (i + 1)
      have hs : leN l (i + 1) = leN l i + l.getD i 0 * 256 ^ i := rfl
      have ho := or_step (leN l i) (l.getD i 0) i (by omega) hn hx2
      rw [← hs] at ho
      generalize leN l i = N at hs hn ho
      generalize l.getD i 0 = x at hx hx2 hs ho
      have HO := Lib.hid ho
      clear ho hs hn hn2 hw hcell
      go_wp2
      exact ⟨⟨i + 1, by go_num, by rw [HO.out], by omega⟩, by simp [intOf]; omega⟩
    · obtain rfl : i = k := by omega
      go_wp2
      go_ret2
      exact ⟨rfl, hb1⟩

set_option maxRecDepth 100000 in
set_option maxHeartbeats 400000 in
theorem readFixed_no (k : Nat) (hk : k = 1 ∨ k = 2 ∨ k = 4 ∨ k = 8) (a : Option Addr) (n c : Nat) (hl : n < k) (w : World) :
    Calls Tryz.prog 158 #[.slice a n c, .int .i64 k] w fun e w' => e = .returned (.tuple #[.int .u64 0, .int .i64 110]) ∧ Below w.heap.size w w' := by
  have cr := octRight_any k
  have hcn : ([1, 2, 4, 8] : List Int).contains (k : Int) = true := by rcases hk with rfl | rfl | rfl | rfl <;> rfl
  rw [hcn] at cr
  clear hcn
  go_enter Tryz.func158, Tryz.ntmps158
  go_wp2_with fail
  refine (cr _).mono ?_
  rintro e w1 ⟨rfl, hb1⟩
  go_wp2
  go_ret2
  exact ⟨rfl, hb1⟩
end Go.Proofs.YtfnfcngkaepnjaaGreatDoor
