/- Walks of package octet: ReadFixed. -/
import Derived.Test.YtgjibnfdaigpkaaGreatDoorOct
import Derived.Laws.BitsAllLaws
namespace Go.Proofs.YtgjibnfdaigpkaaGreatDoor
set_option linter.unusedVariables false
open Go Go.Proofs Go.RowKit

/-- The slice holds these bytes. -/
def HasB (w : World) (b o : Nat) (l : List Nat) : Prop := (∀ x ∈ l, x < 256) ∧ ∀ j, j < l.length → w.cell? ⟨b, o + j, none⟩ = some (.int .u8 (l.getD j 0 : Nat))

/-- The number that the first k bytes tell. -/
def leN (l : List Nat) : Nat → Nat
  | 0 => 0
  | k + 1 => leN l k + l.getD k 0 * 256 ^ k

theorem getD_lt (l : List Nat) (h : ∀ x ∈ l, x < 256) (j : Nat) : l.getD j 0 < 256 := by
  rw [List.getD_eq_getElem?_getD]
  cases hx : l[j]? with
  | none => simp
  | some x => exact h x (List.mem_of_getElem? hx)

theorem leN_lt (l : List Nat) (h : ∀ x ∈ l, x < 256) : ∀ k, leN l k < 256 ^ k
  | 0 => by simp [leN]
  | k + 1 => by
    have h1 := leN_lt l h k
    have h2 := getD_lt l h k
    simp only [leN, Nat.pow_succ]
    have h3 : l.getD k 0 * 256 ^ k ≤ 255 * 256 ^ k := Nat.mul_le_mul_right _ (by omega)
    omega

theorem or_step (N x i : Nat) (hi : i < 8) (hN : N < 256 ^ i) (hx : x < 256) : bits .or .u64 (N : Int) (IntKind.u64.wrap ((x : Int) * 2 ^ (8 * i))) = ((N + x * 256 ^ i : Nat) : Int) := by
  have hp : (256 : Nat) ^ i ≤ 256 ^ 7 := Nat.pow_le_pow_right (by decide) (by omega)
  have h7 : (256 : Nat) ^ 7 = 72057594037927936 := by decide
  have hm : x * 256 ^ i ≤ 255 * 256 ^ i := Nat.mul_le_mul_right _ (by omega)
  have e : ((x : Int) * 2 ^ (8 * i)) = ((x * 256 ^ i : Nat) : Int) := by rw [Int.pow_mul]; norm_cast
  have hw : IntKind.u64.wrap ((x * 256 ^ i : Nat) : Int) = ((x * 256 ^ i : Nat) : Int) := by
    rw [IntKind.wrap_u64]
    exact Int.emod_eq_of_lt (by omega) (by omega)
  rw [e, hw, u64_or_nat N (x * 256 ^ i) (by omega) (by omega)]
  have e2 : (256 : Nat) ^ i = 2 ^ (8 * i) := by rw [Nat.pow_mul]
  congr 1
  rw [Nat.or_comm, Nat.add_comm, e2, ← Nat.shiftLeft_eq, Nat.shiftLeft_add_eq_or_of_lt (by rw [← e2]; exact hN)]

set_option maxRecDepth 100000 in
set_option maxHeartbeats 1000000 in
theorem readFixed_yes (k : Nat) (hk : k = 1 ∨ k = 2 ∨ k = 4 ∨ k = 8) (b o c : Nat) (l : List Nat) (hl : k ≤ l.length) (hc : l.length ≤ c) (hcm : c ≤ 9223372036854775807) (w : World) (hw : HasB w b o l) :
    Calls Tryz.prog 86 #[.slice (some ⟨b, o, none⟩) l.length c, .int .i64 k] w fun e w' => e = .returned (.tuple #[.int .u64 (leN l k), .int .i64 0]) ∧ Below w.heap.size w w' := by
  have cr := octRight_any k
  have hcn : ([1, 2, 4, 8] : List Int).contains (k : Int) = true := by rcases hk with rfl | rfl | rfl | rfl <;> rfl
  rw [hcn] at cr
  have hk8 : 1 ≤ k ∧ k ≤ 8 := by omega
  clear hcn
  go_enter Tryz.func86, Tryz.ntmps86
  go_wp2_with fail
  refine (cr _).mono ?_
  rintro e w1 ⟨rfl, hb1⟩
  go_wp2_with fail
  have hcell : ∀ j, j < l.length → w1.cell? ⟨b, o + j, none⟩ = some (.int .u8 (l.getD j 0 : Nat)) := fun j hj => cell_bel (hw.2 j hj) hb1
  go_loop [21, 4] (fun vi vn => ∃ i : Nat, vi = .int .i64 i ∧ vn = .int .u64 (leN l i : Nat) ∧ i ≤ k) (fun vi _ => k - (intOf vi).toNat)
  case atStart => exact ⟨0, rfl, rfl, by omega⟩
  case round =>
    obtain ⟨i, rfl, rfl, hik⟩ := hrel
    by_cases hi : i < k
    · have hx := hcell i (by omega)
      have hx2 := getD_lt l hw.1 i
      have hn := leN_lt l hw.1 i
      have hn2 := leN_lt l hw.1 (i + 1)
      have hs : leN l (i + 1) = leN l i + l.getD i 0 * 256 ^ i := rfl
      have ho := or_step (leN l i) (l.getD i 0) i (by omega) hn hx2
      rw [← hs] at ho
      generalize leN l i = N at hs hn ho
      generalize l.getD i 0 = x at hx hx2 hs ho
      have HO := Lib.hid ho
      clear ho hs hn hn2 hw hcell
      go_wp2
      exact ⟨⟨i + 1, by go_num, by rw [HO.out], by omega⟩, by simp [intOf]; omega⟩
    · obtain rfl : i = k := by omega
      go_wp2
      go_ret2
      exact ⟨rfl, hb1⟩

set_option maxRecDepth 100000 in
set_option maxHeartbeats 400000 in
theorem readFixed_no (k : Nat) (hk : k = 1 ∨ k = 2 ∨ k = 4 ∨ k = 8) (a : Option Addr) (n c : Nat) (hl : n < k) (w : World) :
    Calls Tryz.prog 86 #[.slice a n c, .int .i64 k] w fun e w' => e = .returned (.tuple #[.int .u64 0, .int .i64 110]) ∧ Below w.heap.size w w' := by
  have cr := octRight_any k
  have hcn : ([1, 2, 4, 8] : List Int).contains (k : Int) = true := by rcases hk with rfl | rfl | rfl | rfl <;> rfl
  rw [hcn] at cr
  clear hcn
  go_enter Tryz.func86, Tryz.ntmps86
  go_wp2_with fail
  refine (cr _).mono ?_
  rintro e w1 ⟨rfl, hb1⟩
  go_wp2
  go_ret2
  exact ⟨rfl, hb1⟩
end Go.Proofs.YtgjibnfdaigpkaaGreatDoor
