/- Joined texts: What each Op names.; A part's two functions.; Is an Op among some. -/
import Derived.Test.YtfnfcngkaepnjaaGreatDoorQL1
/- What each Op names. -/
namespace Go.Proofs.YtfnfcngkaepnjaaGreatDoor
set_option linter.unusedVariables false
open Go Go.Proofs Go.RowKit

def pA : Part := ⟨1, ⟨#[114]⟩, 188, 189⟩
def pB : Part := ⟨1, ⟨#[114]⟩, 190, 191⟩
def pC : Part := ⟨1, ⟨#[114]⟩, 194, 195⟩
def pM : Part := ⟨1, ⟨#[]⟩, 194, 195⟩
def pI (m : ByteArray) : Part := ⟨4, m, 192, 193⟩

/-- What each Op names. -/
def namedL : List (Int × List Part) :=
  [(1, [pA, pI ⟨#[]⟩]), (2, [pA, pB]), (3, [pA, pB, pC, pI ⟨#[45]⟩]), (4, [pI ⟨#[]⟩]), (5, [pA, pI ⟨#[]⟩]), (6, [pA, pB]), (7, [pA, pB]), (8, [pA, pB, pM, pI ⟨#[102]⟩]), (9, [pA]), (10, [pB, pM, pI ⟨#[102]⟩]),
    (11, [pA]), (12, [pA]), (13, [pA]), (14, [pA]), (15, [pA]), (16, [pA]), (17, [pA, pB]), (18, [pA]), (19, [])]


theorem zero_parts (w : World) : (zeroValue 139).run Tryz.prog w = .ok (.slice none 0 0) w := by
  have hz : Tryz.t139.zero = some (.slice none 0 0) := by kernel_rfl
  simp [zeroValue, go_sem, hz]

set_option maxRecDepth 8000 in
set_option maxHeartbeats 16000000 in
theorem named_any (n : Int) (w : World) : Calls Tryz.prog 84 #[.int .i64 n] w fun e w' => ∃ v, e = .returned v ∧ Below w.heap.size w w' ∧ Parts w.heap.size w' v ((namedL.lookup n).getD []) := by
  go_enter Tryz.func84, Tryz.ntmps84
  go_wp2_with (first
    | (go_at_call 143; refine (first_any _).mono ?_; rintro e w1 ⟨rfl, o, rfl⟩; simp only [partV])
    | (go_at_call 144; refine (second_any _).mono ?_; rintro e w1 ⟨rfl, o, rfl⟩; simp only [partV])
    | (go_at_call 146; refine (third_any _).mono ?_; rintro e w1 ⟨rfl, o, rfl⟩; simp only [partV])
    | (go_at_call 147; refine (many_any _).mono ?_; rintro e w1 ⟨rfl, o, p, q, rfl⟩; simp only [partV])
    | (go_at_call 145; refine (imm_any _ _).mono ?_; rintro e w1 ⟨rfl, o, rfl⟩; simp only [partV])
    | (refine wpList_makeMap w _ rfl 225 rfl .i64 (.slice (some ⟨w.heap.size + 1, 0, none⟩) 1 1) (.slice (some ⟨w.heap.size + 1 + 1 + 1 + 1, 0, none⟩) 2 2) [pA] [pA, pB] (by repeat (first | exact Parts.new (by simp) rfl rfl (by omega) | refine Parts.al ?_)) (by repeat (first | exact Parts.new (by simp) rfl rfl (by omega) | refine Parts.al ?_)) (by repeat (first | exact Below.refl _ _ | refine bel_al ?_)) ?_; intro b w2 hF)
        | (refine wpList_insert hF (by repeat (first | exact Below.refl _ _ | refine bel_al ?_)) rfl _ _ _ 225 rfl _ _ Tryz.underlying225 Tryz.underlying26 rfl 1 rfl [pA, pI ⟨#[]⟩] (by first | exact hF.one.below (by repeat (first | exact Below.refl _ _ | refine bel_al ?_)) | exact hF.two.below (by repeat (first | exact Below.refl _ _ | refine bel_al ?_)) | exact Parts.new (by simp) rfl rfl (by have h0 := hF.bel.size; omega)) rfl ?_; clear hF; intro w2 hF; first | simp only [List.nil_append] at hF | simp only [List.cons_append, List.nil_append] at hF)
        | (refine wpList_insert hF (by repeat (first | exact Below.refl _ _ | refine bel_al ?_)) rfl _ _ _ 225 rfl _ _ Tryz.underlying225 Tryz.underlying26 rfl 2 rfl [pA, pB] (by first | exact hF.one.below (by repeat (first | exact Below.refl _ _ | refine bel_al ?_)) | exact hF.two.below (by repeat (first | exact Below.refl _ _ | refine bel_al ?_)) | exact Parts.new (by simp) rfl rfl (by have h0 := hF.bel.size; omega)) rfl ?_; clear hF; intro w2 hF; first | simp only [List.nil_append] at hF | simp only [List.cons_append, List.nil_append] at hF)
        | (refine wpList_insert hF (by repeat (first | exact Below.refl _ _ | refine bel_al ?_)) rfl _ _ _ 225 rfl _ _ Tryz.underlying225 Tryz.underlying26 rfl 3 rfl [pA, pB, pC, pI ⟨#[45]⟩] (by first | exact hF.one.below (by repeat (first | exact Below.refl _ _ | refine bel_al ?_)) | exact hF.two.below (by repeat (first | exact Below.refl _ _ | refine bel_al ?_)) | exact Parts.new (by simp) rfl rfl (by have h0 := hF.bel.size; omega)) rfl ?_; clear hF; intro w2 hF; first | simp only [List.nil_append] at hF | simp only [List.cons_append, List.nil_append] at hF)
        | (refine wpList_insert hF (by repeat (first | exact Below.refl _ _ | refine bel_al ?_)) rfl _ _ _ 225 rfl _ _ Tryz.underlying225 Tryz.underlying26 rfl 4 rfl [pI ⟨#[]⟩] (by first | exact hF.one.below (by repeat (first | exact Below.refl _ _ | refine bel_al ?_)) | exact hF.two.below (by repeat (first | exact Below.refl _ _ | refine bel_al ?_)) | exact Parts.new (by simp) rfl rfl (by have h0 := hF.bel.size; omega)) rfl ?_; clear hF; intro w2 hF; first | simp only [List.nil_append] at hF | simp only [List.cons_append, List.nil_append] at hF)
        | (refine wpList_insert hF (by repeat (first | exact Below.refl _ _ | refine bel_al ?_)) rfl _ _ _ 225 rfl _ _ Tryz.underlying225 Tryz.underlying26 rfl 5 rfl [pA, pI ⟨#[]⟩] (by first | exact hF.one.below (by repeat (first | exact Below.refl _ _ | refine bel_al ?_)) | exact hF.two.below (by repeat (first | exact Below.refl _ _ | refine bel_al ?_)) | exact Parts.new (by simp) rfl rfl (by have h0 := hF.bel.size; omega)) rfl ?_; clear hF; intro w2 hF; first | simp only [List.nil_append] at hF | simp only [List.cons_append, List.nil_append] at hF)
        | (refine wpList_insert hF (by repeat (first | exact Below.refl _ _ | refine bel_al ?_)) rfl _ _ _ 225 rfl _ _ Tryz.underlying225 Tryz.underlying26 rfl 6 rfl [pA, pB] (by first | exact hF.one.below (by repeat (first | exact Below.refl _ _ | refine bel_al ?_)) | exact hF.two.below (by repeat (first | exact Below.refl _ _ | refine bel_al ?_)) | exact Parts.new (by simp) rfl rfl (by have h0 := hF.bel.size; omega)) rfl ?_; clear hF; intro w2 hF; first | simp only [List.nil_append] at hF | simp only [List.cons_append, List.nil_append] at hF)
        | (refine wpList_insert hF (by repeat (first | exact Below.refl _ _ | refine bel_al ?_)) rfl _ _ _ 225 rfl _ _ Tryz.underlying225 Tryz.underlying26 rfl 7 rfl [pA, pB] (by first | exact hF.one.below (by repeat (first | exact Below.refl _ _ | refine bel_al ?_)) | exact hF.two.below (by repeat (first | exact Below.refl _ _ | refine bel_al ?_)) | exact Parts.new (by simp) rfl rfl (by have h0 := hF.bel.size; omega)) rfl ?_; clear hF; intro w2 hF; first | simp only [List.nil_append] at hF | simp only [List.cons_append, List.nil_append] at hF)
        | (refine wpList_insert hF (by repeat (first | exact Below.refl _ _ | refine bel_al ?_)) rfl _ _ _ 225 rfl _ _ Tryz.underlying225 Tryz.underlying26 rfl 8 rfl [pA, pB, pM, pI ⟨#[102]⟩] (by first | exact hF.one.below (by repeat (first | exact Below.refl _ _ | refine bel_al ?_)) | exact hF.two.below (by repeat (first | exact Below.refl _ _ | refine bel_al ?_)) | exact Parts.new (by simp) rfl rfl (by have h0 := hF.bel.size; omega)) rfl ?_; clear hF; intro w2 hF; first | simp only [List.nil_append] at hF | simp only [List.cons_append, List.nil_append] at hF)
        | (refine wpList_insert hF (by repeat (first | exact Below.refl _ _ | refine bel_al ?_)) rfl _ _ _ 225 rfl _ _ Tryz.underlying225 Tryz.underlying26 rfl 9 rfl [pA] (by first | exact hF.one.below (by repeat (first | exact Below.refl _ _ | refine bel_al ?_)) | exact hF.two.below (by repeat (first | exact Below.refl _ _ | refine bel_al ?_)) | exact Parts.new (by simp) rfl rfl (by have h0 := hF.bel.size; omega)) rfl ?_; clear hF; intro w2 hF; first | simp only [List.nil_append] at hF | simp only [List.cons_append, List.nil_append] at hF)
        | (refine wpList_insert hF (by repeat (first | exact Below.refl _ _ | refine bel_al ?_)) rfl _ _ _ 225 rfl _ _ Tryz.underlying225 Tryz.underlying26 rfl 10 rfl [pB, pM, pI ⟨#[102]⟩] (by first | exact hF.one.below (by repeat (first | exact Below.refl _ _ | refine bel_al ?_)) | exact hF.two.below (by repeat (first | exact Below.refl _ _ | refine bel_al ?_)) | exact Parts.new (by simp) rfl rfl (by have h0 := hF.bel.size; omega)) rfl ?_; clear hF; intro w2 hF; first | simp only [List.nil_append] at hF | simp only [List.cons_append, List.nil_append] at hF)
        | (refine wpList_insert hF (by repeat (first | exact Below.refl _ _ | refine bel_al ?_)) rfl _ _ _ 225 rfl _ _ Tryz.underlying225 Tryz.underlying26 rfl 11 rfl [pA] (by first | exact hF.one.below (by repeat (first | exact Below.refl _ _ | refine bel_al ?_)) | exact hF.two.below (by repeat (first | exact Below.refl _ _ | refine bel_al ?_)) | exact Parts.new (by simp) rfl rfl (by have h0 := hF.bel.size; omega)) rfl ?_; clear hF; intro w2 hF; first | simp only [List.nil_append] at hF | simp only [List.cons_append, List.nil_append] at hF)
        | (refine wpList_insert hF (by repeat (first | exact Below.refl _ _ | refine bel_al ?_)) rfl _ _ _ 225 rfl _ _ Tryz.underlying225 Tryz.underlying26 rfl 12 rfl [pA] (by first | exact hF.one.below (by repeat (first | exact Below.refl _ _ | refine bel_al ?_)) | exact hF.two.below (by repeat (first | exact Below.refl _ _ | refine bel_al ?_)) | exact Parts.new (by simp) rfl rfl (by have h0 := hF.bel.size; omega)) rfl ?_; clear hF; intro w2 hF; first | simp only [List.nil_append] at hF | simp only [List.cons_append, List.nil_append] at hF)
        | (refine wpList_insert hF (by repeat (first | exact Below.refl _ _ | refine bel_al ?_)) rfl _ _ _ 225 rfl _ _ Tryz.underlying225 Tryz.underlying26 rfl 13 rfl [pA] (by first | exact hF.one.below (by repeat (first | exact Below.refl _ _ | refine bel_al ?_)) | exact hF.two.below (by repeat (first | exact Below.refl _ _ | refine bel_al ?_)) | exact Parts.new (by simp) rfl rfl (by have h0 := hF.bel.size; omega)) rfl ?_; clear hF; intro w2 hF; first | simp only [List.nil_append] at hF | simp only [List.cons_append, List.nil_append] at hF)
        | (refine wpList_insert hF (by repeat (first | exact Below.refl _ _ | refine bel_al ?_)) rfl _ _ _ 225 rfl _ _ Tryz.underlying225 Tryz.underlying26 rfl 14 rfl [pA] (by first | exact hF.one.below (by repeat (first | exact Below.refl _ _ | refine bel_al ?_)) | exact hF.two.below (by repeat (first | exact Below.refl _ _ | refine bel_al ?_)) | exact Parts.new (by simp) rfl rfl (by have h0 := hF.bel.size; omega)) rfl ?_; clear hF; intro w2 hF; first | simp only [List.nil_append] at hF | simp only [List.cons_append, List.nil_append] at hF)
        | (refine wpList_insert hF (by repeat (first | exact Below.refl _ _ | refine bel_al ?_)) rfl _ _ _ 225 rfl _ _ Tryz.underlying225 Tryz.underlying26 rfl 15 rfl [pA] (by first | exact hF.one.below (by repeat (first | exact Below.refl _ _ | refine bel_al ?_)) | exact hF.two.below (by repeat (first | exact Below.refl _ _ | refine bel_al ?_)) | exact Parts.new (by simp) rfl rfl (by have h0 := hF.bel.size; omega)) rfl ?_; clear hF; intro w2 hF; first | simp only [List.nil_append] at hF | simp only [List.cons_append, List.nil_append] at hF)
        | (refine wpList_insert hF (by repeat (first | exact Below.refl _ _ | refine bel_al ?_)) rfl _ _ _ 225 rfl _ _ Tryz.underlying225 Tryz.underlying26 rfl 16 rfl [pA] (by first | exact hF.one.below (by repeat (first | exact Below.refl _ _ | refine bel_al ?_)) | exact hF.two.below (by repeat (first | exact Below.refl _ _ | refine bel_al ?_)) | exact Parts.new (by simp) rfl rfl (by have h0 := hF.bel.size; omega)) rfl ?_; clear hF; intro w2 hF; first | simp only [List.nil_append] at hF | simp only [List.cons_append, List.nil_append] at hF)
        | (refine wpList_insert hF (by repeat (first | exact Below.refl _ _ | refine bel_al ?_)) rfl _ _ _ 225 rfl _ _ Tryz.underlying225 Tryz.underlying26 rfl 17 rfl [pA, pB] (by first | exact hF.one.below (by repeat (first | exact Below.refl _ _ | refine bel_al ?_)) | exact hF.two.below (by repeat (first | exact Below.refl _ _ | refine bel_al ?_)) | exact Parts.new (by simp) rfl rfl (by have h0 := hF.bel.size; omega)) rfl ?_; clear hF; intro w2 hF; first | simp only [List.nil_append] at hF | simp only [List.cons_append, List.nil_append] at hF)
        | (refine wpList_insert hF (by repeat (first | exact Below.refl _ _ | refine bel_al ?_)) rfl _ _ _ 225 rfl _ _ Tryz.underlying225 Tryz.underlying26 rfl 18 rfl [pA] (by first | exact hF.one.below (by repeat (first | exact Below.refl _ _ | refine bel_al ?_)) | exact hF.two.below (by repeat (first | exact Below.refl _ _ | refine bel_al ?_)) | exact Parts.new (by simp) rfl rfl (by have h0 := hF.bel.size; omega)) rfl ?_; clear hF; intro w2 hF; first | simp only [List.nil_append] at hF | simp only [List.cons_append, List.nil_append] at hF)
        | (refine wpList_insert hF (by repeat (first | exact Below.refl _ _ | refine bel_al ?_)) rfl _ _ _ 225 rfl _ _ Tryz.underlying225 Tryz.underlying26 rfl 19 rfl [] (by first | exact hF.one.below (by repeat (first | exact Below.refl _ _ | refine bel_al ?_)) | exact hF.two.below (by repeat (first | exact Below.refl _ _ | refine bel_al ?_)) | exact Parts.new (by simp) rfl rfl (by have h0 := hF.bel.size; omega)) rfl ?_; clear hF; intro w2 hF; first | simp only [List.nil_append] at hF | simp only [List.cons_append, List.nil_append] at hF)
    | (refine wpList_lookup hF (by repeat (first | exact Below.refl _ _ | refine bel_al ?_)) rfl _ _ 225 rfl _ _ Tryz.underlying225 Tryz.underlying26 rfl n rfl zero_parts ?_; intro v hv hbel)
    )
  exact bodyPost_ret (v := v) (by simp [results, Tryz.results84, go_sem]) rfl ⟨v, rfl, hbel, hv⟩
end Go.Proofs.YtfnfcngkaepnjaaGreatDoor

/- A part's two functions. -/
namespace Go.Proofs.YtfnfcngkaepnjaaGreatDoor
set_option linter.unusedVariables false
open Go Go.Proofs Go.RowKit

def insV (op a b c m : Int) : Value := .agg #[.int .i64 op, .int .i64 a, .int .i64 b, .int .i64 c, .int .u32 m]

theorem getA (op a b c m : Int) (hx : 0 ≤ a ∧ a < 4294967296) (w : World) : Calls Tryz.prog 188 #[insV op a b c m] w fun e w' => e = .returned (.int .u64 a) ∧ ∃ o, w' = w.alloc o := by
  unfold insV
  go_enter Tryz.func188, Tryz.ntmps188
  go_wp2
  refine bodyPost_ret (v := .int .u64 a) ?_ rfl ⟨rfl, _, rfl⟩
  simp [results, Tryz.results188, go_sem]
theorem getB (op a b c m : Int) (hx : 0 ≤ b ∧ b < 4294967296) (w : World) : Calls Tryz.prog 190 #[insV op a b c m] w fun e w' => e = .returned (.int .u64 b) ∧ ∃ o, w' = w.alloc o := by
  unfold insV
  go_enter Tryz.func190, Tryz.ntmps190
  go_wp2
  refine bodyPost_ret (v := .int .u64 b) ?_ rfl ⟨rfl, _, rfl⟩
  simp [results, Tryz.results190, go_sem]
theorem getC (op a b c m : Int) (hx : 0 ≤ c ∧ c < 4294967296) (w : World) : Calls Tryz.prog 194 #[insV op a b c m] w fun e w' => e = .returned (.int .u64 c) ∧ ∃ o, w' = w.alloc o := by
  unfold insV
  go_enter Tryz.func194, Tryz.ntmps194
  go_wp2
  refine bodyPost_ret (v := .int .u64 c) ?_ rfl ⟨rfl, _, rfl⟩
  simp [results, Tryz.results194, go_sem]
theorem getI (op a b c m : Int) (hx : 0 ≤ m ∧ m < 4294967296) (w : World) : Calls Tryz.prog 192 #[insV op a b c m] w fun e w' => e = .returned (.int .u64 m) ∧ ∃ o, w' = w.alloc o := by
  unfold insV
  go_enter Tryz.func192, Tryz.ntmps192
  go_wp2
  refine bodyPost_ret (v := .int .u64 m) ?_ rfl ⟨rfl, _, rfl⟩
  simp [results, Tryz.results192, go_sem]

theorem putA (bk : Nat) (x : Value) (n : Int) (hx : 0 ≤ n ∧ n < 4294967296) (w : World) (hc : w.cell? ⟨bk, 1, none⟩ = some x) (hf : w.frozen? ⟨bk, 1, none⟩ = false) : Calls Tryz.prog 189 #[.pointer (some ⟨bk, 0, none⟩), .int .u64 n] w fun e w' => e = .returned (.tuple #[]) ∧ w' = w.setCell ⟨bk, 1, none⟩ (.int .i64 n) := by
  go_enter Tryz.func189, Tryz.ntmps189
  go_wp2
  exact bodyPost_end (v := .tuple #[]) (by simp [results, Tryz.results189]) rfl ⟨rfl, rfl⟩
theorem putB (bk : Nat) (x : Value) (n : Int) (hx : 0 ≤ n ∧ n < 4294967296) (w : World) (hc : w.cell? ⟨bk, 2, none⟩ = some x) (hf : w.frozen? ⟨bk, 2, none⟩ = false) : Calls Tryz.prog 191 #[.pointer (some ⟨bk, 0, none⟩), .int .u64 n] w fun e w' => e = .returned (.tuple #[]) ∧ w' = w.setCell ⟨bk, 2, none⟩ (.int .i64 n) := by
  go_enter Tryz.func191, Tryz.ntmps191
  go_wp2
  exact bodyPost_end (v := .tuple #[]) (by simp [results, Tryz.results191]) rfl ⟨rfl, rfl⟩
theorem putC (bk : Nat) (x : Value) (n : Int) (hx : 0 ≤ n ∧ n < 4294967296) (w : World) (hc : w.cell? ⟨bk, 3, none⟩ = some x) (hf : w.frozen? ⟨bk, 3, none⟩ = false) : Calls Tryz.prog 195 #[.pointer (some ⟨bk, 0, none⟩), .int .u64 n] w fun e w' => e = .returned (.tuple #[]) ∧ w' = w.setCell ⟨bk, 3, none⟩ (.int .i64 n) := by
  go_enter Tryz.func195, Tryz.ntmps195
  go_wp2
  exact bodyPost_end (v := .tuple #[]) (by simp [results, Tryz.results195]) rfl ⟨rfl, rfl⟩
theorem putI (bk : Nat) (x : Value) (n : Int) (hx : 0 ≤ n ∧ n < 4294967296) (w : World) (hc : w.cell? ⟨bk, 4, none⟩ = some x) (hf : w.frozen? ⟨bk, 4, none⟩ = false) : Calls Tryz.prog 193 #[.pointer (some ⟨bk, 0, none⟩), .int .u64 n] w fun e w' => e = .returned (.tuple #[]) ∧ w' = w.setCell ⟨bk, 4, none⟩ (.int .u32 n) := by
  go_enter Tryz.func193, Tryz.ntmps193
  go_wp2
  exact bodyPost_end (v := .tuple #[]) (by simp [results, Tryz.results193]) rfl ⟨rfl, rfl⟩
theorem is_any (op : Int) (w : World) : Calls Tryz.prog 102 #[.int .i64 op] w fun e w' => e = .returned (.bool (decide (1 ≤ op ∧ op ≤ 19))) ∧ w' = w := by
  go_enter Tryz.func102, Tryz.ntmps102
  go_wp2
  · exact bodyPost_ret (v := .bool (decide (op ≤ 19))) (by simp [results, Tryz.results102, go_sem]) rfl ⟨ret_bool (by simp [*]), rfl⟩
  · exact bodyPost_ret (v := .bool false) (by simp [results, Tryz.results102, go_sem]) rfl ⟨ret_bool (by
      have h : decide (1 ≤ op) = false := by simp; omega
      rw [h]; rfl), rfl⟩
end Go.Proofs.YtfnfcngkaepnjaaGreatDoor

/- Is an Op among some. -/
namespace Go.Proofs.YtfnfcngkaepnjaaGreatDoor
set_option linter.unusedVariables false
open Go Go.Proofs Go.RowKit

theorem opIndex_any (zs : List Int) (b : Nat) (x : Int) (w : World) (hl : zs.length ≤ 100) (hc : ∀ j (h : j < zs.length), w.cell? ⟨b, j, none⟩ = some (.int .i64 zs[j])) :
    Calls Tryz.prog 239 #[.slice (some ⟨b, 0, none⟩) zs.length zs.length, .int .i64 x] w fun e w' =>
      ∃ r : Int, e = .returned (.int .i64 r) ∧ (0 ≤ r ↔ x ∈ zs) ∧ w' = w := by
  have HC := Lib.hid hc
  clear hc
  go_enter Tryz.func239, Tryz.ntmps239
  go_wp2
  go_loop [5, 8] (fun _ i => ∃ k : Nat, i = .int .i64 k ∧ k ≤ zs.length ∧ Hid (∀ j (h : j < zs.length), j < k → zs[j] ≠ x)) (fun _ i => zs.length - (intOf i).toNat)
  case atStart => exact ⟨0, rfl, by omega, fun j h hj => by omega⟩
  case round =>
    obtain ⟨k, rfl, hk, hb⟩ := hrel
    by_cases hlt : k < zs.length
    · have c0 := HC.out k hlt
      generalize hz : zs[k] = z at c0
      have HZ := Lib.hid hz
      clear hz
      by_cases hx : x = z
      · subst hx
        have HM : Hid (x ∈ zs) := Lib.hid (by rw [← HZ.out]; exact List.getElem_mem _)
        go_wp2
        exact bodyPost_ret (v := .int .i64 k) (by simp [results, Tryz.results239, go_sem]) rfl ⟨k, rfl, ⟨fun _ => HM.out, fun _ => by omega⟩, rfl⟩
      · go_wp2
        refine ⟨⟨k + 1, by simp, by omega, fun j h hj => ?_⟩, by simp [intOf]; omega⟩
        by_cases hjk : j = k
        · subst hjk
          rw [HZ.out]
          exact fun q => hx q.symm
        · exact hb.out j h (by omega)
    · have HM : Hid (x ∉ zs) := Lib.hid (by
        intro hm
        obtain ⟨j, h, hj⟩ := List.getElem_of_mem hm
        exact hb.out j h (by omega) hj)
      go_wp2
      exact bodyPost_ret (v := .int .i64 (-1)) (by simp [results, Tryz.results239, go_sem]) rfl ⟨-1, rfl, ⟨fun h => by omega, fun h => absurd h HM.out⟩, rfl⟩

theorem opContains_any (zs : List Int) (b : Nat) (x : Int) (w : World) (hl : zs.length ≤ 100) (hc : ∀ j (h : j < zs.length), w.cell? ⟨b, j, none⟩ = some (.int .i64 zs[j])) :
    Calls Tryz.prog 209 #[.slice (some ⟨b, 0, none⟩) zs.length zs.length, .int .i64 x] w fun e w' => e = .returned (.bool (decide (x ∈ zs))) ∧ w' = w := by
  have HC := Lib.hid hc
  clear hc
  go_enter Tryz.func209, Tryz.ntmps209
  go_wp2_with (go_at_call 239; refine (opIndex_any zs b x _ hl HC.out).mono ?_; rintro e w1 ⟨r, rfl, hr, rfl⟩)
  exact bodyPost_ret (v := .bool (decide (x ∈ zs))) (by simp [results, Tryz.results209, go_sem]) rfl ⟨rfl, rfl⟩

theorem amongOp_any (zs : List Int) (b : Nat) (x : Int) (w : World) (hl : zs.length ≤ 100) (hc : ∀ j (h : j < zs.length), w.cell? ⟨b, j, none⟩ = some (.int .i64 zs[j])) :
    Calls Tryz.prog 159 #[.int .i64 x, .slice (some ⟨b, 0, none⟩) zs.length zs.length] w fun e w' => e = .returned (.bool (decide (x ∈ zs))) ∧ w' = w := by
  have HC := Lib.hid hc
  clear hc
  go_enter Tryz.func159, Tryz.ntmps159
  go_wp2_with (go_at_call 209; refine (opContains_any zs b x _ hl HC.out).mono ?_; rintro e w1 ⟨rfl, rfl⟩)
  exact bodyPost_ret (v := .bool (decide (x ∈ zs))) (by simp [results, Tryz.results159, go_sem]) rfl ⟨rfl, rfl⟩
end Go.Proofs.YtfnfcngkaepnjaaGreatDoor
