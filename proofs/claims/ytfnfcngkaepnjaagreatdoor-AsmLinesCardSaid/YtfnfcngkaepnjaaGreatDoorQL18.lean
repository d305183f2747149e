/- Joined texts: The reference of layer 8: what an Op names; in; reg.; The reference of layer 8: Right. -/
import Derived.Test.YtfnfcngkaepnjaaGreatDoorQL17
import Derived.Test.YtfnfcngkaepnjaaGreatDoorQL10
import Derived.BigQuiet
/- The reference of layer 8: what an Op names; in; reg. -/
namespace Go.Proofs.YtfnfcngkaepnjaaGreatDoor
set_option linter.unusedVariables false
open Go Go.Proofs Go.RowKit

def namesRL : List ByteArray := [⟨#[97, 105]⟩, ⟨#[97, 98]⟩, ⟨#[97, 98, 99, 107]⟩, ⟨#[105]⟩, ⟨#[97, 105]⟩, ⟨#[97, 98]⟩, ⟨#[97, 98]⟩, ⟨#[97, 98, 110, 102]⟩, ⟨#[97]⟩, ⟨#[98, 110, 102]⟩, ⟨#[97]⟩, ⟨#[97]⟩, ⟨#[97]⟩, ⟨#[97]⟩, ⟨#[97]⟩, ⟨#[97]⟩, ⟨#[97, 98]⟩, ⟨#[97]⟩, ⟨#[]⟩]
def namesR (op : Int) : ByteArray := if 1 ≤ op ∧ op ≤ 19 then namesRL.getD (op - 1).toNat ⟨#[]⟩ else ⟨#[45]⟩
theorem namesR_size (op : Int) : (namesR op).size ≤ 4 := by
  unfold namesR
  split
  · rw [List.getD_eq_getElem?_getD]
    cases hx : namesRL[(op - 1).toNat]? with
    | none => decide
    | some x =>
      have h : ∀ x ∈ namesRL, x.size ≤ 4 := by
        have h0 : (namesRL.all fun x => decide (x.size ≤ 4)) = true := by kernel_rfl
        exact fun x hx => of_decide_eq_true (List.all_eq_true.1 h0 x hx)
      exact h x (List.mem_of_getElem? hx)
  · decide

set_option maxRecDepth 100000 in
theorem rNames_any (op : Int) (w : World) : Calls Tryz.prog 105 #[.int .i64 op] w fun e w' => e = .returned (.string (namesR op)) ∧ Below w.heap.size w w' := by
  by_cases h : 1 ≤ op ∧ op ≤ 19
  · have hn : namesR op = namesRL.getD (op - 1).toNat ⟨#[]⟩ := if_pos h
    obtain ⟨h1, h2⟩ := h
    obtain ⟨k, rfl⟩ : ∃ k : Nat, op = (k : Int) + 1 := ⟨(op - 1).toNat, by omega⟩
    have hk : k < 19 := by omega
    rw [show ((k : Int) + 1 - 1).toNat = k by omega] at hn
    have hx : (namesRL.map Value.string).toArray[k]? = some (.string (namesR ((k : Int) + 1))) := by
      rw [hn, List.getElem?_toArray, List.getElem?_map, List.getD_eq_getElem?_getD, List.getElem?_eq_getElem (show k < namesRL.length from hk)]
      rfl
    generalize namesR ((k : Int) + 1) = x at hx ⊢
    have hc := (cell_new w (namesRL.map Value.string).toArray 9 k).trans hx
    simp only [namesRL, List.map_cons, List.map_nil] at hc
    have hw1 : IntKind.i64.wrap ((k : Int) + 1 - 1) = (k : Int) := by rw [IntKind.wrap_i64]; omega
    clear hx hn
    go_enter Tryz.func105, Tryz.ntmps105
    go_wp2
    go_ret
    exact ⟨rfl, bel1 _⟩
  · have hn : namesR op = ⟨#[45]⟩ := if_neg h
    rw [hn]
    by_cases h1 : op < 1
    · clear h hn
      go_enter Tryz.func105, Tryz.ntmps105
      go_wp2
      go_ret
      exact ⟨rfl, Below.refl _ _⟩
    · have h2 : 19 < op := by omega
      clear h hn
      go_enter Tryz.func105, Tryz.ntmps105
      go_wp2
      go_ret
      exact ⟨rfl, Below.refl _ _⟩

/-- Does an Op name a letter? -/
def inR (op : Int) (c : Nat) : Bool := (namesR op).data.toList.any fun x => decide (x.toNat = c)

theorem bytes_at (t : ByteArray) (k : Nat) (h : k < t.size) : t[k]'h = t.data.toList[k]'(by rw [← Lib.size_eq]; exact h) := rfl

set_option maxRecDepth 100000 in
set_option maxHeartbeats 1000000 in
theorem rIn_any (op : Int) (c : Nat) (hc : c < 256) (w : World) : Calls Tryz.prog 44 #[.int .i64 op, .int .u8 c] w fun e w' => e = .returned (.bool (inR op c)) ∧ Below w.heap.size w w' := by
  have hs := namesR_size op
  have CN := Lib.hid fun W => rNames_any op W
  unfold inR
  generalize namesR op = t at hs CN ⊢
  obtain ⟨bs, hL⟩ : ∃ bs, bs = t.data.toList := ⟨_, rfl⟩
  have hLn : bs.length = t.size := by rw [hL, Lib.size_eq]
  have hat : ∀ k (h : k < t.size), t[k]'h = bs[k]'(by omega) := fun k h => by subst hL; exact bytes_at t k h
  rw [← hL]
  clear hL
  have HAT := Lib.hid hat
  clear hat
  obtain ⟨R, hR⟩ : ∃ R, R = bs.any fun x => decide (x.toNat = c) := ⟨_, rfl⟩
  rw [← hR]
  have HR := Lib.hid hR
  clear hR
  go_enter Tryz.func44, Tryz.ntmps44
  go_wp2_with fail
  refine (CN.out _).mono ?_
  rintro e w1 ⟨rfl, hb1⟩
  go_wp2_with fail
  go_loop [6] (fun vi => ∃ k : Nat, vi = .int .i64 k ∧ k ≤ t.size ∧ Hid ((bs.take k).any (fun x => decide (x.toNat = c)) = false)) (fun vi => t.size - (intOf vi).toNat)
  case atStart => exact ⟨0, rfl, by omega, rfl⟩
  case round =>
    obtain ⟨k, rfl, hk, hh⟩ := hrel
    by_cases hkn : k < t.size
    · have hx := HAT.out k hkn
      have hbk : k < bs.length := by omega
      have htk : bs.take (k + 1) = bs.take k ++ [bs[k]] := by rw [List.take_append_getElem hbk]
      have hmem := List.getElem_mem hbk
      generalize bs[k] = x at hx htk hmem
      by_cases he : x.toNat = c
      · have e1 : ((x.toNat : Int) == (c : Int)) = true := by rw [he]; simp
        have HT := Lib.hid (show R = true from HR.out.trans (List.any_eq_true.2 ⟨x, hmem, by simp [he]⟩))
        clear he htk hmem
        go_wp2
        go_ret
        exact ⟨by rw [HT.out]; rfl, hb1⟩
      · have e1 : ((x.toNat : Int) == (c : Int)) = false := beq_eq_false_iff_ne.2 (by omega)
        have hN : Hid ((bs.take (k + 1)).any (fun x => decide (x.toNat = c)) = false) := Lib.hid (by rw [htk, List.any_append, hh.out]; simp [he])
        clear he htk hmem
        go_wp2
        exact ⟨⟨k + 1, by go_num, by omega, hN⟩, by simp [intOf]; omega⟩
    · have hk2 : k = t.size := by omega
      have HT := Lib.hid (show R = false from HR.out.trans (by
        have := hh.out
        rwa [List.take_of_length_le (by omega)] at this))
      subst hk2
      go_wp2
      go_ret
      exact ⟨by rw [HT.out]; rfl, hb1⟩

theorem rIn97 (op : Int) (w : World) : Calls Tryz.prog 44 #[.int .i64 op, .int .u8 97] w fun e w' => e = .returned (.bool (inR op 97)) ∧ Below w.heap.size w w' := rIn_any op 97 (by decide) w
theorem rIn98 (op : Int) (w : World) : Calls Tryz.prog 44 #[.int .i64 op, .int .u8 98] w fun e w' => e = .returned (.bool (inR op 98)) ∧ Below w.heap.size w w' := rIn_any op 98 (by decide) w
theorem rIn110 (op : Int) (w : World) : Calls Tryz.prog 44 #[.int .i64 op, .int .u8 110] w fun e w' => e = .returned (.bool (inR op 110)) ∧ Below w.heap.size w w' := rIn_any op 110 (by decide) w
theorem rIn107 (op : Int) (w : World) : Calls Tryz.prog 44 #[.int .i64 op, .int .u8 107] w fun e w' => e = .returned (.bool (inR op 107)) ∧ Below w.heap.size w w' := rIn_any op 107 (by decide) w
theorem rIn105 (op : Int) (w : World) : Calls Tryz.prog 44 #[.int .i64 op, .int .u8 105] w fun e w' => e = .returned (.bool (inR op 105)) ∧ Below w.heap.size w w' := rIn_any op 105 (by decide) w
def regR (n : Int) (b : Bool) : Bool := decide (n = 0) || (b && (decide (0 ≤ n) && decide (n ≤ 15)))
set_option maxRecDepth 100000 in
theorem rReg_any (n : Int) (b : Bool) (w : World) : Calls Tryz.prog 107 #[.int .i64 n, .bool b] w fun e w' => e = .returned (.bool (regR n b)) ∧ w = w' := by
  unfold regR
  by_cases h0 : n = 0
  · subst h0
    go_enter Tryz.func107, Tryz.ntmps107
    go_wp2
    go_ret
    exact ⟨by simp, rfl⟩
  · have e0 : (n == 0) = false := beq_eq_false_iff_ne.2 h0
    have d0 : decide (n = 0) = false := decide_eq_false h0
    rw [d0, Bool.false_or]
    cases b with
    | false =>
      go_enter Tryz.func107, Tryz.ntmps107
      go_wp2
      go_ret
      exact ⟨rfl, rfl⟩
    | true =>
      rw [Bool.true_and]
      by_cases h1 : 0 ≤ n
      · by_cases h2 : n ≤ 15
        · rw [decide_eq_true h1, decide_eq_true h2]
          go_enter Tryz.func107, Tryz.ntmps107
          go_wp2
          go_ret
          exact ⟨rfl, rfl⟩
        · rw [decide_eq_true h1, decide_eq_false h2]
          have h2 : 15 < n := by omega
          go_enter Tryz.func107, Tryz.ntmps107
          go_wp2
          go_ret
          exact ⟨rfl, rfl⟩
      · rw [decide_eq_false h1]
        have h1 : n < 0 := by omega
        go_enter Tryz.func107, Tryz.ntmps107
        go_wp2
        go_ret
        exact ⟨rfl, rfl⟩
end Go.Proofs.YtfnfcngkaepnjaaGreatDoor

/- The reference of layer 8: Right. -/
namespace Go.Proofs.YtfnfcngkaepnjaaGreatDoor
set_option linter.unusedVariables false
open Go Go.Proofs Go.RowKit Go.Sort

/-- Behind the first three tests. -/
def restR (op b c m : Int) : Bool :=
  if inR op 110 then decide (0 ≤ c) && decide (c ≤ 16) && decide (b + c ≤ 16) && decide (m < 32)
  else if inR op 107 then regR c true && decide (1 ≤ m) && decide (m ≤ 12)
  else if c ≠ 0 then false else if op = 4 ∨ op = 5 then decide (m < 512) else decide (m = 0) || inR op 105
/-- What the reference's Right tells. -/
def rightR (op a b c m : Int) : Bool := decide (1 ≤ op ∧ op ≤ 19) && (regR a (inR op 97) && (regR b (inR op 98) && restR op b c m))

theorem rReg_bel (n : Int) (b : Bool) (w : World) : Calls Tryz.prog 107 #[.int .i64 n, .bool b] w fun e w' => e = .returned (.bool (regR n b)) ∧ Below w.heap.size w w' :=
  (rReg_any n b w).mono (by rintro e w' ⟨rfl, rfl⟩; exact ⟨rfl, Below.refl _ _⟩)

set_option maxRecDepth 100000 in
set_option maxHeartbeats 4000000 in
theorem rRight_any (op a b c m : Int) (hm : 0 ≤ m ∧ m < 4294967296) (w : World) :
    Calls Tryz.prog 46 #[insV op a b c m] w fun e w' => e = .returned (.bool (rightR op a b c m)) ∧ Below w.heap.size w w' := by
  have hI := Bare.new op a b c m w 29
  have hB : Below w.heap.size w (w.alloc (.cells #[.int .i64 op, .int .i64 a, .int .i64 b, .int .i64 c, .int .u32 m] 29)) := bel1 _
  have i0 := hI.c0
  have I97 := Lib.hid (rIn97 op)
  have I98 := Lib.hid (rIn98 op)
  have I110 := Lib.hid (rIn110 op)
  have I107 := Lib.hid (rIn107 op)
  have I105 := Lib.hid (rIn105 op)
  unfold insV rightR
  by_cases h1 : op < 1
  · rw [decide_eq_false (by omega), Bool.false_and]
    go_enter Tryz.func46, Tryz.ntmps46
    go_wp2_with fail
    generalize w.alloc _ = V at hI hB i0 ⊢
    clear i0
    refine wp_region_quiet_below (by kernel_rfl) (by kernel_rfl) ?_
    repeat (go_big_quiet_step (fail))
    refine wpQuiet_nil ?_
    intro _ hw'
    obtain ⟨⟨dq, osq⟩, hw''⟩ := hw'
    subst hw''
    go_wp2_with fail
    go_ret
    exact ⟨rfl, belT hB (below_regrown V dq osq)⟩
  have d1 : decide (op < 1) = false := decide_eq_false h1
  by_cases h2 : 19 < op
  · rw [decide_eq_false (by omega), Bool.false_and]
    go_enter Tryz.func46, Tryz.ntmps46
    go_wp2_with fail
    generalize w.alloc _ = V at hI hB i0 ⊢
    clear i0
    refine wp_region_quiet_below (by kernel_rfl) (by kernel_rfl) ?_
    repeat (go_big_quiet_step (fail))
    refine wpQuiet_nil ?_
    intro _ hw'
    obtain ⟨⟨dq, osq⟩, hw''⟩ := hw'
    subst hw''
    go_wp2_with fail
    go_ret
    exact ⟨rfl, belT hB (below_regrown V dq osq)⟩
  have d2 : decide (19 < op) = false := decide_eq_false h2
  rw [decide_eq_true (by omega), Bool.true_and]
  cases hra : regR a (inR op 97) with
  | false =>
    rw [Bool.false_and]
    generalize inR op 97 = A at I97 hra
    have R1 := Lib.hid (rReg_bel a A)
    rw [hra] at R1
    clear hra
    go_enter Tryz.func46, Tryz.ntmps46
    go_wp2_with fail
    generalize w.alloc _ = V at hI hB i0 ⊢
    clear i0
    have CA := Lib.hid fun (d' : Nat) os => Calls.regrown_of (I97.out (grow (redrawn V d') os))
    have CRA := Lib.hid fun (d' : Nat) os => Calls.regrown_of (R1.out (grow (redrawn V d') os))
    have CB := CA
    have CRB := CRA
    have x0 := cell_regrown hI.c0
    have x1 := cell_regrown hI.c1
    have x2 := cell_regrown hI.c2
    dsimp only at x1 x2
    refine wp_region_quiet_below (by kernel_rfl) (by kernel_rfl) ?_
    repeat (go_big_quiet_step (first | with_reducible exact CA.out _ _ | with_reducible exact CB.out _ _ | with_reducible exact CRA.out _ _ | with_reducible exact CRB.out _ _))
    refine wpQuiet_nil ?_
    intro _ hw'
    obtain ⟨⟨dq, osq⟩, hw''⟩ := hw'
    subst hw''
    go_wp2_with fail
    go_ret
    exact ⟨rfl, belT hB (below_regrown V dq osq)⟩
  | true =>
    rw [Bool.true_and]
    generalize inR op 97 = A at I97 hra
    have R1 := Lib.hid (rReg_bel a A)
    rw [hra] at R1
    clear hra
    cases hrb : regR b (inR op 98) with
    | false =>
      rw [Bool.false_and]
      generalize inR op 98 = B at I98 hrb
      have R2 := Lib.hid (rReg_bel b B)
      rw [hrb] at R2
      clear hrb
      go_enter Tryz.func46, Tryz.ntmps46
      go_wp2_with fail
      generalize w.alloc _ = V at hI hB i0 ⊢
      clear i0
      have CA := Lib.hid fun (d' : Nat) os => Calls.regrown_of (I97.out (grow (redrawn V d') os))
      have CRA := Lib.hid fun (d' : Nat) os => Calls.regrown_of (R1.out (grow (redrawn V d') os))
      have CB := Lib.hid fun (d' : Nat) os => Calls.regrown_of (I98.out (grow (redrawn V d') os))
      have CRB := Lib.hid fun (d' : Nat) os => Calls.regrown_of (R2.out (grow (redrawn V d') os))
      have x0 := cell_regrown hI.c0
      have x1 := cell_regrown hI.c1
      have x2 := cell_regrown hI.c2
      dsimp only at x1 x2
      refine wp_region_quiet_below (by kernel_rfl) (by kernel_rfl) ?_
      repeat (go_big_quiet_step (first | with_reducible exact CA.out _ _ | with_reducible exact CB.out _ _ | with_reducible exact CRA.out _ _ | with_reducible exact CRB.out _ _))
      refine wpQuiet_nil ?_
      intro _ hw'
      obtain ⟨⟨dq, osq⟩, hw''⟩ := hw'
      subst hw''
      go_wp2_with fail
      go_ret
      exact ⟨rfl, belT hB (below_regrown V dq osq)⟩
    | true =>
      rw [Bool.true_and]
      have hb : 0 ≤ b ∧ b ≤ 15 := by
        unfold regR at hrb
        simp only [Bool.or_eq_true, Bool.and_eq_true, decide_eq_true_eq] at hrb
        omega
      generalize inR op 98 = B at I98 hrb
      have R2 := Lib.hid (rReg_bel b B)
      rw [hrb] at R2
      clear hrb
      obtain ⟨R, hR⟩ : ∃ R, R = restR op b c m := ⟨_, rfl⟩
      rw [← hR]
      have HR := Lib.hid hR
      clear hR
      go_enter Tryz.func46, Tryz.ntmps46
      go_wp2_with fail
      generalize w.alloc _ = V at hI hB i0 ⊢
      clear i0
      have CA := Lib.hid fun (d' : Nat) os => Calls.regrown_of (I97.out (grow (redrawn V d') os))
      have CRA := Lib.hid fun (d' : Nat) os => Calls.regrown_of (R1.out (grow (redrawn V d') os))
      have CB := Lib.hid fun (d' : Nat) os => Calls.regrown_of (I98.out (grow (redrawn V d') os))
      have CRB := Lib.hid fun (d' : Nat) os => Calls.regrown_of (R2.out (grow (redrawn V d') os))
      have x0 := cell_regrown hI.c0
      have x1 := cell_regrown hI.c1
      have x2 := cell_regrown hI.c2
      dsimp only at x1 x2
      refine wp_region_quiet_below (by kernel_rfl) (by kernel_rfl) ?_
      repeat (go_big_quiet_step (first | with_reducible exact CA.out _ _ | with_reducible exact CB.out _ _ | with_reducible exact CRA.out _ _ | with_reducible exact CRB.out _ _))
      refine wpQuiet_nil ?_
      intro _ hw'
      obtain ⟨⟨dq, osq⟩, hw''⟩ := hw'
      subst hw''
      have hI := hI.bel (below_regrown V dq osq)
      have hB := belT hB (below_regrown V dq osq)
      clear x0 x1 x2 CA CRA CB CRB I97 I98 R1 R2
      generalize grow (redrawn V dq) osq = V2 at hI hB ⊢
      clear h1 h2
      go_wp2_with fail
      refine (I110.out _).mono ?_
      rintro e w3 ⟨rfl, hb3⟩
      have hI := hI.bel hb3
      have hB := belT hB hb3
      have i2 := hI.c2
      have i3 := hI.c3
      have i4 := hI.c4
      dsimp only at i2 i3 i4
      clear hb3
      cases hN : inR op 110 with
      | true =>
        by_cases hc0 : 0 ≤ c
        · by_cases hc1 : c ≤ 16
          · by_cases hbc : b + c ≤ 16
            · have HT := Lib.hid (show R = decide (m < 32) from HR.out.trans (by unfold restR; simp [hN, hc0, hc1, hbc]))
              go_wp2
              go_ret
              exact ⟨by rw [HT.out]; rfl, hB⟩
            · have HT := Lib.hid (show R = false from HR.out.trans (by unfold restR; simp [hN, hbc]))
              have hbc : 16 < b + c := by omega
              go_wp2
              go_ret
              exact ⟨by rw [HT.out]; rfl, hB⟩
          · have HT := Lib.hid (show R = false from HR.out.trans (by unfold restR; simp [hN, hc1]))
            have hc1 : 16 < c := by omega
            go_wp2
            go_ret
            exact ⟨by rw [HT.out]; rfl, hB⟩
        · have HT := Lib.hid (show R = false from HR.out.trans (by unfold restR; simp [hN, hc0]))
          have hc0 : c < 0 := by omega
          go_wp2
          go_ret
          exact ⟨by rw [HT.out]; rfl, hB⟩
      | false =>
        go_wp2_with fail
        refine (I107.out _).mono ?_
        rintro e w3 ⟨rfl, hb3⟩
        have hI := hI.bel hb3
        have hB := belT hB hb3
        have i2 := hI.c2
        have i3 := hI.c3
        have i4 := hI.c4
        dsimp only at i2 i3 i4
        clear hb3
        cases hK : inR op 107 with
        | true =>
          have R3 := Lib.hid (rReg_bel c true)
          cases hrc : regR c true with
          | true =>
            rw [hrc] at R3
            by_cases hm1 : 1 ≤ m
            · have HT := Lib.hid (show R = decide (m ≤ 12) from HR.out.trans (by unfold restR; simp [hN, hK, hrc, hm1]))
              go_wp2_with (refine (R3.out _).mono ?_; rintro e w3 ⟨rfl, hb3⟩; have hI := hI.bel hb3; have hB := belT hB hb3; have i4 := hI.c4; dsimp only at i4; clear hb3)
              go_ret
              exact ⟨by rw [HT.out]; rfl, hB⟩
            · have HT := Lib.hid (show R = false from HR.out.trans (by unfold restR; simp [hN, hK, hm1]))
              have hm1 : m < 1 := by omega
              go_wp2_with (refine (R3.out _).mono ?_; rintro e w3 ⟨rfl, hb3⟩; have hI := hI.bel hb3; have hB := belT hB hb3; have i4 := hI.c4; dsimp only at i4; clear hb3)
              go_ret
              exact ⟨by rw [HT.out]; rfl, hB⟩
          | false =>
            rw [hrc] at R3
            have HT := Lib.hid (show R = false from HR.out.trans (by unfold restR; simp [hN, hK, hrc]))
            go_wp2_with (refine (R3.out _).mono ?_; rintro e w3 ⟨rfl, hb3⟩; have hI := hI.bel hb3; have hB := belT hB hb3; have i4 := hI.c4; dsimp only at i4; clear hb3)
            go_ret
            exact ⟨by rw [HT.out]; rfl, hB⟩
        | false =>
          by_cases hc : c = 0
          · subst hc
            by_cases h4 : op = 4
            · subst h4
              have HT := Lib.hid (show R = decide (m < 512) from HR.out.trans (by unfold restR; simp [hN, hK]))
              go_wp2
              go_ret
              exact ⟨by rw [HT.out]; rfl, hB⟩
            · by_cases h5 : op = 5
              · subst h5
                have HT := Lib.hid (show R = decide (m < 512) from HR.out.trans (by unfold restR; simp [hN, hK]))
                go_wp2
                go_ret
                exact ⟨by rw [HT.out]; rfl, hB⟩
              · have e4 : (op == 4) = false := beq_eq_false_iff_ne.2 h4
                have e5 : (op == 5) = false := beq_eq_false_iff_ne.2 h5
                by_cases hm0 : m = 0
                · subst hm0
                  have HT := Lib.hid (show R = true from HR.out.trans (by unfold restR; simp [hN, hK, h4, h5]))
                  clear h4 h5
                  go_wp2
                  go_ret
                  exact ⟨by rw [HT.out]; rfl, hB⟩
                · have em : (m == 0) = false := beq_eq_false_iff_ne.2 hm0
                  have HT := Lib.hid (show R = inR op 105 from HR.out.trans (by unfold restR; simp [hN, hK, h4, h5, hm0]))
                  clear h4 h5
                  go_wp2_with (refine (I105.out _).mono ?_; rintro e w3 ⟨rfl, hb3⟩; have hI := hI.bel hb3; have hB := belT hB hb3; have i4 := hI.c4; dsimp only at i4; clear hb3)
                  go_ret
                  exact ⟨by rw [HT.out]; rfl, hB⟩
          · have ec : (c == 0) = false := beq_eq_false_iff_ne.2 hc
            have HT := Lib.hid (show R = false from HR.out.trans (by unfold restR; simp [hN, hK, hc]))
            go_wp2
            go_ret
            exact ⟨by rw [HT.out]; rfl, hB⟩
end Go.Proofs.YtfnfcngkaepnjaaGreatDoor
