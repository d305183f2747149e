/- Joined texts: Registers that an instruction needs; does it leave? Package instr.; Registers that an instruction needs; does it leave? The reference. -/
import Derived.Test.YtfnfcngkaepnjaaGreatDoorQL15
import Derived.Test.YtfnfcngkaepnjaaGreatDoorQL20
/- Registers that an instruction needs; does it leave? Package instr. -/
namespace Go.Proofs.YtfnfcngkaepnjaaGreatDoor
set_option linter.unusedVariables false
set_option linter.unusedSimpArgs false
open Go Go.Proofs Go.RowKit

/-- What the registers' parts need. -/
def regStep (a b c m : Int) (n : Int) (p : Part) : Int := if p.mark.data.toList = [114] then max n (getF p a b c m + 1) else n
def regsP (ps : List Part) (a b c m : Int) : Int := ps.foldl (regStep a b c m) 0
theorem regsP_take (ps : List Part) (a b c m : Int) (k : Nat) (hk : k < ps.length) : regsP (ps.take (k + 1)) a b c m = regStep a b c m (regsP (ps.take k) a b c m) ps[k] := by
  unfold regsP
  rw [← List.take_append_getElem hk, List.foldl_append]
  rfl
/-- How many registers an instruction needs. -/
def regsI (op a b c m : Int) : Int := if op = 8 ∨ op = 10 then max (regsP ((namedL.lookup op).getD []) a b c m) (b + c) else regsP ((namedL.lookup op).getD []) a b c m
def regsF (op a b c m : Int) : Int := if rightF op a b c m = true then regsI op a b c m else 0
/-- Does it leave? -/
def leavesF (op a b c m : Int) : Bool := rightF op a b c m && (decide (op = 4) || decide (op = 9))

theorem regStep_bd {a b c m n : Int} {p : Part} (ha : 0 ≤ a ∧ a < 16) (hb : 0 ≤ b ∧ b < 16) (hc : 0 ≤ c ∧ c ≤ 16) (hm : 0 ≤ m ∧ m < 4294967296) (hn : 0 ≤ n ∧ n ≤ 4294967296) : 0 ≤ regStep a b c m n p ∧ regStep a b c m n p ≤ 4294967296 := by
  have := getF_bd p a b c m ⟨by omega, by omega⟩ ⟨by omega, by omega⟩ ⟨by omega, by omega⟩ hm
  unfold regStep
  split <;> omega
theorem regsP_bd {a b c m : Int} (ps : List Part) (ha : 0 ≤ a ∧ a < 16) (hb : 0 ≤ b ∧ b < 16) (hc : 0 ≤ c ∧ c ≤ 16) (hm : 0 ≤ m ∧ m < 4294967296) : 0 ≤ regsP ps a b c m ∧ regsP ps a b c m ≤ 4294967296 := by
  unfold regsP
  have : ∀ (ps : List Part) (n : Int), 0 ≤ n ∧ n ≤ 4294967296 → 0 ≤ ps.foldl (regStep a b c m) n ∧ ps.foldl (regStep a b c m) n ≤ 4294967296 := by
    intro ps
    induction ps with
    | nil => exact fun n h => h
    | cons p ps ih => exact fun n h => ih _ (regStep_bd ha hb hc hm h)
  exact this ps 0 ⟨by omega, by omega⟩

set_option maxRecDepth 100000 in
set_option maxHeartbeats 4000000 in
theorem insRegs_any (op a b c m : Int) (hm : 0 ≤ m ∧ m < 4294967296) (w : World) :
    Calls Tryz.prog 226 #[insV op a b c m] w fun e w' => e = .returned (.int .i64 (regsF op a b c m)) ∧ Below w.heap.size w w' := by
  have CR := Lib.hid fun W => insRight_any op a b c m hm W
  unfold regsF
  cases hr : rightF op a b c m with
  | false =>
    rw [hr] at CR
    clear hr
    unfold insV at CR ⊢
    go_enter Tryz.func226, Tryz.ntmps226
    go_wp2_with (go_at_call 103; refine (CR.out _).mono ?_; rintro e w1 ⟨rfl, hb1⟩)
    go_ret
    exact ⟨rfl, belT (bel1 _) hb1⟩
  | true =>
    obtain ⟨hop, ha, hb, hc⟩ := rightF_bd hr
    rw [hr] at CR
    have HRG := Lib.hid (show regsI op a b c m = if op = 8 ∨ op = 10 then max (regsP ((namedL.lookup op).getD []) a b c m) (b + c) else regsP ((namedL.lookup op).getD []) a b c m from rfl)
    rw [if_pos rfl]
    generalize regsI op a b c m = rg at HRG ⊢
    clear hr
    unfold insV at CR ⊢
    have hI := Bare.new op a b c m w 29
    have hB := bel1 (W := w) (.cells #[.int .i64 op, .int .i64 a, .int .i64 b, .int .i64 c, .int .u32 m] 29)
    go_enter Tryz.func226, Tryz.ntmps226
    go_wp2_with fail
    generalize w.alloc _ = V at hI hB ⊢
    refine (CR.out _).mono ?_
    rintro e w1 ⟨rfl, hb1⟩
    have hI := hI.bel hb1
    have hB := belT hB hb1
    clear hb1 CR
    have i0 := hI.c0
    go_wp2_with (go_at_call 84; refine (named_any _ _).mono ?_; rintro e w2 ⟨v, rfl, hb2, hv⟩; obtain ⟨ao, rfl, hat⟩ := hv.cells; have hl4 := named_short op; have HP := Lib.hid (named_parts op); generalize (namedL.lookup op).getD [] = ps at hv hat hl4 HP HRG ⊢; have HAT := Lib.hid hat; clear hat hv)
    have hI := hI.bel hb2
    have hB := belT hB hb2
    clear hb2 i0
    go_loopw [2, 12] (fun vn vi wr => ∃ (k : Nat) (n : Int), vi = .int .i64 k ∧ vn = .int .i64 n ∧ k ≤ ps.length ∧ Hid (n = regsP (ps.take k) a b c m) ∧ Hid (Below w2.heap.size w2 wr)) (fun _ vi _ => ps.length - (intOf vi).toNat)
    case atStart => exact ⟨0, 0, rfl, rfl, by omega, Lib.hid rfl, Lib.hid (Below.refl _ _)⟩
    case round =>
      obtain ⟨k, n, rfl, rfl, hk, HN, HBr⟩ := hrel
      have hI := hI.bel HBr.out
      have hB := hB.trans (HBr.out.mono hB.size)
      have hnb : 0 ≤ n ∧ n ≤ 4294967296 := by have := HN.out; have := regsP_bd (ps.take k) ha hb hc hm; omega
      by_cases hlt : k < ps.length
      · obtain ⟨r, rfl, x0, x1, x2, x3⟩ := HAT.out k hlt
        have x0 := cell_bel x0 HBr.out
        have x1 := cell_bel x1 HBr.out
        have x2 := cell_bel x2 HBr.out
        have x3 := cell_bel x3 HBr.out
        have hp := HP.out ps[k] (List.getElem_mem _)
        have hst := Lib.hid (regsP_take ps a b c m k hlt)
        generalize hpk : ps[k] = p at x0 x1 x2 x3 hp hst
        obtain ⟨eg, ep⟩ := part_enters hp
        have hgb := getF_bd p a b c m ⟨by omega, by omega⟩ ⟨by omega, by omega⟩ ⟨by omega, by omega⟩ ⟨by omega, by omega⟩
        have CG := Lib.hid fun W => part_get hp op a b c m ⟨by omega, by omega⟩ ⟨by omega, by omega⟩ ⟨by omega, by omega⟩ ⟨by omega, by omega⟩ W
        unfold regStep at hst
        generalize getF p a b c m = x at hst hgb CG
        unfold insV at CG
        have HB2 := Lib.hid (HBr.out.alloc HBr.out.size (.cells p.cells.toArray 144))
        have hI := hI.bel (bel1 (.cells p.cells.toArray 144))
        have p1 := cell_new wr p.cells.toArray 144 1
        have p2 := cell_new wr p.cells.toArray 144 2
        dsimp only [Part.cells] at p1 p2 hI HB2
        simp only [List.getElem?_toArray, List.getElem?_cons_succ, List.getElem?_cons_zero] at p1 p2
        obtain ⟨i0, i1, i2, i3, i4, _, _, _, _⟩ := id hI
        dsimp only at i1 i2 i3 i4
        have hgk : ∃ q : List UInt8, q = p.mark.data.toList := ⟨_, rfl⟩
        by_cases hmk : p.mark.data.toList = [114]
        · rw [if_pos hmk] at hst
          have hst1 := Lib.hid (show regsP (ps.take (k + 1)) a b c m = max (regsP (ps.take k) a b c m) (x + 1) from hst.out)
          clear hst
          have hq : (p.mark.toList == [114]) = true := by rw [toList_data, hmk]; rfl
          clear hmk hgk
          go_wp2_with ((with_reducible refine (CG.out _).mono ?_); rintro e w5 ⟨rfl, hb5⟩)
          exact ⟨⟨k + 1, max n (x + 1), by go_num, by first | rfl | go_num, by omega, Lib.hid (by rw [hst1.out, ← HN.out]), Lib.hid (HB2.out.trans (hb5.mono HB2.out.size))⟩, by simp [intOf]; omega⟩
        · rw [if_neg hmk] at hst
          have hst1 := Lib.hid (show regsP (ps.take (k + 1)) a b c m = regsP (ps.take k) a b c m from hst.out)
          clear hst
          have hq : (p.mark.toList == [114]) = false := by rw [toList_data]; exact beq_eq_false_iff_ne.2 hmk
          clear hmk hgk
          go_wp2_with fail
          exact ⟨⟨k + 1, n, by go_num, rfl, by omega, Lib.hid (by rw [hst1.out, ← HN.out]), HB2⟩, by simp [intOf]; omega⟩
      · have hk2 : k = ps.length := by omega
        subst hk2
        have HN := Lib.hid (show n = regsP ps a b c m by have := HN.out; rwa [List.take_length] at this)
        obtain ⟨i0, i1, i2, i3, i4, _, _, _, _⟩ := id hI
        dsimp only at i1 i2 i3 i4
        clear hlt hk HAT HP
        by_cases h8 : op = 8 ∨ op = 10
        · have hmem : decide (op ∈ [(8 : Int), 10]) = true := by simpa using h8
          have HRG := Lib.hid (show rg = max n (b + c) by have h1 := HRG.out; rw [if_pos h8] at h1; rw [h1, HN.out])
          clear h8
          go_wp2_with (go_at_call 159; refine (amongOp_any [8, 10] _ op _ (by decide) ?_).mono ?_; (intro j hj; (have : j = 0 ∨ j = 1 := by simp at hj; omega); (rcases this with rfl | rfl <;> exact cell_new _ _ _ _)); rintro e w6 ⟨rfl, rfl⟩; have i0 := cell_al i0 (.cells #[.int .i64 8, .int .i64 10] 26); have i2 := cell_al i2 (.cells #[.int .i64 8, .int .i64 10] 26); have i3 := cell_al i3 (.cells #[.int .i64 8, .int .i64 10] 26); rw [hmem])
          go_ret
          exact ⟨ret_int HRG.out.symm, belA hB _⟩
        · have hmem : decide (op ∈ [(8 : Int), 10]) = false := by simpa using h8
          have HRG := Lib.hid (show rg = n by have h1 := HRG.out; rw [if_neg h8] at h1; rw [h1, HN.out])
          clear h8
          go_wp2_with (go_at_call 159; refine (amongOp_any [8, 10] _ op _ (by decide) ?_).mono ?_; (intro j hj; (have : j = 0 ∨ j = 1 := by simp at hj; omega); (rcases this with rfl | rfl <;> exact cell_new _ _ _ _)); rintro e w6 ⟨rfl, rfl⟩; rw [hmem])
          go_ret
          exact ⟨ret_int HRG.out.symm, belA hB _⟩

set_option maxRecDepth 100000 in
set_option maxHeartbeats 1000000 in
theorem insLeaves_any (op a b c m : Int) (hm : 0 ≤ m ∧ m < 4294967296) (w : World) :
    Calls Tryz.prog 227 #[insV op a b c m] w fun e w' => e = .returned (.bool (leavesF op a b c m)) ∧ Below w.heap.size w w' := by
  have CR := Lib.hid fun W => insRight_any op a b c m hm W
  unfold leavesF
  have hB := bel1 (W := w) (.cells #[.int .i64 op, .int .i64 a, .int .i64 b, .int .i64 c, .int .u32 m] 29)
  have i0 := (Bare.new op a b c m w 29).c0
  unfold insV at CR ⊢
  cases hr : rightF op a b c m with
  | false =>
    rw [hr] at CR
    rw [Bool.false_and]
    clear hr
    go_enter Tryz.func227, Tryz.ntmps227
    go_wp2_with (go_at_call 103; refine (CR.out _).mono ?_; rintro e w1 ⟨rfl, hb1⟩)
    go_ret
    exact ⟨rfl, belT hB hb1⟩
  | true =>
    rw [hr] at CR
    rw [Bool.true_and]
    clear hr
    have hmem : decide (op ∈ [(4 : Int), 9]) = (decide (op = 4) || decide (op = 9)) := by simp
    generalize (decide (op = 4) || decide (op = 9)) = q at hmem ⊢
    go_enter Tryz.func227, Tryz.ntmps227
    go_wp2_with (first
      | (go_at_call 103; refine (CR.out _).mono ?_; rintro e w1 ⟨rfl, hb1⟩; have i0 := cell_bel i0 hb1; have hB := belT hB hb1)
      | (go_at_call 159; refine (amongOp_any [4, 9] _ op _ (by decide) ?_).mono ?_; (intro j hj; (have : j = 0 ∨ j = 1 := by simp at hj; omega); (rcases this with rfl | rfl <;> exact cell_new _ _ _ _)); rintro e w6 ⟨rfl, rfl⟩; rw [hmem]))
    go_ret
    exact ⟨rfl, belA hB _⟩
end Go.Proofs.YtfnfcngkaepnjaaGreatDoor

/- Registers that an instruction needs; does it leave? The reference. -/
namespace Go.Proofs.YtfnfcngkaepnjaaGreatDoor
set_option linter.unusedVariables false
set_option linter.unusedSimpArgs false
open Go Go.Proofs Go.RowKit

def stepR (x : Bool) (n y : Int) : Int := if x then max n y else n
def regsR (op a b c : Int) : Int := stepR (inR op 107) (stepR (inR op 110) (stepR (inR op 98) (if inR op 97 then a + 1 else 0) (b + 1)) (b + c)) (c + 1)

theorem regsR_F (op a b c m : Int) (hop : 1 ≤ op ∧ op ≤ 19) (ha : 0 ≤ a ∧ a < 16) (hb : 0 ≤ b ∧ b < 16) (hc : 0 ≤ c ∧ c ≤ 16) : regsR op a b c = regsI op a b c m := by
  obtain ⟨n, rfl⟩ : ∃ n : Nat, op = n := ⟨op.toNat, by omega⟩
  have hn : n = 1 ∨ n = 2 ∨ n = 3 ∨ n = 4 ∨ n = 5 ∨ n = 6 ∨ n = 7 ∨ n = 8 ∨ n = 9 ∨ n = 10 ∨ n = 11 ∨ n = 12 ∨ n = 13 ∨ n = 14 ∨ n = 15 ∨ n = 16 ∨ n = 17 ∨ n = 18 ∨ n = 19 := by omega
  have hI : ∀ k : Nat, ∀ c, inR (k : Int) c = (namesR (k : Int)).data.toList.any fun x => decide (x.toNat = c) := fun _ _ => rfl
  rcases hn with rfl | rfl | rfl | rfl | rfl | rfl | rfl | rfl | rfl | rfl | rfl | rfl | rfl | rfl | rfl | rfl | rfl | rfl | rfl
  all_goals simp [regsR, stepR, inR, namesR, namesRL, regsI, regsP, regStep, namedL, List.lookup, getF, pA, pB, pC, pM, pI]
  all_goals try omega

set_option maxRecDepth 100000 in
set_option maxHeartbeats 4000000 in
theorem rRegs_any (op a b c m : Int) (hm : 0 ≤ m ∧ m < 4294967296) (w : World) :
    Calls Tryz.prog 185 #[insV op a b c m] w fun e w' => e = .returned (.int .i64 (regsF op a b c m)) ∧ Below w.heap.size w w' := by
  have CR := Lib.hid fun W => rRight_F op a b c m hm W
  unfold regsF
  have hB := bel1 (W := w) (.cells #[.int .i64 op, .int .i64 a, .int .i64 b, .int .i64 c, .int .u32 m] 29)
  obtain ⟨i0, i1, i2, i3, i4, _, _, _, _⟩ := Bare.new op a b c m w 29
  dsimp only at i1 i2 i3 i4
  cases hr : rightF op a b c m with
  | false =>
    rw [hr] at CR
    clear hr
    unfold insV at CR ⊢
    go_enter Tryz.func185, Tryz.ntmps185
    go_wp2_with (go_at_call 46; refine (CR.out _).mono ?_; rintro e w1 ⟨rfl, hb1⟩)
    go_ret
    exact ⟨rfl, belT hB hb1⟩
  | true =>
    obtain ⟨hop, ha, hb, hc⟩ := rightF_bd hr
    rw [hr] at CR
    rw [if_pos rfl]
    have HQ := Lib.hid (regsR_F op a b c m hop ha hb hc)
    generalize regsI op a b c m = rg at HQ ⊢
    unfold regsR stepR at HQ
    clear hr hop
    unfold insV at CR ⊢
    have CA := Lib.hid (rIn97 op)
    have CB := Lib.hid (rIn98 op)
    have CN := Lib.hid (rIn110 op)
    have CK := Lib.hid (rIn107 op)
    generalize inR op 97 = A at CA HQ
    generalize inR op 98 = B at CB HQ
    generalize inR op 110 = N at CN HQ
    generalize inR op 107 = K at CK HQ
    cases A <;> cases B <;> cases N <;> cases K
    all_goals (
      go_enter Tryz.func185, Tryz.ntmps185
      go_wp2_with (first
        | (go_at_call 46; refine (CR.out _).mono ?_; rintro e w1 ⟨rfl, hb1⟩; have i1 := cell_bel i1 hb1; have i2 := cell_bel i2 hb1; have i3 := cell_bel i3 hb1; have hB := belT hB hb1)
        | ((with_reducible refine (CA.out _).mono ?_); rintro e w2 ⟨rfl, hb2⟩; have i1 := cell_bel i1 hb2; have i2 := cell_bel i2 hb2; have i3 := cell_bel i3 hb2; have hB := belT hB hb2)
        | ((with_reducible refine (CB.out _).mono ?_); rintro e w3 ⟨rfl, hb3⟩; have i2 := cell_bel i2 hb3; have i3 := cell_bel i3 hb3; have hB := belT hB hb3)
        | ((with_reducible refine (CN.out _).mono ?_); rintro e w4 ⟨rfl, hb4⟩; have i2 := cell_bel i2 hb4; have i3 := cell_bel i3 hb4; have hB := belT hB hb4)
        | ((with_reducible refine (CK.out _).mono ?_); rintro e w5 ⟨rfl, hb5⟩; have i3 := cell_bel i3 hb5; have hB := belT hB hb5))
      go_ret
      exact ⟨ret_int (by have := HQ.out; simp only [Bool.false_eq_true, if_true, if_false, if_pos, if_neg] at this; omega), hB⟩
      )

set_option maxRecDepth 100000 in
set_option maxHeartbeats 1000000 in
theorem rLeaves_any (op a b c m : Int) (hm : 0 ≤ m ∧ m < 4294967296) (w : World) :
    Calls Tryz.prog 186 #[insV op a b c m] w fun e w' => e = .returned (.bool (leavesF op a b c m)) ∧ Below w.heap.size w w' := by
  have CR := Lib.hid fun W => rRight_F op a b c m hm W
  unfold leavesF
  have hB := bel1 (W := w) (.cells #[.int .i64 op, .int .i64 a, .int .i64 b, .int .i64 c, .int .u32 m] 29)
  have i0 := (Bare.new op a b c m w 29).c0
  unfold insV at CR ⊢
  cases hr : rightF op a b c m with
  | false =>
    rw [hr] at CR
    rw [Bool.false_and]
    clear hr
    go_enter Tryz.func186, Tryz.ntmps186
    go_wp2_with (go_at_call 46; refine (CR.out _).mono ?_; rintro e w1 ⟨rfl, hb1⟩)
    go_ret
    exact ⟨rfl, belT hB hb1⟩
  | true =>
    rw [hr] at CR
    rw [Bool.true_and]
    clear hr
    go_enter Tryz.func186, Tryz.ntmps186
    go_wp2_with (go_at_call 46; refine (CR.out _).mono ?_; rintro e w1 ⟨rfl, hb1⟩; have i0 := cell_bel i0 hb1; have hB := belT hB hb1)
    all_goals go_ret
    all_goals exact ⟨ret_bool (by rw [Bool.eq_iff_iff]; first | (simp; done) | (simp; omega)), hB⟩
end Go.Proofs.YtfnfcngkaepnjaaGreatDoor
