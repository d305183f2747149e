/- Joined texts: right: may an instruction be?; right: every instruction; Check. -/
import Derived.Test.YtfnfcngkaepnjaaGreatDoorQL4
/- right: may an instruction be? -/
namespace Go.Proofs.YtfnfcngkaepnjaaGreatDoor
set_option linter.unusedVariables false
open Go Go.Proofs Go.RowKit

set_option maxRecDepth 100000 in
set_option maxHeartbeats 16000000 in
theorem right_in (op a b c m : Int) (h1 : 1 ≤ op ∧ op ≤ 19) (ha : 0 ≤ a ∧ a < 16) (hb : 0 ≤ b ∧ b < 16) (hc : 0 ≤ c ∧ c ≤ 16) (hm : 0 ≤ m ∧ m < 4294967296) (w : World) :
    Calls Tryz.prog 103 #[insV op a b c m] w fun e w' => e = .returned (.bool (rightF op a b c m)) ∧ Below w.heap.size w w' := by
  have HR := Lib.hid (rightF_in op a b c m h1 ha hb hc)
  generalize rightF op a b c m = rr at HR ⊢
  obtain ⟨h1, h2⟩ := h1
  obtain ⟨a1, a2⟩ := ha
  obtain ⟨b1, b2⟩ := hb
  obtain ⟨c1, c2⟩ := hc
  obtain ⟨m1, m2⟩ := hm
  unfold insV
  go_enter Tryz.func103, Tryz.ntmps103
  go_wp2_with (first
    | (go_at_call 102; refine (is_any _ _).mono ?_; rintro e w1 ⟨rfl, rfl⟩)
    | (go_at_call 84; refine (named_any _ _).mono ?_; rintro e w2 ⟨v, rfl, hb2, hv⟩; obtain ⟨ao, rfl, hat⟩ := hv.cells; have hl4 := named_short op; have HP := Lib.hid (named_parts op); generalize (namedL.lookup op).getD [] = ps at hv hat hl4 HP HR ⊢; have HAT := Lib.hid hat; clear hat hv))
  have hI : Bare w.heap.size op (a, b, c, m) w2 := Bare.bel (Bare.bel (Bare.new op a b c m w _) (bel1 _)) hb2
  have hQ : Bare (w.heap.size + 1) op (0, 0, 0, 0) w2 := by
    have := Bare.new op 0 0 0 0 (w.alloc (.cells #[.int .i64 op, .int .i64 a, .int .i64 b, .int .i64 c, .int .u32 m] 29)) 29
    rw [World.size_alloc] at this
    exact Bare.bel this hb2
  have hbW : Below w.heap.size w w2 := (belA (bel1 _) _).trans (hb2.mono (by simp; omega))
  have hne : ∀ r, (∃ k, ∃ hk : k < ps.length, ao = some ⟨r, 0, none⟩) → r ≠ w.heap.size + 1 := by
    rintro r ⟨k, hk, hr⟩ rfl
    obtain ⟨r', hr', _, x1, _⟩ := HAT.out 0 (by omega)
    rw [hr] at hr'
    cases hr'
    have x2 := hQ.c1
    simp only [Nat.zero_mul, Nat.zero_add] at x1
    rw [x1] at x2
    cases x2
  have hsz2 : Hid (w.heap.size + 1 < w2.heap.size) := Lib.hid (by have := hb2.size; simp at this; omega)
  have HNE := Lib.hid hne
  clear hne hb2
  go_loopw [49] (fun vi wr => ∃ k : Nat, vi = .int .i64 k ∧ k ≤ ps.length ∧ Bare w.heap.size op (a, b, c, m) wr ∧ Bare (w.heap.size + 1) op (putsF (a, b, c, m) (ps.take k)) wr ∧ Below w.heap.size w wr ∧ Touch (fun b => b = w.heap.size + 1) w2 wr) (fun vi _ => ps.length - (intOf vi).toNat)
  case atStart => exact ⟨0, rfl, by omega, hI, hQ, hbW, Touch.refl _ _⟩
  case round =>
    obtain ⟨k, rfl, hk, hi, hq, hbr, htr⟩ := hrel
    by_cases hlt : k < ps.length
    · obtain ⟨r, rfl, x0, x1, x2, x3⟩ := HAT.out k hlt
      have hrn := HNE.out r ⟨k, hlt, rfl⟩
      have x0 := cell_touch x0 htr hrn
      have x1 := cell_touch x1 htr hrn
      have x2 := cell_touch x2 htr hrn
      have x3 := cell_touch x3 htr hrn
      have hp := HP.out ps[k] (List.getElem_mem _)
      have hst : Hid (putsF (a, b, c, m) (ps.take (k + 1)) = putF ps[k] (a, b, c, m) (putsF (a, b, c, m) (ps.take k))) := Lib.hid (putsF_take _ ps k hlt)
      generalize hpk : ps[k] = p at x0 x1 x2 x3 hp hst
      rw [putF_N] at hst
      obtain ⟨eg, ep⟩ := part_enters hp
      have hgb := getF_bd p a b c m ⟨by omega, by omega⟩ ⟨by omega, by omega⟩ ⟨by omega, by omega⟩ ⟨by omega, by omega⟩
      have CG := Lib.hid fun W => part_get hp op a b c m ⟨by omega, by omega⟩ ⟨by omega, by omega⟩ ⟨by omega, by omega⟩ ⟨by omega, by omega⟩ W
      generalize getF p a b c m = x at hst hgb CG
      have CP := Lib.hid fun W h => part_put hp (w.heap.size + 1) op x (putsF (a, b, c, m) (ps.take k)) hgb W h
      unfold insV at CG
      go_wp2
      have hbo : ∀ o, Below wr.heap.size wr (wr.alloc o) := fun o => bel1 o
      have p2 := cell_new wr p.cells.toArray 144 2
      have p3 := cell_new wr p.cells.toArray 144 3
      have hi := Bare.bel hi (hbo (.cells p.cells.toArray 144))
      have hq := Bare.bel hq (hbo (.cells p.cells.toArray 144))
      have htr := htr.trans (Touch.below (hbo (.cells p.cells.toArray 144)))
      have hbr := hbr.trans ((hbo (.cells p.cells.toArray 144)).mono hbr.size)
      dsimp only [Part.cells] at p2 p3 hi hq htr hbr
      simp only [List.getElem?_toArray, List.getElem?_cons_succ, List.getElem?_cons_zero] at p2 p3
      generalize wr.alloc _ = V at p2 p3 hi hq htr hbr ⊢
      have i0 := hi.c0
      have i1 := hi.c1
      have i2 := hi.c2
      have i3 := hi.c3
      have i4 := hi.c4
      dsimp only at i1 i2 i3 i4
      go_region_with (first | ((with_reducible refine (CG.out _).mono ?_); rintro e w5 ⟨rfl, hb5⟩; have p3 := cell_bel (w := V.drew) p3 hb5; have hq5 := Bare.bel hq.drew hb5) | ((with_reducible refine (CP.out _ hq5).mono ?_); rintro e w6 ⟨rfl, hq6, o6, v6, rfl, _⟩))
      all_goals go_wp2
      all_goals
        have hi' := (Bare.bel hi.drew hb5).far (B' := w.heap.size + 1) (o := o6) (v := v6) (by omega)
        refine ⟨⟨k + 1, by go_num, by omega, hi', ?_, ?_, ?_⟩, by simp [intOf]; omega⟩
        · rw [hst.out]
          exact hq6
        · exact ((hbr.drew).trans (hb5.mono (Nat.le_trans hbr.size (Nat.le_refl _)))).setCell (by simp) _
        · exact htr.trans ((Touch.drew _ V).trans ((Touch.below hb5).trans (Touch.setCell _ _ _ rfl)))
    · have hk2 : k = ps.length := by omega
      subst hk2
      rw [List.take_length] at hq
      obtain ⟨s1, s2, s3, s4, hs⟩ : ∃ s1 s2 s3 s4, putsF (a, b, c, m) ps = (s1, s2, s3, s4) := ⟨_, _, _, _, rfl⟩
      rw [hs] at hq
      have HS := Lib.hid hs
      clear hs
      obtain ⟨q0, q1, q2, q3, q4, _, _, _, _⟩ := hq
      obtain ⟨i0, i1, i2, i3, i4, _, _, _, _⟩ := hi
      dsimp only at q1 q2 q3 q4 i1 i2 i3 i4
      have hcmp := ins_ne op s1 s2 s3 s4 op a b c m
      by_cases hx : s1 = a ∧ s2 = b ∧ s3 = c ∧ s4 = m
      · obtain ⟨rfl, rfl, rfl, rfl⟩ := hx
        simp only [decide_true, Bool.and_self, Bool.not_true] at hcmp
        have HE := Lib.hid (show rr = restF op s2 s3 s4 by rw [HR.out, HS.out]; simp)
        go_wp2_with (first
          | (go_at_call 159; refine (amongOp_any [8, 10] _ op _ (by decide) ?_).mono ?_; (intro j hj; (have : j = 0 ∨ j = 1 := by simp at hj; omega); (rcases this with rfl | rfl <;> exact cell_new _ _ _ _)); rintro e w6 ⟨rfl, rfl⟩; have i0 := cell_al i0 (.cells #[.int .i64 8, .int .i64 10] 26); have i2 := cell_al i2 (.cells #[.int .i64 8, .int .i64 10] 26); have i3 := cell_al i3 (.cells #[.int .i64 8, .int .i64 10] 26); have i4 := cell_al i4 (.cells #[.int .i64 8, .int .i64 10] 26))
          | (go_at_call 159; refine (amongOp_any [4, 5] _ op _ (by decide) ?_).mono ?_; (intro j hj; (have : j = 0 ∨ j = 1 := by simp at hj; omega); (rcases this with rfl | rfl <;> exact cell_two wr (.cells #[.int .i64 8, .int .i64 10] 26) #[.int .i64 4, .int .i64 5] 26 _)); rintro e w7 ⟨rfl, rfl⟩; have i0 := cell_al i0 (.cells #[.int .i64 4, .int .i64 5] 26); have i3 := cell_al i3 (.cells #[.int .i64 4, .int .i64 5] 26); have i4 := cell_al i4 (.cells #[.int .i64 4, .int .i64 5] 26))
          | (go_at_call 141; refine (kindName_any _ _).mono ?_; rintro e w8 ⟨s, nn, hN, rfl, hb8⟩; have i3 := cell_bel i3 hb8))
        · have h8 : op = 8 ∨ op = 10 := by assumption
          have h9 : s2 + s3 ≤ 16 := by omega
          exact bodyPost_ret (v := .bool (decide (s4 < 32))) (by simp [results, Tryz.results103, go_sem]) rfl ⟨ret_bool (by rw [HE.out, restF, if_pos h8]; simp [h9]), hbr.trans ((bel1 _).mono hbr.size)⟩
        · have h8 : op = 8 ∨ op = 10 := by assumption
          have h9 : ¬ s2 + s3 ≤ 16 := by omega
          exact bodyPost_ret (v := .bool false) (by simp [results, Tryz.results103, go_sem]) rfl ⟨ret_bool (by rw [HE.out, restF, if_pos h8]; simp [h9]), hbr.trans ((bel1 _).mono hbr.size)⟩
        · have h4 : op = 4 ∨ op = 5 := by assumption
          have h8 : ¬ (op = 8 ∨ op = 10) := by omega
          exact bodyPost_ret (v := .bool (decide (s4 < 512))) (by simp [results, Tryz.results103, go_sem]) rfl ⟨ret_bool (by rw [HE.out, restF, if_neg h8, if_pos h4]), hbr.trans ((belA (bel1 _) _).mono hbr.size)⟩
        · have h8 : ¬ (op = 8 ∨ op = 10) := by omega
          have h4 : ¬ (op = 4 ∨ op = 5) := by omega
          have h3 : op = 3 := by simp_all
          have hn0 : nn = 0 := by assumption
          have hm : 1 ≤ s4 ∧ s4 ≤ 12 := by
            rcases hN with ⟨j, hj, e1, _, _⟩ | ⟨_, _, e2⟩ <;> omega
          exact bodyPost_ret (v := .bool (decide (s3 < 16))) (by simp [results, Tryz.results103, go_sem]) rfl ⟨ret_bool (by rw [HE.out, restF, if_neg h8, if_neg h4, if_pos h3]; simp [hm]), hbr.trans (((belA (bel1 _) _).mono hbr.size).trans (hb8.mono (by have := hbr.size; simp; omega)))⟩
        · have h8 : ¬ (op = 8 ∨ op = 10) := by omega
          have h4 : ¬ (op = 4 ∨ op = 5) := by omega
          have h3 : op = 3 := by simp_all
          have hn0 : ¬ nn = 0 := by assumption
          have hm : ¬ (1 ≤ s4 ∧ s4 ≤ 12) := by
            rcases hN with ⟨_, _, _, _, e2⟩ | ⟨hall, _, _⟩
            · omega
            · intro hm
              exact hall (s4 - 1).toNat (by omega) (by omega)
          exact bodyPost_ret (v := .bool false) (by simp [results, Tryz.results103, go_sem]) rfl ⟨ret_bool (by rw [HE.out, restF, if_neg h8, if_neg h4, if_pos h3]; simp [hm]), hbr.trans (((belA (bel1 _) _).mono hbr.size).trans (hb8.mono (by have := hbr.size; simp; omega)))⟩
        · have h8 : ¬ (op = 8 ∨ op = 10) := by omega
          have h4 : ¬ (op = 4 ∨ op = 5) := by omega
          have h3 : ¬ op = 3 := by
            have h3' : (op == 3) = false := by assumption
            simpa using h3'
          exact bodyPost_ret (v := .bool true) (by simp [results, Tryz.results103, go_sem]) rfl ⟨ret_bool (by rw [HE.out, restF, if_neg h8, if_neg h4, if_neg h3]), hbr.trans ((belA (bel1 _) _).mono hbr.size)⟩
      · have hn : (!(decide (op = op) && decide (s1 = a) && decide (s2 = b) && decide (s3 = c) && decide (s4 = m))) = true := by
          rcases Decidable.em (s1 = a) with e1 | e1 <;> rcases Decidable.em (s2 = b) with e2 | e2 <;> rcases Decidable.em (s3 = c) with e3 | e3 <;> rcases Decidable.em (s4 = m) with e4 | e4 <;> first | (simp [e1, e2, e3, e4]; done) | exact (hx ⟨e1, e2, e3, e4⟩).elim
        rw [hn] at hcmp
        have HX := Lib.hid hx
        clear hn hx
        go_wp2
        exact bodyPost_ret (v := .bool false) (by simp [results, Tryz.results103, go_sem]) rfl ⟨ret_bool (by rw [HR.out, HS.out]; simp [HX.out]), hbr⟩
end Go.Proofs.YtfnfcngkaepnjaaGreatDoor

/- right: every instruction; Check. -/
namespace Go.Proofs.YtfnfcngkaepnjaaGreatDoor
set_option linter.unusedVariables false
open Go Go.Proofs Go.RowKit

set_option maxRecDepth 100000 in
set_option maxHeartbeats 4000000 in
theorem right_out (op a b c m : Int) (h : ¬ ((1 ≤ op ∧ op ≤ 19) ∧ (0 ≤ a ∧ a < 16) ∧ (0 ≤ b ∧ b < 16) ∧ (0 ≤ c ∧ c ≤ 16))) (w : World) :
    Calls Tryz.prog 103 #[insV op a b c m] w fun e w' => e = .returned (.bool false) ∧ Below w.heap.size w w' := by
  by_cases h1 : 1 ≤ op ∧ op ≤ 19
  · by_cases ha : a < 0
    · clear h
      obtain ⟨h1, h2⟩ := h1
      unfold insV
      go_enter Tryz.func103, Tryz.ntmps103
      go_wp2_with (go_at_call 102; refine (is_any _ _).mono ?_; rintro e w1 ⟨rfl, rfl⟩)
      exact bodyPost_ret (v := .bool false) (by simp [results, Tryz.results103, go_sem]) rfl ⟨rfl, bel1 _⟩
    · by_cases hb : b < 0
      · clear h
        obtain ⟨h1, h2⟩ := h1
        have ha : 0 ≤ a := by omega
        unfold insV
        go_enter Tryz.func103, Tryz.ntmps103
        go_wp2_with (go_at_call 102; refine (is_any _ _).mono ?_; rintro e w1 ⟨rfl, rfl⟩)
        exact bodyPost_ret (v := .bool false) (by simp [results, Tryz.results103, go_sem]) rfl ⟨rfl, bel1 _⟩
      · by_cases hc : c < 0
        · clear h
          obtain ⟨h1, h2⟩ := h1
          have ha : 0 ≤ a := by omega
          have hb : 0 ≤ b := by omega
          unfold insV
          go_enter Tryz.func103, Tryz.ntmps103
          go_wp2_with (go_at_call 102; refine (is_any _ _).mono ?_; rintro e w1 ⟨rfl, rfl⟩)
          exact bodyPost_ret (v := .bool false) (by simp [results, Tryz.results103, go_sem]) rfl ⟨rfl, bel1 _⟩
        · by_cases ha2 : 16 ≤ a
          · clear h
            obtain ⟨h1, h2⟩ := h1
            have ha : 0 ≤ a := by omega
            have hb : 0 ≤ b := by omega
            have hc : 0 ≤ c := by omega
            unfold insV
            go_enter Tryz.func103, Tryz.ntmps103
            go_wp2_with (go_at_call 102; refine (is_any _ _).mono ?_; rintro e w1 ⟨rfl, rfl⟩)
            exact bodyPost_ret (v := .bool false) (by simp [results, Tryz.results103, go_sem]) rfl ⟨rfl, bel1 _⟩
          · by_cases hb2 : 16 ≤ b
            · clear h
              obtain ⟨h1, h2⟩ := h1
              have ha : 0 ≤ a := by omega
              have hb : 0 ≤ b := by omega
              have hc : 0 ≤ c := by omega
              have ha2 : a < 16 := by omega
              unfold insV
              go_enter Tryz.func103, Tryz.ntmps103
              go_wp2_with (go_at_call 102; refine (is_any _ _).mono ?_; rintro e w1 ⟨rfl, rfl⟩)
              exact bodyPost_ret (v := .bool false) (by simp [results, Tryz.results103, go_sem]) rfl ⟨rfl, bel1 _⟩
            · have hc2 : 16 < c := by
                rcases Int.lt_or_le 16 c with h' | h'
                · exact h'
                · exact (h ⟨h1, ⟨by omega, by omega⟩, ⟨by omega, by omega⟩, by omega, h'⟩).elim
              clear h
              obtain ⟨h1, h2⟩ := h1
              have ha : 0 ≤ a := by omega
              have hb : 0 ≤ b := by omega
              have hc : 0 ≤ c := by omega
              have ha2 : a < 16 := by omega
              have hb2 : b < 16 := by omega
              unfold insV
              go_enter Tryz.func103, Tryz.ntmps103
              go_wp2_with (go_at_call 102; refine (is_any _ _).mono ?_; rintro e w1 ⟨rfl, rfl⟩)
              exact bodyPost_ret (v := .bool false) (by simp [results, Tryz.results103, go_sem]) rfl ⟨rfl, bel1 _⟩
  · have hd : decide (1 ≤ op ∧ op ≤ 19) = false := by simpa using h1
    clear h h1
    unfold insV
    go_enter Tryz.func103, Tryz.ntmps103
    go_wp2_with (go_at_call 102; refine (is_any _ _).mono ?_; rintro e w1 ⟨rfl, rfl⟩)
    exact bodyPost_ret (v := .bool false) (by simp [results, Tryz.results103, go_sem]) rfl ⟨rfl, bel1 _⟩

theorem rightF_out (op a b c m : Int) (h : ¬ ((1 ≤ op ∧ op ≤ 19) ∧ (0 ≤ a ∧ a < 16) ∧ (0 ≤ b ∧ b < 16) ∧ (0 ≤ c ∧ c ≤ 16))) : rightF op a b c m = false := by
  cases hr : rightF op a b c m with
  | false => rfl
  | true =>
    exfalso
    unfold rightF at hr
    simp only [Bool.and_eq_true, decide_eq_true_eq] at hr
    exact h ⟨hr.1.1.1.1, hr.1.1.1.2, hr.1.1.2, hr.1.2⟩
theorem rightF_bd {op a b c m : Int} (h : rightF op a b c m = true) : (1 ≤ op ∧ op ≤ 19) ∧ (0 ≤ a ∧ a < 16) ∧ (0 ≤ b ∧ b < 16) ∧ (0 ≤ c ∧ c ≤ 16) := by
  rcases Decidable.em ((1 ≤ op ∧ op ≤ 19) ∧ (0 ≤ a ∧ a < 16) ∧ (0 ≤ b ∧ b < 16) ∧ (0 ≤ c ∧ c ≤ 16)) with h' | h'
  · exact h'
  · rw [rightF_out _ _ _ _ _ h'] at h; cases h

theorem insRight_any (op a b c m : Int) (hm : 0 ≤ m ∧ m < 4294967296) (w : World) :
    Calls Tryz.prog 103 #[insV op a b c m] w fun e w' => e = .returned (.bool (rightF op a b c m)) ∧ Below w.heap.size w w' := by
  rcases Decidable.em ((1 ≤ op ∧ op ≤ 19) ∧ (0 ≤ a ∧ a < 16) ∧ (0 ≤ b ∧ b < 16) ∧ (0 ≤ c ∧ c ≤ 16)) with h | h
  · exact right_in op a b c m h.1 h.2.1 h.2.2.1 h.2.2.2 hm w
  · rw [rightF_out _ _ _ _ _ h]
    exact right_out op a b c m h w

/-- Check. -/
def insCheckF (op a b c m : Int) : Int := if rightF op a b c m = true then 0 else 2
theorem insCheck_any (op a b c m : Int) (hm : 0 ≤ m ∧ m < 4294967296) (w : World) :
    Calls Tryz.prog 42 #[insV op a b c m] w fun e w' => e = .returned (.int .i64 (insCheckF op a b c m)) ∧ Below w.heap.size w w' := by
  unfold insCheckF
  have C := Lib.hid fun W => insRight_any op a b c m hm W
  unfold insV at C ⊢
  cases hr : rightF op a b c m
  · rw [hr] at C
    go_enter Tryz.func42, Tryz.ntmps42
    go_wp2_with (go_at_call 103; refine (C.out _).mono ?_; rintro e w1 ⟨rfl, hb1⟩)
    go_ret
    exact ⟨rfl, belT (bel1 _) hb1⟩
  · rw [hr] at C
    go_enter Tryz.func42, Tryz.ntmps42
    go_wp2_with (go_at_call 103; refine (C.out _).mono ?_; rintro e w1 ⟨rfl, hb1⟩)
    go_ret
    exact ⟨rfl, belT (bel1 _) hb1⟩
end Go.Proofs.YtfnfcngkaepnjaaGreatDoor
