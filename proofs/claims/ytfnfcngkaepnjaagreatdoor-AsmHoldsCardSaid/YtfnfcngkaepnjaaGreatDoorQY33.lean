/- Joined texts: The reference of layer 8: Read, of any bytes. -/
import Derived.Test.YtfnfcngkaepnjaaGreatDoorQY32
/- The reference of layer 8: Read, of any bytes. -/
namespace Go.Proofs.YtfnfcngkaepnjaaGreatDoor
set_option linter.unusedVariables false
open Go Go.Proofs Go.RowKit

set_option maxRecDepth 100000 in
set_option maxHeartbeats 1000000 in
theorem rRead_nil (ao : Option Addr) (c : Nat) (w : World) :
    Calls Tryz.prog 11 #[.slice ao 0 c] w fun e w' => e = .returned (readV 0 0 0 0 0 0 110) ∧ Below w.heap.size w w' := by
  obtain ⟨V, hV⟩ : ∃ V, V = readV 0 0 0 0 0 0 110 := ⟨_, rfl⟩
  rw [← hV]
  have HV := Lib.hid hV
  clear hV
  have hR := Bare.new 0 0 0 0 0 w 29
  have fR := World.frozen?_alloc_new w #[.int .i64 0, .int .i64 0, .int .i64 0, .int .i64 0, .int .u32 0] 29 0
  have hB := bel1 (W := w) (.cells #[.int .i64 0, .int .i64 0, .int .i64 0, .int .i64 0, .int .u32 0] 29)
  go_enter Tryz.func11, Tryz.ntmps11
  obtain ⟨r0, r1, r2, r3, r4, g1, g2, g3, g4⟩ := hR
  dsimp only at r1 r2 r3 r4
  go_wp2_with fail
  exact bodyPost_ret (v := readV 0 0 0 0 0 0 110) (by simp [results, Tryz.results11, go_sem, r0, r1, r2, r3, r4, readV, insV]) rfl ⟨by rw [HV.out] <;> rfl, hB⟩

set_option maxRecDepth 100000 in
set_option maxHeartbeats 1000000 in
theorem rRead_out (x : Nat) (L : List Nat) (h0 : L.getD 0 0 = x) (hx : ¬ (1 ≤ x ∧ x ≤ 19)) (hl : 0 < L.length) (b o c : Nat) (hc : L.length ≤ c) (hcm : c ≤ 9223372036854775807) (w : World) (hH : HasB w b o L) :
    Calls Tryz.prog 11 #[.slice (some ⟨b, o, none⟩) L.length c] w fun e w' => e = .returned (readV 0 0 0 0 0 0 180) ∧ Below w.heap.size w w' := by
  obtain ⟨V, hV⟩ : ∃ V, V = readV 0 0 0 0 0 0 180 := ⟨_, rfl⟩
  rw [← hV]
  have HV := Lib.hid hV
  clear hV
  have hx256 : x < 256 := by rw [← h0]; exact getD_lt L hH.1 0
  have hc0 : w.cell? ⟨b, o, none⟩ = some (.int .u8 (x : Nat)) := by have h1 := hH.2 0 (by omega); rwa [h0] at h1
  have hc0 := cell_al hc0 (.cells #[.int .i64 0, .int .i64 0, .int .i64 0, .int .i64 0, .int .u32 0] 29)
  have hR := Bare.new 0 0 0 0 0 w 29
  have fR := World.frozen?_alloc_new w #[.int .i64 0, .int .i64 0, .int .i64 0, .int .i64 0, .int .u32 0] 29 0
  have hB := bel1 (W := w) (.cells #[.int .i64 0, .int .i64 0, .int .i64 0, .int .i64 0, .int .u32 0] 29)
  have hL0 : (L.length == 0) = false := beq_eq_false_iff_ne.2 (by omega)
  have hL1 : ((L.length : Int) == 0) = false := beq_eq_false_iff_ne.2 (by omega)
  clear h0 hH
  by_cases h1 : (x : Int) < 1
  · clear hx
    go_enter Tryz.func11, Tryz.ntmps11
    obtain ⟨r0, r1, r2, r3, r4, g1, g2, g3, g4⟩ := hR
    dsimp only at r1 r2 r3 r4
    go_wp2_with fail
    exact bodyPost_ret (v := readV 0 0 0 0 0 0 180) (by simp [results, Tryz.results11, go_sem, r0, r1, r2, r3, r4, readV, insV]) rfl ⟨by rw [HV.out] <;> rfl, hB⟩
  · have h2 : 19 < (x : Int) := by omega
    have h1 : 1 ≤ (x : Int) := by omega
    clear hx
    go_enter Tryz.func11, Tryz.ntmps11
    obtain ⟨r0, r1, r2, r3, r4, g1, g2, g3, g4⟩ := hR
    dsimp only at r1 r2 r3 r4
    go_wp2_with fail
    exact bodyPost_ret (v := readV 0 0 0 0 0 0 180) (by simp [results, Tryz.results11, go_sem, r0, r1, r2, r3, r4, readV, insV]) rfl ⟨by rw [HV.out] <;> rfl, hB⟩

set_option maxRecDepth 100000 in
set_option maxHeartbeats 1000000 in
theorem rRead_short (x : Nat) (L : List Nat) (h0 : L.getD 0 0 = x) (hx : 1 ≤ x ∧ x ≤ 19) (hl : 0 < L.length) (hs : L.length < (bytesR x 0 0 0 0).length) (b o c : Nat) (hc : L.length ≤ c) (hcm : c ≤ 9223372036854775807) (w : World) (hH : HasB w b o L) :
    Calls Tryz.prog 11 #[.slice (some ⟨b, o, none⟩) L.length c] w fun e w' => e = .returned (readV 0 0 0 0 0 0 110) ∧ Below w.heap.size w w' := by
  obtain ⟨V, hV⟩ : ∃ V, V = readV 0 0 0 0 0 0 110 := ⟨_, rfl⟩
  rw [← hV]
  have HV := Lib.hid hV
  clear hV
  have hc0 : w.cell? ⟨b, o, none⟩ = some (.int .u8 (x : Nat)) := by have h1 := hH.2 0 (by omega); rwa [h0] at h1
  have hbw := lt_of_cell hc0
  have CB := Lib.hid fun W => rBytes_any x 0 0 0 0 ⟨by omega, by omega⟩ ⟨by omega, by omega⟩ ⟨by omega, by omega⟩ ⟨by omega, by omega⟩ (by omega) W
  generalize bytesR x 0 0 0 0 = LB at CB hs
  unfold insV at CB
  obtain ⟨x1, x2⟩ := hx
  have hL0 : (L.length == 0) = false := beq_eq_false_iff_ne.2 (by omega)
  have hL1 : ((L.length : Int) == 0) = false := beq_eq_false_iff_ne.2 (by omega)
  have hR := Bare.new 0 0 0 0 0 w 29
  have fR := World.frozen?_alloc_new w #[.int .i64 0, .int .i64 0, .int .i64 0, .int .i64 0, .int .u32 0] 29 0
  have hB := bel1 (W := w) (.cells #[.int .i64 0, .int .i64 0, .int .i64 0, .int .i64 0, .int .u32 0] 29)
  clear h0 hH
  go_enter Tryz.func11, Tryz.ntmps11
  go_wp2_with fail
  have hR0 := hR.c0
  have fR := froz_bel hR0 fR (bel1 (.cells #[.int .i64 x, .int .i64 0, .int .i64 0, .int .i64 0, .int .u32 0] 29))
  have hR := hR.bel (bel1 (.cells #[.int .i64 x, .int .i64 0, .int .i64 0, .int .i64 0, .int .u32 0] 29))
  have hB := belA hB (.cells #[.int .i64 x, .int .i64 0, .int .i64 0, .int .i64 0, .int .u32 0] 29)
  have hR0 := hR.c0
  clear hc0
  generalize World.alloc _ _ = U at hR fR hB hR0 ⊢
  refine (CB.out _).mono ?_
  rintro e wi ⟨v6, rfl, hO6, hbi⟩
  obtain ⟨a6, c6, rfl⟩ := hO6.form
  have fR := froz_bel hR0 fR hbi
  have hR := hR.bel hbi
  have hB := belT hB hbi
  clear hO6 CB hR0 hbi
  have hs : (L.length : Int) < (LB.length : Int) := by omega
  have HSET := Lib.hid (Bare.set hR 0 0 0 0 0)
  have HBS := Lib.hid (((((hB.setCell (p := ⟨w.heap.size, 0, none⟩) (Nat.le_refl _) (.int .i64 0)).setCell (p := ⟨w.heap.size, 1, none⟩) (Nat.le_refl _) (.int .i64 0)).setCell (p := ⟨w.heap.size, 2, none⟩) (Nat.le_refl _) (.int .i64 0)).setCell (p := ⟨w.heap.size, 3, none⟩) (Nat.le_refl _) (.int .i64 0)).setCell (p := ⟨w.heap.size, 4, none⟩) (Nat.le_refl _) (.int .u32 0))
  obtain ⟨r0, r1, r2, r3, r4, g1, g2, g3, g4⟩ := hR
  dsimp only at r1 r2 r3 r4
  clear hB
  go_wp2_with fail
  obtain ⟨e0, e1, e2, e3, e4, _, _, _, _⟩ := HSET.out
  have hBS := HBS.out
  clear HSET HBS
  generalize ((((World.setCell _ _ _).setCell _ _).setCell _ _).setCell _ _).setCell _ _ = W5 at e0 e1 e2 e3 e4 hBS ⊢
  exact bodyPost_ret (v := readV 0 0 0 0 0 0 110) (by simp [results, Tryz.results11, go_sem, e0, e1, e2, e3, e4, readV, insV]) rfl ⟨by rw [HV.out] <;> rfl, hBS⟩

theorem many_is : ∀ x : Nat, 1 ≤ x → x ≤ 19 → (bytesR x 0 0 0 0).length = 1 + wideF ((namedL.lookup (x : Int)).getD []) := by
  have h : ((List.range 20).all fun x => decide (x < 1) || decide ((bytesR (x : Nat) 0 0 0 0).length = 1 + wideF ((namedL.lookup ((x : Nat) : Int)).getD []))) = true := by decide +kernel
  intro x h1 h2
  have := List.all_eq_true.1 h x (List.mem_range.2 (by omega))
  rw [decide_eq_false (by omega), Bool.false_or] at this
  exact of_decide_eq_true this

/-- The reference's Read tells what the program's tells. -/
theorem rRead_any (l : List Nat) (hl : l.length ≤ 9223372036854775000) (v : Value) (w : World) (hv : ArgB w v l) :
    Calls Tryz.prog 11 #[v] w fun e w' => e = .returned (readF l) ∧ Below w.heap.size w w' := by
  cases l with
  | nil =>
    obtain ⟨a, c, rfl⟩ := hv.form
    exact rRead_nil a c w
  | cons x t =>
    obtain ⟨b, o, c, rfl, hc, hcm, hH⟩ : ∃ b o c, v = .slice (some ⟨b, o, none⟩) (x :: t).length c ∧ (x :: t).length ≤ c ∧ c ≤ 9223372036854775807 ∧ HasB w b o (x :: t) := by
      rcases hv with ⟨_, h⟩ | ⟨ad, c, h, h1, h2, h3⟩
      · cases h
      · obtain ⟨b, o, rfl, hB⟩ := h3 (by simp)
        exact ⟨b, o, c, h, h1, h2, hB⟩
    have h0 : (x :: t).getD 0 0 = x := rfl
    by_cases hx : 1 ≤ x ∧ x ≤ 19
    · by_cases hs : (x :: t).length < (bytesR x 0 0 0 0).length
      · have hF : readF (x :: t) = readV 0 0 0 0 0 0 110 := by
          simp only [readF]
          rw [if_pos (by omega), if_pos (by rw [← many_is x hx.1 hx.2]; exact hs)]
        rw [hF]
        exact rRead_short x _ h0 hx (by simp) hs b o c hc hcm w hH
      · have hm : (bytesR x 0 0 0 0).length ≤ (x :: t).length := by omega
        have : x = 1 ∨ x = 2 ∨ x = 3 ∨ x = 4 ∨ x = 5 ∨ x = 6 ∨ x = 7 ∨ x = 8 ∨ x = 9 ∨ x = 10 ∨ x = 11 ∨ x = 12 ∨ x = 13 ∨ x = 14 ∨ x = 15 ∨ x = 16 ∨ x = 17 ∨ x = 18 ∨ x = 19 := by omega
        rcases this with rfl | rfl | rfl | rfl | rfl | rfl | rfl | rfl | rfl | rfl | rfl | rfl | rfl | rfl | rfl | rfl | rfl | rfl | rfl
        · exact ra1 _ hl h0 (by rw [show (bytesR ((1 : Nat) : Int) 0 0 0 0).length = 6 by decide +kernel] at hm; exact hm) b o c hc hcm w hH
        · exact ra2 _ hl h0 (by rw [show (bytesR ((2 : Nat) : Int) 0 0 0 0).length = 3 by decide +kernel] at hm; exact hm) b o c hc hcm w hH
        · exact ra3 _ hl h0 (by rw [show (bytesR ((3 : Nat) : Int) 0 0 0 0).length = 8 by decide +kernel] at hm; exact hm) b o c hc hcm w hH
        · exact ra4 _ hl h0 (by rw [show (bytesR ((4 : Nat) : Int) 0 0 0 0).length = 5 by decide +kernel] at hm; exact hm) b o c hc hcm w hH
        · exact ra5 _ hl h0 (by rw [show (bytesR ((5 : Nat) : Int) 0 0 0 0).length = 6 by decide +kernel] at hm; exact hm) b o c hc hcm w hH
        · exact ra6 _ hl h0 (by rw [show (bytesR ((6 : Nat) : Int) 0 0 0 0).length = 3 by decide +kernel] at hm; exact hm) b o c hc hcm w hH
        · exact ra7 _ hl h0 (by rw [show (bytesR ((7 : Nat) : Int) 0 0 0 0).length = 3 by decide +kernel] at hm; exact hm) b o c hc hcm w hH
        · exact ra8 _ hl h0 (by rw [show (bytesR ((8 : Nat) : Int) 0 0 0 0).length = 8 by decide +kernel] at hm; exact hm) b o c hc hcm w hH
        · exact ra9 _ hl h0 (by rw [show (bytesR ((9 : Nat) : Int) 0 0 0 0).length = 2 by decide +kernel] at hm; exact hm) b o c hc hcm w hH
        · exact ra10 _ hl h0 (by rw [show (bytesR ((10 : Nat) : Int) 0 0 0 0).length = 7 by decide +kernel] at hm; exact hm) b o c hc hcm w hH
        · exact ra11 _ hl h0 (by rw [show (bytesR ((11 : Nat) : Int) 0 0 0 0).length = 2 by decide +kernel] at hm; exact hm) b o c hc hcm w hH
        · exact ra12 _ hl h0 (by rw [show (bytesR ((12 : Nat) : Int) 0 0 0 0).length = 2 by decide +kernel] at hm; exact hm) b o c hc hcm w hH
        · exact ra13 _ hl h0 (by rw [show (bytesR ((13 : Nat) : Int) 0 0 0 0).length = 2 by decide +kernel] at hm; exact hm) b o c hc hcm w hH
        · exact ra14 _ hl h0 (by rw [show (bytesR ((14 : Nat) : Int) 0 0 0 0).length = 2 by decide +kernel] at hm; exact hm) b o c hc hcm w hH
        · exact ra15 _ hl h0 (by rw [show (bytesR ((15 : Nat) : Int) 0 0 0 0).length = 2 by decide +kernel] at hm; exact hm) b o c hc hcm w hH
        · exact ra16 _ hl h0 (by rw [show (bytesR ((16 : Nat) : Int) 0 0 0 0).length = 2 by decide +kernel] at hm; exact hm) b o c hc hcm w hH
        · exact ra17 _ hl h0 (by rw [show (bytesR ((17 : Nat) : Int) 0 0 0 0).length = 3 by decide +kernel] at hm; exact hm) b o c hc hcm w hH
        · exact ra18 _ hl h0 (by rw [show (bytesR ((18 : Nat) : Int) 0 0 0 0).length = 2 by decide +kernel] at hm; exact hm) b o c hc hcm w hH
        · exact ra19 _ hl h0 (by rw [show (bytesR ((19 : Nat) : Int) 0 0 0 0).length = 1 by decide +kernel] at hm; exact hm) b o c hc hcm w hH
    · have hF : readF (x :: t) = readV 0 0 0 0 0 0 180 := by
        simp only [readF]
        rw [if_neg (by omega)]
      rw [hF]
      exact rRead_out x _ h0 hx (by simp) b o c hc hcm w hH
end Go.Proofs.YtfnfcngkaepnjaaGreatDoor
