/- Joined texts: The reference of layer 8: Read. -/
import Derived.Test.YtfnfcngkaepnjaaGreatDoorQY26
import Derived.Test.YtfnfcngkaepnjaaGreatDoorQY30
/- The reference of layer 8: Read. -/
namespace Go.Proofs.YtfnfcngkaepnjaaGreatDoor
set_option linter.unusedVariables false
open Go Go.Proofs Go.RowKit

/-- What Read tells of what was put together. -/
def rdV (op a b c m : Int) (many : Nat) : Value := if rightF op a b c m = true then readV op a b c m many 0 else readV 0 0 0 0 0 0 180
set_option maxRecDepth 100000 in
set_option maxHeartbeats 4000000 in
theorem rdAI (x y1 n : Nat) (L : List Nat) (hL : L.length ≤ 9223372036854775000) (h0 : L.getD 0 0 = x) (hx : 1 ≤ x ∧ x ≤ 19) (hmany : 6 ≤ L.length) (Hy1 : Hid (L.getD 1 0 = y1 ∧ y1 < 256)) (by1 : y1 < 256) (Hn : Hid (leN (L.drop 2) 4 = n ∧ n < 4294967296)) (bn : n < 4294967296) (b o c : Nat) (hc : L.length ≤ c) (hcm : c ≤ 9223372036854775807) (w : World) (hH : HasB w b o L)
    (e1 : inR x 97 = true) (e2 : inR x 98 = false) (e3 : inR x 110 = false) (e4 : inR x 107 = false) (e5 : inR x 105 = true) (e6 : inR x 102 = false) (hlen : (bytesR x 0 0 0 0).length = 6) :
    Calls Tryz.prog 11 #[.slice (some ⟨b, o, none⟩) L.length c] w fun e w' => e = .returned (rdV x y1 0 0 n 6) ∧ Below w.heap.size w w' := by
  have I1 := Lib.hid (rIn97 x)
  rw [e1] at I1
  have I2 := Lib.hid (rIn98 x)
  rw [e2] at I2
  have I3 := Lib.hid (rIn110 x)
  rw [e3] at I3
  have I4 := Lib.hid (rIn107 x)
  rw [e4] at I4
  have I5 := Lib.hid (rIn105 x)
  rw [e5] at I5
  have I6 := Lib.hid (rIn102 x)
  rw [e6] at I6
  clear e1 e2 e3 e4 e5 e6
  have CB := Lib.hid fun W => rBytes_any x 0 0 0 0 ⟨by omega, by omega⟩ ⟨by omega, by omega⟩ ⟨by omega, by omega⟩ ⟨by omega, by omega⟩ (by omega) W
  generalize bytesR x 0 0 0 0 = LB at CB hlen
  unfold insV at CB
  have CX0 := Lib.hid fun W => rRight_any x y1 0 0 n ⟨by omega, by omega⟩ W
  rw [rightR_F _ _ _ _ _ (by omega)] at CX0
  obtain ⟨V, hV⟩ : ∃ V, V = rdV x y1 0 0 n 6 := ⟨_, rfl⟩
  rw [← hV]
  have HV := Lib.hid hV
  clear hV
  unfold rdV at HV
  generalize rightF x y1 0 0 n = rt at CX0 HV
  unfold insV at CX0
  have hc0 : w.cell? ⟨b, o, none⟩ = some (.int .u8 (x : Nat)) := by have h1 := hH.2 0 (by omega); rwa [h0] at h1
  have hbw := lt_of_cell hc0
  have hlt := hH.1
  have HLT := Lib.hid hlt
  clear hlt h0
  have hL0 : (L.length == 0) = false := beq_eq_false_iff_ne.2 (by omega)
  have hL1 : ((L.length : Int) == 0) = false := beq_eq_false_iff_ne.2 (by omega)
  obtain ⟨x1, x2⟩ := hx
  go_enter Tryz.func11, Tryz.ntmps11
  go_wp2_with fail
  have hR := Bare.new 0 0 0 0 0 w 29
  have fR := World.frozen?_alloc_new w #[.int .i64 0, .int .i64 0, .int .i64 0, .int .i64 0, .int .u32 0] 29 0
  have hR0 := hR.c0
  have fR := froz_bel hR0 fR (bel1 (.cells #[.int .i64 x, .int .i64 0, .int .i64 0, .int .i64 0, .int .u32 0] 29))
  have hR := hR.bel (bel1 (.cells #[.int .i64 x, .int .i64 0, .int .i64 0, .int .i64 0, .int .u32 0] 29))
  have hI := Bare.new x 0 0 0 0 (w.alloc (.cells #[.int .i64 0, .int .i64 0, .int .i64 0, .int .i64 0, .int .u32 0] 29)) 29
  simp only [World.size_alloc] at hI
  have hB := belA (bel1 (W := w) (.cells #[.int .i64 0, .int .i64 0, .int .i64 0, .int .i64 0, .int .u32 0] 29)) (.cells #[.int .i64 x, .int .i64 0, .int .i64 0, .int .i64 0, .int .u32 0] 29)
  have hH := hH.bel hB
  have hR0 := hR.c0
  clear hc0
  generalize World.alloc _ _ = U at hR fR hI hB hH hR0 ⊢
  refine (CB.out _).mono ?_
  rintro e wi ⟨v6, rfl, hO6, hbi⟩
  obtain ⟨a6, c6, rfl⟩ := hO6.form
  rw [hlen]
  clear hO6 hlen CB
  have hR := hR.bel hbi
  have fR := froz_bel hR0 fR hbi
  have hR0 := hR.c0
  have hI := hI.bel hbi
  have hH := hH.bel hbi
  have hB := belT hB hbi
  clear hbi
  have hmz : ¬ (L.length : Int) < 6 := by omega
  go_wp2_with fail
  refine (I1.out _).mono ?_
  rintro e wi ⟨rfl, hbi⟩
  have hR := hR.bel hbi
  have fR := froz_bel hR0 fR hbi
  have hR0 := hR.c0
  have hI := hI.bel hbi
  have hH := hH.bel hbi
  have hB := belT hB hbi
  have i0 := hI.c0
  have i1 := hI.c1
  have i2 := hI.c2
  have i3 := hI.c3
  have i4 := hI.c4
  have j1 := hI.f1
  have j2 := hI.f2
  have j3 := hI.f3
  have j4 := hI.f4
  dsimp only at i1 i2 i3 i4
  clear hbi
  have hx : wi.cell? ⟨b, o + 1, none⟩ = some (.int .u8 (y1 : Nat)) := by have h1 := hH.2 1 (by omega); rwa [Hy1.out.1] at h1
  have hk : (1 : Int) < (L.length : Int) := by omega
  go_wp2_with fail
  have hI := hI.put1 (v := (y1 : Int))
  have hR := hR.far (B' := w.heap.size + 1) (o := 1) (v := .int .i64 (y1 : Int)) (by omega)
  have fR : (wi.setCell ⟨w.heap.size + 1, 1, none⟩ (.int .i64 (y1 : Int))).frozen? ⟨w.heap.size, 0, none⟩ = false := (World.frozen?_setCell ..).trans fR
  have hH := hH.touch (T := fun k => k = w.heap.size + 1) (Touch.setCell (T := fun k => k = w.heap.size + 1) wi ⟨w.heap.size + 1, 1, none⟩ (.int .i64 (y1 : Int)) rfl) (by omega)
  have hB := hB.setCell (p := ⟨w.heap.size + 1, 1, none⟩) (by simp) (.int .i64 (y1 : Int))
  dsimp only at hI
  clear hx i0 i1 i2 i3 i4 j1 j2 j3 j4
  generalize wi.setCell ⟨w.heap.size + 1, 1, none⟩ (.int .i64 (y1 : Int)) = wi at hI hR fR hH hB ⊢
  have hR0 := hR.c0
  refine (I2.out _).mono ?_
  rintro e wi ⟨rfl, hbi⟩
  have hR := hR.bel hbi
  have fR := froz_bel hR0 fR hbi
  have hR0 := hR.c0
  have hI := hI.bel hbi
  have hH := hH.bel hbi
  have hB := belT hB hbi
  have i0 := hI.c0
  have i1 := hI.c1
  have i2 := hI.c2
  have i3 := hI.c3
  have i4 := hI.c4
  have j1 := hI.f1
  have j2 := hI.f2
  have j3 := hI.f3
  have j4 := hI.f4
  dsimp only at i1 i2 i3 i4
  clear hbi
  go_wp2_with fail
  refine (I3.out _).mono ?_
  rintro e wi ⟨rfl, hbi⟩
  have hR := hR.bel hbi
  have fR := froz_bel hR0 fR hbi
  have hR0 := hR.c0
  have hI := hI.bel hbi
  have hH := hH.bel hbi
  have hB := belT hB hbi
  have i0 := hI.c0
  have i1 := hI.c1
  have i2 := hI.c2
  have i3 := hI.c3
  have i4 := hI.c4
  have j1 := hI.f1
  have j2 := hI.f2
  have j3 := hI.f3
  have j4 := hI.f4
  dsimp only at i1 i2 i3 i4
  clear hbi
  go_wp2_with fail
  refine (I4.out _).mono ?_
  rintro e wi ⟨rfl, hbi⟩
  have hR := hR.bel hbi
  have fR := froz_bel hR0 fR hbi
  have hR0 := hR.c0
  have hI := hI.bel hbi
  have hH := hH.bel hbi
  have hB := belT hB hbi
  have i0 := hI.c0
  have i1 := hI.c1
  have i2 := hI.c2
  have i3 := hI.c3
  have i4 := hI.c4
  have j1 := hI.f1
  have j2 := hI.f2
  have j3 := hI.f3
  have j4 := hI.f4
  dsimp only at i1 i2 i3 i4
  clear hbi
  go_wp2_with fail
  refine (I5.out _).mono ?_
  rintro e wi ⟨rfl, hbi⟩
  have hR := hR.bel hbi
  have fR := froz_bel hR0 fR hbi
  have hR0 := hR.c0
  have hI := hI.bel hbi
  have hH := hH.bel hbi
  have hB := belT hB hbi
  have i0 := hI.c0
  have i1 := hI.c1
  have i2 := hI.c2
  have i3 := hI.c3
  have i4 := hI.c4
  have j1 := hI.f1
  have j2 := hI.f2
  have j3 := hI.f3
  have j4 := hI.f4
  dsimp only at i1 i2 i3 i4
  clear hbi
  have hsl : ∀ w, (Instr.slice 22 (.slice (some ⟨b, o, none⟩) L.length c) (some (.int .i64 2)) none none).run Tryz.prog w = .ok (.slice (some ⟨b, o + 2, none⟩) (L.length - 2) (c - 2)) w := slice_from b o L.length c 2 (by omega) (by omega)
  have CR := Lib.hid (rRead_four b (o + 2) (c - 2) (L.drop 2) (by rw [List.length_drop]; omega) wi (hH.drop 2))
  rw [List.length_drop, Hn.out.1] at CR
  go_wp2_with fail
  refine CR.out.mono ?_
  rintro e wj ⟨rfl, rfl⟩
  go_wp2_with fail
  have hI := hI.put4 (v := (n : Int))
  have hR := hR.far (B' := w.heap.size + 1) (o := 4) (v := .int .u32 (n : Int)) (by omega)
  have fR : (wi.setCell ⟨w.heap.size + 1, 4, none⟩ (.int .u32 (n : Int))).frozen? ⟨w.heap.size, 0, none⟩ = false := (World.frozen?_setCell ..).trans fR
  have hB := hB.setCell (p := ⟨w.heap.size + 1, 4, none⟩) (by simp) (.int .u32 (n : Int))
  dsimp only at hI
  clear hH i0 i1 i2 i3 i4 j1 j2 j3 j4
  generalize wi.setCell ⟨w.heap.size + 1, 4, none⟩ (.int .u32 (n : Int)) = wi at hI hR fR hB ⊢
  have hR0 := hR.c0
  refine (CX0.out _).mono ?_
  rintro e wk ⟨rfl, hbk⟩
  have hR := hR.bel hbk
  have fR := froz_bel hR0 fR hbk
  have hI := hI.bel hbk
  have hB := belT hB hbk
  clear hbk hR0 CX0
  cases rt with
  | false =>
    have HV2 := Lib.hid (HV.out.trans (if_neg (by decide)))
    clear HV
    have HSET := Lib.hid (Bare.set hR 0 0 0 0 0)
    have HBS := Lib.hid (((((hB.setCell (p := ⟨w.heap.size, 0, none⟩) (Nat.le_refl _) (.int .i64 0)).setCell (p := ⟨w.heap.size, 1, none⟩) (Nat.le_refl _) (.int .i64 0)).setCell (p := ⟨w.heap.size, 2, none⟩) (Nat.le_refl _) (.int .i64 0)).setCell (p := ⟨w.heap.size, 3, none⟩) (Nat.le_refl _) (.int .i64 0)).setCell (p := ⟨w.heap.size, 4, none⟩) (Nat.le_refl _) (.int .u32 0))
    obtain ⟨r0, r1, r2, r3, r4, g1, g2, g3, g4⟩ := hR
    obtain ⟨i0, i1, i2, i3, i4, _, _, _, _⟩ := hI
    dsimp only at r1 r2 r3 r4 i1 i2 i3 i4
    clear hB
    go_wp2_with fail
    obtain ⟨e0, e1, e2, e3, e4, _, _, _, _⟩ := HSET.out
    have hBS := HBS.out
    clear HSET HBS
    generalize ((((World.setCell _ _ _).setCell _ _).setCell _ _).setCell _ _).setCell _ _ = W5 at e0 e1 e2 e3 e4 hBS ⊢
    exact bodyPost_ret (v := readV 0 0 0 0 0 0 180) (by simp [results, Tryz.results11, go_sem, e0, e1, e2, e3, e4, readV, insV]) rfl ⟨by rw [HV2.out] <;> rfl, hBS⟩
  | true =>
    have HV2 := Lib.hid (HV.out.trans (if_pos rfl))
    clear HV
    have HSET := Lib.hid (Bare.set hR (x:Int) (y1:Int) 0 0 (n:Int))
    have HBS := Lib.hid (((((hB.setCell (p := ⟨w.heap.size, 0, none⟩) (Nat.le_refl _) (.int .i64 (x:Int))).setCell (p := ⟨w.heap.size, 1, none⟩) (Nat.le_refl _) (.int .i64 (y1:Int))).setCell (p := ⟨w.heap.size, 2, none⟩) (Nat.le_refl _) (.int .i64 0)).setCell (p := ⟨w.heap.size, 3, none⟩) (Nat.le_refl _) (.int .i64 0)).setCell (p := ⟨w.heap.size, 4, none⟩) (Nat.le_refl _) (.int .u32 (n:Int)))
    obtain ⟨r0, r1, r2, r3, r4, g1, g2, g3, g4⟩ := hR
    obtain ⟨i0, i1, i2, i3, i4, _, _, _, _⟩ := hI
    dsimp only at r1 r2 r3 r4 i1 i2 i3 i4
    clear hB
    go_wp2_with fail
    obtain ⟨e0, e1, e2, e3, e4, _, _, _, _⟩ := HSET.out
    have hBS := HBS.out
    clear HSET HBS
    generalize ((((World.setCell _ _ _).setCell _ _).setCell _ _).setCell _ _).setCell _ _ = W5 at e0 e1 e2 e3 e4 hBS ⊢
    exact bodyPost_ret (v := readV (x:Int) (y1:Int) 0 0 (n:Int) 6 0) (by simp [results, Tryz.results11, go_sem, e0, e1, e2, e3, e4, readV, insV]) rfl ⟨by rw [HV2.out] <;> rfl, hBS⟩

set_option maxRecDepth 100000 in
set_option maxHeartbeats 4000000 in
theorem rdAB (x y1 y2  : Nat) (L : List Nat) (hL : L.length ≤ 9223372036854775000) (h0 : L.getD 0 0 = x) (hx : 1 ≤ x ∧ x ≤ 19) (hmany : 3 ≤ L.length) (Hy1 : Hid (L.getD 1 0 = y1 ∧ y1 < 256)) (by1 : y1 < 256) (Hy2 : Hid (L.getD 2 0 = y2 ∧ y2 < 256)) (by2 : y2 < 256) (b o c : Nat) (hc : L.length ≤ c) (hcm : c ≤ 9223372036854775807) (w : World) (hH : HasB w b o L)
    (e1 : inR x 97 = true) (e2 : inR x 98 = true) (e3 : inR x 110 = false) (e4 : inR x 107 = false) (e5 : inR x 105 = false) (e6 : inR x 102 = false) (hlen : (bytesR x 0 0 0 0).length = 3) :
    Calls Tryz.prog 11 #[.slice (some ⟨b, o, none⟩) L.length c] w fun e w' => e = .returned (rdV x y1 y2 0 0 3) ∧ Below w.heap.size w w' := by
  have I1 := Lib.hid (rIn97 x)
  rw [e1] at I1
  have I2 := Lib.hid (rIn98 x)
  rw [e2] at I2
  have I3 := Lib.hid (rIn110 x)
  rw [e3] at I3
  have I4 := Lib.hid (rIn107 x)
  rw [e4] at I4
  have I5 := Lib.hid (rIn105 x)
  rw [e5] at I5
  have I6 := Lib.hid (rIn102 x)
  rw [e6] at I6
  clear e1 e2 e3 e4 e5 e6
  have CB := Lib.hid fun W => rBytes_any x 0 0 0 0 ⟨by omega, by omega⟩ ⟨by omega, by omega⟩ ⟨by omega, by omega⟩ ⟨by omega, by omega⟩ (by omega) W
  generalize bytesR x 0 0 0 0 = LB at CB hlen
  unfold insV at CB
  have CX0 := Lib.hid fun W => rRight_any x y1 y2 0 0 ⟨by omega, by omega⟩ W
  rw [rightR_F _ _ _ _ _ (by omega)] at CX0
  obtain ⟨V, hV⟩ : ∃ V, V = rdV x y1 y2 0 0 3 := ⟨_, rfl⟩
  rw [← hV]
  have HV := Lib.hid hV
  clear hV
  unfold rdV at HV
  generalize rightF x y1 y2 0 0 = rt at CX0 HV
  unfold insV at CX0
  have hc0 : w.cell? ⟨b, o, none⟩ = some (.int .u8 (x : Nat)) := by have h1 := hH.2 0 (by omega); rwa [h0] at h1
  have hbw := lt_of_cell hc0
  have hlt := hH.1
  have HLT := Lib.hid hlt
  clear hlt h0
  have hL0 : (L.length == 0) = false := beq_eq_false_iff_ne.2 (by omega)
  have hL1 : ((L.length : Int) == 0) = false := beq_eq_false_iff_ne.2 (by omega)
  obtain ⟨x1, x2⟩ := hx
  go_enter Tryz.func11, Tryz.ntmps11
  go_wp2_with fail
  have hR := Bare.new 0 0 0 0 0 w 29
  have fR := World.frozen?_alloc_new w #[.int .i64 0, .int .i64 0, .int .i64 0, .int .i64 0, .int .u32 0] 29 0
  have hR0 := hR.c0
  have fR := froz_bel hR0 fR (bel1 (.cells #[.int .i64 x, .int .i64 0, .int .i64 0, .int .i64 0, .int .u32 0] 29))
  have hR := hR.bel (bel1 (.cells #[.int .i64 x, .int .i64 0, .int .i64 0, .int .i64 0, .int .u32 0] 29))
  have hI := Bare.new x 0 0 0 0 (w.alloc (.cells #[.int .i64 0, .int .i64 0, .int .i64 0, .int .i64 0, .int .u32 0] 29)) 29
  simp only [World.size_alloc] at hI
  have hB := belA (bel1 (W := w) (.cells #[.int .i64 0, .int .i64 0, .int .i64 0, .int .i64 0, .int .u32 0] 29)) (.cells #[.int .i64 x, .int .i64 0, .int .i64 0, .int .i64 0, .int .u32 0] 29)
  have hH := hH.bel hB
  have hR0 := hR.c0
  clear hc0
  generalize World.alloc _ _ = U at hR fR hI hB hH hR0 ⊢
  refine (CB.out _).mono ?_
  rintro e wi ⟨v6, rfl, hO6, hbi⟩
  obtain ⟨a6, c6, rfl⟩ := hO6.form
  rw [hlen]
  clear hO6 hlen CB
  have hR := hR.bel hbi
  have fR := froz_bel hR0 fR hbi
  have hR0 := hR.c0
  have hI := hI.bel hbi
  have hH := hH.bel hbi
  have hB := belT hB hbi
  clear hbi
  have hmz : ¬ (L.length : Int) < 3 := by omega
  go_wp2_with fail
  refine (I1.out _).mono ?_
  rintro e wi ⟨rfl, hbi⟩
  have hR := hR.bel hbi
  have fR := froz_bel hR0 fR hbi
  have hR0 := hR.c0
  have hI := hI.bel hbi
  have hH := hH.bel hbi
  have hB := belT hB hbi
  have i0 := hI.c0
  have i1 := hI.c1
  have i2 := hI.c2
  have i3 := hI.c3
  have i4 := hI.c4
  have j1 := hI.f1
  have j2 := hI.f2
  have j3 := hI.f3
  have j4 := hI.f4
  dsimp only at i1 i2 i3 i4
  clear hbi
  have hx : wi.cell? ⟨b, o + 1, none⟩ = some (.int .u8 (y1 : Nat)) := by have h1 := hH.2 1 (by omega); rwa [Hy1.out.1] at h1
  have hk : (1 : Int) < (L.length : Int) := by omega
  go_wp2_with fail
  have hI := hI.put1 (v := (y1 : Int))
  have hR := hR.far (B' := w.heap.size + 1) (o := 1) (v := .int .i64 (y1 : Int)) (by omega)
  have fR : (wi.setCell ⟨w.heap.size + 1, 1, none⟩ (.int .i64 (y1 : Int))).frozen? ⟨w.heap.size, 0, none⟩ = false := (World.frozen?_setCell ..).trans fR
  have hH := hH.touch (T := fun k => k = w.heap.size + 1) (Touch.setCell (T := fun k => k = w.heap.size + 1) wi ⟨w.heap.size + 1, 1, none⟩ (.int .i64 (y1 : Int)) rfl) (by omega)
  have hB := hB.setCell (p := ⟨w.heap.size + 1, 1, none⟩) (by simp) (.int .i64 (y1 : Int))
  dsimp only at hI
  clear hx i0 i1 i2 i3 i4 j1 j2 j3 j4
  generalize wi.setCell ⟨w.heap.size + 1, 1, none⟩ (.int .i64 (y1 : Int)) = wi at hI hR fR hH hB ⊢
  have hR0 := hR.c0
  refine (I2.out _).mono ?_
  rintro e wi ⟨rfl, hbi⟩
  have hR := hR.bel hbi
  have fR := froz_bel hR0 fR hbi
  have hR0 := hR.c0
  have hI := hI.bel hbi
  have hH := hH.bel hbi
  have hB := belT hB hbi
  have i0 := hI.c0
  have i1 := hI.c1
  have i2 := hI.c2
  have i3 := hI.c3
  have i4 := hI.c4
  have j1 := hI.f1
  have j2 := hI.f2
  have j3 := hI.f3
  have j4 := hI.f4
  dsimp only at i1 i2 i3 i4
  clear hbi
  have hx : wi.cell? ⟨b, o + 2, none⟩ = some (.int .u8 (y2 : Nat)) := by have h1 := hH.2 2 (by omega); rwa [Hy2.out.1] at h1
  have hk : (2 : Int) < (L.length : Int) := by omega
  go_wp2_with fail
  have hI := hI.put2 (v := (y2 : Int))
  have hR := hR.far (B' := w.heap.size + 1) (o := 2) (v := .int .i64 (y2 : Int)) (by omega)
  have fR : (wi.setCell ⟨w.heap.size + 1, 2, none⟩ (.int .i64 (y2 : Int))).frozen? ⟨w.heap.size, 0, none⟩ = false := (World.frozen?_setCell ..).trans fR
  have hH := hH.touch (T := fun k => k = w.heap.size + 1) (Touch.setCell (T := fun k => k = w.heap.size + 1) wi ⟨w.heap.size + 1, 2, none⟩ (.int .i64 (y2 : Int)) rfl) (by omega)
  have hB := hB.setCell (p := ⟨w.heap.size + 1, 2, none⟩) (by simp) (.int .i64 (y2 : Int))
  dsimp only at hI
  clear hx i0 i1 i2 i3 i4 j1 j2 j3 j4
  generalize wi.setCell ⟨w.heap.size + 1, 2, none⟩ (.int .i64 (y2 : Int)) = wi at hI hR fR hH hB ⊢
  have hR0 := hR.c0
  refine (I3.out _).mono ?_
  rintro e wi ⟨rfl, hbi⟩
  have hR := hR.bel hbi
  have fR := froz_bel hR0 fR hbi
  have hR0 := hR.c0
  have hI := hI.bel hbi
  have hH := hH.bel hbi
  have hB := belT hB hbi
  have i0 := hI.c0
  have i1 := hI.c1
  have i2 := hI.c2
  have i3 := hI.c3
  have i4 := hI.c4
  have j1 := hI.f1
  have j2 := hI.f2
  have j3 := hI.f3
  have j4 := hI.f4
  dsimp only at i1 i2 i3 i4
  clear hbi
  go_wp2_with fail
  refine (I4.out _).mono ?_
  rintro e wi ⟨rfl, hbi⟩
  have hR := hR.bel hbi
  have fR := froz_bel hR0 fR hbi
  have hR0 := hR.c0
  have hI := hI.bel hbi
  have hH := hH.bel hbi
  have hB := belT hB hbi
  have i0 := hI.c0
  have i1 := hI.c1
  have i2 := hI.c2
  have i3 := hI.c3
  have i4 := hI.c4
  have j1 := hI.f1
  have j2 := hI.f2
  have j3 := hI.f3
  have j4 := hI.f4
  dsimp only at i1 i2 i3 i4
  clear hbi
  go_wp2_with fail
  refine (I5.out _).mono ?_
  rintro e wi ⟨rfl, hbi⟩
  have hR := hR.bel hbi
  have fR := froz_bel hR0 fR hbi
  have hR0 := hR.c0
  have hI := hI.bel hbi
  have hH := hH.bel hbi
  have hB := belT hB hbi
  have i0 := hI.c0
  have i1 := hI.c1
  have i2 := hI.c2
  have i3 := hI.c3
  have i4 := hI.c4
  have j1 := hI.f1
  have j2 := hI.f2
  have j3 := hI.f3
  have j4 := hI.f4
  dsimp only at i1 i2 i3 i4
  clear hbi
  go_wp2_with fail
  refine (I6.out _).mono ?_
  rintro e wi ⟨rfl, hbi⟩
  have hR := hR.bel hbi
  have fR := froz_bel hR0 fR hbi
  have hR0 := hR.c0
  have hI := hI.bel hbi
  have hH := hH.bel hbi
  have hB := belT hB hbi
  have i0 := hI.c0
  have i1 := hI.c1
  have i2 := hI.c2
  have i3 := hI.c3
  have i4 := hI.c4
  have j1 := hI.f1
  have j2 := hI.f2
  have j3 := hI.f3
  have j4 := hI.f4
  dsimp only at i1 i2 i3 i4
  clear hbi
  go_wp2_with fail
  refine (I4.out _).mono ?_
  rintro e wi ⟨rfl, hbi⟩
  have hR := hR.bel hbi
  have fR := froz_bel hR0 fR hbi
  have hR0 := hR.c0
  have hI := hI.bel hbi
  have hH := hH.bel hbi
  have hB := belT hB hbi
  have i0 := hI.c0
  have i1 := hI.c1
  have i2 := hI.c2
  have i3 := hI.c3
  have i4 := hI.c4
  have j1 := hI.f1
  have j2 := hI.f2
  have j3 := hI.f3
  have j4 := hI.f4
  dsimp only at i1 i2 i3 i4
  clear hbi
  go_wp2_with fail
  refine (CX0.out _).mono ?_
  rintro e wk ⟨rfl, hbk⟩
  have hR := hR.bel hbk
  have fR := froz_bel hR0 fR hbk
  have hI := hI.bel hbk
  have hB := belT hB hbk
  clear hbk hR0 CX0
  cases rt with
  | false =>
    have HV2 := Lib.hid (HV.out.trans (if_neg (by decide)))
    clear HV
    have HSET := Lib.hid (Bare.set hR 0 0 0 0 0)
    have HBS := Lib.hid (((((hB.setCell (p := ⟨w.heap.size, 0, none⟩) (Nat.le_refl _) (.int .i64 0)).setCell (p := ⟨w.heap.size, 1, none⟩) (Nat.le_refl _) (.int .i64 0)).setCell (p := ⟨w.heap.size, 2, none⟩) (Nat.le_refl _) (.int .i64 0)).setCell (p := ⟨w.heap.size, 3, none⟩) (Nat.le_refl _) (.int .i64 0)).setCell (p := ⟨w.heap.size, 4, none⟩) (Nat.le_refl _) (.int .u32 0))
    obtain ⟨r0, r1, r2, r3, r4, g1, g2, g3, g4⟩ := hR
    obtain ⟨i0, i1, i2, i3, i4, _, _, _, _⟩ := hI
    dsimp only at r1 r2 r3 r4 i1 i2 i3 i4
    clear hB
    go_wp2_with fail
    obtain ⟨e0, e1, e2, e3, e4, _, _, _, _⟩ := HSET.out
    have hBS := HBS.out
    clear HSET HBS
    generalize ((((World.setCell _ _ _).setCell _ _).setCell _ _).setCell _ _).setCell _ _ = W5 at e0 e1 e2 e3 e4 hBS ⊢
    exact bodyPost_ret (v := readV 0 0 0 0 0 0 180) (by simp [results, Tryz.results11, go_sem, e0, e1, e2, e3, e4, readV, insV]) rfl ⟨by rw [HV2.out] <;> rfl, hBS⟩
  | true =>
    have HV2 := Lib.hid (HV.out.trans (if_pos rfl))
    clear HV
    have HSET := Lib.hid (Bare.set hR (x:Int) (y1:Int) (y2:Int) 0 0)
    have HBS := Lib.hid (((((hB.setCell (p := ⟨w.heap.size, 0, none⟩) (Nat.le_refl _) (.int .i64 (x:Int))).setCell (p := ⟨w.heap.size, 1, none⟩) (Nat.le_refl _) (.int .i64 (y1:Int))).setCell (p := ⟨w.heap.size, 2, none⟩) (Nat.le_refl _) (.int .i64 (y2:Int))).setCell (p := ⟨w.heap.size, 3, none⟩) (Nat.le_refl _) (.int .i64 0)).setCell (p := ⟨w.heap.size, 4, none⟩) (Nat.le_refl _) (.int .u32 0))
    obtain ⟨r0, r1, r2, r3, r4, g1, g2, g3, g4⟩ := hR
    obtain ⟨i0, i1, i2, i3, i4, _, _, _, _⟩ := hI
    dsimp only at r1 r2 r3 r4 i1 i2 i3 i4
    clear hB
    go_wp2_with fail
    obtain ⟨e0, e1, e2, e3, e4, _, _, _, _⟩ := HSET.out
    have hBS := HBS.out
    clear HSET HBS
    generalize ((((World.setCell _ _ _).setCell _ _).setCell _ _).setCell _ _).setCell _ _ = W5 at e0 e1 e2 e3 e4 hBS ⊢
    exact bodyPost_ret (v := readV (x:Int) (y1:Int) (y2:Int) 0 0 3 0) (by simp [results, Tryz.results11, go_sem, e0, e1, e2, e3, e4, readV, insV]) rfl ⟨by rw [HV2.out] <;> rfl, hBS⟩

set_option maxRecDepth 100000 in
set_option maxHeartbeats 4000000 in
theorem rdABK (x y1 y2 y3 n : Nat) (L : List Nat) (hL : L.length ≤ 9223372036854775000) (h0 : L.getD 0 0 = x) (hx : 1 ≤ x ∧ x ≤ 19) (hmany : 8 ≤ L.length) (Hy1 : Hid (L.getD 1 0 = y1 ∧ y1 < 256)) (by1 : y1 < 256) (Hy2 : Hid (L.getD 2 0 = y2 ∧ y2 < 256)) (by2 : y2 < 256) (Hy3 : Hid (L.getD 3 0 = y3 ∧ y3 < 256)) (by3 : y3 < 256) (Hn : Hid (leN (L.drop 4) 4 = n ∧ n < 4294967296)) (bn : n < 4294967296) (b o c : Nat) (hc : L.length ≤ c) (hcm : c ≤ 9223372036854775807) (w : World) (hH : HasB w b o L)
    (e1 : inR x 97 = true) (e2 : inR x 98 = true) (e3 : inR x 110 = false) (e4 : inR x 107 = true) (e5 : inR x 105 = false) (e6 : inR x 102 = false) (hlen : (bytesR x 0 0 0 0).length = 8) :
    Calls Tryz.prog 11 #[.slice (some ⟨b, o, none⟩) L.length c] w fun e w' => e = .returned (rdV x y1 y2 y3 n 8) ∧ Below w.heap.size w w' := by
  have I1 := Lib.hid (rIn97 x)
  rw [e1] at I1
  have I2 := Lib.hid (rIn98 x)
  rw [e2] at I2
  have I3 := Lib.hid (rIn110 x)
  rw [e3] at I3
  have I4 := Lib.hid (rIn107 x)
  rw [e4] at I4
  have I5 := Lib.hid (rIn105 x)
  rw [e5] at I5
  have I6 := Lib.hid (rIn102 x)
  rw [e6] at I6
  clear e1 e2 e3 e4 e5 e6
  have CB := Lib.hid fun W => rBytes_any x 0 0 0 0 ⟨by omega, by omega⟩ ⟨by omega, by omega⟩ ⟨by omega, by omega⟩ ⟨by omega, by omega⟩ (by omega) W
  generalize bytesR x 0 0 0 0 = LB at CB hlen
  unfold insV at CB
  have CX0 := Lib.hid fun W => rRight_any x y1 y2 y3 n ⟨by omega, by omega⟩ W
  rw [rightR_F _ _ _ _ _ (by omega)] at CX0
  obtain ⟨V, hV⟩ : ∃ V, V = rdV x y1 y2 y3 n 8 := ⟨_, rfl⟩
  rw [← hV]
  have HV := Lib.hid hV
  clear hV
  unfold rdV at HV
  generalize rightF x y1 y2 y3 n = rt at CX0 HV
  unfold insV at CX0
  have hc0 : w.cell? ⟨b, o, none⟩ = some (.int .u8 (x : Nat)) := by have h1 := hH.2 0 (by omega); rwa [h0] at h1
  have hbw := lt_of_cell hc0
  have hlt := hH.1
  have HLT := Lib.hid hlt
  clear hlt h0
  have hL0 : (L.length == 0) = false := beq_eq_false_iff_ne.2 (by omega)
  have hL1 : ((L.length : Int) == 0) = false := beq_eq_false_iff_ne.2 (by omega)
  obtain ⟨x1, x2⟩ := hx
  go_enter Tryz.func11, Tryz.ntmps11
  go_wp2_with fail
  have hR := Bare.new 0 0 0 0 0 w 29
  have fR := World.frozen?_alloc_new w #[.int .i64 0, .int .i64 0, .int .i64 0, .int .i64 0, .int .u32 0] 29 0
  have hR0 := hR.c0
  have fR := froz_bel hR0 fR (bel1 (.cells #[.int .i64 x, .int .i64 0, .int .i64 0, .int .i64 0, .int .u32 0] 29))
  have hR := hR.bel (bel1 (.cells #[.int .i64 x, .int .i64 0, .int .i64 0, .int .i64 0, .int .u32 0] 29))
  have hI := Bare.new x 0 0 0 0 (w.alloc (.cells #[.int .i64 0, .int .i64 0, .int .i64 0, .int .i64 0, .int .u32 0] 29)) 29
  simp only [World.size_alloc] at hI
  have hB := belA (bel1 (W := w) (.cells #[.int .i64 0, .int .i64 0, .int .i64 0, .int .i64 0, .int .u32 0] 29)) (.cells #[.int .i64 x, .int .i64 0, .int .i64 0, .int .i64 0, .int .u32 0] 29)
  have hH := hH.bel hB
  have hR0 := hR.c0
  clear hc0
  generalize World.alloc _ _ = U at hR fR hI hB hH hR0 ⊢
  refine (CB.out _).mono ?_
  rintro e wi ⟨v6, rfl, hO6, hbi⟩
  obtain ⟨a6, c6, rfl⟩ := hO6.form
  rw [hlen]
  clear hO6 hlen CB
  have hR := hR.bel hbi
  have fR := froz_bel hR0 fR hbi
  have hR0 := hR.c0
  have hI := hI.bel hbi
  have hH := hH.bel hbi
  have hB := belT hB hbi
  clear hbi
  have hmz : ¬ (L.length : Int) < 8 := by omega
  go_wp2_with fail
  refine (I1.out _).mono ?_
  rintro e wi ⟨rfl, hbi⟩
  have hR := hR.bel hbi
  have fR := froz_bel hR0 fR hbi
  have hR0 := hR.c0
  have hI := hI.bel hbi
  have hH := hH.bel hbi
  have hB := belT hB hbi
  have i0 := hI.c0
  have i1 := hI.c1
  have i2 := hI.c2
  have i3 := hI.c3
  have i4 := hI.c4
  have j1 := hI.f1
  have j2 := hI.f2
  have j3 := hI.f3
  have j4 := hI.f4
  dsimp only at i1 i2 i3 i4
  clear hbi
  have hx : wi.cell? ⟨b, o + 1, none⟩ = some (.int .u8 (y1 : Nat)) := by have h1 := hH.2 1 (by omega); rwa [Hy1.out.1] at h1
  have hk : (1 : Int) < (L.length : Int) := by omega
  go_wp2_with fail
  have hI := hI.put1 (v := (y1 : Int))
  have hR := hR.far (B' := w.heap.size + 1) (o := 1) (v := .int .i64 (y1 : Int)) (by omega)
  have fR : (wi.setCell ⟨w.heap.size + 1, 1, none⟩ (.int .i64 (y1 : Int))).frozen? ⟨w.heap.size, 0, none⟩ = false := (World.frozen?_setCell ..).trans fR
  have hH := hH.touch (T := fun k => k = w.heap.size + 1) (Touch.setCell (T := fun k => k = w.heap.size + 1) wi ⟨w.heap.size + 1, 1, none⟩ (.int .i64 (y1 : Int)) rfl) (by omega)
  have hB := hB.setCell (p := ⟨w.heap.size + 1, 1, none⟩) (by simp) (.int .i64 (y1 : Int))
  dsimp only at hI
  clear hx i0 i1 i2 i3 i4 j1 j2 j3 j4
  generalize wi.setCell ⟨w.heap.size + 1, 1, none⟩ (.int .i64 (y1 : Int)) = wi at hI hR fR hH hB ⊢
  have hR0 := hR.c0
  refine (I2.out _).mono ?_
  rintro e wi ⟨rfl, hbi⟩
  have hR := hR.bel hbi
  have fR := froz_bel hR0 fR hbi
  have hR0 := hR.c0
  have hI := hI.bel hbi
  have hH := hH.bel hbi
  have hB := belT hB hbi
  have i0 := hI.c0
  have i1 := hI.c1
  have i2 := hI.c2
  have i3 := hI.c3
  have i4 := hI.c4
  have j1 := hI.f1
  have j2 := hI.f2
  have j3 := hI.f3
  have j4 := hI.f4
  dsimp only at i1 i2 i3 i4
  clear hbi
  have hx : wi.cell? ⟨b, o + 2, none⟩ = some (.int .u8 (y2 : Nat)) := by have h1 := hH.2 2 (by omega); rwa [Hy2.out.1] at h1
  have hk : (2 : Int) < (L.length : Int) := by omega
  go_wp2_with fail
  have hI := hI.put2 (v := (y2 : Int))
  have hR := hR.far (B' := w.heap.size + 1) (o := 2) (v := .int .i64 (y2 : Int)) (by omega)
  have fR : (wi.setCell ⟨w.heap.size + 1, 2, none⟩ (.int .i64 (y2 : Int))).frozen? ⟨w.heap.size, 0, none⟩ = false := (World.frozen?_setCell ..).trans fR
  have hH := hH.touch (T := fun k => k = w.heap.size + 1) (Touch.setCell (T := fun k => k = w.heap.size + 1) wi ⟨w.heap.size + 1, 2, none⟩ (.int .i64 (y2 : Int)) rfl) (by omega)
  have hB := hB.setCell (p := ⟨w.heap.size + 1, 2, none⟩) (by simp) (.int .i64 (y2 : Int))
  dsimp only at hI
  clear hx i0 i1 i2 i3 i4 j1 j2 j3 j4
  generalize wi.setCell ⟨w.heap.size + 1, 2, none⟩ (.int .i64 (y2 : Int)) = wi at hI hR fR hH hB ⊢
  have hR0 := hR.c0
  refine (I3.out _).mono ?_
  rintro e wi ⟨rfl, hbi⟩
  have hR := hR.bel hbi
  have fR := froz_bel hR0 fR hbi
  have hR0 := hR.c0
  have hI := hI.bel hbi
  have hH := hH.bel hbi
  have hB := belT hB hbi
  have i0 := hI.c0
  have i1 := hI.c1
  have i2 := hI.c2
  have i3 := hI.c3
  have i4 := hI.c4
  have j1 := hI.f1
  have j2 := hI.f2
  have j3 := hI.f3
  have j4 := hI.f4
  dsimp only at i1 i2 i3 i4
  clear hbi
  go_wp2_with fail
  refine (I4.out _).mono ?_
  rintro e wi ⟨rfl, hbi⟩
  have hR := hR.bel hbi
  have fR := froz_bel hR0 fR hbi
  have hR0 := hR.c0
  have hI := hI.bel hbi
  have hH := hH.bel hbi
  have hB := belT hB hbi
  have i0 := hI.c0
  have i1 := hI.c1
  have i2 := hI.c2
  have i3 := hI.c3
  have i4 := hI.c4
  have j1 := hI.f1
  have j2 := hI.f2
  have j3 := hI.f3
  have j4 := hI.f4
  dsimp only at i1 i2 i3 i4
  clear hbi
  have hx : wi.cell? ⟨b, o + 3, none⟩ = some (.int .u8 (y3 : Nat)) := by have h1 := hH.2 3 (by omega); rwa [Hy3.out.1] at h1
  have hk : (3 : Int) < (L.length : Int) := by omega
  go_wp2_with fail
  have hI := hI.put3 (v := (y3 : Int))
  have hR := hR.far (B' := w.heap.size + 1) (o := 3) (v := .int .i64 (y3 : Int)) (by omega)
  have fR : (wi.setCell ⟨w.heap.size + 1, 3, none⟩ (.int .i64 (y3 : Int))).frozen? ⟨w.heap.size, 0, none⟩ = false := (World.frozen?_setCell ..).trans fR
  have hH := hH.touch (T := fun k => k = w.heap.size + 1) (Touch.setCell (T := fun k => k = w.heap.size + 1) wi ⟨w.heap.size + 1, 3, none⟩ (.int .i64 (y3 : Int)) rfl) (by omega)
  have hB := hB.setCell (p := ⟨w.heap.size + 1, 3, none⟩) (by simp) (.int .i64 (y3 : Int))
  dsimp only at hI
  clear hx i0 i1 i2 i3 i4 j1 j2 j3 j4
  generalize wi.setCell ⟨w.heap.size + 1, 3, none⟩ (.int .i64 (y3 : Int)) = wi at hI hR fR hH hB ⊢
  have hR0 := hR.c0
  refine (I5.out _).mono ?_
  rintro e wi ⟨rfl, hbi⟩
  have hR := hR.bel hbi
  have fR := froz_bel hR0 fR hbi
  have hR0 := hR.c0
  have hI := hI.bel hbi
  have hH := hH.bel hbi
  have hB := belT hB hbi
  have i0 := hI.c0
  have i1 := hI.c1
  have i2 := hI.c2
  have i3 := hI.c3
  have i4 := hI.c4
  have j1 := hI.f1
  have j2 := hI.f2
  have j3 := hI.f3
  have j4 := hI.f4
  dsimp only at i1 i2 i3 i4
  clear hbi
  go_wp2_with fail
  refine (I6.out _).mono ?_
  rintro e wi ⟨rfl, hbi⟩
  have hR := hR.bel hbi
  have fR := froz_bel hR0 fR hbi
  have hR0 := hR.c0
  have hI := hI.bel hbi
  have hH := hH.bel hbi
  have hB := belT hB hbi
  have i0 := hI.c0
  have i1 := hI.c1
  have i2 := hI.c2
  have i3 := hI.c3
  have i4 := hI.c4
  have j1 := hI.f1
  have j2 := hI.f2
  have j3 := hI.f3
  have j4 := hI.f4
  dsimp only at i1 i2 i3 i4
  clear hbi
  go_wp2_with fail
  refine (I4.out _).mono ?_
  rintro e wi ⟨rfl, hbi⟩
  have hR := hR.bel hbi
  have fR := froz_bel hR0 fR hbi
  have hR0 := hR.c0
  have hI := hI.bel hbi
  have hH := hH.bel hbi
  have hB := belT hB hbi
  have i0 := hI.c0
  have i1 := hI.c1
  have i2 := hI.c2
  have i3 := hI.c3
  have i4 := hI.c4
  have j1 := hI.f1
  have j2 := hI.f2
  have j3 := hI.f3
  have j4 := hI.f4
  dsimp only at i1 i2 i3 i4
  clear hbi
  have hsl : ∀ w, (Instr.slice 22 (.slice (some ⟨b, o, none⟩) L.length c) (some (.int .i64 4)) none none).run Tryz.prog w = .ok (.slice (some ⟨b, o + 4, none⟩) (L.length - 4) (c - 4)) w := slice_from b o L.length c 4 (by omega) (by omega)
  have CR := Lib.hid (rRead_four b (o + 4) (c - 4) (L.drop 4) (by rw [List.length_drop]; omega) wi (hH.drop 4))
  rw [List.length_drop, Hn.out.1] at CR
  go_wp2_with fail
  refine CR.out.mono ?_
  rintro e wj ⟨rfl, rfl⟩
  go_wp2_with fail
  have hI := hI.put4 (v := (n : Int))
  have hR := hR.far (B' := w.heap.size + 1) (o := 4) (v := .int .u32 (n : Int)) (by omega)
  have fR : (wi.setCell ⟨w.heap.size + 1, 4, none⟩ (.int .u32 (n : Int))).frozen? ⟨w.heap.size, 0, none⟩ = false := (World.frozen?_setCell ..).trans fR
  have hB := hB.setCell (p := ⟨w.heap.size + 1, 4, none⟩) (by simp) (.int .u32 (n : Int))
  dsimp only at hI
  clear hH i0 i1 i2 i3 i4 j1 j2 j3 j4
  generalize wi.setCell ⟨w.heap.size + 1, 4, none⟩ (.int .u32 (n : Int)) = wi at hI hR fR hB ⊢
  have hR0 := hR.c0
  refine (CX0.out _).mono ?_
  rintro e wk ⟨rfl, hbk⟩
  have hR := hR.bel hbk
  have fR := froz_bel hR0 fR hbk
  have hI := hI.bel hbk
  have hB := belT hB hbk
  clear hbk hR0 CX0
  cases rt with
  | false =>
    have HV2 := Lib.hid (HV.out.trans (if_neg (by decide)))
    clear HV
    have HSET := Lib.hid (Bare.set hR 0 0 0 0 0)
    have HBS := Lib.hid (((((hB.setCell (p := ⟨w.heap.size, 0, none⟩) (Nat.le_refl _) (.int .i64 0)).setCell (p := ⟨w.heap.size, 1, none⟩) (Nat.le_refl _) (.int .i64 0)).setCell (p := ⟨w.heap.size, 2, none⟩) (Nat.le_refl _) (.int .i64 0)).setCell (p := ⟨w.heap.size, 3, none⟩) (Nat.le_refl _) (.int .i64 0)).setCell (p := ⟨w.heap.size, 4, none⟩) (Nat.le_refl _) (.int .u32 0))
    obtain ⟨r0, r1, r2, r3, r4, g1, g2, g3, g4⟩ := hR
    obtain ⟨i0, i1, i2, i3, i4, _, _, _, _⟩ := hI
    dsimp only at r1 r2 r3 r4 i1 i2 i3 i4
    clear hB
    go_wp2_with fail
    obtain ⟨e0, e1, e2, e3, e4, _, _, _, _⟩ := HSET.out
    have hBS := HBS.out
    clear HSET HBS
    generalize ((((World.setCell _ _ _).setCell _ _).setCell _ _).setCell _ _).setCell _ _ = W5 at e0 e1 e2 e3 e4 hBS ⊢
    exact bodyPost_ret (v := readV 0 0 0 0 0 0 180) (by simp [results, Tryz.results11, go_sem, e0, e1, e2, e3, e4, readV, insV]) rfl ⟨by rw [HV2.out] <;> rfl, hBS⟩
  | true =>
    have HV2 := Lib.hid (HV.out.trans (if_pos rfl))
    clear HV
    have HSET := Lib.hid (Bare.set hR (x:Int) (y1:Int) (y2:Int) (y3:Int) (n:Int))
    have HBS := Lib.hid (((((hB.setCell (p := ⟨w.heap.size, 0, none⟩) (Nat.le_refl _) (.int .i64 (x:Int))).setCell (p := ⟨w.heap.size, 1, none⟩) (Nat.le_refl _) (.int .i64 (y1:Int))).setCell (p := ⟨w.heap.size, 2, none⟩) (Nat.le_refl _) (.int .i64 (y2:Int))).setCell (p := ⟨w.heap.size, 3, none⟩) (Nat.le_refl _) (.int .i64 (y3:Int))).setCell (p := ⟨w.heap.size, 4, none⟩) (Nat.le_refl _) (.int .u32 (n:Int)))
    obtain ⟨r0, r1, r2, r3, r4, g1, g2, g3, g4⟩ := hR
    obtain ⟨i0, i1, i2, i3, i4, _, _, _, _⟩ := hI
    dsimp only at r1 r2 r3 r4 i1 i2 i3 i4
    clear hB
    go_wp2_with fail
    obtain ⟨e0, e1, e2, e3, e4, _, _, _, _⟩ := HSET.out
    have hBS := HBS.out
    clear HSET HBS
    generalize ((((World.setCell _ _ _).setCell _ _).setCell _ _).setCell _ _).setCell _ _ = W5 at e0 e1 e2 e3 e4 hBS ⊢
    exact bodyPost_ret (v := readV (x:Int) (y1:Int) (y2:Int) (y3:Int) (n:Int) 8 0) (by simp [results, Tryz.results11, go_sem, e0, e1, e2, e3, e4, readV, insV]) rfl ⟨by rw [HV2.out] <;> rfl, hBS⟩

set_option maxRecDepth 100000 in
set_option maxHeartbeats 4000000 in
theorem rdI (x  n : Nat) (L : List Nat) (hL : L.length ≤ 9223372036854775000) (h0 : L.getD 0 0 = x) (hx : 1 ≤ x ∧ x ≤ 19) (hmany : 5 ≤ L.length)  (Hn : Hid (leN (L.drop 1) 4 = n ∧ n < 4294967296)) (bn : n < 4294967296) (b o c : Nat) (hc : L.length ≤ c) (hcm : c ≤ 9223372036854775807) (w : World) (hH : HasB w b o L)
    (e1 : inR x 97 = false) (e2 : inR x 98 = false) (e3 : inR x 110 = false) (e4 : inR x 107 = false) (e5 : inR x 105 = true) (e6 : inR x 102 = false) (hlen : (bytesR x 0 0 0 0).length = 5) :
    Calls Tryz.prog 11 #[.slice (some ⟨b, o, none⟩) L.length c] w fun e w' => e = .returned (rdV x 0 0 0 n 5) ∧ Below w.heap.size w w' := by
  have I1 := Lib.hid (rIn97 x)
  rw [e1] at I1
  have I2 := Lib.hid (rIn98 x)
  rw [e2] at I2
  have I3 := Lib.hid (rIn110 x)
  rw [e3] at I3
  have I4 := Lib.hid (rIn107 x)
  rw [e4] at I4
  have I5 := Lib.hid (rIn105 x)
  rw [e5] at I5
  have I6 := Lib.hid (rIn102 x)
  rw [e6] at I6
  clear e1 e2 e3 e4 e5 e6
  have CB := Lib.hid fun W => rBytes_any x 0 0 0 0 ⟨by omega, by omega⟩ ⟨by omega, by omega⟩ ⟨by omega, by omega⟩ ⟨by omega, by omega⟩ (by omega) W
  generalize bytesR x 0 0 0 0 = LB at CB hlen
  unfold insV at CB
  have CX0 := Lib.hid fun W => rRight_any x 0 0 0 n ⟨by omega, by omega⟩ W
  rw [rightR_F _ _ _ _ _ (by omega)] at CX0
  obtain ⟨V, hV⟩ : ∃ V, V = rdV x 0 0 0 n 5 := ⟨_, rfl⟩
  rw [← hV]
  have HV := Lib.hid hV
  clear hV
  unfold rdV at HV
  generalize rightF x 0 0 0 n = rt at CX0 HV
  unfold insV at CX0
  have hc0 : w.cell? ⟨b, o, none⟩ = some (.int .u8 (x : Nat)) := by have h1 := hH.2 0 (by omega); rwa [h0] at h1
  have hbw := lt_of_cell hc0
  have hlt := hH.1
  have HLT := Lib.hid hlt
  clear hlt h0
  have hL0 : (L.length == 0) = false := beq_eq_false_iff_ne.2 (by omega)
  have hL1 : ((L.length : Int) == 0) = false := beq_eq_false_iff_ne.2 (by omega)
  obtain ⟨x1, x2⟩ := hx
  go_enter Tryz.func11, Tryz.ntmps11
  go_wp2_with fail
  have hR := Bare.new 0 0 0 0 0 w 29
  have fR := World.frozen?_alloc_new w #[.int .i64 0, .int .i64 0, .int .i64 0, .int .i64 0, .int .u32 0] 29 0
  have hR0 := hR.c0
  have fR := froz_bel hR0 fR (bel1 (.cells #[.int .i64 x, .int .i64 0, .int .i64 0, .int .i64 0, .int .u32 0] 29))
  have hR := hR.bel (bel1 (.cells #[.int .i64 x, .int .i64 0, .int .i64 0, .int .i64 0, .int .u32 0] 29))
  have hI := Bare.new x 0 0 0 0 (w.alloc (.cells #[.int .i64 0, .int .i64 0, .int .i64 0, .int .i64 0, .int .u32 0] 29)) 29
  simp only [World.size_alloc] at hI
  have hB := belA (bel1 (W := w) (.cells #[.int .i64 0, .int .i64 0, .int .i64 0, .int .i64 0, .int .u32 0] 29)) (.cells #[.int .i64 x, .int .i64 0, .int .i64 0, .int .i64 0, .int .u32 0] 29)
  have hH := hH.bel hB
  have hR0 := hR.c0
  clear hc0
  generalize World.alloc _ _ = U at hR fR hI hB hH hR0 ⊢
  refine (CB.out _).mono ?_
  rintro e wi ⟨v6, rfl, hO6, hbi⟩
  obtain ⟨a6, c6, rfl⟩ := hO6.form
  rw [hlen]
  clear hO6 hlen CB
  have hR := hR.bel hbi
  have fR := froz_bel hR0 fR hbi
  have hR0 := hR.c0
  have hI := hI.bel hbi
  have hH := hH.bel hbi
  have hB := belT hB hbi
  clear hbi
  have hmz : ¬ (L.length : Int) < 5 := by omega
  go_wp2_with fail
  refine (I1.out _).mono ?_
  rintro e wi ⟨rfl, hbi⟩
  have hR := hR.bel hbi
  have fR := froz_bel hR0 fR hbi
  have hR0 := hR.c0
  have hI := hI.bel hbi
  have hH := hH.bel hbi
  have hB := belT hB hbi
  have i0 := hI.c0
  have i1 := hI.c1
  have i2 := hI.c2
  have i3 := hI.c3
  have i4 := hI.c4
  have j1 := hI.f1
  have j2 := hI.f2
  have j3 := hI.f3
  have j4 := hI.f4
  dsimp only at i1 i2 i3 i4
  clear hbi
  go_wp2_with fail
  refine (I2.out _).mono ?_
  rintro e wi ⟨rfl, hbi⟩
  have hR := hR.bel hbi
  have fR := froz_bel hR0 fR hbi
  have hR0 := hR.c0
  have hI := hI.bel hbi
  have hH := hH.bel hbi
  have hB := belT hB hbi
  have i0 := hI.c0
  have i1 := hI.c1
  have i2 := hI.c2
  have i3 := hI.c3
  have i4 := hI.c4
  have j1 := hI.f1
  have j2 := hI.f2
  have j3 := hI.f3
  have j4 := hI.f4
  dsimp only at i1 i2 i3 i4
  clear hbi
  go_wp2_with fail
  refine (I3.out _).mono ?_
  rintro e wi ⟨rfl, hbi⟩
  have hR := hR.bel hbi
  have fR := froz_bel hR0 fR hbi
  have hR0 := hR.c0
  have hI := hI.bel hbi
  have hH := hH.bel hbi
  have hB := belT hB hbi
  have i0 := hI.c0
  have i1 := hI.c1
  have i2 := hI.c2
  have i3 := hI.c3
  have i4 := hI.c4
  have j1 := hI.f1
  have j2 := hI.f2
  have j3 := hI.f3
  have j4 := hI.f4
  dsimp only at i1 i2 i3 i4
  clear hbi
  go_wp2_with fail
  refine (I4.out _).mono ?_
  rintro e wi ⟨rfl, hbi⟩
  have hR := hR.bel hbi
  have fR := froz_bel hR0 fR hbi
  have hR0 := hR.c0
  have hI := hI.bel hbi
  have hH := hH.bel hbi
  have hB := belT hB hbi
  have i0 := hI.c0
  have i1 := hI.c1
  have i2 := hI.c2
  have i3 := hI.c3
  have i4 := hI.c4
  have j1 := hI.f1
  have j2 := hI.f2
  have j3 := hI.f3
  have j4 := hI.f4
  dsimp only at i1 i2 i3 i4
  clear hbi
  go_wp2_with fail
  refine (I5.out _).mono ?_
  rintro e wi ⟨rfl, hbi⟩
  have hR := hR.bel hbi
  have fR := froz_bel hR0 fR hbi
  have hR0 := hR.c0
  have hI := hI.bel hbi
  have hH := hH.bel hbi
  have hB := belT hB hbi
  have i0 := hI.c0
  have i1 := hI.c1
  have i2 := hI.c2
  have i3 := hI.c3
  have i4 := hI.c4
  have j1 := hI.f1
  have j2 := hI.f2
  have j3 := hI.f3
  have j4 := hI.f4
  dsimp only at i1 i2 i3 i4
  clear hbi
  have hsl : ∀ w, (Instr.slice 22 (.slice (some ⟨b, o, none⟩) L.length c) (some (.int .i64 1)) none none).run Tryz.prog w = .ok (.slice (some ⟨b, o + 1, none⟩) (L.length - 1) (c - 1)) w := slice_from b o L.length c 1 (by omega) (by omega)
  have CR := Lib.hid (rRead_four b (o + 1) (c - 1) (L.drop 1) (by rw [List.length_drop]; omega) wi (hH.drop 1))
  rw [List.length_drop, Hn.out.1] at CR
  go_wp2_with fail
  refine CR.out.mono ?_
  rintro e wj ⟨rfl, rfl⟩
  go_wp2_with fail
  have hI := hI.put4 (v := (n : Int))
  have hR := hR.far (B' := w.heap.size + 1) (o := 4) (v := .int .u32 (n : Int)) (by omega)
  have fR : (wi.setCell ⟨w.heap.size + 1, 4, none⟩ (.int .u32 (n : Int))).frozen? ⟨w.heap.size, 0, none⟩ = false := (World.frozen?_setCell ..).trans fR
  have hB := hB.setCell (p := ⟨w.heap.size + 1, 4, none⟩) (by simp) (.int .u32 (n : Int))
  dsimp only at hI
  clear hH i0 i1 i2 i3 i4 j1 j2 j3 j4
  generalize wi.setCell ⟨w.heap.size + 1, 4, none⟩ (.int .u32 (n : Int)) = wi at hI hR fR hB ⊢
  have hR0 := hR.c0
  refine (CX0.out _).mono ?_
  rintro e wk ⟨rfl, hbk⟩
  have hR := hR.bel hbk
  have fR := froz_bel hR0 fR hbk
  have hI := hI.bel hbk
  have hB := belT hB hbk
  clear hbk hR0 CX0
  cases rt with
  | false =>
    have HV2 := Lib.hid (HV.out.trans (if_neg (by decide)))
    clear HV
    have HSET := Lib.hid (Bare.set hR 0 0 0 0 0)
    have HBS := Lib.hid (((((hB.setCell (p := ⟨w.heap.size, 0, none⟩) (Nat.le_refl _) (.int .i64 0)).setCell (p := ⟨w.heap.size, 1, none⟩) (Nat.le_refl _) (.int .i64 0)).setCell (p := ⟨w.heap.size, 2, none⟩) (Nat.le_refl _) (.int .i64 0)).setCell (p := ⟨w.heap.size, 3, none⟩) (Nat.le_refl _) (.int .i64 0)).setCell (p := ⟨w.heap.size, 4, none⟩) (Nat.le_refl _) (.int .u32 0))
    obtain ⟨r0, r1, r2, r3, r4, g1, g2, g3, g4⟩ := hR
    obtain ⟨i0, i1, i2, i3, i4, _, _, _, _⟩ := hI
    dsimp only at r1 r2 r3 r4 i1 i2 i3 i4
    clear hB
    go_wp2_with fail
    obtain ⟨e0, e1, e2, e3, e4, _, _, _, _⟩ := HSET.out
    have hBS := HBS.out
    clear HSET HBS
    generalize ((((World.setCell _ _ _).setCell _ _).setCell _ _).setCell _ _).setCell _ _ = W5 at e0 e1 e2 e3 e4 hBS ⊢
    exact bodyPost_ret (v := readV 0 0 0 0 0 0 180) (by simp [results, Tryz.results11, go_sem, e0, e1, e2, e3, e4, readV, insV]) rfl ⟨by rw [HV2.out] <;> rfl, hBS⟩
  | true =>
    have HV2 := Lib.hid (HV.out.trans (if_pos rfl))
    clear HV
    have HSET := Lib.hid (Bare.set hR (x:Int) 0 0 0 (n:Int))
    have HBS := Lib.hid (((((hB.setCell (p := ⟨w.heap.size, 0, none⟩) (Nat.le_refl _) (.int .i64 (x:Int))).setCell (p := ⟨w.heap.size, 1, none⟩) (Nat.le_refl _) (.int .i64 0)).setCell (p := ⟨w.heap.size, 2, none⟩) (Nat.le_refl _) (.int .i64 0)).setCell (p := ⟨w.heap.size, 3, none⟩) (Nat.le_refl _) (.int .i64 0)).setCell (p := ⟨w.heap.size, 4, none⟩) (Nat.le_refl _) (.int .u32 (n:Int)))
    obtain ⟨r0, r1, r2, r3, r4, g1, g2, g3, g4⟩ := hR
    obtain ⟨i0, i1, i2, i3, i4, _, _, _, _⟩ := hI
    dsimp only at r1 r2 r3 r4 i1 i2 i3 i4
    clear hB
    go_wp2_with fail
    obtain ⟨e0, e1, e2, e3, e4, _, _, _, _⟩ := HSET.out
    have hBS := HBS.out
    clear HSET HBS
    generalize ((((World.setCell _ _ _).setCell _ _).setCell _ _).setCell _ _).setCell _ _ = W5 at e0 e1 e2 e3 e4 hBS ⊢
    exact bodyPost_ret (v := readV (x:Int) 0 0 0 (n:Int) 5 0) (by simp [results, Tryz.results11, go_sem, e0, e1, e2, e3, e4, readV, insV]) rfl ⟨by rw [HV2.out] <;> rfl, hBS⟩

set_option maxRecDepth 100000 in
set_option maxHeartbeats 4000000 in
theorem rdABN (x y1 y2 y3 n : Nat) (L : List Nat) (hL : L.length ≤ 9223372036854775000) (h0 : L.getD 0 0 = x) (hx : 1 ≤ x ∧ x ≤ 19) (hmany : 8 ≤ L.length) (Hy1 : Hid (L.getD 1 0 = y1 ∧ y1 < 256)) (by1 : y1 < 256) (Hy2 : Hid (L.getD 2 0 = y2 ∧ y2 < 256)) (by2 : y2 < 256) (Hy3 : Hid (L.getD 3 0 = y3 ∧ y3 < 256)) (by3 : y3 < 256) (Hn : Hid (leN (L.drop 4) 4 = n ∧ n < 4294967296)) (bn : n < 4294967296) (b o c : Nat) (hc : L.length ≤ c) (hcm : c ≤ 9223372036854775807) (w : World) (hH : HasB w b o L)
    (e1 : inR x 97 = true) (e2 : inR x 98 = true) (e3 : inR x 110 = true) (e4 : inR x 107 = false) (e5 : inR x 105 = false) (e6 : inR x 102 = true) (hlen : (bytesR x 0 0 0 0).length = 8) :
    Calls Tryz.prog 11 #[.slice (some ⟨b, o, none⟩) L.length c] w fun e w' => e = .returned (rdV x y1 y2 y3 n 8) ∧ Below w.heap.size w w' := by
  have I1 := Lib.hid (rIn97 x)
  rw [e1] at I1
  have I2 := Lib.hid (rIn98 x)
  rw [e2] at I2
  have I3 := Lib.hid (rIn110 x)
  rw [e3] at I3
  have I4 := Lib.hid (rIn107 x)
  rw [e4] at I4
  have I5 := Lib.hid (rIn105 x)
  rw [e5] at I5
  have I6 := Lib.hid (rIn102 x)
  rw [e6] at I6
  clear e1 e2 e3 e4 e5 e6
  have CB := Lib.hid fun W => rBytes_any x 0 0 0 0 ⟨by omega, by omega⟩ ⟨by omega, by omega⟩ ⟨by omega, by omega⟩ ⟨by omega, by omega⟩ (by omega) W
  generalize bytesR x 0 0 0 0 = LB at CB hlen
  unfold insV at CB
  have CX0 := Lib.hid fun W => rRight_any x y1 y2 y3 n ⟨by omega, by omega⟩ W
  rw [rightR_F _ _ _ _ _ (by omega)] at CX0
  obtain ⟨V, hV⟩ : ∃ V, V = rdV x y1 y2 y3 n 8 := ⟨_, rfl⟩
  rw [← hV]
  have HV := Lib.hid hV
  clear hV
  unfold rdV at HV
  generalize rightF x y1 y2 y3 n = rt at CX0 HV
  unfold insV at CX0
  have hc0 : w.cell? ⟨b, o, none⟩ = some (.int .u8 (x : Nat)) := by have h1 := hH.2 0 (by omega); rwa [h0] at h1
  have hbw := lt_of_cell hc0
  have hlt := hH.1
  have HLT := Lib.hid hlt
  clear hlt h0
  have hL0 : (L.length == 0) = false := beq_eq_false_iff_ne.2 (by omega)
  have hL1 : ((L.length : Int) == 0) = false := beq_eq_false_iff_ne.2 (by omega)
  obtain ⟨x1, x2⟩ := hx
  go_enter Tryz.func11, Tryz.ntmps11
  go_wp2_with fail
  have hR := Bare.new 0 0 0 0 0 w 29
  have fR := World.frozen?_alloc_new w #[.int .i64 0, .int .i64 0, .int .i64 0, .int .i64 0, .int .u32 0] 29 0
  have hR0 := hR.c0
  have fR := froz_bel hR0 fR (bel1 (.cells #[.int .i64 x, .int .i64 0, .int .i64 0, .int .i64 0, .int .u32 0] 29))
  have hR := hR.bel (bel1 (.cells #[.int .i64 x, .int .i64 0, .int .i64 0, .int .i64 0, .int .u32 0] 29))
  have hI := Bare.new x 0 0 0 0 (w.alloc (.cells #[.int .i64 0, .int .i64 0, .int .i64 0, .int .i64 0, .int .u32 0] 29)) 29
  simp only [World.size_alloc] at hI
  have hB := belA (bel1 (W := w) (.cells #[.int .i64 0, .int .i64 0, .int .i64 0, .int .i64 0, .int .u32 0] 29)) (.cells #[.int .i64 x, .int .i64 0, .int .i64 0, .int .i64 0, .int .u32 0] 29)
  have hH := hH.bel hB
  have hR0 := hR.c0
  clear hc0
  generalize World.alloc _ _ = U at hR fR hI hB hH hR0 ⊢
  refine (CB.out _).mono ?_
  rintro e wi ⟨v6, rfl, hO6, hbi⟩
  obtain ⟨a6, c6, rfl⟩ := hO6.form
  rw [hlen]
  clear hO6 hlen CB
  have hR := hR.bel hbi
  have fR := froz_bel hR0 fR hbi
  have hR0 := hR.c0
  have hI := hI.bel hbi
  have hH := hH.bel hbi
  have hB := belT hB hbi
  clear hbi
  have hmz : ¬ (L.length : Int) < 8 := by omega
  go_wp2_with fail
  refine (I1.out _).mono ?_
  rintro e wi ⟨rfl, hbi⟩
  have hR := hR.bel hbi
  have fR := froz_bel hR0 fR hbi
  have hR0 := hR.c0
  have hI := hI.bel hbi
  have hH := hH.bel hbi
  have hB := belT hB hbi
  have i0 := hI.c0
  have i1 := hI.c1
  have i2 := hI.c2
  have i3 := hI.c3
  have i4 := hI.c4
  have j1 := hI.f1
  have j2 := hI.f2
  have j3 := hI.f3
  have j4 := hI.f4
  dsimp only at i1 i2 i3 i4
  clear hbi
  have hx : wi.cell? ⟨b, o + 1, none⟩ = some (.int .u8 (y1 : Nat)) := by have h1 := hH.2 1 (by omega); rwa [Hy1.out.1] at h1
  have hk : (1 : Int) < (L.length : Int) := by omega
  go_wp2_with fail
  have hI := hI.put1 (v := (y1 : Int))
  have hR := hR.far (B' := w.heap.size + 1) (o := 1) (v := .int .i64 (y1 : Int)) (by omega)
  have fR : (wi.setCell ⟨w.heap.size + 1, 1, none⟩ (.int .i64 (y1 : Int))).frozen? ⟨w.heap.size, 0, none⟩ = false := (World.frozen?_setCell ..).trans fR
  have hH := hH.touch (T := fun k => k = w.heap.size + 1) (Touch.setCell (T := fun k => k = w.heap.size + 1) wi ⟨w.heap.size + 1, 1, none⟩ (.int .i64 (y1 : Int)) rfl) (by omega)
  have hB := hB.setCell (p := ⟨w.heap.size + 1, 1, none⟩) (by simp) (.int .i64 (y1 : Int))
  dsimp only at hI
  clear hx i0 i1 i2 i3 i4 j1 j2 j3 j4
  generalize wi.setCell ⟨w.heap.size + 1, 1, none⟩ (.int .i64 (y1 : Int)) = wi at hI hR fR hH hB ⊢
  have hR0 := hR.c0
  refine (I2.out _).mono ?_
  rintro e wi ⟨rfl, hbi⟩
  have hR := hR.bel hbi
  have fR := froz_bel hR0 fR hbi
  have hR0 := hR.c0
  have hI := hI.bel hbi
  have hH := hH.bel hbi
  have hB := belT hB hbi
  have i0 := hI.c0
  have i1 := hI.c1
  have i2 := hI.c2
  have i3 := hI.c3
  have i4 := hI.c4
  have j1 := hI.f1
  have j2 := hI.f2
  have j3 := hI.f3
  have j4 := hI.f4
  dsimp only at i1 i2 i3 i4
  clear hbi
  have hx : wi.cell? ⟨b, o + 2, none⟩ = some (.int .u8 (y2 : Nat)) := by have h1 := hH.2 2 (by omega); rwa [Hy2.out.1] at h1
  have hk : (2 : Int) < (L.length : Int) := by omega
  go_wp2_with fail
  have hI := hI.put2 (v := (y2 : Int))
  have hR := hR.far (B' := w.heap.size + 1) (o := 2) (v := .int .i64 (y2 : Int)) (by omega)
  have fR : (wi.setCell ⟨w.heap.size + 1, 2, none⟩ (.int .i64 (y2 : Int))).frozen? ⟨w.heap.size, 0, none⟩ = false := (World.frozen?_setCell ..).trans fR
  have hH := hH.touch (T := fun k => k = w.heap.size + 1) (Touch.setCell (T := fun k => k = w.heap.size + 1) wi ⟨w.heap.size + 1, 2, none⟩ (.int .i64 (y2 : Int)) rfl) (by omega)
  have hB := hB.setCell (p := ⟨w.heap.size + 1, 2, none⟩) (by simp) (.int .i64 (y2 : Int))
  dsimp only at hI
  clear hx i0 i1 i2 i3 i4 j1 j2 j3 j4
  generalize wi.setCell ⟨w.heap.size + 1, 2, none⟩ (.int .i64 (y2 : Int)) = wi at hI hR fR hH hB ⊢
  have hR0 := hR.c0
  refine (I3.out _).mono ?_
  rintro e wi ⟨rfl, hbi⟩
  have hR := hR.bel hbi
  have fR := froz_bel hR0 fR hbi
  have hR0 := hR.c0
  have hI := hI.bel hbi
  have hH := hH.bel hbi
  have hB := belT hB hbi
  have i0 := hI.c0
  have i1 := hI.c1
  have i2 := hI.c2
  have i3 := hI.c3
  have i4 := hI.c4
  have j1 := hI.f1
  have j2 := hI.f2
  have j3 := hI.f3
  have j4 := hI.f4
  dsimp only at i1 i2 i3 i4
  clear hbi
  have hx : wi.cell? ⟨b, o + 3, none⟩ = some (.int .u8 (y3 : Nat)) := by have h1 := hH.2 3 (by omega); rwa [Hy3.out.1] at h1
  have hk : (3 : Int) < (L.length : Int) := by omega
  go_wp2_with fail
  have hI := hI.put3 (v := (y3 : Int))
  have hR := hR.far (B' := w.heap.size + 1) (o := 3) (v := .int .i64 (y3 : Int)) (by omega)
  have fR : (wi.setCell ⟨w.heap.size + 1, 3, none⟩ (.int .i64 (y3 : Int))).frozen? ⟨w.heap.size, 0, none⟩ = false := (World.frozen?_setCell ..).trans fR
  have hH := hH.touch (T := fun k => k = w.heap.size + 1) (Touch.setCell (T := fun k => k = w.heap.size + 1) wi ⟨w.heap.size + 1, 3, none⟩ (.int .i64 (y3 : Int)) rfl) (by omega)
  have hB := hB.setCell (p := ⟨w.heap.size + 1, 3, none⟩) (by simp) (.int .i64 (y3 : Int))
  dsimp only at hI
  clear hx i0 i1 i2 i3 i4 j1 j2 j3 j4
  generalize wi.setCell ⟨w.heap.size + 1, 3, none⟩ (.int .i64 (y3 : Int)) = wi at hI hR fR hH hB ⊢
  have hR0 := hR.c0
  refine (I5.out _).mono ?_
  rintro e wi ⟨rfl, hbi⟩
  have hR := hR.bel hbi
  have fR := froz_bel hR0 fR hbi
  have hR0 := hR.c0
  have hI := hI.bel hbi
  have hH := hH.bel hbi
  have hB := belT hB hbi
  have i0 := hI.c0
  have i1 := hI.c1
  have i2 := hI.c2
  have i3 := hI.c3
  have i4 := hI.c4
  have j1 := hI.f1
  have j2 := hI.f2
  have j3 := hI.f3
  have j4 := hI.f4
  dsimp only at i1 i2 i3 i4
  clear hbi
  go_wp2_with fail
  refine (I6.out _).mono ?_
  rintro e wi ⟨rfl, hbi⟩
  have hR := hR.bel hbi
  have fR := froz_bel hR0 fR hbi
  have hR0 := hR.c0
  have hI := hI.bel hbi
  have hH := hH.bel hbi
  have hB := belT hB hbi
  have i0 := hI.c0
  have i1 := hI.c1
  have i2 := hI.c2
  have i3 := hI.c3
  have i4 := hI.c4
  have j1 := hI.f1
  have j2 := hI.f2
  have j3 := hI.f3
  have j4 := hI.f4
  dsimp only at i1 i2 i3 i4
  clear hbi
  have hsl : ∀ w, (Instr.slice 22 (.slice (some ⟨b, o, none⟩) L.length c) (some (.int .i64 4)) none none).run Tryz.prog w = .ok (.slice (some ⟨b, o + 4, none⟩) (L.length - 4) (c - 4)) w := slice_from b o L.length c 4 (by omega) (by omega)
  have CR := Lib.hid (rRead_four b (o + 4) (c - 4) (L.drop 4) (by rw [List.length_drop]; omega) wi (hH.drop 4))
  rw [List.length_drop, Hn.out.1] at CR
  go_wp2_with fail
  refine CR.out.mono ?_
  rintro e wj ⟨rfl, rfl⟩
  go_wp2_with fail
  have hI := hI.put4 (v := (n : Int))
  have hR := hR.far (B' := w.heap.size + 1) (o := 4) (v := .int .u32 (n : Int)) (by omega)
  have fR : (wi.setCell ⟨w.heap.size + 1, 4, none⟩ (.int .u32 (n : Int))).frozen? ⟨w.heap.size, 0, none⟩ = false := (World.frozen?_setCell ..).trans fR
  have hB := hB.setCell (p := ⟨w.heap.size + 1, 4, none⟩) (by simp) (.int .u32 (n : Int))
  dsimp only at hI
  clear hH i0 i1 i2 i3 i4 j1 j2 j3 j4
  generalize wi.setCell ⟨w.heap.size + 1, 4, none⟩ (.int .u32 (n : Int)) = wi at hI hR fR hB ⊢
  have hR0 := hR.c0
  refine (CX0.out _).mono ?_
  rintro e wk ⟨rfl, hbk⟩
  have hR := hR.bel hbk
  have fR := froz_bel hR0 fR hbk
  have hI := hI.bel hbk
  have hB := belT hB hbk
  clear hbk hR0 CX0
  cases rt with
  | false =>
    have HV2 := Lib.hid (HV.out.trans (if_neg (by decide)))
    clear HV
    have HSET := Lib.hid (Bare.set hR 0 0 0 0 0)
    have HBS := Lib.hid (((((hB.setCell (p := ⟨w.heap.size, 0, none⟩) (Nat.le_refl _) (.int .i64 0)).setCell (p := ⟨w.heap.size, 1, none⟩) (Nat.le_refl _) (.int .i64 0)).setCell (p := ⟨w.heap.size, 2, none⟩) (Nat.le_refl _) (.int .i64 0)).setCell (p := ⟨w.heap.size, 3, none⟩) (Nat.le_refl _) (.int .i64 0)).setCell (p := ⟨w.heap.size, 4, none⟩) (Nat.le_refl _) (.int .u32 0))
    obtain ⟨r0, r1, r2, r3, r4, g1, g2, g3, g4⟩ := hR
    obtain ⟨i0, i1, i2, i3, i4, _, _, _, _⟩ := hI
    dsimp only at r1 r2 r3 r4 i1 i2 i3 i4
    clear hB
    go_wp2_with fail
    obtain ⟨e0, e1, e2, e3, e4, _, _, _, _⟩ := HSET.out
    have hBS := HBS.out
    clear HSET HBS
    generalize ((((World.setCell _ _ _).setCell _ _).setCell _ _).setCell _ _).setCell _ _ = W5 at e0 e1 e2 e3 e4 hBS ⊢
    exact bodyPost_ret (v := readV 0 0 0 0 0 0 180) (by simp [results, Tryz.results11, go_sem, e0, e1, e2, e3, e4, readV, insV]) rfl ⟨by rw [HV2.out] <;> rfl, hBS⟩
  | true =>
    have HV2 := Lib.hid (HV.out.trans (if_pos rfl))
    clear HV
    have HSET := Lib.hid (Bare.set hR (x:Int) (y1:Int) (y2:Int) (y3:Int) (n:Int))
    have HBS := Lib.hid (((((hB.setCell (p := ⟨w.heap.size, 0, none⟩) (Nat.le_refl _) (.int .i64 (x:Int))).setCell (p := ⟨w.heap.size, 1, none⟩) (Nat.le_refl _) (.int .i64 (y1:Int))).setCell (p := ⟨w.heap.size, 2, none⟩) (Nat.le_refl _) (.int .i64 (y2:Int))).setCell (p := ⟨w.heap.size, 3, none⟩) (Nat.le_refl _) (.int .i64 (y3:Int))).setCell (p := ⟨w.heap.size, 4, none⟩) (Nat.le_refl _) (.int .u32 (n:Int)))
    obtain ⟨r0, r1, r2, r3, r4, g1, g2, g3, g4⟩ := hR
    obtain ⟨i0, i1, i2, i3, i4, _, _, _, _⟩ := hI
    dsimp only at r1 r2 r3 r4 i1 i2 i3 i4
    clear hB
    go_wp2_with fail
    obtain ⟨e0, e1, e2, e3, e4, _, _, _, _⟩ := HSET.out
    have hBS := HBS.out
    clear HSET HBS
    generalize ((((World.setCell _ _ _).setCell _ _).setCell _ _).setCell _ _).setCell _ _ = W5 at e0 e1 e2 e3 e4 hBS ⊢
    exact bodyPost_ret (v := readV (x:Int) (y1:Int) (y2:Int) (y3:Int) (n:Int) 8 0) (by simp [results, Tryz.results11, go_sem, e0, e1, e2, e3, e4, readV, insV]) rfl ⟨by rw [HV2.out] <;> rfl, hBS⟩

set_option maxRecDepth 100000 in
set_option maxHeartbeats 4000000 in
theorem rdA (x y1  : Nat) (L : List Nat) (hL : L.length ≤ 9223372036854775000) (h0 : L.getD 0 0 = x) (hx : 1 ≤ x ∧ x ≤ 19) (hmany : 2 ≤ L.length) (Hy1 : Hid (L.getD 1 0 = y1 ∧ y1 < 256)) (by1 : y1 < 256) (b o c : Nat) (hc : L.length ≤ c) (hcm : c ≤ 9223372036854775807) (w : World) (hH : HasB w b o L)
    (e1 : inR x 97 = true) (e2 : inR x 98 = false) (e3 : inR x 110 = false) (e4 : inR x 107 = false) (e5 : inR x 105 = false) (e6 : inR x 102 = false) (hlen : (bytesR x 0 0 0 0).length = 2) :
    Calls Tryz.prog 11 #[.slice (some ⟨b, o, none⟩) L.length c] w fun e w' => e = .returned (rdV x y1 0 0 0 2) ∧ Below w.heap.size w w' := by
  have I1 := Lib.hid (rIn97 x)
  rw [e1] at I1
  have I2 := Lib.hid (rIn98 x)
  rw [e2] at I2
  have I3 := Lib.hid (rIn110 x)
  rw [e3] at I3
  have I4 := Lib.hid (rIn107 x)
  rw [e4] at I4
  have I5 := Lib.hid (rIn105 x)
  rw [e5] at I5
  have I6 := Lib.hid (rIn102 x)
  rw [e6] at I6
  clear e1 e2 e3 e4 e5 e6
  have CB := Lib.hid fun W => rBytes_any x 0 0 0 0 ⟨by omega, by omega⟩ ⟨by omega, by omega⟩ ⟨by omega, by omega⟩ ⟨by omega, by omega⟩ (by omega) W
  generalize bytesR x 0 0 0 0 = LB at CB hlen
  unfold insV at CB
  have CX0 := Lib.hid fun W => rRight_any x y1 0 0 0 ⟨by omega, by omega⟩ W
  rw [rightR_F _ _ _ _ _ (by omega)] at CX0
  obtain ⟨V, hV⟩ : ∃ V, V = rdV x y1 0 0 0 2 := ⟨_, rfl⟩
  rw [← hV]
  have HV := Lib.hid hV
  clear hV
  unfold rdV at HV
  generalize rightF x y1 0 0 0 = rt at CX0 HV
  unfold insV at CX0
  have hc0 : w.cell? ⟨b, o, none⟩ = some (.int .u8 (x : Nat)) := by have h1 := hH.2 0 (by omega); rwa [h0] at h1
  have hbw := lt_of_cell hc0
  have hlt := hH.1
  have HLT := Lib.hid hlt
  clear hlt h0
  have hL0 : (L.length == 0) = false := beq_eq_false_iff_ne.2 (by omega)
  have hL1 : ((L.length : Int) == 0) = false := beq_eq_false_iff_ne.2 (by omega)
  obtain ⟨x1, x2⟩ := hx
  go_enter Tryz.func11, Tryz.ntmps11
  go_wp2_with fail
  have hR := Bare.new 0 0 0 0 0 w 29
  have fR := World.frozen?_alloc_new w #[.int .i64 0, .int .i64 0, .int .i64 0, .int .i64 0, .int .u32 0] 29 0
  have hR0 := hR.c0
  have fR := froz_bel hR0 fR (bel1 (.cells #[.int .i64 x, .int .i64 0, .int .i64 0, .int .i64 0, .int .u32 0] 29))
  have hR := hR.bel (bel1 (.cells #[.int .i64 x, .int .i64 0, .int .i64 0, .int .i64 0, .int .u32 0] 29))
  have hI := Bare.new x 0 0 0 0 (w.alloc (.cells #[.int .i64 0, .int .i64 0, .int .i64 0, .int .i64 0, .int .u32 0] 29)) 29
  simp only [World.size_alloc] at hI
  have hB := belA (bel1 (W := w) (.cells #[.int .i64 0, .int .i64 0, .int .i64 0, .int .i64 0, .int .u32 0] 29)) (.cells #[.int .i64 x, .int .i64 0, .int .i64 0, .int .i64 0, .int .u32 0] 29)
  have hH := hH.bel hB
  have hR0 := hR.c0
  clear hc0
  generalize World.alloc _ _ = U at hR fR hI hB hH hR0 ⊢
  refine (CB.out _).mono ?_
  rintro e wi ⟨v6, rfl, hO6, hbi⟩
  obtain ⟨a6, c6, rfl⟩ := hO6.form
  rw [hlen]
  clear hO6 hlen CB
  have hR := hR.bel hbi
  have fR := froz_bel hR0 fR hbi
  have hR0 := hR.c0
  have hI := hI.bel hbi
  have hH := hH.bel hbi
  have hB := belT hB hbi
  clear hbi
  have hmz : ¬ (L.length : Int) < 2 := by omega
  go_wp2_with fail
  refine (I1.out _).mono ?_
  rintro e wi ⟨rfl, hbi⟩
  have hR := hR.bel hbi
  have fR := froz_bel hR0 fR hbi
  have hR0 := hR.c0
  have hI := hI.bel hbi
  have hH := hH.bel hbi
  have hB := belT hB hbi
  have i0 := hI.c0
  have i1 := hI.c1
  have i2 := hI.c2
  have i3 := hI.c3
  have i4 := hI.c4
  have j1 := hI.f1
  have j2 := hI.f2
  have j3 := hI.f3
  have j4 := hI.f4
  dsimp only at i1 i2 i3 i4
  clear hbi
  have hx : wi.cell? ⟨b, o + 1, none⟩ = some (.int .u8 (y1 : Nat)) := by have h1 := hH.2 1 (by omega); rwa [Hy1.out.1] at h1
  have hk : (1 : Int) < (L.length : Int) := by omega
  go_wp2_with fail
  have hI := hI.put1 (v := (y1 : Int))
  have hR := hR.far (B' := w.heap.size + 1) (o := 1) (v := .int .i64 (y1 : Int)) (by omega)
  have fR : (wi.setCell ⟨w.heap.size + 1, 1, none⟩ (.int .i64 (y1 : Int))).frozen? ⟨w.heap.size, 0, none⟩ = false := (World.frozen?_setCell ..).trans fR
  have hH := hH.touch (T := fun k => k = w.heap.size + 1) (Touch.setCell (T := fun k => k = w.heap.size + 1) wi ⟨w.heap.size + 1, 1, none⟩ (.int .i64 (y1 : Int)) rfl) (by omega)
  have hB := hB.setCell (p := ⟨w.heap.size + 1, 1, none⟩) (by simp) (.int .i64 (y1 : Int))
  dsimp only at hI
  clear hx i0 i1 i2 i3 i4 j1 j2 j3 j4
  generalize wi.setCell ⟨w.heap.size + 1, 1, none⟩ (.int .i64 (y1 : Int)) = wi at hI hR fR hH hB ⊢
  have hR0 := hR.c0
  refine (I2.out _).mono ?_
  rintro e wi ⟨rfl, hbi⟩
  have hR := hR.bel hbi
  have fR := froz_bel hR0 fR hbi
  have hR0 := hR.c0
  have hI := hI.bel hbi
  have hH := hH.bel hbi
  have hB := belT hB hbi
  have i0 := hI.c0
  have i1 := hI.c1
  have i2 := hI.c2
  have i3 := hI.c3
  have i4 := hI.c4
  have j1 := hI.f1
  have j2 := hI.f2
  have j3 := hI.f3
  have j4 := hI.f4
  dsimp only at i1 i2 i3 i4
  clear hbi
  go_wp2_with fail
  refine (I3.out _).mono ?_
  rintro e wi ⟨rfl, hbi⟩
  have hR := hR.bel hbi
  have fR := froz_bel hR0 fR hbi
  have hR0 := hR.c0
  have hI := hI.bel hbi
  have hH := hH.bel hbi
  have hB := belT hB hbi
  have i0 := hI.c0
  have i1 := hI.c1
  have i2 := hI.c2
  have i3 := hI.c3
  have i4 := hI.c4
  have j1 := hI.f1
  have j2 := hI.f2
  have j3 := hI.f3
  have j4 := hI.f4
  dsimp only at i1 i2 i3 i4
  clear hbi
  go_wp2_with fail
  refine (I4.out _).mono ?_
  rintro e wi ⟨rfl, hbi⟩
  have hR := hR.bel hbi
  have fR := froz_bel hR0 fR hbi
  have hR0 := hR.c0
  have hI := hI.bel hbi
  have hH := hH.bel hbi
  have hB := belT hB hbi
  have i0 := hI.c0
  have i1 := hI.c1
  have i2 := hI.c2
  have i3 := hI.c3
  have i4 := hI.c4
  have j1 := hI.f1
  have j2 := hI.f2
  have j3 := hI.f3
  have j4 := hI.f4
  dsimp only at i1 i2 i3 i4
  clear hbi
  go_wp2_with fail
  refine (I5.out _).mono ?_
  rintro e wi ⟨rfl, hbi⟩
  have hR := hR.bel hbi
  have fR := froz_bel hR0 fR hbi
  have hR0 := hR.c0
  have hI := hI.bel hbi
  have hH := hH.bel hbi
  have hB := belT hB hbi
  have i0 := hI.c0
  have i1 := hI.c1
  have i2 := hI.c2
  have i3 := hI.c3
  have i4 := hI.c4
  have j1 := hI.f1
  have j2 := hI.f2
  have j3 := hI.f3
  have j4 := hI.f4
  dsimp only at i1 i2 i3 i4
  clear hbi
  go_wp2_with fail
  refine (I6.out _).mono ?_
  rintro e wi ⟨rfl, hbi⟩
  have hR := hR.bel hbi
  have fR := froz_bel hR0 fR hbi
  have hR0 := hR.c0
  have hI := hI.bel hbi
  have hH := hH.bel hbi
  have hB := belT hB hbi
  have i0 := hI.c0
  have i1 := hI.c1
  have i2 := hI.c2
  have i3 := hI.c3
  have i4 := hI.c4
  have j1 := hI.f1
  have j2 := hI.f2
  have j3 := hI.f3
  have j4 := hI.f4
  dsimp only at i1 i2 i3 i4
  clear hbi
  go_wp2_with fail
  refine (I4.out _).mono ?_
  rintro e wi ⟨rfl, hbi⟩
  have hR := hR.bel hbi
  have fR := froz_bel hR0 fR hbi
  have hR0 := hR.c0
  have hI := hI.bel hbi
  have hH := hH.bel hbi
  have hB := belT hB hbi
  have i0 := hI.c0
  have i1 := hI.c1
  have i2 := hI.c2
  have i3 := hI.c3
  have i4 := hI.c4
  have j1 := hI.f1
  have j2 := hI.f2
  have j3 := hI.f3
  have j4 := hI.f4
  dsimp only at i1 i2 i3 i4
  clear hbi
  go_wp2_with fail
  refine (CX0.out _).mono ?_
  rintro e wk ⟨rfl, hbk⟩
  have hR := hR.bel hbk
  have fR := froz_bel hR0 fR hbk
  have hI := hI.bel hbk
  have hB := belT hB hbk
  clear hbk hR0 CX0
  cases rt with
  | false =>
    have HV2 := Lib.hid (HV.out.trans (if_neg (by decide)))
    clear HV
    have HSET := Lib.hid (Bare.set hR 0 0 0 0 0)
    have HBS := Lib.hid (((((hB.setCell (p := ⟨w.heap.size, 0, none⟩) (Nat.le_refl _) (.int .i64 0)).setCell (p := ⟨w.heap.size, 1, none⟩) (Nat.le_refl _) (.int .i64 0)).setCell (p := ⟨w.heap.size, 2, none⟩) (Nat.le_refl _) (.int .i64 0)).setCell (p := ⟨w.heap.size, 3, none⟩) (Nat.le_refl _) (.int .i64 0)).setCell (p := ⟨w.heap.size, 4, none⟩) (Nat.le_refl _) (.int .u32 0))
    obtain ⟨r0, r1, r2, r3, r4, g1, g2, g3, g4⟩ := hR
    obtain ⟨i0, i1, i2, i3, i4, _, _, _, _⟩ := hI
    dsimp only at r1 r2 r3 r4 i1 i2 i3 i4
    clear hB
    go_wp2_with fail
    obtain ⟨e0, e1, e2, e3, e4, _, _, _, _⟩ := HSET.out
    have hBS := HBS.out
    clear HSET HBS
    generalize ((((World.setCell _ _ _).setCell _ _).setCell _ _).setCell _ _).setCell _ _ = W5 at e0 e1 e2 e3 e4 hBS ⊢
    exact bodyPost_ret (v := readV 0 0 0 0 0 0 180) (by simp [results, Tryz.results11, go_sem, e0, e1, e2, e3, e4, readV, insV]) rfl ⟨by rw [HV2.out] <;> rfl, hBS⟩
  | true =>
    have HV2 := Lib.hid (HV.out.trans (if_pos rfl))
    clear HV
    have HSET := Lib.hid (Bare.set hR (x:Int) (y1:Int) 0 0 0)
    have HBS := Lib.hid (((((hB.setCell (p := ⟨w.heap.size, 0, none⟩) (Nat.le_refl _) (.int .i64 (x:Int))).setCell (p := ⟨w.heap.size, 1, none⟩) (Nat.le_refl _) (.int .i64 (y1:Int))).setCell (p := ⟨w.heap.size, 2, none⟩) (Nat.le_refl _) (.int .i64 0)).setCell (p := ⟨w.heap.size, 3, none⟩) (Nat.le_refl _) (.int .i64 0)).setCell (p := ⟨w.heap.size, 4, none⟩) (Nat.le_refl _) (.int .u32 0))
    obtain ⟨r0, r1, r2, r3, r4, g1, g2, g3, g4⟩ := hR
    obtain ⟨i0, i1, i2, i3, i4, _, _, _, _⟩ := hI
    dsimp only at r1 r2 r3 r4 i1 i2 i3 i4
    clear hB
    go_wp2_with fail
    obtain ⟨e0, e1, e2, e3, e4, _, _, _, _⟩ := HSET.out
    have hBS := HBS.out
    clear HSET HBS
    generalize ((((World.setCell _ _ _).setCell _ _).setCell _ _).setCell _ _).setCell _ _ = W5 at e0 e1 e2 e3 e4 hBS ⊢
    exact bodyPost_ret (v := readV (x:Int) (y1:Int) 0 0 0 2 0) (by simp [results, Tryz.results11, go_sem, e0, e1, e2, e3, e4, readV, insV]) rfl ⟨by rw [HV2.out] <;> rfl, hBS⟩

set_option maxRecDepth 100000 in
set_option maxHeartbeats 4000000 in
theorem rdBN (x y2 y3 n : Nat) (L : List Nat) (hL : L.length ≤ 9223372036854775000) (h0 : L.getD 0 0 = x) (hx : 1 ≤ x ∧ x ≤ 19) (hmany : 7 ≤ L.length) (Hy2 : Hid (L.getD 1 0 = y2 ∧ y2 < 256)) (by2 : y2 < 256) (Hy3 : Hid (L.getD 2 0 = y3 ∧ y3 < 256)) (by3 : y3 < 256) (Hn : Hid (leN (L.drop 3) 4 = n ∧ n < 4294967296)) (bn : n < 4294967296) (b o c : Nat) (hc : L.length ≤ c) (hcm : c ≤ 9223372036854775807) (w : World) (hH : HasB w b o L)
    (e1 : inR x 97 = false) (e2 : inR x 98 = true) (e3 : inR x 110 = true) (e4 : inR x 107 = false) (e5 : inR x 105 = false) (e6 : inR x 102 = true) (hlen : (bytesR x 0 0 0 0).length = 7) :
    Calls Tryz.prog 11 #[.slice (some ⟨b, o, none⟩) L.length c] w fun e w' => e = .returned (rdV x 0 y2 y3 n 7) ∧ Below w.heap.size w w' := by
  have I1 := Lib.hid (rIn97 x)
  rw [e1] at I1
  have I2 := Lib.hid (rIn98 x)
  rw [e2] at I2
  have I3 := Lib.hid (rIn110 x)
  rw [e3] at I3
  have I4 := Lib.hid (rIn107 x)
  rw [e4] at I4
  have I5 := Lib.hid (rIn105 x)
  rw [e5] at I5
  have I6 := Lib.hid (rIn102 x)
  rw [e6] at I6
  clear e1 e2 e3 e4 e5 e6
  have CB := Lib.hid fun W => rBytes_any x 0 0 0 0 ⟨by omega, by omega⟩ ⟨by omega, by omega⟩ ⟨by omega, by omega⟩ ⟨by omega, by omega⟩ (by omega) W
  generalize bytesR x 0 0 0 0 = LB at CB hlen
  unfold insV at CB
  have CX0 := Lib.hid fun W => rRight_any x 0 y2 y3 n ⟨by omega, by omega⟩ W
  rw [rightR_F _ _ _ _ _ (by omega)] at CX0
  obtain ⟨V, hV⟩ : ∃ V, V = rdV x 0 y2 y3 n 7 := ⟨_, rfl⟩
  rw [← hV]
  have HV := Lib.hid hV
  clear hV
  unfold rdV at HV
  generalize rightF x 0 y2 y3 n = rt at CX0 HV
  unfold insV at CX0
  have hc0 : w.cell? ⟨b, o, none⟩ = some (.int .u8 (x : Nat)) := by have h1 := hH.2 0 (by omega); rwa [h0] at h1
  have hbw := lt_of_cell hc0
  have hlt := hH.1
  have HLT := Lib.hid hlt
  clear hlt h0
  have hL0 : (L.length == 0) = false := beq_eq_false_iff_ne.2 (by omega)
  have hL1 : ((L.length : Int) == 0) = false := beq_eq_false_iff_ne.2 (by omega)
  obtain ⟨x1, x2⟩ := hx
  go_enter Tryz.func11, Tryz.ntmps11
  go_wp2_with fail
  have hR := Bare.new 0 0 0 0 0 w 29
  have fR := World.frozen?_alloc_new w #[.int .i64 0, .int .i64 0, .int .i64 0, .int .i64 0, .int .u32 0] 29 0
  have hR0 := hR.c0
  have fR := froz_bel hR0 fR (bel1 (.cells #[.int .i64 x, .int .i64 0, .int .i64 0, .int .i64 0, .int .u32 0] 29))
  have hR := hR.bel (bel1 (.cells #[.int .i64 x, .int .i64 0, .int .i64 0, .int .i64 0, .int .u32 0] 29))
  have hI := Bare.new x 0 0 0 0 (w.alloc (.cells #[.int .i64 0, .int .i64 0, .int .i64 0, .int .i64 0, .int .u32 0] 29)) 29
  simp only [World.size_alloc] at hI
  have hB := belA (bel1 (W := w) (.cells #[.int .i64 0, .int .i64 0, .int .i64 0, .int .i64 0, .int .u32 0] 29)) (.cells #[.int .i64 x, .int .i64 0, .int .i64 0, .int .i64 0, .int .u32 0] 29)
  have hH := hH.bel hB
  have hR0 := hR.c0
  clear hc0
  generalize World.alloc _ _ = U at hR fR hI hB hH hR0 ⊢
  refine (CB.out _).mono ?_
  rintro e wi ⟨v6, rfl, hO6, hbi⟩
  obtain ⟨a6, c6, rfl⟩ := hO6.form
  rw [hlen]
  clear hO6 hlen CB
  have hR := hR.bel hbi
  have fR := froz_bel hR0 fR hbi
  have hR0 := hR.c0
  have hI := hI.bel hbi
  have hH := hH.bel hbi
  have hB := belT hB hbi
  clear hbi
  have hmz : ¬ (L.length : Int) < 7 := by omega
  go_wp2_with fail
  refine (I1.out _).mono ?_
  rintro e wi ⟨rfl, hbi⟩
  have hR := hR.bel hbi
  have fR := froz_bel hR0 fR hbi
  have hR0 := hR.c0
  have hI := hI.bel hbi
  have hH := hH.bel hbi
  have hB := belT hB hbi
  have i0 := hI.c0
  have i1 := hI.c1
  have i2 := hI.c2
  have i3 := hI.c3
  have i4 := hI.c4
  have j1 := hI.f1
  have j2 := hI.f2
  have j3 := hI.f3
  have j4 := hI.f4
  dsimp only at i1 i2 i3 i4
  clear hbi
  go_wp2_with fail
  refine (I2.out _).mono ?_
  rintro e wi ⟨rfl, hbi⟩
  have hR := hR.bel hbi
  have fR := froz_bel hR0 fR hbi
  have hR0 := hR.c0
  have hI := hI.bel hbi
  have hH := hH.bel hbi
  have hB := belT hB hbi
  have i0 := hI.c0
  have i1 := hI.c1
  have i2 := hI.c2
  have i3 := hI.c3
  have i4 := hI.c4
  have j1 := hI.f1
  have j2 := hI.f2
  have j3 := hI.f3
  have j4 := hI.f4
  dsimp only at i1 i2 i3 i4
  clear hbi
  have hx : wi.cell? ⟨b, o + 1, none⟩ = some (.int .u8 (y2 : Nat)) := by have h1 := hH.2 1 (by omega); rwa [Hy2.out.1] at h1
  have hk : (1 : Int) < (L.length : Int) := by omega
  go_wp2_with fail
  have hI := hI.put2 (v := (y2 : Int))
  have hR := hR.far (B' := w.heap.size + 1) (o := 2) (v := .int .i64 (y2 : Int)) (by omega)
  have fR : (wi.setCell ⟨w.heap.size + 1, 2, none⟩ (.int .i64 (y2 : Int))).frozen? ⟨w.heap.size, 0, none⟩ = false := (World.frozen?_setCell ..).trans fR
  have hH := hH.touch (T := fun k => k = w.heap.size + 1) (Touch.setCell (T := fun k => k = w.heap.size + 1) wi ⟨w.heap.size + 1, 2, none⟩ (.int .i64 (y2 : Int)) rfl) (by omega)
  have hB := hB.setCell (p := ⟨w.heap.size + 1, 2, none⟩) (by simp) (.int .i64 (y2 : Int))
  dsimp only at hI
  clear hx i0 i1 i2 i3 i4 j1 j2 j3 j4
  generalize wi.setCell ⟨w.heap.size + 1, 2, none⟩ (.int .i64 (y2 : Int)) = wi at hI hR fR hH hB ⊢
  have hR0 := hR.c0
  refine (I3.out _).mono ?_
  rintro e wi ⟨rfl, hbi⟩
  have hR := hR.bel hbi
  have fR := froz_bel hR0 fR hbi
  have hR0 := hR.c0
  have hI := hI.bel hbi
  have hH := hH.bel hbi
  have hB := belT hB hbi
  have i0 := hI.c0
  have i1 := hI.c1
  have i2 := hI.c2
  have i3 := hI.c3
  have i4 := hI.c4
  have j1 := hI.f1
  have j2 := hI.f2
  have j3 := hI.f3
  have j4 := hI.f4
  dsimp only at i1 i2 i3 i4
  clear hbi
  have hx : wi.cell? ⟨b, o + 2, none⟩ = some (.int .u8 (y3 : Nat)) := by have h1 := hH.2 2 (by omega); rwa [Hy3.out.1] at h1
  have hk : (2 : Int) < (L.length : Int) := by omega
  go_wp2_with fail
  have hI := hI.put3 (v := (y3 : Int))
  have hR := hR.far (B' := w.heap.size + 1) (o := 3) (v := .int .i64 (y3 : Int)) (by omega)
  have fR : (wi.setCell ⟨w.heap.size + 1, 3, none⟩ (.int .i64 (y3 : Int))).frozen? ⟨w.heap.size, 0, none⟩ = false := (World.frozen?_setCell ..).trans fR
  have hH := hH.touch (T := fun k => k = w.heap.size + 1) (Touch.setCell (T := fun k => k = w.heap.size + 1) wi ⟨w.heap.size + 1, 3, none⟩ (.int .i64 (y3 : Int)) rfl) (by omega)
  have hB := hB.setCell (p := ⟨w.heap.size + 1, 3, none⟩) (by simp) (.int .i64 (y3 : Int))
  dsimp only at hI
  clear hx i0 i1 i2 i3 i4 j1 j2 j3 j4
  generalize wi.setCell ⟨w.heap.size + 1, 3, none⟩ (.int .i64 (y3 : Int)) = wi at hI hR fR hH hB ⊢
  have hR0 := hR.c0
  refine (I5.out _).mono ?_
  rintro e wi ⟨rfl, hbi⟩
  have hR := hR.bel hbi
  have fR := froz_bel hR0 fR hbi
  have hR0 := hR.c0
  have hI := hI.bel hbi
  have hH := hH.bel hbi
  have hB := belT hB hbi
  have i0 := hI.c0
  have i1 := hI.c1
  have i2 := hI.c2
  have i3 := hI.c3
  have i4 := hI.c4
  have j1 := hI.f1
  have j2 := hI.f2
  have j3 := hI.f3
  have j4 := hI.f4
  dsimp only at i1 i2 i3 i4
  clear hbi
  go_wp2_with fail
  refine (I6.out _).mono ?_
  rintro e wi ⟨rfl, hbi⟩
  have hR := hR.bel hbi
  have fR := froz_bel hR0 fR hbi
  have hR0 := hR.c0
  have hI := hI.bel hbi
  have hH := hH.bel hbi
  have hB := belT hB hbi
  have i0 := hI.c0
  have i1 := hI.c1
  have i2 := hI.c2
  have i3 := hI.c3
  have i4 := hI.c4
  have j1 := hI.f1
  have j2 := hI.f2
  have j3 := hI.f3
  have j4 := hI.f4
  dsimp only at i1 i2 i3 i4
  clear hbi
  have hsl : ∀ w, (Instr.slice 22 (.slice (some ⟨b, o, none⟩) L.length c) (some (.int .i64 3)) none none).run Tryz.prog w = .ok (.slice (some ⟨b, o + 3, none⟩) (L.length - 3) (c - 3)) w := slice_from b o L.length c 3 (by omega) (by omega)
  have CR := Lib.hid (rRead_four b (o + 3) (c - 3) (L.drop 3) (by rw [List.length_drop]; omega) wi (hH.drop 3))
  rw [List.length_drop, Hn.out.1] at CR
  go_wp2_with fail
  refine CR.out.mono ?_
  rintro e wj ⟨rfl, rfl⟩
  go_wp2_with fail
  have hI := hI.put4 (v := (n : Int))
  have hR := hR.far (B' := w.heap.size + 1) (o := 4) (v := .int .u32 (n : Int)) (by omega)
  have fR : (wi.setCell ⟨w.heap.size + 1, 4, none⟩ (.int .u32 (n : Int))).frozen? ⟨w.heap.size, 0, none⟩ = false := (World.frozen?_setCell ..).trans fR
  have hB := hB.setCell (p := ⟨w.heap.size + 1, 4, none⟩) (by simp) (.int .u32 (n : Int))
  dsimp only at hI
  clear hH i0 i1 i2 i3 i4 j1 j2 j3 j4
  generalize wi.setCell ⟨w.heap.size + 1, 4, none⟩ (.int .u32 (n : Int)) = wi at hI hR fR hB ⊢
  have hR0 := hR.c0
  refine (CX0.out _).mono ?_
  rintro e wk ⟨rfl, hbk⟩
  have hR := hR.bel hbk
  have fR := froz_bel hR0 fR hbk
  have hI := hI.bel hbk
  have hB := belT hB hbk
  clear hbk hR0 CX0
  cases rt with
  | false =>
    have HV2 := Lib.hid (HV.out.trans (if_neg (by decide)))
    clear HV
    have HSET := Lib.hid (Bare.set hR 0 0 0 0 0)
    have HBS := Lib.hid (((((hB.setCell (p := ⟨w.heap.size, 0, none⟩) (Nat.le_refl _) (.int .i64 0)).setCell (p := ⟨w.heap.size, 1, none⟩) (Nat.le_refl _) (.int .i64 0)).setCell (p := ⟨w.heap.size, 2, none⟩) (Nat.le_refl _) (.int .i64 0)).setCell (p := ⟨w.heap.size, 3, none⟩) (Nat.le_refl _) (.int .i64 0)).setCell (p := ⟨w.heap.size, 4, none⟩) (Nat.le_refl _) (.int .u32 0))
    obtain ⟨r0, r1, r2, r3, r4, g1, g2, g3, g4⟩ := hR
    obtain ⟨i0, i1, i2, i3, i4, _, _, _, _⟩ := hI
    dsimp only at r1 r2 r3 r4 i1 i2 i3 i4
    clear hB
    go_wp2_with fail
    obtain ⟨e0, e1, e2, e3, e4, _, _, _, _⟩ := HSET.out
    have hBS := HBS.out
    clear HSET HBS
    generalize ((((World.setCell _ _ _).setCell _ _).setCell _ _).setCell _ _).setCell _ _ = W5 at e0 e1 e2 e3 e4 hBS ⊢
    exact bodyPost_ret (v := readV 0 0 0 0 0 0 180) (by simp [results, Tryz.results11, go_sem, e0, e1, e2, e3, e4, readV, insV]) rfl ⟨by rw [HV2.out] <;> rfl, hBS⟩
  | true =>
    have HV2 := Lib.hid (HV.out.trans (if_pos rfl))
    clear HV
    have HSET := Lib.hid (Bare.set hR (x:Int) 0 (y2:Int) (y3:Int) (n:Int))
    have HBS := Lib.hid (((((hB.setCell (p := ⟨w.heap.size, 0, none⟩) (Nat.le_refl _) (.int .i64 (x:Int))).setCell (p := ⟨w.heap.size, 1, none⟩) (Nat.le_refl _) (.int .i64 0)).setCell (p := ⟨w.heap.size, 2, none⟩) (Nat.le_refl _) (.int .i64 (y2:Int))).setCell (p := ⟨w.heap.size, 3, none⟩) (Nat.le_refl _) (.int .i64 (y3:Int))).setCell (p := ⟨w.heap.size, 4, none⟩) (Nat.le_refl _) (.int .u32 (n:Int)))
    obtain ⟨r0, r1, r2, r3, r4, g1, g2, g3, g4⟩ := hR
    obtain ⟨i0, i1, i2, i3, i4, _, _, _, _⟩ := hI
    dsimp only at r1 r2 r3 r4 i1 i2 i3 i4
    clear hB
    go_wp2_with fail
    obtain ⟨e0, e1, e2, e3, e4, _, _, _, _⟩ := HSET.out
    have hBS := HBS.out
    clear HSET HBS
    generalize ((((World.setCell _ _ _).setCell _ _).setCell _ _).setCell _ _).setCell _ _ = W5 at e0 e1 e2 e3 e4 hBS ⊢
    exact bodyPost_ret (v := readV (x:Int) 0 (y2:Int) (y3:Int) (n:Int) 7 0) (by simp [results, Tryz.results11, go_sem, e0, e1, e2, e3, e4, readV, insV]) rfl ⟨by rw [HV2.out] <;> rfl, hBS⟩

set_option maxRecDepth 100000 in
set_option maxHeartbeats 4000000 in
theorem rd0 (x   : Nat) (L : List Nat) (hL : L.length ≤ 9223372036854775000) (h0 : L.getD 0 0 = x) (hx : 1 ≤ x ∧ x ≤ 19) (hmany : 1 ≤ L.length)  (b o c : Nat) (hc : L.length ≤ c) (hcm : c ≤ 9223372036854775807) (w : World) (hH : HasB w b o L)
    (e1 : inR x 97 = false) (e2 : inR x 98 = false) (e3 : inR x 110 = false) (e4 : inR x 107 = false) (e5 : inR x 105 = false) (e6 : inR x 102 = false) (hlen : (bytesR x 0 0 0 0).length = 1) :
    Calls Tryz.prog 11 #[.slice (some ⟨b, o, none⟩) L.length c] w fun e w' => e = .returned (rdV x 0 0 0 0 1) ∧ Below w.heap.size w w' := by
  have I1 := Lib.hid (rIn97 x)
  rw [e1] at I1
  have I2 := Lib.hid (rIn98 x)
  rw [e2] at I2
  have I3 := Lib.hid (rIn110 x)
  rw [e3] at I3
  have I4 := Lib.hid (rIn107 x)
  rw [e4] at I4
  have I5 := Lib.hid (rIn105 x)
  rw [e5] at I5
  have I6 := Lib.hid (rIn102 x)
  rw [e6] at I6
  clear e1 e2 e3 e4 e5 e6
  have CB := Lib.hid fun W => rBytes_any x 0 0 0 0 ⟨by omega, by omega⟩ ⟨by omega, by omega⟩ ⟨by omega, by omega⟩ ⟨by omega, by omega⟩ (by omega) W
  generalize bytesR x 0 0 0 0 = LB at CB hlen
  unfold insV at CB
  have CX0 := Lib.hid fun W => rRight_any x 0 0 0 0 ⟨by omega, by omega⟩ W
  rw [rightR_F _ _ _ _ _ (by omega)] at CX0
  obtain ⟨V, hV⟩ : ∃ V, V = rdV x 0 0 0 0 1 := ⟨_, rfl⟩
  rw [← hV]
  have HV := Lib.hid hV
  clear hV
  unfold rdV at HV
  generalize rightF x 0 0 0 0 = rt at CX0 HV
  unfold insV at CX0
  have hc0 : w.cell? ⟨b, o, none⟩ = some (.int .u8 (x : Nat)) := by have h1 := hH.2 0 (by omega); rwa [h0] at h1
  have hbw := lt_of_cell hc0
  have hlt := hH.1
  have HLT := Lib.hid hlt
  clear hlt h0
  have hL0 : (L.length == 0) = false := beq_eq_false_iff_ne.2 (by omega)
  have hL1 : ((L.length : Int) == 0) = false := beq_eq_false_iff_ne.2 (by omega)
  obtain ⟨x1, x2⟩ := hx
  go_enter Tryz.func11, Tryz.ntmps11
  go_wp2_with fail
  have hR := Bare.new 0 0 0 0 0 w 29
  have fR := World.frozen?_alloc_new w #[.int .i64 0, .int .i64 0, .int .i64 0, .int .i64 0, .int .u32 0] 29 0
  have hR0 := hR.c0
  have fR := froz_bel hR0 fR (bel1 (.cells #[.int .i64 x, .int .i64 0, .int .i64 0, .int .i64 0, .int .u32 0] 29))
  have hR := hR.bel (bel1 (.cells #[.int .i64 x, .int .i64 0, .int .i64 0, .int .i64 0, .int .u32 0] 29))
  have hI := Bare.new x 0 0 0 0 (w.alloc (.cells #[.int .i64 0, .int .i64 0, .int .i64 0, .int .i64 0, .int .u32 0] 29)) 29
  simp only [World.size_alloc] at hI
  have hB := belA (bel1 (W := w) (.cells #[.int .i64 0, .int .i64 0, .int .i64 0, .int .i64 0, .int .u32 0] 29)) (.cells #[.int .i64 x, .int .i64 0, .int .i64 0, .int .i64 0, .int .u32 0] 29)
  have hH := hH.bel hB
  have hR0 := hR.c0
  clear hc0
  generalize World.alloc _ _ = U at hR fR hI hB hH hR0 ⊢
  refine (CB.out _).mono ?_
  rintro e wi ⟨v6, rfl, hO6, hbi⟩
  obtain ⟨a6, c6, rfl⟩ := hO6.form
  rw [hlen]
  clear hO6 hlen CB
  have hR := hR.bel hbi
  have fR := froz_bel hR0 fR hbi
  have hR0 := hR.c0
  have hI := hI.bel hbi
  have hH := hH.bel hbi
  have hB := belT hB hbi
  clear hbi
  have hmz : ¬ (L.length : Int) < 1 := by omega
  go_wp2_with fail
  refine (I1.out _).mono ?_
  rintro e wi ⟨rfl, hbi⟩
  have hR := hR.bel hbi
  have fR := froz_bel hR0 fR hbi
  have hR0 := hR.c0
  have hI := hI.bel hbi
  have hH := hH.bel hbi
  have hB := belT hB hbi
  have i0 := hI.c0
  have i1 := hI.c1
  have i2 := hI.c2
  have i3 := hI.c3
  have i4 := hI.c4
  have j1 := hI.f1
  have j2 := hI.f2
  have j3 := hI.f3
  have j4 := hI.f4
  dsimp only at i1 i2 i3 i4
  clear hbi
  go_wp2_with fail
  refine (I2.out _).mono ?_
  rintro e wi ⟨rfl, hbi⟩
  have hR := hR.bel hbi
  have fR := froz_bel hR0 fR hbi
  have hR0 := hR.c0
  have hI := hI.bel hbi
  have hH := hH.bel hbi
  have hB := belT hB hbi
  have i0 := hI.c0
  have i1 := hI.c1
  have i2 := hI.c2
  have i3 := hI.c3
  have i4 := hI.c4
  have j1 := hI.f1
  have j2 := hI.f2
  have j3 := hI.f3
  have j4 := hI.f4
  dsimp only at i1 i2 i3 i4
  clear hbi
  go_wp2_with fail
  refine (I3.out _).mono ?_
  rintro e wi ⟨rfl, hbi⟩
  have hR := hR.bel hbi
  have fR := froz_bel hR0 fR hbi
  have hR0 := hR.c0
  have hI := hI.bel hbi
  have hH := hH.bel hbi
  have hB := belT hB hbi
  have i0 := hI.c0
  have i1 := hI.c1
  have i2 := hI.c2
  have i3 := hI.c3
  have i4 := hI.c4
  have j1 := hI.f1
  have j2 := hI.f2
  have j3 := hI.f3
  have j4 := hI.f4
  dsimp only at i1 i2 i3 i4
  clear hbi
  go_wp2_with fail
  refine (I4.out _).mono ?_
  rintro e wi ⟨rfl, hbi⟩
  have hR := hR.bel hbi
  have fR := froz_bel hR0 fR hbi
  have hR0 := hR.c0
  have hI := hI.bel hbi
  have hH := hH.bel hbi
  have hB := belT hB hbi
  have i0 := hI.c0
  have i1 := hI.c1
  have i2 := hI.c2
  have i3 := hI.c3
  have i4 := hI.c4
  have j1 := hI.f1
  have j2 := hI.f2
  have j3 := hI.f3
  have j4 := hI.f4
  dsimp only at i1 i2 i3 i4
  clear hbi
  go_wp2_with fail
  refine (I5.out _).mono ?_
  rintro e wi ⟨rfl, hbi⟩
  have hR := hR.bel hbi
  have fR := froz_bel hR0 fR hbi
  have hR0 := hR.c0
  have hI := hI.bel hbi
  have hH := hH.bel hbi
  have hB := belT hB hbi
  have i0 := hI.c0
  have i1 := hI.c1
  have i2 := hI.c2
  have i3 := hI.c3
  have i4 := hI.c4
  have j1 := hI.f1
  have j2 := hI.f2
  have j3 := hI.f3
  have j4 := hI.f4
  dsimp only at i1 i2 i3 i4
  clear hbi
  go_wp2_with fail
  refine (I6.out _).mono ?_
  rintro e wi ⟨rfl, hbi⟩
  have hR := hR.bel hbi
  have fR := froz_bel hR0 fR hbi
  have hR0 := hR.c0
  have hI := hI.bel hbi
  have hH := hH.bel hbi
  have hB := belT hB hbi
  have i0 := hI.c0
  have i1 := hI.c1
  have i2 := hI.c2
  have i3 := hI.c3
  have i4 := hI.c4
  have j1 := hI.f1
  have j2 := hI.f2
  have j3 := hI.f3
  have j4 := hI.f4
  dsimp only at i1 i2 i3 i4
  clear hbi
  go_wp2_with fail
  refine (I4.out _).mono ?_
  rintro e wi ⟨rfl, hbi⟩
  have hR := hR.bel hbi
  have fR := froz_bel hR0 fR hbi
  have hR0 := hR.c0
  have hI := hI.bel hbi
  have hH := hH.bel hbi
  have hB := belT hB hbi
  have i0 := hI.c0
  have i1 := hI.c1
  have i2 := hI.c2
  have i3 := hI.c3
  have i4 := hI.c4
  have j1 := hI.f1
  have j2 := hI.f2
  have j3 := hI.f3
  have j4 := hI.f4
  dsimp only at i1 i2 i3 i4
  clear hbi
  go_wp2_with fail
  refine (CX0.out _).mono ?_
  rintro e wk ⟨rfl, hbk⟩
  have hR := hR.bel hbk
  have fR := froz_bel hR0 fR hbk
  have hI := hI.bel hbk
  have hB := belT hB hbk
  clear hbk hR0 CX0
  cases rt with
  | false =>
    have HV2 := Lib.hid (HV.out.trans (if_neg (by decide)))
    clear HV
    have HSET := Lib.hid (Bare.set hR 0 0 0 0 0)
    have HBS := Lib.hid (((((hB.setCell (p := ⟨w.heap.size, 0, none⟩) (Nat.le_refl _) (.int .i64 0)).setCell (p := ⟨w.heap.size, 1, none⟩) (Nat.le_refl _) (.int .i64 0)).setCell (p := ⟨w.heap.size, 2, none⟩) (Nat.le_refl _) (.int .i64 0)).setCell (p := ⟨w.heap.size, 3, none⟩) (Nat.le_refl _) (.int .i64 0)).setCell (p := ⟨w.heap.size, 4, none⟩) (Nat.le_refl _) (.int .u32 0))
    obtain ⟨r0, r1, r2, r3, r4, g1, g2, g3, g4⟩ := hR
    obtain ⟨i0, i1, i2, i3, i4, _, _, _, _⟩ := hI
    dsimp only at r1 r2 r3 r4 i1 i2 i3 i4
    clear hB
    go_wp2_with fail
    obtain ⟨e0, e1, e2, e3, e4, _, _, _, _⟩ := HSET.out
    have hBS := HBS.out
    clear HSET HBS
    generalize ((((World.setCell _ _ _).setCell _ _).setCell _ _).setCell _ _).setCell _ _ = W5 at e0 e1 e2 e3 e4 hBS ⊢
    exact bodyPost_ret (v := readV 0 0 0 0 0 0 180) (by simp [results, Tryz.results11, go_sem, e0, e1, e2, e3, e4, readV, insV]) rfl ⟨by rw [HV2.out] <;> rfl, hBS⟩
  | true =>
    have HV2 := Lib.hid (HV.out.trans (if_pos rfl))
    clear HV
    have HSET := Lib.hid (Bare.set hR (x:Int) 0 0 0 0)
    have HBS := Lib.hid (((((hB.setCell (p := ⟨w.heap.size, 0, none⟩) (Nat.le_refl _) (.int .i64 (x:Int))).setCell (p := ⟨w.heap.size, 1, none⟩) (Nat.le_refl _) (.int .i64 0)).setCell (p := ⟨w.heap.size, 2, none⟩) (Nat.le_refl _) (.int .i64 0)).setCell (p := ⟨w.heap.size, 3, none⟩) (Nat.le_refl _) (.int .i64 0)).setCell (p := ⟨w.heap.size, 4, none⟩) (Nat.le_refl _) (.int .u32 0))
    obtain ⟨r0, r1, r2, r3, r4, g1, g2, g3, g4⟩ := hR
    obtain ⟨i0, i1, i2, i3, i4, _, _, _, _⟩ := hI
    dsimp only at r1 r2 r3 r4 i1 i2 i3 i4
    clear hB
    go_wp2_with fail
    obtain ⟨e0, e1, e2, e3, e4, _, _, _, _⟩ := HSET.out
    have hBS := HBS.out
    clear HSET HBS
    generalize ((((World.setCell _ _ _).setCell _ _).setCell _ _).setCell _ _).setCell _ _ = W5 at e0 e1 e2 e3 e4 hBS ⊢
    exact bodyPost_ret (v := readV (x:Int) 0 0 0 0 1 0) (by simp [results, Tryz.results11, go_sem, e0, e1, e2, e3, e4, readV, insV]) rfl ⟨by rw [HV2.out] <;> rfl, hBS⟩

end Go.Proofs.YtfnfcngkaepnjaaGreatDoor
