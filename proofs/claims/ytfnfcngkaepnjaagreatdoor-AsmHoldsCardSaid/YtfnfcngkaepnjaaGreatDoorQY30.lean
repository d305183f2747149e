/- Joined texts: The reference of layer 8: Bytes. -/
import Derived.Test.YtfnfcngkaepnjaaGreatDoorQY26
import Derived.Test.YtfnfcngkaepnjaaGreatDoorQY27
import Derived.Test.YtfnfcngkaepnjaaGreatDoorQY29
/- The reference of layer 8: Bytes. -/
namespace Go.Proofs.YtfnfcngkaepnjaaGreatDoor
set_option linter.unusedVariables false
open Go Go.Proofs Go.RowKit

/- CLASSES -/
set_option maxRecDepth 100000 in
set_option maxHeartbeats 4000000 in
theorem rbAI (op a b c : Int) (n : Nat) (hop : 1 ≤ op ∧ op ≤ 19) (ha : 0 ≤ a ∧ a < 256) (hb : 0 ≤ b ∧ b < 256) (hc : 0 ≤ c ∧ c < 256) (hm : n < 4294967296) (e1 : inR op 97 = true) (e2 : inR op 98 = false) (e3 : inR op 110 = false) (e4 : inR op 107 = false) (e5 : inR op 105 = true) (e6 : inR op 102 = false) (w : World) :
    Calls Tryz.prog 43 #[insV op a b c n] w fun e w' => ∃ v, e = .returned v ∧ OwnB w.heap.size v ([op.toNat] ++ [a.toNat] ++ leL n 4) w' ∧ Below w.heap.size w w' := by
  have I1 := Lib.hid (rIn97 op)
  have I2 := Lib.hid (rIn98 op)
  have I3 := Lib.hid (rIn110 op)
  have I4 := Lib.hid (rIn107 op)
  have I5 := Lib.hid (rIn105 op)
  have I6 := Lib.hid (rIn102 op)
  rw [e1] at I1
  rw [e2] at I2
  rw [e3] at I3
  rw [e4] at I4
  rw [e5] at I5
  rw [e6] at I6
  clear e1 e2 e3 e4 e5 e6
  obtain ⟨h1, h2⟩ := hop
  unfold insV
  have hI := Bare.new op a b c n w 29
  have hB : Below w.heap.size w (w.alloc (.cells #[.int .i64 op, .int .i64 a, .int .i64 b, .int .i64 c, .int .u32 n] 29)) := bel1 _
  have i0 := hI.c0
  go_enter Tryz.func43, Tryz.ntmps43
  go_wp2_with fail
  have hO := OwnB.made (w.alloc (.cells #[.int .i64 op, .int .i64 a, .int .i64 b, .int .i64 c, .int .u32 n] 29)) #[.int .u8 op] [op.toNat] 1 rfl (by simp [byteVs]; omega) (by simp; omega) (by simp)
  have hI := hI.bel (bel1 (.cells #[.int .u8 op] 5))
  have hB := belA hB (.cells #[.int .u8 op] 5)
  simp only [World.size_alloc] at hO
  refine (I1.out _).mono ?_
  rintro e wi ⟨rfl, hbi⟩
  have hI := hI.bel hbi
  have hO := hO.bel hbi
  have hB := belT hB hbi
  have i1 := hI.c1
  have i2 := hI.c2
  have i3 := hI.c3
  have i4 := hI.c4
  dsimp only at i1 i2 i3 i4
  clear hbi
  go_wp2_with (at_builtin; have hA := arg_new wi [(a).toNat] #[.int .u8 a] (by simp [byteVs]; omega) (by simp; omega) (by simp); have hI := hI.bel (bel1 (.cells #[.int .u8 a] 5)); have hO := hO.bel (bel1 (.cells #[.int .u8 a] 5)); have hB := belA hB (.cells #[.int .u8 a] 5); generalize wi.alloc (.cells #[.int .u8 a] 5) = V at hA hI hO hB ⊢; refine append_B rfl _ _ rfl (w.heap.size + 1) _ _ rfl hO _ _ rfl hA (by simp) (by have := lt_of_cell hI.c0; omega) ?_; intro vo wo hO2 hg2 hb2; have hI2 : Bare w.heap.size op (a, b, c, (n : Int)) wo := ⟨cell_belB hI.c0 hb2 (by omega), cell_belB hI.c1 hb2 (by omega), cell_belB hI.c2 hb2 (by omega), cell_belB hI.c3 hb2 (by omega), cell_belB hI.c4 hb2 (by omega), froz_belB hI.f1 hb2 (by omega), froz_belB hI.f2 hb2 (by omega), froz_belB hI.f3 hb2 (by omega), froz_belB hI.f4 hb2 (by omega)⟩; have hB := hB.trans (hb2.mono (by omega)); have hI := hI2; have hO := hO2; clear hI2 hO2 hg2 hb2 hA)
  refine (I2.out _).mono ?_
  rintro e wi ⟨rfl, hbi⟩
  have hI := hI.bel hbi
  have hO := hO.bel hbi
  have hB := belT hB hbi
  have i1 := hI.c1
  have i2 := hI.c2
  have i3 := hI.c3
  have i4 := hI.c4
  dsimp only at i1 i2 i3 i4
  clear hbi
  go_wp2_with fail
  refine (I3.out _).mono ?_
  rintro e wi ⟨rfl, hbi⟩
  have hI := hI.bel hbi
  have hO := hO.bel hbi
  have hB := belT hB hbi
  have i1 := hI.c1
  have i2 := hI.c2
  have i3 := hI.c3
  have i4 := hI.c4
  dsimp only at i1 i2 i3 i4
  clear hbi
  go_wp2_with fail
  refine (I4.out _).mono ?_
  rintro e wi ⟨rfl, hbi⟩
  have hI := hI.bel hbi
  have hO := hO.bel hbi
  have hB := belT hB hbi
  have i1 := hI.c1
  have i2 := hI.c2
  have i3 := hI.c3
  have i4 := hI.c4
  dsimp only at i1 i2 i3 i4
  clear hbi
  go_wp2_with fail
  refine (I5.out _).mono ?_
  rintro e wi ⟨rfl, hbi⟩
  have hI := hI.bel hbi
  have hO := hO.bel hbi
  have hB := belT hB hbi
  have i1 := hI.c1
  have i2 := hI.c2
  have i3 := hI.c3
  have i4 := hI.c4
  dsimp only at i1 i2 i3 i4
  clear hbi
  go_wp2_with fail
  refine (rFixed_four n hm _).mono ?_
  rintro e wi ⟨v5, rfl, hO5, hb5⟩
  have hI := hI.bel hb5
  have hO := hO.bel hb5
  have hB := belT hB hb5
  clear hb5
  go_wp2_with (at_builtin; refine append_B rfl _ _ rfl (w.heap.size + 1) _ _ rfl hO _ _ rfl hO5.arg (by simp [leL_length]) (by have := lt_of_cell hI.c0; omega) ?_; intro vo wo hO2 hg2 hb2; have hB := hB.trans (hb2.mono (by omega)); have hO := hO2; clear hO2 hg2 hb2)
  go_ret
  exact ⟨_, rfl, hO.base (by omega), hB⟩

set_option maxRecDepth 100000 in
set_option maxHeartbeats 4000000 in
theorem rbAB (op a b c : Int) (n : Nat) (hop : 1 ≤ op ∧ op ≤ 19) (ha : 0 ≤ a ∧ a < 256) (hb : 0 ≤ b ∧ b < 256) (hc : 0 ≤ c ∧ c < 256) (hm : n < 4294967296) (e1 : inR op 97 = true) (e2 : inR op 98 = true) (e3 : inR op 110 = false) (e4 : inR op 107 = false) (e5 : inR op 105 = false) (e6 : inR op 102 = false) (w : World) :
    Calls Tryz.prog 43 #[insV op a b c n] w fun e w' => ∃ v, e = .returned v ∧ OwnB w.heap.size v ([op.toNat] ++ [a.toNat] ++ [b.toNat]) w' ∧ Below w.heap.size w w' := by
  have I1 := Lib.hid (rIn97 op)
  have I2 := Lib.hid (rIn98 op)
  have I3 := Lib.hid (rIn110 op)
  have I4 := Lib.hid (rIn107 op)
  have I5 := Lib.hid (rIn105 op)
  have I6 := Lib.hid (rIn102 op)
  rw [e1] at I1
  rw [e2] at I2
  rw [e3] at I3
  rw [e4] at I4
  rw [e5] at I5
  rw [e6] at I6
  clear e1 e2 e3 e4 e5 e6
  obtain ⟨h1, h2⟩ := hop
  unfold insV
  have hI := Bare.new op a b c n w 29
  have hB : Below w.heap.size w (w.alloc (.cells #[.int .i64 op, .int .i64 a, .int .i64 b, .int .i64 c, .int .u32 n] 29)) := bel1 _
  have i0 := hI.c0
  go_enter Tryz.func43, Tryz.ntmps43
  go_wp2_with fail
  have hO := OwnB.made (w.alloc (.cells #[.int .i64 op, .int .i64 a, .int .i64 b, .int .i64 c, .int .u32 n] 29)) #[.int .u8 op] [op.toNat] 1 rfl (by simp [byteVs]; omega) (by simp; omega) (by simp)
  have hI := hI.bel (bel1 (.cells #[.int .u8 op] 5))
  have hB := belA hB (.cells #[.int .u8 op] 5)
  simp only [World.size_alloc] at hO
  refine (I1.out _).mono ?_
  rintro e wi ⟨rfl, hbi⟩
  have hI := hI.bel hbi
  have hO := hO.bel hbi
  have hB := belT hB hbi
  have i1 := hI.c1
  have i2 := hI.c2
  have i3 := hI.c3
  have i4 := hI.c4
  dsimp only at i1 i2 i3 i4
  clear hbi
  go_wp2_with (at_builtin; have hA := arg_new wi [(a).toNat] #[.int .u8 a] (by simp [byteVs]; omega) (by simp; omega) (by simp); have hI := hI.bel (bel1 (.cells #[.int .u8 a] 5)); have hO := hO.bel (bel1 (.cells #[.int .u8 a] 5)); have hB := belA hB (.cells #[.int .u8 a] 5); generalize wi.alloc (.cells #[.int .u8 a] 5) = V at hA hI hO hB ⊢; refine append_B rfl _ _ rfl (w.heap.size + 1) _ _ rfl hO _ _ rfl hA (by simp) (by have := lt_of_cell hI.c0; omega) ?_; intro vo wo hO2 hg2 hb2; have hI2 : Bare w.heap.size op (a, b, c, (n : Int)) wo := ⟨cell_belB hI.c0 hb2 (by omega), cell_belB hI.c1 hb2 (by omega), cell_belB hI.c2 hb2 (by omega), cell_belB hI.c3 hb2 (by omega), cell_belB hI.c4 hb2 (by omega), froz_belB hI.f1 hb2 (by omega), froz_belB hI.f2 hb2 (by omega), froz_belB hI.f3 hb2 (by omega), froz_belB hI.f4 hb2 (by omega)⟩; have hB := hB.trans (hb2.mono (by omega)); have hI := hI2; have hO := hO2; clear hI2 hO2 hg2 hb2 hA)
  refine (I2.out _).mono ?_
  rintro e wi ⟨rfl, hbi⟩
  have hI := hI.bel hbi
  have hO := hO.bel hbi
  have hB := belT hB hbi
  have i1 := hI.c1
  have i2 := hI.c2
  have i3 := hI.c3
  have i4 := hI.c4
  dsimp only at i1 i2 i3 i4
  clear hbi
  go_wp2_with (at_builtin; have hA := arg_new wi [(b).toNat] #[.int .u8 b] (by simp [byteVs]; omega) (by simp; omega) (by simp); have hI := hI.bel (bel1 (.cells #[.int .u8 b] 5)); have hO := hO.bel (bel1 (.cells #[.int .u8 b] 5)); have hB := belA hB (.cells #[.int .u8 b] 5); generalize wi.alloc (.cells #[.int .u8 b] 5) = V at hA hI hO hB ⊢; refine append_B rfl _ _ rfl (w.heap.size + 1) _ _ rfl hO _ _ rfl hA (by simp) (by have := lt_of_cell hI.c0; omega) ?_; intro vo wo hO2 hg2 hb2; have hI2 : Bare w.heap.size op (a, b, c, (n : Int)) wo := ⟨cell_belB hI.c0 hb2 (by omega), cell_belB hI.c1 hb2 (by omega), cell_belB hI.c2 hb2 (by omega), cell_belB hI.c3 hb2 (by omega), cell_belB hI.c4 hb2 (by omega), froz_belB hI.f1 hb2 (by omega), froz_belB hI.f2 hb2 (by omega), froz_belB hI.f3 hb2 (by omega), froz_belB hI.f4 hb2 (by omega)⟩; have hB := hB.trans (hb2.mono (by omega)); have hI := hI2; have hO := hO2; clear hI2 hO2 hg2 hb2 hA)
  refine (I3.out _).mono ?_
  rintro e wi ⟨rfl, hbi⟩
  have hI := hI.bel hbi
  have hO := hO.bel hbi
  have hB := belT hB hbi
  have i1 := hI.c1
  have i2 := hI.c2
  have i3 := hI.c3
  have i4 := hI.c4
  dsimp only at i1 i2 i3 i4
  clear hbi
  go_wp2_with fail
  refine (I4.out _).mono ?_
  rintro e wi ⟨rfl, hbi⟩
  have hI := hI.bel hbi
  have hO := hO.bel hbi
  have hB := belT hB hbi
  have i1 := hI.c1
  have i2 := hI.c2
  have i3 := hI.c3
  have i4 := hI.c4
  dsimp only at i1 i2 i3 i4
  clear hbi
  go_wp2_with fail
  refine (I5.out _).mono ?_
  rintro e wi ⟨rfl, hbi⟩
  have hI := hI.bel hbi
  have hO := hO.bel hbi
  have hB := belT hB hbi
  have i1 := hI.c1
  have i2 := hI.c2
  have i3 := hI.c3
  have i4 := hI.c4
  dsimp only at i1 i2 i3 i4
  clear hbi
  go_wp2_with fail
  refine (I6.out _).mono ?_
  rintro e wi ⟨rfl, hbi⟩
  have hI := hI.bel hbi
  have hO := hO.bel hbi
  have hB := belT hB hbi
  have i1 := hI.c1
  have i2 := hI.c2
  have i3 := hI.c3
  have i4 := hI.c4
  dsimp only at i1 i2 i3 i4
  clear hbi
  go_wp2_with fail
  refine (I4.out _).mono ?_
  rintro e wi ⟨rfl, hbi⟩
  have hI := hI.bel hbi
  have hO := hO.bel hbi
  have hB := belT hB hbi
  have i1 := hI.c1
  have i2 := hI.c2
  have i3 := hI.c3
  have i4 := hI.c4
  dsimp only at i1 i2 i3 i4
  clear hbi
  go_wp2_with fail
  go_ret
  exact ⟨_, rfl, hO.base (by omega), hB⟩

set_option maxRecDepth 100000 in
set_option maxHeartbeats 4000000 in
theorem rbABK (op a b c : Int) (n : Nat) (hop : 1 ≤ op ∧ op ≤ 19) (ha : 0 ≤ a ∧ a < 256) (hb : 0 ≤ b ∧ b < 256) (hc : 0 ≤ c ∧ c < 256) (hm : n < 4294967296) (e1 : inR op 97 = true) (e2 : inR op 98 = true) (e3 : inR op 110 = false) (e4 : inR op 107 = true) (e5 : inR op 105 = false) (e6 : inR op 102 = false) (w : World) :
    Calls Tryz.prog 43 #[insV op a b c n] w fun e w' => ∃ v, e = .returned v ∧ OwnB w.heap.size v ([op.toNat] ++ [a.toNat] ++ [b.toNat] ++ [c.toNat] ++ leL n 4) w' ∧ Below w.heap.size w w' := by
  have I1 := Lib.hid (rIn97 op)
  have I2 := Lib.hid (rIn98 op)
  have I3 := Lib.hid (rIn110 op)
  have I4 := Lib.hid (rIn107 op)
  have I5 := Lib.hid (rIn105 op)
  have I6 := Lib.hid (rIn102 op)
  rw [e1] at I1
  rw [e2] at I2
  rw [e3] at I3
  rw [e4] at I4
  rw [e5] at I5
  rw [e6] at I6
  clear e1 e2 e3 e4 e5 e6
  obtain ⟨h1, h2⟩ := hop
  unfold insV
  have hI := Bare.new op a b c n w 29
  have hB : Below w.heap.size w (w.alloc (.cells #[.int .i64 op, .int .i64 a, .int .i64 b, .int .i64 c, .int .u32 n] 29)) := bel1 _
  have i0 := hI.c0
  go_enter Tryz.func43, Tryz.ntmps43
  go_wp2_with fail
  have hO := OwnB.made (w.alloc (.cells #[.int .i64 op, .int .i64 a, .int .i64 b, .int .i64 c, .int .u32 n] 29)) #[.int .u8 op] [op.toNat] 1 rfl (by simp [byteVs]; omega) (by simp; omega) (by simp)
  have hI := hI.bel (bel1 (.cells #[.int .u8 op] 5))
  have hB := belA hB (.cells #[.int .u8 op] 5)
  simp only [World.size_alloc] at hO
  refine (I1.out _).mono ?_
  rintro e wi ⟨rfl, hbi⟩
  have hI := hI.bel hbi
  have hO := hO.bel hbi
  have hB := belT hB hbi
  have i1 := hI.c1
  have i2 := hI.c2
  have i3 := hI.c3
  have i4 := hI.c4
  dsimp only at i1 i2 i3 i4
  clear hbi
  go_wp2_with (at_builtin; have hA := arg_new wi [(a).toNat] #[.int .u8 a] (by simp [byteVs]; omega) (by simp; omega) (by simp); have hI := hI.bel (bel1 (.cells #[.int .u8 a] 5)); have hO := hO.bel (bel1 (.cells #[.int .u8 a] 5)); have hB := belA hB (.cells #[.int .u8 a] 5); generalize wi.alloc (.cells #[.int .u8 a] 5) = V at hA hI hO hB ⊢; refine append_B rfl _ _ rfl (w.heap.size + 1) _ _ rfl hO _ _ rfl hA (by simp) (by have := lt_of_cell hI.c0; omega) ?_; intro vo wo hO2 hg2 hb2; have hI2 : Bare w.heap.size op (a, b, c, (n : Int)) wo := ⟨cell_belB hI.c0 hb2 (by omega), cell_belB hI.c1 hb2 (by omega), cell_belB hI.c2 hb2 (by omega), cell_belB hI.c3 hb2 (by omega), cell_belB hI.c4 hb2 (by omega), froz_belB hI.f1 hb2 (by omega), froz_belB hI.f2 hb2 (by omega), froz_belB hI.f3 hb2 (by omega), froz_belB hI.f4 hb2 (by omega)⟩; have hB := hB.trans (hb2.mono (by omega)); have hI := hI2; have hO := hO2; clear hI2 hO2 hg2 hb2 hA)
  refine (I2.out _).mono ?_
  rintro e wi ⟨rfl, hbi⟩
  have hI := hI.bel hbi
  have hO := hO.bel hbi
  have hB := belT hB hbi
  have i1 := hI.c1
  have i2 := hI.c2
  have i3 := hI.c3
  have i4 := hI.c4
  dsimp only at i1 i2 i3 i4
  clear hbi
  go_wp2_with (at_builtin; have hA := arg_new wi [(b).toNat] #[.int .u8 b] (by simp [byteVs]; omega) (by simp; omega) (by simp); have hI := hI.bel (bel1 (.cells #[.int .u8 b] 5)); have hO := hO.bel (bel1 (.cells #[.int .u8 b] 5)); have hB := belA hB (.cells #[.int .u8 b] 5); generalize wi.alloc (.cells #[.int .u8 b] 5) = V at hA hI hO hB ⊢; refine append_B rfl _ _ rfl (w.heap.size + 1) _ _ rfl hO _ _ rfl hA (by simp) (by have := lt_of_cell hI.c0; omega) ?_; intro vo wo hO2 hg2 hb2; have hI2 : Bare w.heap.size op (a, b, c, (n : Int)) wo := ⟨cell_belB hI.c0 hb2 (by omega), cell_belB hI.c1 hb2 (by omega), cell_belB hI.c2 hb2 (by omega), cell_belB hI.c3 hb2 (by omega), cell_belB hI.c4 hb2 (by omega), froz_belB hI.f1 hb2 (by omega), froz_belB hI.f2 hb2 (by omega), froz_belB hI.f3 hb2 (by omega), froz_belB hI.f4 hb2 (by omega)⟩; have hB := hB.trans (hb2.mono (by omega)); have hI := hI2; have hO := hO2; clear hI2 hO2 hg2 hb2 hA)
  refine (I3.out _).mono ?_
  rintro e wi ⟨rfl, hbi⟩
  have hI := hI.bel hbi
  have hO := hO.bel hbi
  have hB := belT hB hbi
  have i1 := hI.c1
  have i2 := hI.c2
  have i3 := hI.c3
  have i4 := hI.c4
  dsimp only at i1 i2 i3 i4
  clear hbi
  go_wp2_with fail
  refine (I4.out _).mono ?_
  rintro e wi ⟨rfl, hbi⟩
  have hI := hI.bel hbi
  have hO := hO.bel hbi
  have hB := belT hB hbi
  have i1 := hI.c1
  have i2 := hI.c2
  have i3 := hI.c3
  have i4 := hI.c4
  dsimp only at i1 i2 i3 i4
  clear hbi
  go_wp2_with (at_builtin; have hA := arg_new wi [(c).toNat] #[.int .u8 c] (by simp [byteVs]; omega) (by simp; omega) (by simp); have hI := hI.bel (bel1 (.cells #[.int .u8 c] 5)); have hO := hO.bel (bel1 (.cells #[.int .u8 c] 5)); have hB := belA hB (.cells #[.int .u8 c] 5); generalize wi.alloc (.cells #[.int .u8 c] 5) = V at hA hI hO hB ⊢; refine append_B rfl _ _ rfl (w.heap.size + 1) _ _ rfl hO _ _ rfl hA (by simp) (by have := lt_of_cell hI.c0; omega) ?_; intro vo wo hO2 hg2 hb2; have hI2 : Bare w.heap.size op (a, b, c, (n : Int)) wo := ⟨cell_belB hI.c0 hb2 (by omega), cell_belB hI.c1 hb2 (by omega), cell_belB hI.c2 hb2 (by omega), cell_belB hI.c3 hb2 (by omega), cell_belB hI.c4 hb2 (by omega), froz_belB hI.f1 hb2 (by omega), froz_belB hI.f2 hb2 (by omega), froz_belB hI.f3 hb2 (by omega), froz_belB hI.f4 hb2 (by omega)⟩; have hB := hB.trans (hb2.mono (by omega)); have hI := hI2; have hO := hO2; clear hI2 hO2 hg2 hb2 hA)
  refine (I5.out _).mono ?_
  rintro e wi ⟨rfl, hbi⟩
  have hI := hI.bel hbi
  have hO := hO.bel hbi
  have hB := belT hB hbi
  have i1 := hI.c1
  have i2 := hI.c2
  have i3 := hI.c3
  have i4 := hI.c4
  dsimp only at i1 i2 i3 i4
  clear hbi
  go_wp2_with fail
  refine (I6.out _).mono ?_
  rintro e wi ⟨rfl, hbi⟩
  have hI := hI.bel hbi
  have hO := hO.bel hbi
  have hB := belT hB hbi
  have i1 := hI.c1
  have i2 := hI.c2
  have i3 := hI.c3
  have i4 := hI.c4
  dsimp only at i1 i2 i3 i4
  clear hbi
  go_wp2_with fail
  refine (I4.out _).mono ?_
  rintro e wi ⟨rfl, hbi⟩
  have hI := hI.bel hbi
  have hO := hO.bel hbi
  have hB := belT hB hbi
  have i1 := hI.c1
  have i2 := hI.c2
  have i3 := hI.c3
  have i4 := hI.c4
  dsimp only at i1 i2 i3 i4
  clear hbi
  go_wp2_with fail
  refine (rFixed_four n hm _).mono ?_
  rintro e wi ⟨v5, rfl, hO5, hb5⟩
  have hI := hI.bel hb5
  have hO := hO.bel hb5
  have hB := belT hB hb5
  clear hb5
  go_wp2_with (at_builtin; refine append_B rfl _ _ rfl (w.heap.size + 1) _ _ rfl hO _ _ rfl hO5.arg (by simp [leL_length]) (by have := lt_of_cell hI.c0; omega) ?_; intro vo wo hO2 hg2 hb2; have hB := hB.trans (hb2.mono (by omega)); have hO := hO2; clear hO2 hg2 hb2)
  go_ret
  exact ⟨_, rfl, hO.base (by omega), hB⟩

set_option maxRecDepth 100000 in
set_option maxHeartbeats 4000000 in
theorem rbI (op a b c : Int) (n : Nat) (hop : 1 ≤ op ∧ op ≤ 19) (ha : 0 ≤ a ∧ a < 256) (hb : 0 ≤ b ∧ b < 256) (hc : 0 ≤ c ∧ c < 256) (hm : n < 4294967296) (e1 : inR op 97 = false) (e2 : inR op 98 = false) (e3 : inR op 110 = false) (e4 : inR op 107 = false) (e5 : inR op 105 = true) (e6 : inR op 102 = false) (w : World) :
    Calls Tryz.prog 43 #[insV op a b c n] w fun e w' => ∃ v, e = .returned v ∧ OwnB w.heap.size v ([op.toNat] ++ leL n 4) w' ∧ Below w.heap.size w w' := by
  have I1 := Lib.hid (rIn97 op)
  have I2 := Lib.hid (rIn98 op)
  have I3 := Lib.hid (rIn110 op)
  have I4 := Lib.hid (rIn107 op)
  have I5 := Lib.hid (rIn105 op)
  have I6 := Lib.hid (rIn102 op)
  rw [e1] at I1
  rw [e2] at I2
  rw [e3] at I3
  rw [e4] at I4
  rw [e5] at I5
  rw [e6] at I6
  clear e1 e2 e3 e4 e5 e6
  obtain ⟨h1, h2⟩ := hop
  unfold insV
  have hI := Bare.new op a b c n w 29
  have hB : Below w.heap.size w (w.alloc (.cells #[.int .i64 op, .int .i64 a, .int .i64 b, .int .i64 c, .int .u32 n] 29)) := bel1 _
  have i0 := hI.c0
  go_enter Tryz.func43, Tryz.ntmps43
  go_wp2_with fail
  have hO := OwnB.made (w.alloc (.cells #[.int .i64 op, .int .i64 a, .int .i64 b, .int .i64 c, .int .u32 n] 29)) #[.int .u8 op] [op.toNat] 1 rfl (by simp [byteVs]; omega) (by simp; omega) (by simp)
  have hI := hI.bel (bel1 (.cells #[.int .u8 op] 5))
  have hB := belA hB (.cells #[.int .u8 op] 5)
  simp only [World.size_alloc] at hO
  refine (I1.out _).mono ?_
  rintro e wi ⟨rfl, hbi⟩
  have hI := hI.bel hbi
  have hO := hO.bel hbi
  have hB := belT hB hbi
  have i1 := hI.c1
  have i2 := hI.c2
  have i3 := hI.c3
  have i4 := hI.c4
  dsimp only at i1 i2 i3 i4
  clear hbi
  go_wp2_with fail
  refine (I2.out _).mono ?_
  rintro e wi ⟨rfl, hbi⟩
  have hI := hI.bel hbi
  have hO := hO.bel hbi
  have hB := belT hB hbi
  have i1 := hI.c1
  have i2 := hI.c2
  have i3 := hI.c3
  have i4 := hI.c4
  dsimp only at i1 i2 i3 i4
  clear hbi
  go_wp2_with fail
  refine (I3.out _).mono ?_
  rintro e wi ⟨rfl, hbi⟩
  have hI := hI.bel hbi
  have hO := hO.bel hbi
  have hB := belT hB hbi
  have i1 := hI.c1
  have i2 := hI.c2
  have i3 := hI.c3
  have i4 := hI.c4
  dsimp only at i1 i2 i3 i4
  clear hbi
  go_wp2_with fail
  refine (I4.out _).mono ?_
  rintro e wi ⟨rfl, hbi⟩
  have hI := hI.bel hbi
  have hO := hO.bel hbi
  have hB := belT hB hbi
  have i1 := hI.c1
  have i2 := hI.c2
  have i3 := hI.c3
  have i4 := hI.c4
  dsimp only at i1 i2 i3 i4
  clear hbi
  go_wp2_with fail
  refine (I5.out _).mono ?_
  rintro e wi ⟨rfl, hbi⟩
  have hI := hI.bel hbi
  have hO := hO.bel hbi
  have hB := belT hB hbi
  have i1 := hI.c1
  have i2 := hI.c2
  have i3 := hI.c3
  have i4 := hI.c4
  dsimp only at i1 i2 i3 i4
  clear hbi
  go_wp2_with fail
  refine (rFixed_four n hm _).mono ?_
  rintro e wi ⟨v5, rfl, hO5, hb5⟩
  have hI := hI.bel hb5
  have hO := hO.bel hb5
  have hB := belT hB hb5
  clear hb5
  go_wp2_with (at_builtin; refine append_B rfl _ _ rfl (w.heap.size + 1) _ _ rfl hO _ _ rfl hO5.arg (by simp [leL_length]) (by have := lt_of_cell hI.c0; omega) ?_; intro vo wo hO2 hg2 hb2; have hB := hB.trans (hb2.mono (by omega)); have hO := hO2; clear hO2 hg2 hb2)
  go_ret
  exact ⟨_, rfl, hO.base (by omega), hB⟩

set_option maxRecDepth 100000 in
set_option maxHeartbeats 4000000 in
theorem rbABN (op a b c : Int) (n : Nat) (hop : 1 ≤ op ∧ op ≤ 19) (ha : 0 ≤ a ∧ a < 256) (hb : 0 ≤ b ∧ b < 256) (hc : 0 ≤ c ∧ c < 256) (hm : n < 4294967296) (e1 : inR op 97 = true) (e2 : inR op 98 = true) (e3 : inR op 110 = true) (e4 : inR op 107 = false) (e5 : inR op 105 = false) (e6 : inR op 102 = true) (w : World) :
    Calls Tryz.prog 43 #[insV op a b c n] w fun e w' => ∃ v, e = .returned v ∧ OwnB w.heap.size v ([op.toNat] ++ [a.toNat] ++ [b.toNat] ++ [c.toNat] ++ leL n 4) w' ∧ Below w.heap.size w w' := by
  have I1 := Lib.hid (rIn97 op)
  have I2 := Lib.hid (rIn98 op)
  have I3 := Lib.hid (rIn110 op)
  have I4 := Lib.hid (rIn107 op)
  have I5 := Lib.hid (rIn105 op)
  have I6 := Lib.hid (rIn102 op)
  rw [e1] at I1
  rw [e2] at I2
  rw [e3] at I3
  rw [e4] at I4
  rw [e5] at I5
  rw [e6] at I6
  clear e1 e2 e3 e4 e5 e6
  obtain ⟨h1, h2⟩ := hop
  unfold insV
  have hI := Bare.new op a b c n w 29
  have hB : Below w.heap.size w (w.alloc (.cells #[.int .i64 op, .int .i64 a, .int .i64 b, .int .i64 c, .int .u32 n] 29)) := bel1 _
  have i0 := hI.c0
  go_enter Tryz.func43, Tryz.ntmps43
  go_wp2_with fail
  have hO := OwnB.made (w.alloc (.cells #[.int .i64 op, .int .i64 a, .int .i64 b, .int .i64 c, .int .u32 n] 29)) #[.int .u8 op] [op.toNat] 1 rfl (by simp [byteVs]; omega) (by simp; omega) (by simp)
  have hI := hI.bel (bel1 (.cells #[.int .u8 op] 5))
  have hB := belA hB (.cells #[.int .u8 op] 5)
  simp only [World.size_alloc] at hO
  refine (I1.out _).mono ?_
  rintro e wi ⟨rfl, hbi⟩
  have hI := hI.bel hbi
  have hO := hO.bel hbi
  have hB := belT hB hbi
  have i1 := hI.c1
  have i2 := hI.c2
  have i3 := hI.c3
  have i4 := hI.c4
  dsimp only at i1 i2 i3 i4
  clear hbi
  go_wp2_with (at_builtin; have hA := arg_new wi [(a).toNat] #[.int .u8 a] (by simp [byteVs]; omega) (by simp; omega) (by simp); have hI := hI.bel (bel1 (.cells #[.int .u8 a] 5)); have hO := hO.bel (bel1 (.cells #[.int .u8 a] 5)); have hB := belA hB (.cells #[.int .u8 a] 5); generalize wi.alloc (.cells #[.int .u8 a] 5) = V at hA hI hO hB ⊢; refine append_B rfl _ _ rfl (w.heap.size + 1) _ _ rfl hO _ _ rfl hA (by simp) (by have := lt_of_cell hI.c0; omega) ?_; intro vo wo hO2 hg2 hb2; have hI2 : Bare w.heap.size op (a, b, c, (n : Int)) wo := ⟨cell_belB hI.c0 hb2 (by omega), cell_belB hI.c1 hb2 (by omega), cell_belB hI.c2 hb2 (by omega), cell_belB hI.c3 hb2 (by omega), cell_belB hI.c4 hb2 (by omega), froz_belB hI.f1 hb2 (by omega), froz_belB hI.f2 hb2 (by omega), froz_belB hI.f3 hb2 (by omega), froz_belB hI.f4 hb2 (by omega)⟩; have hB := hB.trans (hb2.mono (by omega)); have hI := hI2; have hO := hO2; clear hI2 hO2 hg2 hb2 hA)
  refine (I2.out _).mono ?_
  rintro e wi ⟨rfl, hbi⟩
  have hI := hI.bel hbi
  have hO := hO.bel hbi
  have hB := belT hB hbi
  have i1 := hI.c1
  have i2 := hI.c2
  have i3 := hI.c3
  have i4 := hI.c4
  dsimp only at i1 i2 i3 i4
  clear hbi
  go_wp2_with (at_builtin; have hA := arg_new wi [(b).toNat] #[.int .u8 b] (by simp [byteVs]; omega) (by simp; omega) (by simp); have hI := hI.bel (bel1 (.cells #[.int .u8 b] 5)); have hO := hO.bel (bel1 (.cells #[.int .u8 b] 5)); have hB := belA hB (.cells #[.int .u8 b] 5); generalize wi.alloc (.cells #[.int .u8 b] 5) = V at hA hI hO hB ⊢; refine append_B rfl _ _ rfl (w.heap.size + 1) _ _ rfl hO _ _ rfl hA (by simp) (by have := lt_of_cell hI.c0; omega) ?_; intro vo wo hO2 hg2 hb2; have hI2 : Bare w.heap.size op (a, b, c, (n : Int)) wo := ⟨cell_belB hI.c0 hb2 (by omega), cell_belB hI.c1 hb2 (by omega), cell_belB hI.c2 hb2 (by omega), cell_belB hI.c3 hb2 (by omega), cell_belB hI.c4 hb2 (by omega), froz_belB hI.f1 hb2 (by omega), froz_belB hI.f2 hb2 (by omega), froz_belB hI.f3 hb2 (by omega), froz_belB hI.f4 hb2 (by omega)⟩; have hB := hB.trans (hb2.mono (by omega)); have hI := hI2; have hO := hO2; clear hI2 hO2 hg2 hb2 hA)
  refine (I3.out _).mono ?_
  rintro e wi ⟨rfl, hbi⟩
  have hI := hI.bel hbi
  have hO := hO.bel hbi
  have hB := belT hB hbi
  have i1 := hI.c1
  have i2 := hI.c2
  have i3 := hI.c3
  have i4 := hI.c4
  dsimp only at i1 i2 i3 i4
  clear hbi
  go_wp2_with (at_builtin; have hA := arg_new wi [(c).toNat] #[.int .u8 c] (by simp [byteVs]; omega) (by simp; omega) (by simp); have hI := hI.bel (bel1 (.cells #[.int .u8 c] 5)); have hO := hO.bel (bel1 (.cells #[.int .u8 c] 5)); have hB := belA hB (.cells #[.int .u8 c] 5); generalize wi.alloc (.cells #[.int .u8 c] 5) = V at hA hI hO hB ⊢; refine append_B rfl _ _ rfl (w.heap.size + 1) _ _ rfl hO _ _ rfl hA (by simp) (by have := lt_of_cell hI.c0; omega) ?_; intro vo wo hO2 hg2 hb2; have hI2 : Bare w.heap.size op (a, b, c, (n : Int)) wo := ⟨cell_belB hI.c0 hb2 (by omega), cell_belB hI.c1 hb2 (by omega), cell_belB hI.c2 hb2 (by omega), cell_belB hI.c3 hb2 (by omega), cell_belB hI.c4 hb2 (by omega), froz_belB hI.f1 hb2 (by omega), froz_belB hI.f2 hb2 (by omega), froz_belB hI.f3 hb2 (by omega), froz_belB hI.f4 hb2 (by omega)⟩; have hB := hB.trans (hb2.mono (by omega)); have hI := hI2; have hO := hO2; clear hI2 hO2 hg2 hb2 hA)
  refine (I5.out _).mono ?_
  rintro e wi ⟨rfl, hbi⟩
  have hI := hI.bel hbi
  have hO := hO.bel hbi
  have hB := belT hB hbi
  have i1 := hI.c1
  have i2 := hI.c2
  have i3 := hI.c3
  have i4 := hI.c4
  dsimp only at i1 i2 i3 i4
  clear hbi
  go_wp2_with fail
  refine (I6.out _).mono ?_
  rintro e wi ⟨rfl, hbi⟩
  have hI := hI.bel hbi
  have hO := hO.bel hbi
  have hB := belT hB hbi
  have i1 := hI.c1
  have i2 := hI.c2
  have i3 := hI.c3
  have i4 := hI.c4
  dsimp only at i1 i2 i3 i4
  clear hbi
  go_wp2_with fail
  refine (rFixed_four n hm _).mono ?_
  rintro e wi ⟨v5, rfl, hO5, hb5⟩
  have hI := hI.bel hb5
  have hO := hO.bel hb5
  have hB := belT hB hb5
  clear hb5
  go_wp2_with (at_builtin; refine append_B rfl _ _ rfl (w.heap.size + 1) _ _ rfl hO _ _ rfl hO5.arg (by simp [leL_length]) (by have := lt_of_cell hI.c0; omega) ?_; intro vo wo hO2 hg2 hb2; have hB := hB.trans (hb2.mono (by omega)); have hO := hO2; clear hO2 hg2 hb2)
  go_ret
  exact ⟨_, rfl, hO.base (by omega), hB⟩

set_option maxRecDepth 100000 in
set_option maxHeartbeats 4000000 in
theorem rbA (op a b c : Int) (n : Nat) (hop : 1 ≤ op ∧ op ≤ 19) (ha : 0 ≤ a ∧ a < 256) (hb : 0 ≤ b ∧ b < 256) (hc : 0 ≤ c ∧ c < 256) (hm : n < 4294967296) (e1 : inR op 97 = true) (e2 : inR op 98 = false) (e3 : inR op 110 = false) (e4 : inR op 107 = false) (e5 : inR op 105 = false) (e6 : inR op 102 = false) (w : World) :
    Calls Tryz.prog 43 #[insV op a b c n] w fun e w' => ∃ v, e = .returned v ∧ OwnB w.heap.size v ([op.toNat] ++ [a.toNat]) w' ∧ Below w.heap.size w w' := by
  have I1 := Lib.hid (rIn97 op)
  have I2 := Lib.hid (rIn98 op)
  have I3 := Lib.hid (rIn110 op)
  have I4 := Lib.hid (rIn107 op)
  have I5 := Lib.hid (rIn105 op)
  have I6 := Lib.hid (rIn102 op)
  rw [e1] at I1
  rw [e2] at I2
  rw [e3] at I3
  rw [e4] at I4
  rw [e5] at I5
  rw [e6] at I6
  clear e1 e2 e3 e4 e5 e6
  obtain ⟨h1, h2⟩ := hop
  unfold insV
  have hI := Bare.new op a b c n w 29
  have hB : Below w.heap.size w (w.alloc (.cells #[.int .i64 op, .int .i64 a, .int .i64 b, .int .i64 c, .int .u32 n] 29)) := bel1 _
  have i0 := hI.c0
  go_enter Tryz.func43, Tryz.ntmps43
  go_wp2_with fail
  have hO := OwnB.made (w.alloc (.cells #[.int .i64 op, .int .i64 a, .int .i64 b, .int .i64 c, .int .u32 n] 29)) #[.int .u8 op] [op.toNat] 1 rfl (by simp [byteVs]; omega) (by simp; omega) (by simp)
  have hI := hI.bel (bel1 (.cells #[.int .u8 op] 5))
  have hB := belA hB (.cells #[.int .u8 op] 5)
  simp only [World.size_alloc] at hO
  refine (I1.out _).mono ?_
  rintro e wi ⟨rfl, hbi⟩
  have hI := hI.bel hbi
  have hO := hO.bel hbi
  have hB := belT hB hbi
  have i1 := hI.c1
  have i2 := hI.c2
  have i3 := hI.c3
  have i4 := hI.c4
  dsimp only at i1 i2 i3 i4
  clear hbi
  go_wp2_with (at_builtin; have hA := arg_new wi [(a).toNat] #[.int .u8 a] (by simp [byteVs]; omega) (by simp; omega) (by simp); have hI := hI.bel (bel1 (.cells #[.int .u8 a] 5)); have hO := hO.bel (bel1 (.cells #[.int .u8 a] 5)); have hB := belA hB (.cells #[.int .u8 a] 5); generalize wi.alloc (.cells #[.int .u8 a] 5) = V at hA hI hO hB ⊢; refine append_B rfl _ _ rfl (w.heap.size + 1) _ _ rfl hO _ _ rfl hA (by simp) (by have := lt_of_cell hI.c0; omega) ?_; intro vo wo hO2 hg2 hb2; have hI2 : Bare w.heap.size op (a, b, c, (n : Int)) wo := ⟨cell_belB hI.c0 hb2 (by omega), cell_belB hI.c1 hb2 (by omega), cell_belB hI.c2 hb2 (by omega), cell_belB hI.c3 hb2 (by omega), cell_belB hI.c4 hb2 (by omega), froz_belB hI.f1 hb2 (by omega), froz_belB hI.f2 hb2 (by omega), froz_belB hI.f3 hb2 (by omega), froz_belB hI.f4 hb2 (by omega)⟩; have hB := hB.trans (hb2.mono (by omega)); have hI := hI2; have hO := hO2; clear hI2 hO2 hg2 hb2 hA)
  refine (I2.out _).mono ?_
  rintro e wi ⟨rfl, hbi⟩
  have hI := hI.bel hbi
  have hO := hO.bel hbi
  have hB := belT hB hbi
  have i1 := hI.c1
  have i2 := hI.c2
  have i3 := hI.c3
  have i4 := hI.c4
  dsimp only at i1 i2 i3 i4
  clear hbi
  go_wp2_with fail
  refine (I3.out _).mono ?_
  rintro e wi ⟨rfl, hbi⟩
  have hI := hI.bel hbi
  have hO := hO.bel hbi
  have hB := belT hB hbi
  have i1 := hI.c1
  have i2 := hI.c2
  have i3 := hI.c3
  have i4 := hI.c4
  dsimp only at i1 i2 i3 i4
  clear hbi
  go_wp2_with fail
  refine (I4.out _).mono ?_
  rintro e wi ⟨rfl, hbi⟩
  have hI := hI.bel hbi
  have hO := hO.bel hbi
  have hB := belT hB hbi
  have i1 := hI.c1
  have i2 := hI.c2
  have i3 := hI.c3
  have i4 := hI.c4
  dsimp only at i1 i2 i3 i4
  clear hbi
  go_wp2_with fail
  refine (I5.out _).mono ?_
  rintro e wi ⟨rfl, hbi⟩
  have hI := hI.bel hbi
  have hO := hO.bel hbi
  have hB := belT hB hbi
  have i1 := hI.c1
  have i2 := hI.c2
  have i3 := hI.c3
  have i4 := hI.c4
  dsimp only at i1 i2 i3 i4
  clear hbi
  go_wp2_with fail
  refine (I6.out _).mono ?_
  rintro e wi ⟨rfl, hbi⟩
  have hI := hI.bel hbi
  have hO := hO.bel hbi
  have hB := belT hB hbi
  have i1 := hI.c1
  have i2 := hI.c2
  have i3 := hI.c3
  have i4 := hI.c4
  dsimp only at i1 i2 i3 i4
  clear hbi
  go_wp2_with fail
  refine (I4.out _).mono ?_
  rintro e wi ⟨rfl, hbi⟩
  have hI := hI.bel hbi
  have hO := hO.bel hbi
  have hB := belT hB hbi
  have i1 := hI.c1
  have i2 := hI.c2
  have i3 := hI.c3
  have i4 := hI.c4
  dsimp only at i1 i2 i3 i4
  clear hbi
  go_wp2_with fail
  go_ret
  exact ⟨_, rfl, hO.base (by omega), hB⟩

set_option maxRecDepth 100000 in
set_option maxHeartbeats 4000000 in
theorem rbBN (op a b c : Int) (n : Nat) (hop : 1 ≤ op ∧ op ≤ 19) (ha : 0 ≤ a ∧ a < 256) (hb : 0 ≤ b ∧ b < 256) (hc : 0 ≤ c ∧ c < 256) (hm : n < 4294967296) (e1 : inR op 97 = false) (e2 : inR op 98 = true) (e3 : inR op 110 = true) (e4 : inR op 107 = false) (e5 : inR op 105 = false) (e6 : inR op 102 = true) (w : World) :
    Calls Tryz.prog 43 #[insV op a b c n] w fun e w' => ∃ v, e = .returned v ∧ OwnB w.heap.size v ([op.toNat] ++ [b.toNat] ++ [c.toNat] ++ leL n 4) w' ∧ Below w.heap.size w w' := by
  have I1 := Lib.hid (rIn97 op)
  have I2 := Lib.hid (rIn98 op)
  have I3 := Lib.hid (rIn110 op)
  have I4 := Lib.hid (rIn107 op)
  have I5 := Lib.hid (rIn105 op)
  have I6 := Lib.hid (rIn102 op)
  rw [e1] at I1
  rw [e2] at I2
  rw [e3] at I3
  rw [e4] at I4
  rw [e5] at I5
  rw [e6] at I6
  clear e1 e2 e3 e4 e5 e6
  obtain ⟨h1, h2⟩ := hop
  unfold insV
  have hI := Bare.new op a b c n w 29
  have hB : Below w.heap.size w (w.alloc (.cells #[.int .i64 op, .int .i64 a, .int .i64 b, .int .i64 c, .int .u32 n] 29)) := bel1 _
  have i0 := hI.c0
  go_enter Tryz.func43, Tryz.ntmps43
  go_wp2_with fail
  have hO := OwnB.made (w.alloc (.cells #[.int .i64 op, .int .i64 a, .int .i64 b, .int .i64 c, .int .u32 n] 29)) #[.int .u8 op] [op.toNat] 1 rfl (by simp [byteVs]; omega) (by simp; omega) (by simp)
  have hI := hI.bel (bel1 (.cells #[.int .u8 op] 5))
  have hB := belA hB (.cells #[.int .u8 op] 5)
  simp only [World.size_alloc] at hO
  refine (I1.out _).mono ?_
  rintro e wi ⟨rfl, hbi⟩
  have hI := hI.bel hbi
  have hO := hO.bel hbi
  have hB := belT hB hbi
  have i1 := hI.c1
  have i2 := hI.c2
  have i3 := hI.c3
  have i4 := hI.c4
  dsimp only at i1 i2 i3 i4
  clear hbi
  go_wp2_with fail
  refine (I2.out _).mono ?_
  rintro e wi ⟨rfl, hbi⟩
  have hI := hI.bel hbi
  have hO := hO.bel hbi
  have hB := belT hB hbi
  have i1 := hI.c1
  have i2 := hI.c2
  have i3 := hI.c3
  have i4 := hI.c4
  dsimp only at i1 i2 i3 i4
  clear hbi
  go_wp2_with (at_builtin; have hA := arg_new wi [(b).toNat] #[.int .u8 b] (by simp [byteVs]; omega) (by simp; omega) (by simp); have hI := hI.bel (bel1 (.cells #[.int .u8 b] 5)); have hO := hO.bel (bel1 (.cells #[.int .u8 b] 5)); have hB := belA hB (.cells #[.int .u8 b] 5); generalize wi.alloc (.cells #[.int .u8 b] 5) = V at hA hI hO hB ⊢; refine append_B rfl _ _ rfl (w.heap.size + 1) _ _ rfl hO _ _ rfl hA (by simp) (by have := lt_of_cell hI.c0; omega) ?_; intro vo wo hO2 hg2 hb2; have hI2 : Bare w.heap.size op (a, b, c, (n : Int)) wo := ⟨cell_belB hI.c0 hb2 (by omega), cell_belB hI.c1 hb2 (by omega), cell_belB hI.c2 hb2 (by omega), cell_belB hI.c3 hb2 (by omega), cell_belB hI.c4 hb2 (by omega), froz_belB hI.f1 hb2 (by omega), froz_belB hI.f2 hb2 (by omega), froz_belB hI.f3 hb2 (by omega), froz_belB hI.f4 hb2 (by omega)⟩; have hB := hB.trans (hb2.mono (by omega)); have hI := hI2; have hO := hO2; clear hI2 hO2 hg2 hb2 hA)
  refine (I3.out _).mono ?_
  rintro e wi ⟨rfl, hbi⟩
  have hI := hI.bel hbi
  have hO := hO.bel hbi
  have hB := belT hB hbi
  have i1 := hI.c1
  have i2 := hI.c2
  have i3 := hI.c3
  have i4 := hI.c4
  dsimp only at i1 i2 i3 i4
  clear hbi
  go_wp2_with (at_builtin; have hA := arg_new wi [(c).toNat] #[.int .u8 c] (by simp [byteVs]; omega) (by simp; omega) (by simp); have hI := hI.bel (bel1 (.cells #[.int .u8 c] 5)); have hO := hO.bel (bel1 (.cells #[.int .u8 c] 5)); have hB := belA hB (.cells #[.int .u8 c] 5); generalize wi.alloc (.cells #[.int .u8 c] 5) = V at hA hI hO hB ⊢; refine append_B rfl _ _ rfl (w.heap.size + 1) _ _ rfl hO _ _ rfl hA (by simp) (by have := lt_of_cell hI.c0; omega) ?_; intro vo wo hO2 hg2 hb2; have hI2 : Bare w.heap.size op (a, b, c, (n : Int)) wo := ⟨cell_belB hI.c0 hb2 (by omega), cell_belB hI.c1 hb2 (by omega), cell_belB hI.c2 hb2 (by omega), cell_belB hI.c3 hb2 (by omega), cell_belB hI.c4 hb2 (by omega), froz_belB hI.f1 hb2 (by omega), froz_belB hI.f2 hb2 (by omega), froz_belB hI.f3 hb2 (by omega), froz_belB hI.f4 hb2 (by omega)⟩; have hB := hB.trans (hb2.mono (by omega)); have hI := hI2; have hO := hO2; clear hI2 hO2 hg2 hb2 hA)
  refine (I5.out _).mono ?_
  rintro e wi ⟨rfl, hbi⟩
  have hI := hI.bel hbi
  have hO := hO.bel hbi
  have hB := belT hB hbi
  have i1 := hI.c1
  have i2 := hI.c2
  have i3 := hI.c3
  have i4 := hI.c4
  dsimp only at i1 i2 i3 i4
  clear hbi
  go_wp2_with fail
  refine (I6.out _).mono ?_
  rintro e wi ⟨rfl, hbi⟩
  have hI := hI.bel hbi
  have hO := hO.bel hbi
  have hB := belT hB hbi
  have i1 := hI.c1
  have i2 := hI.c2
  have i3 := hI.c3
  have i4 := hI.c4
  dsimp only at i1 i2 i3 i4
  clear hbi
  go_wp2_with fail
  refine (rFixed_four n hm _).mono ?_
  rintro e wi ⟨v5, rfl, hO5, hb5⟩
  have hI := hI.bel hb5
  have hO := hO.bel hb5
  have hB := belT hB hb5
  clear hb5
  go_wp2_with (at_builtin; refine append_B rfl _ _ rfl (w.heap.size + 1) _ _ rfl hO _ _ rfl hO5.arg (by simp [leL_length]) (by have := lt_of_cell hI.c0; omega) ?_; intro vo wo hO2 hg2 hb2; have hB := hB.trans (hb2.mono (by omega)); have hO := hO2; clear hO2 hg2 hb2)
  go_ret
  exact ⟨_, rfl, hO.base (by omega), hB⟩

set_option maxRecDepth 100000 in
set_option maxHeartbeats 4000000 in
theorem rb0 (op a b c : Int) (n : Nat) (hop : 1 ≤ op ∧ op ≤ 19) (ha : 0 ≤ a ∧ a < 256) (hb : 0 ≤ b ∧ b < 256) (hc : 0 ≤ c ∧ c < 256) (hm : n < 4294967296) (e1 : inR op 97 = false) (e2 : inR op 98 = false) (e3 : inR op 110 = false) (e4 : inR op 107 = false) (e5 : inR op 105 = false) (e6 : inR op 102 = false) (w : World) :
    Calls Tryz.prog 43 #[insV op a b c n] w fun e w' => ∃ v, e = .returned v ∧ OwnB w.heap.size v ([op.toNat]) w' ∧ Below w.heap.size w w' := by
  have I1 := Lib.hid (rIn97 op)
  have I2 := Lib.hid (rIn98 op)
  have I3 := Lib.hid (rIn110 op)
  have I4 := Lib.hid (rIn107 op)
  have I5 := Lib.hid (rIn105 op)
  have I6 := Lib.hid (rIn102 op)
  rw [e1] at I1
  rw [e2] at I2
  rw [e3] at I3
  rw [e4] at I4
  rw [e5] at I5
  rw [e6] at I6
  clear e1 e2 e3 e4 e5 e6
  obtain ⟨h1, h2⟩ := hop
  unfold insV
  have hI := Bare.new op a b c n w 29
  have hB : Below w.heap.size w (w.alloc (.cells #[.int .i64 op, .int .i64 a, .int .i64 b, .int .i64 c, .int .u32 n] 29)) := bel1 _
  have i0 := hI.c0
  go_enter Tryz.func43, Tryz.ntmps43
  go_wp2_with fail
  have hO := OwnB.made (w.alloc (.cells #[.int .i64 op, .int .i64 a, .int .i64 b, .int .i64 c, .int .u32 n] 29)) #[.int .u8 op] [op.toNat] 1 rfl (by simp [byteVs]; omega) (by simp; omega) (by simp)
  have hI := hI.bel (bel1 (.cells #[.int .u8 op] 5))
  have hB := belA hB (.cells #[.int .u8 op] 5)
  simp only [World.size_alloc] at hO
  refine (I1.out _).mono ?_
  rintro e wi ⟨rfl, hbi⟩
  have hI := hI.bel hbi
  have hO := hO.bel hbi
  have hB := belT hB hbi
  have i1 := hI.c1
  have i2 := hI.c2
  have i3 := hI.c3
  have i4 := hI.c4
  dsimp only at i1 i2 i3 i4
  clear hbi
  go_wp2_with fail
  refine (I2.out _).mono ?_
  rintro e wi ⟨rfl, hbi⟩
  have hI := hI.bel hbi
  have hO := hO.bel hbi
  have hB := belT hB hbi
  have i1 := hI.c1
  have i2 := hI.c2
  have i3 := hI.c3
  have i4 := hI.c4
  dsimp only at i1 i2 i3 i4
  clear hbi
  go_wp2_with fail
  refine (I3.out _).mono ?_
  rintro e wi ⟨rfl, hbi⟩
  have hI := hI.bel hbi
  have hO := hO.bel hbi
  have hB := belT hB hbi
  have i1 := hI.c1
  have i2 := hI.c2
  have i3 := hI.c3
  have i4 := hI.c4
  dsimp only at i1 i2 i3 i4
  clear hbi
  go_wp2_with fail
  refine (I4.out _).mono ?_
  rintro e wi ⟨rfl, hbi⟩
  have hI := hI.bel hbi
  have hO := hO.bel hbi
  have hB := belT hB hbi
  have i1 := hI.c1
  have i2 := hI.c2
  have i3 := hI.c3
  have i4 := hI.c4
  dsimp only at i1 i2 i3 i4
  clear hbi
  go_wp2_with fail
  refine (I5.out _).mono ?_
  rintro e wi ⟨rfl, hbi⟩
  have hI := hI.bel hbi
  have hO := hO.bel hbi
  have hB := belT hB hbi
  have i1 := hI.c1
  have i2 := hI.c2
  have i3 := hI.c3
  have i4 := hI.c4
  dsimp only at i1 i2 i3 i4
  clear hbi
  go_wp2_with fail
  refine (I6.out _).mono ?_
  rintro e wi ⟨rfl, hbi⟩
  have hI := hI.bel hbi
  have hO := hO.bel hbi
  have hB := belT hB hbi
  have i1 := hI.c1
  have i2 := hI.c2
  have i3 := hI.c3
  have i4 := hI.c4
  dsimp only at i1 i2 i3 i4
  clear hbi
  go_wp2_with fail
  refine (I4.out _).mono ?_
  rintro e wi ⟨rfl, hbi⟩
  have hI := hI.bel hbi
  have hO := hO.bel hbi
  have hB := belT hB hbi
  have i1 := hI.c1
  have i2 := hI.c2
  have i3 := hI.c3
  have i4 := hI.c4
  dsimp only at i1 i2 i3 i4
  clear hbi
  go_wp2_with fail
  go_ret
  exact ⟨_, rfl, hO.base (by omega), hB⟩

/-- What the reference's Bytes tells. -/
def bytesR (op a b c : Int) (n : Nat) : List Nat :=
  [op.toNat] ++ (if inR op 97 then [a.toNat] else []) ++ (if inR op 98 then [b.toNat] else []) ++ (if inR op 110 || inR op 107 then [c.toNat] else []) ++ (if inR op 105 || inR op 102 || inR op 107 then leL n 4 else [])

theorem rBytes_any (op a b c : Int) (n : Nat) (hop : 1 ≤ op ∧ op ≤ 19) (ha : 0 ≤ a ∧ a < 256) (hb : 0 ≤ b ∧ b < 256) (hc : 0 ≤ c ∧ c < 256) (hm : n < 4294967296) (w : World) :
    Calls Tryz.prog 43 #[insV op a b c n] w fun e w' => ∃ v, e = .returned v ∧ OwnB w.heap.size v (bytesR op a b c n) w' ∧ Below w.heap.size w w' := by
  have key : ∀ (f : Bool × Bool × Bool × Bool × Bool × Bool), (inR op 97, inR op 98, inR op 110, inR op 107, inR op 105, inR op 102) = f → (inR op 97 = f.1 ∧ inR op 98 = f.2.1 ∧ inR op 110 = f.2.2.1 ∧ inR op 107 = f.2.2.2.1 ∧ inR op 105 = f.2.2.2.2.1 ∧ inR op 102 = f.2.2.2.2.2) := by
    rintro f rfl
    exact ⟨rfl, rfl, rfl, rfl, rfl, rfl⟩
  have tab : ∀ k : Nat, k < 20 → 1 ≤ k → (inR k 97, inR k 98, inR k 110, inR k 107, inR k 105, inR k 102) ∈ [(true, false, false, false, true, false), (true, true, false, false, false, false), (true, true, false, true, false, false), (false, false, false, false, true, false), (true, true, true, false, false, true), (true, false, false, false, false, false), (false, true, true, false, false, true), (false, false, false, false, false, false)] := by
    have h : ((List.range 20).all fun k => decide (k < 1) || decide ((inR k 97, inR k 98, inR k 110, inR k 107, inR k 105, inR k 102) ∈ [(true, false, false, false, true, false), (true, true, false, false, false, false), (true, true, false, true, false, false), (false, false, false, false, true, false), (true, true, true, false, false, true), (true, false, false, false, false, false), (false, true, true, false, false, true), (false, false, false, false, false, false)])) = true := by decide +kernel
    intro k hk h1
    have := List.all_eq_true.1 h k (List.mem_range.2 hk)
    rw [decide_eq_false (by omega), Bool.false_or] at this
    exact of_decide_eq_true this
  have ht := tab op.toNat (by omega) (by omega)
  rw [show ((op.toNat : Nat) : Int) = op by omega] at ht
  simp only [List.mem_cons, List.not_mem_nil, or_false] at ht
  rcases ht with h | h | h | h | h | h | h | h <;> obtain ⟨e1, e2, e3, e4, e5, e6⟩ := key _ h <;> unfold bytesR <;> rw [e1, e2, e3, e4, e5, e6]
  · exact (rbAI op a b c n hop ha hb hc hm e1 e2 e3 e4 e5 e6 w).mono (by rintro e w' ⟨v, rfl, h1, h2⟩; exact ⟨v, rfl, by simpa using h1, h2⟩)
  · exact (rbAB op a b c n hop ha hb hc hm e1 e2 e3 e4 e5 e6 w).mono (by rintro e w' ⟨v, rfl, h1, h2⟩; exact ⟨v, rfl, by simpa using h1, h2⟩)
  · exact (rbABK op a b c n hop ha hb hc hm e1 e2 e3 e4 e5 e6 w).mono (by rintro e w' ⟨v, rfl, h1, h2⟩; exact ⟨v, rfl, by simpa using h1, h2⟩)
  · exact (rbI op a b c n hop ha hb hc hm e1 e2 e3 e4 e5 e6 w).mono (by rintro e w' ⟨v, rfl, h1, h2⟩; exact ⟨v, rfl, by simpa using h1, h2⟩)
  · exact (rbABN op a b c n hop ha hb hc hm e1 e2 e3 e4 e5 e6 w).mono (by rintro e w' ⟨v, rfl, h1, h2⟩; exact ⟨v, rfl, by simpa using h1, h2⟩)
  · exact (rbA op a b c n hop ha hb hc hm e1 e2 e3 e4 e5 e6 w).mono (by rintro e w' ⟨v, rfl, h1, h2⟩; exact ⟨v, rfl, by simpa using h1, h2⟩)
  · exact (rbBN op a b c n hop ha hb hc hm e1 e2 e3 e4 e5 e6 w).mono (by rintro e w' ⟨v, rfl, h1, h2⟩; exact ⟨v, rfl, by simpa using h1, h2⟩)
  · exact (rb0 op a b c n hop ha hb hc hm e1 e2 e3 e4 e5 e6 w).mono (by rintro e w' ⟨v, rfl, h1, h2⟩; exact ⟨v, rfl, by simpa using h1, h2⟩)
end Go.Proofs.YtfnfcngkaepnjaaGreatDoor
