/- Joined texts: Walks of the statements' own helpers of layer 8: num; works, the chapter's rows. -/
import Derived.Test.YtfnfcngkaepnjaaGreatDoorQY27
import Derived.Test.YtfnfcngkaepnjaaGreatDoorQY28
import Derived.Test.YtfnfcngkaepnjaaGreatDoorQY25
/- Walks of the statements' own helpers of layer 8: num; works, the chapter's rows. -/
namespace Go.Proofs.YtfnfcngkaepnjaaGreatDoor
set_option linter.unusedVariables false
open Go Go.Proofs Go.RowKit

theorem num_any (n : Int) (w : World) : Calls Tryz.prog 41 #[.int .i64 n] w fun e w' => e = .returned (.int .i64 n) ∧ w = w' := by
  go_enter Tryz.func41, Tryz.ntmps41
  go_wp2
  go_ret
  exact ⟨rfl, rfl⟩

theorem dec1 : Lib.decDigits 1 = [49] := by simp [Lib.decDigits]
theorem dec2 : Lib.decDigits 2 = [50] := by simp [Lib.decDigits]
theorem dec3 : Lib.decDigits 3 = [51] := by simp [Lib.decDigits]
theorem dec4 : Lib.decDigits 4 = [52] := by simp [Lib.decDigits]
theorem dec16 : Lib.decDigits 16 = [49, 54] := by simp [Lib.decDigits]
theorem partT_of {a b c m : Int} {p : Part} {n : Nat} {l : List UInt8} (hg : (getF p a b c m).toNat = n) (hd : Lib.decDigits n = l) : partT a b c m p = p.mark ++ ⟨l.toArray⟩ := by
  unfold partT
  rw [hg, hd]

theorem text_a : textF 8 1 2 3 4 = [99, 97, 108, 108, 32, 114, 49, 32, 114, 50, 32, 51, 32, 102, 52] := by
  unfold textF textL
  rw [show textP ((namedL.lookup 8).getD []) = [pA, pB, pM, pI ⟨#[102]⟩] from rfl]
  simp only [List.map_cons, List.map_nil]
  rw [partT_of (p := pA) (n := 1) (by decide) dec1, partT_of (p := pB) (n := 2) (by decide) dec2, partT_of (p := pM) (n := 3) (by decide) dec3, partT_of (p := pI ⟨#[102]⟩) (n := 4) (by decide) dec4]
  decide +kernel
theorem text_b : textF 3 1 2 3 11 = [108, 101, 115, 115, 32, 114, 49, 32, 114, 50, 32, 114, 51] := by
  unfold textF textL
  rw [show textP ((namedL.lookup 3).getD []) = [pA, pB, pC] from rfl]
  simp only [List.map_cons, List.map_nil]
  rw [partT_of (p := pA) (n := 1) (by decide) dec1, partT_of (p := pB) (n := 2) (by decide) dec2, partT_of (p := pC) (n := 3) (by decide) dec3]
  decide +kernel
theorem text_c (op a b c m : Int) : ¬ IsT ⟨#[108, 111, 97, 100, 32, 114, 49, 32, 114, 49, 54]⟩ op a b c m := by
  intro h
  have h1 := pieces_text h
  have h2 : piecesF ⟨#[108, 111, 97, 100, 32, 114, 49, 32, 114, 49, 54]⟩ = [wordN 6, ⟨#[114, 49]⟩, ⟨#[114, 49, 54]⟩] := by decide +kernel
  rw [h2] at h1
  unfold textL at h1
  obtain ⟨h3, h4⟩ := List.cons.inj h1
  obtain ⟨o, k, f, hb⟩ := begP_ex (insN op m)
  obtain ⟨g1, g2⟩ := right_op h.right
  obtain ⟨_, r2, _⟩ := hb.name op m g1.1 g1.2 g2 rfl
  obtain ⟨_, r2', _⟩ := hb.name 6 0 (by decide) (by decide) (by decide) (h3.symm.trans rfl)
  have ho : op = 6 := r2.symm.trans r2'
  subst ho
  rw [show textP ((namedL.lookup 6).getD []) = [pA, pB] from rfl] at h4
  simp only [List.map_cons, List.map_nil, List.cons.injEq, and_true] at h4
  obtain ⟨_, _, hb2, _⟩ := rightF_bd h.right
  have h5 := congrArg (fun x : ByteArray => x.data.toList) h4.2
  unfold partT at h5
  simp only [ByteArray.data_append, Array.toList_append] at h5
  have h6 : [(114 : UInt8)] ++ Lib.decDigits 16 = [114] ++ Lib.decDigits b.toNat := by
    rw [dec16]; exact h5
  have h7 := dec_inj32 (by omega) (List.append_cancel_left h6) (by omega)
  omega

theorem parse_b {e : Ending} (h : ParsePost ⟨#[108, 101, 115, 115, 32, 114, 49, 32, 114, 50, 32, 114, 51]⟩ e) : e = .returned (parseV 3 1 2 3 11 0) := by
  have hT : IsT ⟨#[108, 101, 115, 115, 32, 114, 49, 32, 114, 50, 32, 114, 51]⟩ 3 1 2 3 11 := ⟨by decide, by decide +kernel, text_b⟩
  rcases h with ⟨op, a, b, c, m, h, rfl⟩ | ⟨h, _⟩
  · obtain ⟨rfl, rfl, rfl, rfl, rfl⟩ := isT_inj h hT
    rfl
  · exact absurd hT (h _ _ _ _ _)
theorem parse_c {e : Ending} (h : ParsePost ⟨#[108, 111, 97, 100, 32, 114, 49, 32, 114, 49, 54]⟩ e) : e = .returned (parseV 0 0 0 0 0 180) := by
  rcases h with ⟨op, a, b, c, m, h, rfl⟩ | ⟨_, h⟩
  · exact absurd h (text_c _ _ _ _ _)
  · exact h
theorem bytes_d : insB 5 1 0 0 258 = [5, 1, 2, 1, 0, 0] := by decide +kernel
theorem read_e : readF [6, 16, 0] = readV 0 0 0 0 0 0 180 := by kernel_rfl
theorem read_f : readF [6, 1] = readV 0 0 0 0 0 0 110 := by kernel_rfl
theorem check_g : insCheckF 8 0 15 2 0 = 2 := by decide +kernel
theorem right_a : rightF 8 1 2 3 4 = true := by decide +kernel
theorem right_d : rightF 5 1 0 0 258 = true := by decide +kernel

theorem arg_new (w : World) (L : List Nat) (cs : Array Value) (hc : cs = (byteVs L).toArray) (hl : ∀ x ∈ L, x < 256) (h0 : L.length ≤ 1000000) : ArgB (w.alloc (.cells cs 5)) (.slice (some ⟨w.heap.size, 0, none⟩) L.length L.length) L :=
  (OwnB.made w cs L L.length rfl (by rw [hc]) hl h0).arg

set_option maxRecDepth 100000 in
set_option maxHeartbeats 4000000 in
theorem works_any (w : World) (hE : EnvM w) : Calls Tryz.prog 10 #[] w fun e w' => e = .returned (.bool true) ∧ Below w.heap.size w w' := by
  have C1 := Lib.hid (insText_yes 8 1 2 3 4 (by decide) right_a w hE.env)
  rw [text_a] at C1
  unfold insV at C1
  go_enter Tryz.func10, Tryz.ntmps10
  go_wp2_with fail
  refine (C1.out).mono ?_
  rintro e w1 ⟨rfl, hb1⟩
  clear C1
  have C2 := Lib.hid (insParse_any ⟨#[108, 101, 115, 115, 32, 114, 49, 32, 114, 50, 32, 114, 51]⟩ (by decide) w1 (hE.on hb1))
  go_wp2_with fail
  refine C2.out.mono ?_
  rintro e w2 ⟨hq, hb2⟩
  obtain rfl := parse_b hq
  unfold parseV insV
  have B2 := belT hb1 hb2
  clear hq C2 hb1 hb2
  go_wp2_with fail
  have hI := Bare.new 3 1 2 3 11 w2 29
  have B2 := belA B2 (.cells #[.int .i64 3, .int .i64 1, .int .i64 2, .int .i64 3, .int .u32 11] 29)
  generalize hV : w2.alloc _ = V at hI B2 ⊢
  have hsz : w2.heap.size < V.heap.size := lt_of_cell hI.c0
  clear hV
  refine (insBytes_yes 5 1 0 0 258 (by decide) right_d V).mono ?_
  rintro e w3 ⟨v, rfl, hown, hb3⟩
  rw [bytes_d] at hown
  have hv := hown.arg
  have hI := hI.bel hb3
  have B3 := belT B2 hb3
  clear hown B2 hb3 hsz
  go_wp2_with fail
  have hA := arg_new w3 [6, 16, 0] #[.int .u8 6, .int .u8 16, .int .u8 0] rfl (by decide) (by decide)
  have CR := Lib.hid (insRead_any [6, 16, 0] (by decide) _ _ hA)
  rw [read_e] at CR
  unfold readV insV at CR
  have hI := hI.bel (bel1 (.cells #[.int .u8 6, .int .u8 16, .int .u8 0] 5))
  have hv := hv.bel (bel1 (.cells #[.int .u8 6, .int .u8 16, .int .u8 0] 5))
  have B3 := belA B3 (.cells #[.int .u8 6, .int .u8 16, .int .u8 0] 5)
  refine CR.out.mono ?_
  rintro e w4 ⟨rfl, hb4⟩
  have hI := hI.bel hb4
  have hv := hv.bel hb4
  have B4 := belT B3 hb4
  clear CR hA B3 hb4
  go_wp2_with fail
  have hI := hI.bel (bel1 (.cells #[.int .i64 0, .int .i64 0, .int .i64 0, .int .i64 0, .int .u32 0] 29))
  have hv := hv.bel (bel1 (.cells #[.int .i64 0, .int .i64 0, .int .i64 0, .int .i64 0, .int .u32 0] 29))
  have B4 := belA B4 (.cells #[.int .i64 0, .int .i64 0, .int .i64 0, .int .i64 0, .int .u32 0] 29)
  have hA := arg_new (w4.alloc (.cells #[.int .i64 0, .int .i64 0, .int .i64 0, .int .i64 0, .int .u32 0] 29)) [6, 1] #[.int .u8 6, .int .u8 1] rfl (by decide) (by decide)
  simp only [World.size_alloc w4] at hA
  have CR := Lib.hid (insRead_any [6, 1] (by decide) _ _ hA)
  rw [read_f] at CR
  unfold readV insV at CR
  have hI := hI.bel (bel1 (.cells #[.int .u8 6, .int .u8 1] 5))
  have hv := hv.bel (bel1 (.cells #[.int .u8 6, .int .u8 1] 5))
  have B4 := belA B4 (.cells #[.int .u8 6, .int .u8 1] 5)
  refine CR.out.mono ?_
  rintro e w5 ⟨rfl, hb5⟩
  have hI := hI.bel hb5
  have hv := hv.bel hb5
  have B5 := belT B4 hb5
  clear CR hA B4 hb5
  go_wp2_with fail
  have hI := hI.bel (bel1 (.cells #[.int .i64 0, .int .i64 0, .int .i64 0, .int .i64 0, .int .u32 0] 29))
  have hv := hv.bel (bel1 (.cells #[.int .i64 0, .int .i64 0, .int .i64 0, .int .i64 0, .int .u32 0] 29))
  have B5 := belA B5 (.cells #[.int .i64 0, .int .i64 0, .int .i64 0, .int .i64 0, .int .u32 0] 29)
  have C6 := Lib.hid (insParse_any ⟨#[108, 111, 97, 100, 32, 114, 49, 32, 114, 49, 54]⟩ (by decide) _ (hE.on B5))
  refine C6.out.mono ?_
  rintro e w6 ⟨hq, hb6⟩
  obtain rfl := parse_c hq
  unfold parseV insV
  have hI := hI.bel hb6
  have hv := hv.bel hb6
  have B6 := belT B5 hb6
  clear C6 B5 hb6 hq
  have hI := hI.bel (bel1 (.cells #[.int .i64 0, .int .i64 0, .int .i64 0, .int .i64 0, .int .u32 0] 29))
  have hv := hv.bel (bel1 (.cells #[.int .i64 0, .int .i64 0, .int .i64 0, .int .i64 0, .int .u32 0] 29))
  have B6 := belA B6 (.cells #[.int .i64 0, .int .i64 0, .int .i64 0, .int .i64 0, .int .u32 0] 29)
  have CC := Lib.hid fun W => insCheck_any 8 0 15 2 0 (by decide) W
  rw [check_g] at CC
  unfold insV at CC
  have hcv := conv_arg hv
  rw [show bytesS [5, 1, 2, 1, 0, 0] = ⟨#[5, 1, 2, 1, 0, 0]⟩ from rfl] at hcv
  obtain ⟨i0, i1, i2, i3, i4, _, _, _, _⟩ := hI
  dsimp only at i1 i2 i3 i4
  go_wp2_with (first
    | (go_at_call 41; refine (num_any _ _).mono ?_; rintro e wn ⟨rfl, rfl⟩)
    | (go_at_call 42; refine (CC.out _).mono ?_; rintro e w7 ⟨rfl, hb7⟩))
  go_ret
  exact ⟨rfl, belT B6 hb7⟩
end Go.Proofs.YtfnfcngkaepnjaaGreatDoor
