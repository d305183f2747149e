/- Joined texts: The walk of InstrBytes. -/
import Derived.Test.YtgjibnfdaigpkaaGreatDoorQT39
import Derived.Test.YtgjibnfdaigpkaaGreatDoorQB5
import Derived.Test.YtgjibnfdaigpkaaGreatDoorQB7
import Derived.Deep.RegionHeld3
/- The walk of InstrBytes. -/
namespace Go.Proofs.YtgjibnfdaigpkaaGreatDoor
set_option linter.unusedVariables false
set_option linter.unusedSimpArgs false
open Go Go.Proofs Go.RowKit Go.Sort

theorem readF_form (l : List Nat) : ∃ op a b c m n e, readF l = readV op a b c m n e := by
  cases l with
  | nil => exact ⟨_, _, _, _, _, _, _, rfl⟩
  | cons x t =>
    simp only [readF]
    split
    · split
      · exact ⟨_, _, _, _, _, _, _, rfl⟩
      · split
        · exact ⟨_, _, _, _, _, _, _, rfl⟩
        · exact ⟨_, _, _, _, _, _, _, rfl⟩
    · exact ⟨_, _, _, _, _, _, _, rfl⟩

set_option maxRecDepth 100000 in
set_option maxHeartbeats 4000000 in
theorem instrBytes_long (op a b c m : Int) (l : List Nat) (hl : 60 < l.length) (hm : l.length ≤ 9223372036854775807) (ao : Option Addr) (cp : Nat) (w : World) (hE : EnvM w) :
    Calls Tryz.prog 3 #[insV op a b c m, .slice ao l.length cp] w fun e w' => e = .returned (.bool true) ∧ Below w.heap.size w w' := by
  have CW := Lib.hid fun W hE => works_any W hE
  have h60 : (60 : Int) < (l.length : Int) := by omega
  unfold insV
  have hB := bel1 (W := w) (.cells #[.int .i64 op, .int .i64 a, .int .i64 b, .int .i64 c, .int .u32 m] 25)
  go_enter Tryz.func3, Tryz.ntmps3
  go_wp2_with (refine (CW.out _ (hE.on hB)).mono ?_; rintro e w7 ⟨rfl, hb7⟩)
  go_ret
  exact ⟨rfl, belT hB hb7⟩

set_option maxRecDepth 100000 in
set_option maxHeartbeats 4000000 in
theorem instrBytes_short (op a b c m : Int) (hm : 0 ≤ m ∧ m < 4294967296) (l : List Nat) (hl : l.length ≤ 60) (v : Value) (w : World) (hE : EnvM w) (hv : ArgB w v l) :
    Calls Tryz.prog 3 #[insV op a b c m, v] w fun e w' => e = .returned (.bool true) ∧ Below w.heap.size w w' := by
  have CB := Lib.hid fun W => insBytes_any op a b c m hm W
  have CR := Lib.hid fun v W hv => insRead_any l (by omega) v W hv
  have CQ := Lib.hid fun v W hv => rRead_any l (by omega) v W hv
  have CT := Lib.hid fun W => rRight_F op a b c m hm W
  have CW := Lib.hid fun W hE => works_any W hE
  have HBK := Lib.hid fun x a b c m n h => read_back l hv.lt x a b c m n h
  obtain ⟨x, xa, xb, xc, xm, n, bad, hF⟩ := readF_form l
  rw [hF] at CR CQ HBK
  have h60 : ¬ (60 : Int) < (l.length : Int) := by omega
  have hne : ∀ w, (binOp .neq 25 (.agg #[.int .i64 x, .int .i64 xa, .int .i64 xb, .int .i64 xc, .int .u32 xm]) (.agg #[.int .i64 x, .int .i64 xa, .int .i64 xb, .int .i64 xc, .int .u32 xm])).run Tryz.prog w = .ok (.bool false) w := fun w => by rw [ins_ne]; simp
  unfold readV at CR CQ
  unfold insV at CB CR CQ CT ⊢
  obtain ⟨ao, cp, rfl⟩ := hv.form
  have hI := Bare.new op a b c m w 25
  have hB := bel1 (W := w) (.cells #[.int .i64 op, .int .i64 a, .int .i64 b, .int .i64 c, .int .u32 m] 25)
  have hv := hv.bel hB
  go_enter Tryz.func3, Tryz.ntmps3
  go_wp2_with fail
  generalize w.alloc _ = V at hI hB hv ⊢
  refine (CB.out _).mono ?_
  rintro e w1 ⟨v5, rfl, ho5, hb1⟩
  have hv5 := ho5.arg
  have hI := hI.bel hb1
  have hv := hv.bel hb1
  have hB := belT hB hb1
  clear ho5 hb1
  go_wp2_with fail
  refine (CR.out _ _ hv).mono ?_
  rintro e w2 ⟨rfl, hb2⟩
  have hI := hI.bel hb2
  have hv := hv.bel hb2
  have hv5 := hv5.bel hb2
  have hB := belT hB hb2
  clear hb2
  go_wp2_with fail
  have hX := Bare.new x xa xb xc xm w2 25
  have hI := hI.bel (bel1 (.cells #[.int .i64 x, .int .i64 xa, .int .i64 xb, .int .i64 xc, .int .u32 xm] 25))
  have hv := hv.bel (bel1 (.cells #[.int .i64 x, .int .i64 xa, .int .i64 xb, .int .i64 xc, .int .u32 xm] 25))
  have hv5 := hv5.bel (bel1 (.cells #[.int .i64 x, .int .i64 xa, .int .i64 xb, .int .i64 xc, .int .u32 xm] 25))
  have hB := belA hB (.cells #[.int .i64 x, .int .i64 xa, .int .i64 xb, .int .i64 xc, .int .u32 xm] 25)
  generalize w2.alloc _ = V2 at hX hI hv hv5 hB ⊢
  refine (CQ.out _ _ hv).mono ?_
  rintro e w3 ⟨rfl, hb3⟩
  have hX := hX.bel hb3
  have hI := hI.bel hb3
  have hv := hv.bel hb3
  have hv5 := hv5.bel hb3
  have hB := belT hB hb3
  clear hb3
  obtain ⟨k0, k1, k2, k3, k4, _, _, _, _⟩ := id hX
  dsimp only at k1 k2 k3 k4
  have hlk := lt_of_cell k0
  obtain ⟨i0, i1, i2, i3, i4, _, _, _, _⟩ := id hI
  dsimp only at i1 i2 i3 i4
  have hli := lt_of_cell i0
  have b3 := bel1 (W := w3) (.cells #[.int .i64 x, .int .i64 xa, .int .i64 xb, .int .i64 xc, .int .u32 xm] 25)
  have hI := hI.bel b3
  have hv := hv.bel b3
  have hv5 := hv5.bel b3
  have hB := belT hB b3
  have hX := hX.bel b3
  clear b3
  by_cases hb0 : bad = 0
  · subst hb0
    obtain ⟨hxr, hxm, kk, rfl, hkl, hxk⟩ := HBK.out _ _ _ _ _ _ rfl
    have CB2 := Lib.hid fun W => insBytes_yes x xa xb xc xm hxm hxr W
    unfold insV at CB2
    rw [hxk] at CB2
    go_wp2_with (go_at_call 13; refine (num_any _ _).mono ?_; rintro e wn ⟨rfl, rfl⟩)
    refine (CB2.out _).mono ?_
    rintro e w6 ⟨v6, rfl, ho6, hb6⟩
    have hv6 := ho6.arg
    have hI := hI.bel hb6
    have hv := hv.bel hb6
    have hv5 := hv5.bel hb6
    have hB := belT hB hb6
    clear ho6 hb6 CB2 i0 i1 i2 i3 i4 k0 k1 k2 k3 k4 hlk hli hX
    have hne6 : l.take kk ≠ [] := by rw [← hxk]; unfold insB; simp
    have hnl : l ≠ [] := fun h => hne6 (by rw [h]; simp)
    obtain ⟨ad, rfl, hc2, hcm, b0, o0, rfl, hH⟩ : ∃ ad, ao = some ad ∧ l.length ≤ cp ∧ cp ≤ 9223372036854775807 ∧ ∃ b o, ad = ⟨b, o, none⟩ ∧ HasB w6 b o l := by
      rcases hv with ⟨_, h⟩ | ⟨ad, c, h, h1, h2, h3⟩
      · exact absurd h hnl
      · simp only [Value.slice.injEq, true_and] at h
        obtain ⟨rfl, rfl⟩ := h
        exact ⟨ad, rfl, h1, h2, h3 hnl⟩
    have hsl := slice_upto ⟨b0, o0, none⟩ l.length cp kk hkl hc2
    have hv7 : ArgB w6 (.slice (some ⟨b0, o0, none⟩) (l.take kk).length cp) (l.take kk) := Or.inr ⟨_, cp, rfl, by rw [List.length_take]; omega, hcm, fun _ => ⟨b0, o0, rfl, fun x hx => hv.lt x (List.mem_of_mem_take hx), fun j hj => by
      rw [List.length_take] at hj
      rw [hH.2 j (by omega), List.getD_eq_getElem?_getD, List.getD_eq_getElem?_getD, List.getElem?_take_of_lt (by omega)]⟩⟩
    have hcv6 := fun (d' : Nat) os => conv_arg (hv6.bel (below_regrown w6 d' os))
    have hcv7 := fun (d' : Nat) os => conv_arg (hv7.bel (below_regrown w6 d' os))
    rw [List.length_take, Nat.min_eq_left hkl] at hcv7
    have hHV := Lib.hid hv
    have hk0 : (0 : Int) ≤ (kk : Int) := by omega
    clear hv7 hv6 hH hne6 hnl hxk hv
    generalize bytesS (l.take kk) = X6 at hcv6 hcv7
    have CNu := Lib.hid fun (d' : Nat) os => Calls.regrown_of ((num_any 0 (grow (redrawn w6 d') os)).mono (R' := fun e w' => e = .returned (.int .i64 0) ∧ Below (grow (redrawn w6 d') os).heap.size (grow (redrawn w6 d') os) w') (by rintro e w' ⟨rfl, rfl⟩; exact ⟨rfl, Below.refl _ _⟩))
    have hIH := Lib.hid hI
    have hv5H := Lib.hid hv5
    have hBH := Lib.hid hB
    clear hI hv5 hB
    go_wp2_with fail
    refine wp_region_quiet_below (by kernel_rfl) (by kernel_rfl) ?_
    repeat (go_big_quiet_step (exact CNu.out _ _))
    refine wpQuiet_nil ?_
    intro _ hw'
    obtain ⟨⟨dq, osq⟩, hw''⟩ := hw'
    subst hw''
    have hI := hIH.out.bel (below_regrown w6 dq osq)
    have hv := hHV.out.bel (below_regrown w6 dq osq)
    have hv5 := hv5H.out.bel (below_regrown w6 dq osq)
    have hB := belT hBH.out (below_regrown w6 dq osq)
    clear hIH hv5H hBH hHV CNu hcv6 hcv7 hsl hk0
    generalize grow (redrawn w6 dq) osq = V6 at hI hv hv5 hB ⊢
    obtain ⟨i0, i1, i2, i3, i4, _, _, _, _⟩ := id hI
    dsimp only at i1 i2 i3 i4
    go_wp2_with fail
    clear i0 i1 i2 i3 i4
    refine (CT.out _).mono ?_
    rintro e w4 ⟨rfl, hb4⟩
    have hI := hI.bel hb4
    have hv := hv.bel hb4
    have hv5 := hv5.bel hb4
    have hB := belT hB hb4
    clear hb4
    cases hr : rightF op a b c m with
    | false =>
      have e5 : bytesE op a b c m = 2 := if_neg (by rw [hr]; decide)
      have e6 : bytesL op a b c m = [] := if_neg (by rw [hr]; decide)
      rw [e5]
      rw [e6] at hv5
      obtain ⟨a5, c5, rfl⟩ := hv5.form
      clear hv5 hv hI e5 e6
      go_wp2_with (first
        | (go_at_call 13; refine (num_any _ _).mono ?_; rintro e wn ⟨rfl, rfl⟩)
        | (go_at_call 9; refine (CW.out _ (hE.on hB)).mono ?_; rintro e w7 ⟨rfl, hb7⟩))
      go_ret
      exact ⟨rfl, belT hB hb7⟩
    | true =>
      have e5 : bytesE op a b c m = 0 := if_pos hr
      have e6 : bytesL op a b c m = insB op a b c m := if_pos hr
      rw [e5]
      rw [e6] at hv5
      clear e5 e6
      have hRB := read_bytes hm hr l
      have hln : (insB op a b c m).length ≤ 17 := by
        have h1 := insB_small a b c m ((namedL.lookup op).getD []) (fun p hp => by obtain ⟨_, ha, hb, hc⟩ := rightF_bd hr; exact (part_fits (named_parts op p hp) a b c m ha hb hc hm).2)
        have h2 := named_short op
        unfold insB
        rw [List.length_cons]
        omega
      have hO0 := OwnB.made w4 #[] [] 0 rfl rfl (by simp) (by simp)
      have CRB := Lib.hid (rBytes_right op a b c m hm hr)
      unfold insV at CRB
      have CRR := Lib.hid fun v W hv => insRead_any (insB op a b c m ++ l) (by rw [List.length_append]; omega) v W hv
      rw [hRB] at CRR
      unfold readV insV at CRR
      clear hRB
      have hlt5 := hv5.lt
      generalize hLI : insB op a b c m = LI at hv5 hln CRB CRR
      obtain ⟨a5, c5, rfl⟩ := hv5.form
      have h40 := Below.refl w4.heap.size w4
      have h41 := bel1 (W := w4) (.cells #[] 5)
      go_wp2_with (at_builtin; first | (refine append_B rfl _ _ rfl w4.heap.size _ _ rfl hO0 _ _ rfl (hv5.bel h41) (by simp; omega) (by simp) ?_; intro vo wo hO1 hg1 hb1a; have h42 := h41.trans hb1a; clear hb1a hg1) | (refine append_B rfl _ _ rfl w4.heap.size _ _ rfl hO1 _ _ rfl (hv.bel h42) (by simp; omega) h42.size ?_; intro vp wp hO2 hg2 hb2a; have h43 := h42.trans hb2a; clear hb2a hg2))
      refine (CRR.out vp wp (by simpa using hO2.arg)).mono ?_
      rintro e w8 ⟨rfl, hb8⟩
      have h48 := h43.trans (hb8.mono h43.size)
      clear hb8 h43 h42 h41 h40 hO0 hO1 hO2 CRR CB CR CQ CT HBK
      go_wp2_with fail
      have hY := Bare.new op a b c m w8 25
      have h49 := belA h48 (.cells #[.int .i64 op, .int .i64 a, .int .i64 b, .int .i64 c, .int .u32 m] 25)
      have hI := hI.bel h49
      have hv5 := hv5.bel h49
      have hB := belT hB h49
      clear h48 h49
      generalize w8.alloc _ = V9 at hY hI hv5 hB ⊢
      have hsq : ∀ w, (binOp .eql 25 (.agg #[.int .i64 op, .int .i64 a, .int .i64 b, .int .i64 c, .int .u32 m]) (.agg #[.int .i64 op, .int .i64 a, .int .i64 b, .int .i64 c, .int .u32 m])).run Tryz.prog w = .ok (.bool true) w := fun w => by rw [ins_eq]; simp
      have hID := Lib.hid hI.drew
      have hYD := Lib.hid hY.drew
      have hvD := Lib.hid (hv5.bel (Below.refl _ _).drew)
      have hBD := Lib.hid hB.drew
      obtain ⟨⟨i0, i1, i2, i3, i4⟩, y0, y1, y2, y3, y4⟩ : (V9.drew.cell? ⟨w.heap.size, 0, none⟩ = some (.int .i64 op) ∧ V9.drew.cell? ⟨w.heap.size, 1, none⟩ = some (.int .i64 a) ∧ V9.drew.cell? ⟨w.heap.size, 2, none⟩ = some (.int .i64 b) ∧ V9.drew.cell? ⟨w.heap.size, 3, none⟩ = some (.int .i64 c) ∧ V9.drew.cell? ⟨w.heap.size, 4, none⟩ = some (.int .u32 m)) ∧ V9.drew.cell? ⟨w8.heap.size, 0, none⟩ = some (.int .i64 op) ∧ V9.drew.cell? ⟨w8.heap.size, 1, none⟩ = some (.int .i64 a) ∧ V9.drew.cell? ⟨w8.heap.size, 2, none⟩ = some (.int .i64 b) ∧ V9.drew.cell? ⟨w8.heap.size, 3, none⟩ = some (.int .i64 c) ∧ V9.drew.cell? ⟨w8.heap.size, 4, none⟩ = some (.int .u32 m) :=
        ⟨⟨hI.c0, hI.c1, hI.c2, hI.c3, hI.c4⟩, hY.c0, hY.c1, hY.c2, hY.c3, hY.c4⟩
      have cv := conv_arg hvD.out
      clear hI hY hv5 hB hv
      refine wp_region_held_drew (S := (fun W' => W'.cell? ⟨w.heap.size, 0, none⟩ = some (.int .i64 op) ∧ W'.cell? ⟨w.heap.size, 1, none⟩ = some (.int .i64 a) ∧ W'.cell? ⟨w.heap.size, 2, none⟩ = some (.int .i64 b) ∧ W'.cell? ⟨w.heap.size, 3, none⟩ = some (.int .i64 c) ∧ W'.cell? ⟨w.heap.size, 4, none⟩ = some (.int .u32 m) ∧ W'.cell? ⟨w8.heap.size, 0, none⟩ = some (.int .i64 op) ∧ W'.cell? ⟨w8.heap.size, 1, none⟩ = some (.int .i64 a) ∧ W'.cell? ⟨w8.heap.size, 2, none⟩ = some (.int .i64 b) ∧ W'.cell? ⟨w8.heap.size, 3, none⟩ = some (.int .i64 c) ∧ W'.cell? ⟨w8.heap.size, 4, none⟩ = some (.int .u32 m) ∧ (convert 26 9 (.slice a5 LI.length c5)).run Tryz.prog W' = .ok (.string (bytesS LI)) W')) (by kernel_rfl) ?_ (fun hHeld => ?_)
      · exact ⟨i0, i1, i2, i3, i4, y0, y1, y2, y3, y4, cv⟩
      refine wpAnyH_take (i := 0) (v := ?_) rfl (by kernel_rfl) (by kernel_rfl) (by kernel_rfl) (fun _ _ _ h => h) (Or.inl ⟨by rfl, ?_⟩) (by assumption) ?_
      rotate_left
      · (intro w hSw; (try dsimp only at hSw); go_simp)
        all_goals with_reducible rfl
      try simp only [Act.put, List.getElem_toArray, List.getElem_cons_succ, List.getElem_cons_zero, List.setIfInBounds_toArray, List.set_cons_zero, List.set_cons_succ]
      refine wpAnyH_take (i := 1) (v := ?_) rfl (by kernel_rfl) (by kernel_rfl) (by kernel_rfl) (fun _ _ _ h => h) (Or.inl ⟨by rfl, ?_⟩) (by assumption) ?_
      rotate_left
      · (intro w hSw; (try dsimp only at hSw); go_simp)
        all_goals with_reducible rfl
      try simp only [Act.put, List.getElem_toArray, List.getElem_cons_succ, List.getElem_cons_zero, List.setIfInBounds_toArray, List.set_cons_zero, List.set_cons_succ]
      refine wpAnyH_take (i := 2) (v := ?_) rfl (by kernel_rfl) (by kernel_rfl) (by kernel_rfl) (fun _ _ _ h => h) (Or.inl ⟨by rfl, ?_⟩) (by assumption) ?_
      rotate_left
      · (intro w hSw; (try dsimp only at hSw); go_simp)
        all_goals with_reducible rfl
      try simp only [Act.put, List.getElem_toArray, List.getElem_cons_succ, List.getElem_cons_zero, List.setIfInBounds_toArray, List.set_cons_zero, List.set_cons_succ]
      refine wpAnyH_ready (rs := [3]) (by kernel_rfl) (by simp) ?_
      refine AllReadyH.cons rfl (fun K hK => ?_) AllReadyH.nil
      go_simp
      · (with_reducible refine (CRB.out _).mono ?_)
        rintro e wr ⟨vr, rfl, hOr, hbr⟩
        have cr := conv_arg hOr.arg
        have cv := conv_arg (hvD.out.bel hbr)
        refine hK.out _ _ ?_ (fun hHeld => ?_)
        · exact ⟨cell_bel (w := V9.drew) i0 hbr, cell_bel (w := V9.drew) i1 hbr, cell_bel (w := V9.drew) i2 hbr, cell_bel (w := V9.drew) i3 hbr, cell_bel (w := V9.drew) i4 hbr, cell_bel (w := V9.drew) y0 hbr, cell_bel (w := V9.drew) y1 hbr, cell_bel (w := V9.drew) y2 hbr, cell_bel (w := V9.drew) y3 hbr, cell_bel (w := V9.drew) y4 hbr, cv⟩
        clear hK K i0 i1 i2 i3 i4 y0 y1 y2 y3 y4
        try simp only [Act.put, List.getElem_toArray, List.getElem_cons_succ, List.getElem_cons_zero, List.setIfInBounds_toArray, List.set_cons_zero, List.set_cons_succ]
        refine wpAnyH_ready (rs := [4]) (by kernel_rfl) (by simp) ?_
        refine AllReadyH.cons rfl (fun K hK => ?_) AllReadyH.nil
        go_simp
        refine hK.out _ _ ?_ (fun hHeld => ?_)
        · assumption
        clear hK K
        try simp only [Act.put, List.getElem_toArray, List.getElem_cons_succ, List.getElem_cons_zero, List.setIfInBounds_toArray, List.set_cons_zero, List.set_cons_succ]
        refine wpAnyH_take (i := 5) (v := ?_) rfl (by kernel_rfl) (by kernel_rfl) (by kernel_rfl) (fun _ _ _ h => h) (Or.inl ⟨by rfl, ?_⟩) (by assumption) ?_
        rotate_left
        · (intro w hSw; (try dsimp only at hSw); go_simp)
          all_goals with_reducible rfl
        try simp only [Act.put, List.getElem_toArray, List.getElem_cons_succ, List.getElem_cons_zero, List.setIfInBounds_toArray, List.set_cons_zero, List.set_cons_succ]
        refine wpAnyH_take (i := 6) (v := ?_) rfl (by kernel_rfl) (by kernel_rfl) (by kernel_rfl) (fun _ _ _ h => h) (Or.inl ⟨by rfl, ?_⟩) (by assumption) ?_
        rotate_left
        · (intro w hSw; (try dsimp only at hSw); go_simp)
          all_goals with_reducible rfl
        try simp only [Act.put, List.getElem_toArray, List.getElem_cons_succ, List.getElem_cons_zero, List.setIfInBounds_toArray, List.set_cons_zero, List.set_cons_succ]
        refine wpAnyH_take (i := 7) (v := ?_) rfl (by kernel_rfl) (by kernel_rfl) (by kernel_rfl) (fun _ _ _ h => h) (Or.inl ⟨by rfl, ?_⟩) (by assumption) ?_
        rotate_left
        · (intro w hSw; (try dsimp only at hSw); go_simp)
          all_goals with_reducible rfl
        try simp only [Act.put, List.getElem_toArray, List.getElem_cons_succ, List.getElem_cons_zero, List.setIfInBounds_toArray, List.set_cons_zero, List.set_cons_succ]
        refine wpAnyH_take (i := 9) (v := ?_) rfl (by kernel_rfl) (by kernel_rfl) (by kernel_rfl) (fun _ _ _ h => h) (Or.inl ⟨by rfl, ?_⟩) (by assumption) ?_
        rotate_left
        · (intro w hSw; (try dsimp only at hSw); go_simp)
          all_goals with_reducible rfl
        try simp only [Act.put, List.getElem_toArray, List.getElem_cons_succ, List.getElem_cons_zero, List.setIfInBounds_toArray, List.set_cons_zero, List.set_cons_succ]
        refine wpAnyH_ready (rs := [8]) (by kernel_rfl) (by simp) ?_
        refine AllReadyH.cons rfl (fun K hK => ?_) AllReadyH.nil
        go_simp
        refine (num_any _ _).mono ?_
        rintro e wn ⟨rfl, rfl⟩
        refine hK.out _ _ ?_ (fun hHeld => ?_)
        · assumption
        clear hK K
        try simp only [Act.put, List.getElem_toArray, List.getElem_cons_succ, List.getElem_cons_zero, List.setIfInBounds_toArray, List.set_cons_zero, List.set_cons_succ]
        refine wpAnyH_ready (rs := [10]) (by kernel_rfl) (by simp) ?_
        refine AllReadyH.cons rfl (fun K hK => ?_) AllReadyH.nil
        go_simp
        refine (num_any _ _).mono ?_
        rintro e wn ⟨rfl, rfl⟩
        refine hK.out _ _ ?_ (fun hHeld => ?_)
        · assumption
        clear hK K
        try simp only [Act.put, List.getElem_toArray, List.getElem_cons_succ, List.getElem_cons_zero, List.setIfInBounds_toArray, List.set_cons_zero, List.set_cons_succ]
        refine wpAnyH_take (i := 11) (v := ?_) rfl (by kernel_rfl) (by kernel_rfl) (by kernel_rfl) (fun _ _ _ h => h) (Or.inl ⟨by rfl, ?_⟩) (by assumption) ?_
        rotate_left
        · (intro w hSw; (try dsimp only at hSw); go_simp)
          all_goals with_reducible rfl
        try simp only [Act.put, List.getElem_toArray, List.getElem_cons_succ, List.getElem_cons_zero, List.setIfInBounds_toArray, List.set_cons_zero, List.set_cons_succ]
        refine wpAnyH_take (i := 12) (v := ?_) rfl (by kernel_rfl) (by kernel_rfl) (by kernel_rfl) (fun _ _ _ h => h) (Or.inl ⟨by rfl, ?_⟩) (by assumption) ?_
        rotate_left
        · (intro w hSw; (try dsimp only at hSw); go_simp)
          all_goals with_reducible rfl
        try simp only [Act.put, List.getElem_toArray, List.getElem_cons_succ, List.getElem_cons_zero, List.setIfInBounds_toArray, List.set_cons_zero, List.set_cons_succ]
        refine wpAnyH_take (i := 13) (v := ?_) rfl (by kernel_rfl) (by kernel_rfl) (by kernel_rfl) (fun _ _ _ h => h) (Or.inl ⟨by rfl, ?_⟩) (by assumption) ?_
        rotate_left
        · (intro w hSw; (try dsimp only at hSw); go_simp)
          all_goals with_reducible rfl
        try simp only [Act.put, List.getElem_toArray, List.getElem_cons_succ, List.getElem_cons_zero, List.setIfInBounds_toArray, List.set_cons_zero, List.set_cons_succ]
        refine wpAnyH_take (i := 14) (v := ?_) rfl (by kernel_rfl) (by kernel_rfl) (by kernel_rfl) (fun _ _ _ h => h) (Or.inl ⟨by rfl, ?_⟩) (by assumption) ?_
        rotate_left
        · (intro w hSw; (try dsimp only at hSw); go_simp)
          all_goals with_reducible rfl
        try simp only [Act.put, List.getElem_toArray, List.getElem_cons_succ, List.getElem_cons_zero, List.setIfInBounds_toArray, List.set_cons_zero, List.set_cons_succ]
        refine wpAnyH_take (i := 15) (v := ?_) rfl (by kernel_rfl) (by kernel_rfl) (by kernel_rfl) (fun _ _ _ h => h) (Or.inl ⟨by rfl, ?_⟩) (by assumption) ?_
        rotate_left
        · (intro w hSw; (try dsimp only at hSw); go_simp)
          all_goals with_reducible rfl
        try simp only [Act.put, List.getElem_toArray, List.getElem_cons_succ, List.getElem_cons_zero, List.setIfInBounds_toArray, List.set_cons_zero, List.set_cons_succ]
        refine wpAnyH_take (i := 16) (v := ?_) rfl (by kernel_rfl) (by kernel_rfl) (by kernel_rfl) (fun _ _ _ h => h) (Or.inl ⟨by rfl, ?_⟩) (by assumption) ?_
        rotate_left
        · (intro w hSw; (try dsimp only at hSw); go_simp)
          all_goals with_reducible rfl
        try simp only [Act.put, List.getElem_toArray, List.getElem_cons_succ, List.getElem_cons_zero, List.setIfInBounds_toArray, List.set_cons_zero, List.set_cons_succ]
        refine wpAnyH_take (i := 17) (v := ?_) rfl (by kernel_rfl) (by kernel_rfl) (by kernel_rfl) (fun _ _ _ h => h) (Or.inl ⟨by rfl, ?_⟩) (by assumption) ?_
        rotate_left
        · (intro w hSw; (try dsimp only at hSw); go_simp)
          all_goals with_reducible rfl
        try simp only [Act.put, List.getElem_toArray, List.getElem_cons_succ, List.getElem_cons_zero, List.setIfInBounds_toArray, List.set_cons_zero, List.set_cons_succ]
        refine wpAnyH_take (i := 18) (v := ?_) rfl (by kernel_rfl) (by kernel_rfl) (by kernel_rfl) (fun _ _ _ h => h) (Or.inl ⟨by rfl, ?_⟩) (by assumption) ?_
        rotate_left
        · (intro w hSw; (try dsimp only at hSw); go_simp)
          all_goals with_reducible rfl
        try simp only [Act.put, List.getElem_toArray, List.getElem_cons_succ, List.getElem_cons_zero, List.setIfInBounds_toArray, List.set_cons_zero, List.set_cons_succ]
        refine wpAnyH_take (i := 19) (v := ?_) rfl (by kernel_rfl) (by kernel_rfl) (by kernel_rfl) (fun _ _ _ h => h) (Or.inl ⟨by rfl, ?_⟩) (by assumption) ?_
        rotate_left
        · (intro w hSw; (try dsimp only at hSw); go_simp)
          all_goals with_reducible rfl
        try simp only [Act.put, List.getElem_toArray, List.getElem_cons_succ, List.getElem_cons_zero, List.setIfInBounds_toArray, List.set_cons_zero, List.set_cons_succ]
        refine wpAnyH_take (i := 20) (v := ?_) rfl (by kernel_rfl) (by kernel_rfl) (by kernel_rfl) (fun _ _ _ h => h) (Or.inl ⟨by rfl, ?_⟩) (by assumption) ?_
        rotate_left
        · (intro w hSw; (try dsimp only at hSw); go_simp)
          all_goals with_reducible rfl
        try simp only [Act.put, List.getElem_toArray, List.getElem_cons_succ, List.getElem_cons_zero, List.setIfInBounds_toArray, List.set_cons_zero, List.set_cons_succ]
        refine wpAnyH_take (i := 21) (v := ?_) rfl (by kernel_rfl) (by kernel_rfl) (by kernel_rfl) (fun _ _ _ h => h) (Or.inl ⟨by rfl, ?_⟩) (by assumption) ?_
        rotate_left
        · (intro w hSw; (try dsimp only at hSw); go_simp)
          all_goals with_reducible rfl
        try simp only [Act.put, List.getElem_toArray, List.getElem_cons_succ, List.getElem_cons_zero, List.setIfInBounds_toArray, List.set_cons_zero, List.set_cons_succ]
        refine wpAnyH_ready (rs := [22]) (by kernel_rfl) (by simp) ?_
        refine AllReadyH.cons rfl (fun K hK => ?_) AllReadyH.nil
        go_simp
        refine hK.out _ _ ?_ (fun hHeld => ?_)
        · assumption
        clear hK K
        try simp only [Act.put, List.getElem_toArray, List.getElem_cons_succ, List.getElem_cons_zero, List.setIfInBounds_toArray, List.set_cons_zero, List.set_cons_succ]
        refine wpAnyH_take (i := 23) (v := ?_) rfl (by kernel_rfl) (by kernel_rfl) (by kernel_rfl) (fun _ _ _ h => h) (Or.inl ⟨by rfl, ?_⟩) (by assumption) ?_
        rotate_left
        · (intro w hSw; (try dsimp only at hSw); go_simp)
          all_goals with_reducible rfl
        try simp only [Act.put, List.getElem_toArray, List.getElem_cons_succ, List.getElem_cons_zero, List.setIfInBounds_toArray, List.set_cons_zero, List.set_cons_succ]
        refine wpAnyH_take (i := 24) (v := ?_) rfl (by kernel_rfl) (by kernel_rfl) (by kernel_rfl) (fun _ _ _ h => h) (Or.inl ⟨by rfl, ?_⟩) (by assumption) ?_
        rotate_left
        · (intro w hSw; (try dsimp only at hSw); go_simp)
          all_goals with_reducible rfl
        try simp only [Act.put, List.getElem_toArray, List.getElem_cons_succ, List.getElem_cons_zero, List.setIfInBounds_toArray, List.set_cons_zero, List.set_cons_succ]
        refine wpAnyH_take (i := 25) (v := ?_) rfl (by kernel_rfl) (by kernel_rfl) (by kernel_rfl) (fun _ _ _ h => h) (Or.inl ⟨by rfl, ?_⟩) (by assumption) ?_
        rotate_left
        · (intro w hSw; (try dsimp only at hSw); go_simp)
          all_goals with_reducible rfl
        try simp only [Act.put, List.getElem_toArray, List.getElem_cons_succ, List.getElem_cons_zero, List.setIfInBounds_toArray, List.set_cons_zero, List.set_cons_succ]
        obtain ⟨s0, s1, s2, s3, s4, s5, s6, s7, s8, s9, sc⟩ := id hHeld
        refine wpAnyH_ready (rs := [26]) (by kernel_rfl) (by simp) ?_
        refine AllReadyH.cons rfl (fun K hK => ?_) AllReadyH.nil
        go_simp
        refine (CW.out _ (hE.on (belT hBD.out hbr))).mono ?_
        rintro e w7 ⟨rfl, hb7⟩
        refine hK.out _ _ ?_ (fun hHeld => ?_)
        · exact ⟨cell_bel s0 hb7, cell_bel s1 hb7, cell_bel s2 hb7, cell_bel s3 hb7, cell_bel s4 hb7, cell_bel s5 hb7, cell_bel s6 hb7, cell_bel s7 hb7, cell_bel s8 hb7, cell_bel s9 hb7, conv_arg ((hvD.out.bel hbr).bel hb7)⟩
        clear hK K
        try simp only [Act.put, List.getElem_toArray, List.getElem_cons_succ, List.getElem_cons_zero, List.setIfInBounds_toArray, List.set_cons_zero, List.set_cons_succ]
        refine wpAnyH_take (i := 27) (v := ?_) rfl (by kernel_rfl) (by kernel_rfl) (by kernel_rfl) (fun _ _ _ h => h) (Or.inl ⟨by rfl, ?_⟩) (by assumption) ?_
        rotate_left
        · (intro w hSw; (try dsimp only at hSw); go_simp)
          all_goals with_reducible rfl
        try simp only [Act.put, List.getElem_toArray, List.getElem_cons_succ, List.getElem_cons_zero, List.setIfInBounds_toArray, List.set_cons_zero, List.set_cons_succ]
        refine wpAnyH_take (i := 28) (v := ?_) rfl (by kernel_rfl) (by kernel_rfl) (by kernel_rfl) (fun _ _ _ h => h) (Or.inl ⟨by rfl, ?_⟩) (by assumption) ?_
        rotate_left
        · (intro w hSw; (try dsimp only at hSw); go_simp)
          all_goals with_reducible rfl
        try simp only [Act.put, List.getElem_toArray, List.getElem_cons_succ, List.getElem_cons_zero, List.setIfInBounds_toArray, List.set_cons_zero, List.set_cons_succ]
        refine wpAnyH_done (by kernel_rfl) ?_ _
        go_wp2_with fail
        go_ret
        exact ⟨rfl, belT (belT hBD.out hbr) hb7⟩
  · have e1 : (bad == 0) = false := beq_eq_false_iff_ne.2 hb0
    go_wp2_with (go_at_call 13; refine (num_any _ _).mono ?_; rintro e wn ⟨rfl, rfl⟩)
    clear i0 i1 i2 i3 i4 k0 k1 k2 k3 k4 hlk hli hX e1
    refine (CT.out _).mono ?_
    rintro e w4 ⟨rfl, hb4⟩
    have hI := hI.bel hb4
    have hv := hv.bel hb4
    have hv5 := hv5.bel hb4
    have hB := belT hB hb4
    clear hb4
    cases hr : rightF op a b c m with
    | false =>
      have e5 : bytesE op a b c m = 2 := if_neg (by rw [hr]; decide)
      have e6 : bytesL op a b c m = [] := if_neg (by rw [hr]; decide)
      rw [e5]
      rw [e6] at hv5
      obtain ⟨a5, c5, rfl⟩ := hv5.form
      clear hv5 hv hI e5 e6
      go_wp2_with (first
        | (go_at_call 13; refine (num_any _ _).mono ?_; rintro e wn ⟨rfl, rfl⟩)
        | (go_at_call 9; refine (CW.out _ (hE.on hB)).mono ?_; rintro e w7 ⟨rfl, hb7⟩))
      go_ret
      exact ⟨rfl, belT hB hb7⟩
    | true =>
      have e5 : bytesE op a b c m = 0 := if_pos hr
      have e6 : bytesL op a b c m = insB op a b c m := if_pos hr
      rw [e5]
      rw [e6] at hv5
      clear e5 e6
      have hRB := read_bytes hm hr l
      have hln : (insB op a b c m).length ≤ 17 := by
        have h1 := insB_small a b c m ((namedL.lookup op).getD []) (fun p hp => by obtain ⟨_, ha, hb, hc⟩ := rightF_bd hr; exact (part_fits (named_parts op p hp) a b c m ha hb hc hm).2)
        have h2 := named_short op
        unfold insB
        rw [List.length_cons]
        omega
      have hO0 := OwnB.made w4 #[] [] 0 rfl rfl (by simp) (by simp)
      have CRB := Lib.hid (rBytes_right op a b c m hm hr)
      unfold insV at CRB
      have CRR := Lib.hid fun v W hv => insRead_any (insB op a b c m ++ l) (by rw [List.length_append]; omega) v W hv
      rw [hRB] at CRR
      unfold readV insV at CRR
      clear hRB
      have hlt5 := hv5.lt
      generalize hLI : insB op a b c m = LI at hv5 hln CRB CRR
      obtain ⟨a5, c5, rfl⟩ := hv5.form
      have h40 := Below.refl w4.heap.size w4
      have h41 := bel1 (W := w4) (.cells #[] 5)
      go_wp2_with (at_builtin; first | (refine append_B rfl _ _ rfl w4.heap.size _ _ rfl hO0 _ _ rfl (hv5.bel h41) (by simp; omega) (by simp) ?_; intro vo wo hO1 hg1 hb1a; have h42 := h41.trans hb1a; clear hb1a hg1) | (refine append_B rfl _ _ rfl w4.heap.size _ _ rfl hO1 _ _ rfl (hv.bel h42) (by simp; omega) h42.size ?_; intro vp wp hO2 hg2 hb2a; have h43 := h42.trans hb2a; clear hb2a hg2))
      refine (CRR.out vp wp (by simpa using hO2.arg)).mono ?_
      rintro e w8 ⟨rfl, hb8⟩
      have h48 := h43.trans (hb8.mono h43.size)
      clear hb8 h43 h42 h41 h40 hO0 hO1 hO2 CRR CB CR CQ CT HBK
      go_wp2_with fail
      have hY := Bare.new op a b c m w8 25
      have h49 := belA h48 (.cells #[.int .i64 op, .int .i64 a, .int .i64 b, .int .i64 c, .int .u32 m] 25)
      have hI := hI.bel h49
      have hv5 := hv5.bel h49
      have hB := belT hB h49
      clear h48 h49
      generalize w8.alloc _ = V9 at hY hI hv5 hB ⊢
      have hsq : ∀ w, (binOp .eql 25 (.agg #[.int .i64 op, .int .i64 a, .int .i64 b, .int .i64 c, .int .u32 m]) (.agg #[.int .i64 op, .int .i64 a, .int .i64 b, .int .i64 c, .int .u32 m])).run Tryz.prog w = .ok (.bool true) w := fun w => by rw [ins_eq]; simp
      have hID := Lib.hid hI.drew
      have hYD := Lib.hid hY.drew
      have hvD := Lib.hid (hv5.bel (Below.refl _ _).drew)
      have hBD := Lib.hid hB.drew
      obtain ⟨⟨i0, i1, i2, i3, i4⟩, y0, y1, y2, y3, y4⟩ : (V9.drew.cell? ⟨w.heap.size, 0, none⟩ = some (.int .i64 op) ∧ V9.drew.cell? ⟨w.heap.size, 1, none⟩ = some (.int .i64 a) ∧ V9.drew.cell? ⟨w.heap.size, 2, none⟩ = some (.int .i64 b) ∧ V9.drew.cell? ⟨w.heap.size, 3, none⟩ = some (.int .i64 c) ∧ V9.drew.cell? ⟨w.heap.size, 4, none⟩ = some (.int .u32 m)) ∧ V9.drew.cell? ⟨w8.heap.size, 0, none⟩ = some (.int .i64 op) ∧ V9.drew.cell? ⟨w8.heap.size, 1, none⟩ = some (.int .i64 a) ∧ V9.drew.cell? ⟨w8.heap.size, 2, none⟩ = some (.int .i64 b) ∧ V9.drew.cell? ⟨w8.heap.size, 3, none⟩ = some (.int .i64 c) ∧ V9.drew.cell? ⟨w8.heap.size, 4, none⟩ = some (.int .u32 m) :=
        ⟨⟨hI.c0, hI.c1, hI.c2, hI.c3, hI.c4⟩, hY.c0, hY.c1, hY.c2, hY.c3, hY.c4⟩
      have cv := conv_arg hvD.out
      clear hI hY hv5 hB hv
      refine wp_region_held_drew (S := (fun W' => W'.cell? ⟨w.heap.size, 0, none⟩ = some (.int .i64 op) ∧ W'.cell? ⟨w.heap.size, 1, none⟩ = some (.int .i64 a) ∧ W'.cell? ⟨w.heap.size, 2, none⟩ = some (.int .i64 b) ∧ W'.cell? ⟨w.heap.size, 3, none⟩ = some (.int .i64 c) ∧ W'.cell? ⟨w.heap.size, 4, none⟩ = some (.int .u32 m) ∧ W'.cell? ⟨w8.heap.size, 0, none⟩ = some (.int .i64 op) ∧ W'.cell? ⟨w8.heap.size, 1, none⟩ = some (.int .i64 a) ∧ W'.cell? ⟨w8.heap.size, 2, none⟩ = some (.int .i64 b) ∧ W'.cell? ⟨w8.heap.size, 3, none⟩ = some (.int .i64 c) ∧ W'.cell? ⟨w8.heap.size, 4, none⟩ = some (.int .u32 m) ∧ (convert 26 9 (.slice a5 LI.length c5)).run Tryz.prog W' = .ok (.string (bytesS LI)) W')) (by kernel_rfl) ?_ (fun hHeld => ?_)
      · exact ⟨i0, i1, i2, i3, i4, y0, y1, y2, y3, y4, cv⟩
      refine wpAnyH_take (i := 0) (v := ?_) rfl (by kernel_rfl) (by kernel_rfl) (by kernel_rfl) (fun _ _ _ h => h) (Or.inl ⟨by rfl, ?_⟩) (by assumption) ?_
      rotate_left
      · (intro w hSw; (try dsimp only at hSw); go_simp)
        all_goals with_reducible rfl
      try simp only [Act.put, List.getElem_toArray, List.getElem_cons_succ, List.getElem_cons_zero, List.setIfInBounds_toArray, List.set_cons_zero, List.set_cons_succ]
      refine wpAnyH_take (i := 1) (v := ?_) rfl (by kernel_rfl) (by kernel_rfl) (by kernel_rfl) (fun _ _ _ h => h) (Or.inl ⟨by rfl, ?_⟩) (by assumption) ?_
      rotate_left
      · (intro w hSw; (try dsimp only at hSw); go_simp)
        all_goals with_reducible rfl
      try simp only [Act.put, List.getElem_toArray, List.getElem_cons_succ, List.getElem_cons_zero, List.setIfInBounds_toArray, List.set_cons_zero, List.set_cons_succ]
      refine wpAnyH_take (i := 2) (v := ?_) rfl (by kernel_rfl) (by kernel_rfl) (by kernel_rfl) (fun _ _ _ h => h) (Or.inl ⟨by rfl, ?_⟩) (by assumption) ?_
      rotate_left
      · (intro w hSw; (try dsimp only at hSw); go_simp)
        all_goals with_reducible rfl
      try simp only [Act.put, List.getElem_toArray, List.getElem_cons_succ, List.getElem_cons_zero, List.setIfInBounds_toArray, List.set_cons_zero, List.set_cons_succ]
      refine wpAnyH_ready (rs := [3]) (by kernel_rfl) (by simp) ?_
      refine AllReadyH.cons rfl (fun K hK => ?_) AllReadyH.nil
      go_simp
      · (with_reducible refine (CRB.out _).mono ?_)
        rintro e wr ⟨vr, rfl, hOr, hbr⟩
        have cr := conv_arg hOr.arg
        have cv := conv_arg (hvD.out.bel hbr)
        refine hK.out _ _ ?_ (fun hHeld => ?_)
        · exact ⟨cell_bel (w := V9.drew) i0 hbr, cell_bel (w := V9.drew) i1 hbr, cell_bel (w := V9.drew) i2 hbr, cell_bel (w := V9.drew) i3 hbr, cell_bel (w := V9.drew) i4 hbr, cell_bel (w := V9.drew) y0 hbr, cell_bel (w := V9.drew) y1 hbr, cell_bel (w := V9.drew) y2 hbr, cell_bel (w := V9.drew) y3 hbr, cell_bel (w := V9.drew) y4 hbr, cv⟩
        clear hK K i0 i1 i2 i3 i4 y0 y1 y2 y3 y4
        try simp only [Act.put, List.getElem_toArray, List.getElem_cons_succ, List.getElem_cons_zero, List.setIfInBounds_toArray, List.set_cons_zero, List.set_cons_succ]
        refine wpAnyH_ready (rs := [4]) (by kernel_rfl) (by simp) ?_
        refine AllReadyH.cons rfl (fun K hK => ?_) AllReadyH.nil
        go_simp
        refine hK.out _ _ ?_ (fun hHeld => ?_)
        · assumption
        clear hK K
        try simp only [Act.put, List.getElem_toArray, List.getElem_cons_succ, List.getElem_cons_zero, List.setIfInBounds_toArray, List.set_cons_zero, List.set_cons_succ]
        refine wpAnyH_take (i := 5) (v := ?_) rfl (by kernel_rfl) (by kernel_rfl) (by kernel_rfl) (fun _ _ _ h => h) (Or.inl ⟨by rfl, ?_⟩) (by assumption) ?_
        rotate_left
        · (intro w hSw; (try dsimp only at hSw); go_simp)
          all_goals with_reducible rfl
        try simp only [Act.put, List.getElem_toArray, List.getElem_cons_succ, List.getElem_cons_zero, List.setIfInBounds_toArray, List.set_cons_zero, List.set_cons_succ]
        refine wpAnyH_take (i := 6) (v := ?_) rfl (by kernel_rfl) (by kernel_rfl) (by kernel_rfl) (fun _ _ _ h => h) (Or.inl ⟨by rfl, ?_⟩) (by assumption) ?_
        rotate_left
        · (intro w hSw; (try dsimp only at hSw); go_simp)
          all_goals with_reducible rfl
        try simp only [Act.put, List.getElem_toArray, List.getElem_cons_succ, List.getElem_cons_zero, List.setIfInBounds_toArray, List.set_cons_zero, List.set_cons_succ]
        refine wpAnyH_take (i := 7) (v := ?_) rfl (by kernel_rfl) (by kernel_rfl) (by kernel_rfl) (fun _ _ _ h => h) (Or.inl ⟨by rfl, ?_⟩) (by assumption) ?_
        rotate_left
        · (intro w hSw; (try dsimp only at hSw); go_simp)
          all_goals with_reducible rfl
        try simp only [Act.put, List.getElem_toArray, List.getElem_cons_succ, List.getElem_cons_zero, List.setIfInBounds_toArray, List.set_cons_zero, List.set_cons_succ]
        refine wpAnyH_take (i := 9) (v := ?_) rfl (by kernel_rfl) (by kernel_rfl) (by kernel_rfl) (fun _ _ _ h => h) (Or.inl ⟨by rfl, ?_⟩) (by assumption) ?_
        rotate_left
        · (intro w hSw; (try dsimp only at hSw); go_simp)
          all_goals with_reducible rfl
        try simp only [Act.put, List.getElem_toArray, List.getElem_cons_succ, List.getElem_cons_zero, List.setIfInBounds_toArray, List.set_cons_zero, List.set_cons_succ]
        refine wpAnyH_ready (rs := [8]) (by kernel_rfl) (by simp) ?_
        refine AllReadyH.cons rfl (fun K hK => ?_) AllReadyH.nil
        go_simp
        refine (num_any _ _).mono ?_
        rintro e wn ⟨rfl, rfl⟩
        refine hK.out _ _ ?_ (fun hHeld => ?_)
        · assumption
        clear hK K
        try simp only [Act.put, List.getElem_toArray, List.getElem_cons_succ, List.getElem_cons_zero, List.setIfInBounds_toArray, List.set_cons_zero, List.set_cons_succ]
        refine wpAnyH_ready (rs := [10]) (by kernel_rfl) (by simp) ?_
        refine AllReadyH.cons rfl (fun K hK => ?_) AllReadyH.nil
        go_simp
        refine (num_any _ _).mono ?_
        rintro e wn ⟨rfl, rfl⟩
        refine hK.out _ _ ?_ (fun hHeld => ?_)
        · assumption
        clear hK K
        try simp only [Act.put, List.getElem_toArray, List.getElem_cons_succ, List.getElem_cons_zero, List.setIfInBounds_toArray, List.set_cons_zero, List.set_cons_succ]
        refine wpAnyH_take (i := 11) (v := ?_) rfl (by kernel_rfl) (by kernel_rfl) (by kernel_rfl) (fun _ _ _ h => h) (Or.inl ⟨by rfl, ?_⟩) (by assumption) ?_
        rotate_left
        · (intro w hSw; (try dsimp only at hSw); go_simp)
          all_goals with_reducible rfl
        try simp only [Act.put, List.getElem_toArray, List.getElem_cons_succ, List.getElem_cons_zero, List.setIfInBounds_toArray, List.set_cons_zero, List.set_cons_succ]
        refine wpAnyH_take (i := 12) (v := ?_) rfl (by kernel_rfl) (by kernel_rfl) (by kernel_rfl) (fun _ _ _ h => h) (Or.inl ⟨by rfl, ?_⟩) (by assumption) ?_
        rotate_left
        · (intro w hSw; (try dsimp only at hSw); go_simp)
          all_goals with_reducible rfl
        try simp only [Act.put, List.getElem_toArray, List.getElem_cons_succ, List.getElem_cons_zero, List.setIfInBounds_toArray, List.set_cons_zero, List.set_cons_succ]
        refine wpAnyH_take (i := 13) (v := ?_) rfl (by kernel_rfl) (by kernel_rfl) (by kernel_rfl) (fun _ _ _ h => h) (Or.inl ⟨by rfl, ?_⟩) (by assumption) ?_
        rotate_left
        · (intro w hSw; (try dsimp only at hSw); go_simp)
          all_goals with_reducible rfl
        try simp only [Act.put, List.getElem_toArray, List.getElem_cons_succ, List.getElem_cons_zero, List.setIfInBounds_toArray, List.set_cons_zero, List.set_cons_succ]
        refine wpAnyH_take (i := 14) (v := ?_) rfl (by kernel_rfl) (by kernel_rfl) (by kernel_rfl) (fun _ _ _ h => h) (Or.inl ⟨by rfl, ?_⟩) (by assumption) ?_
        rotate_left
        · (intro w hSw; (try dsimp only at hSw); go_simp)
          all_goals with_reducible rfl
        try simp only [Act.put, List.getElem_toArray, List.getElem_cons_succ, List.getElem_cons_zero, List.setIfInBounds_toArray, List.set_cons_zero, List.set_cons_succ]
        refine wpAnyH_take (i := 15) (v := ?_) rfl (by kernel_rfl) (by kernel_rfl) (by kernel_rfl) (fun _ _ _ h => h) (Or.inl ⟨by rfl, ?_⟩) (by assumption) ?_
        rotate_left
        · (intro w hSw; (try dsimp only at hSw); go_simp)
          all_goals with_reducible rfl
        try simp only [Act.put, List.getElem_toArray, List.getElem_cons_succ, List.getElem_cons_zero, List.setIfInBounds_toArray, List.set_cons_zero, List.set_cons_succ]
        refine wpAnyH_take (i := 16) (v := ?_) rfl (by kernel_rfl) (by kernel_rfl) (by kernel_rfl) (fun _ _ _ h => h) (Or.inl ⟨by rfl, ?_⟩) (by assumption) ?_
        rotate_left
        · (intro w hSw; (try dsimp only at hSw); go_simp)
          all_goals with_reducible rfl
        try simp only [Act.put, List.getElem_toArray, List.getElem_cons_succ, List.getElem_cons_zero, List.setIfInBounds_toArray, List.set_cons_zero, List.set_cons_succ]
        refine wpAnyH_take (i := 17) (v := ?_) rfl (by kernel_rfl) (by kernel_rfl) (by kernel_rfl) (fun _ _ _ h => h) (Or.inl ⟨by rfl, ?_⟩) (by assumption) ?_
        rotate_left
        · (intro w hSw; (try dsimp only at hSw); go_simp)
          all_goals with_reducible rfl
        try simp only [Act.put, List.getElem_toArray, List.getElem_cons_succ, List.getElem_cons_zero, List.setIfInBounds_toArray, List.set_cons_zero, List.set_cons_succ]
        refine wpAnyH_take (i := 18) (v := ?_) rfl (by kernel_rfl) (by kernel_rfl) (by kernel_rfl) (fun _ _ _ h => h) (Or.inl ⟨by rfl, ?_⟩) (by assumption) ?_
        rotate_left
        · (intro w hSw; (try dsimp only at hSw); go_simp)
          all_goals with_reducible rfl
        try simp only [Act.put, List.getElem_toArray, List.getElem_cons_succ, List.getElem_cons_zero, List.setIfInBounds_toArray, List.set_cons_zero, List.set_cons_succ]
        refine wpAnyH_take (i := 19) (v := ?_) rfl (by kernel_rfl) (by kernel_rfl) (by kernel_rfl) (fun _ _ _ h => h) (Or.inl ⟨by rfl, ?_⟩) (by assumption) ?_
        rotate_left
        · (intro w hSw; (try dsimp only at hSw); go_simp)
          all_goals with_reducible rfl
        try simp only [Act.put, List.getElem_toArray, List.getElem_cons_succ, List.getElem_cons_zero, List.setIfInBounds_toArray, List.set_cons_zero, List.set_cons_succ]
        refine wpAnyH_take (i := 20) (v := ?_) rfl (by kernel_rfl) (by kernel_rfl) (by kernel_rfl) (fun _ _ _ h => h) (Or.inl ⟨by rfl, ?_⟩) (by assumption) ?_
        rotate_left
        · (intro w hSw; (try dsimp only at hSw); go_simp)
          all_goals with_reducible rfl
        try simp only [Act.put, List.getElem_toArray, List.getElem_cons_succ, List.getElem_cons_zero, List.setIfInBounds_toArray, List.set_cons_zero, List.set_cons_succ]
        refine wpAnyH_take (i := 21) (v := ?_) rfl (by kernel_rfl) (by kernel_rfl) (by kernel_rfl) (fun _ _ _ h => h) (Or.inl ⟨by rfl, ?_⟩) (by assumption) ?_
        rotate_left
        · (intro w hSw; (try dsimp only at hSw); go_simp)
          all_goals with_reducible rfl
        try simp only [Act.put, List.getElem_toArray, List.getElem_cons_succ, List.getElem_cons_zero, List.setIfInBounds_toArray, List.set_cons_zero, List.set_cons_succ]
        refine wpAnyH_ready (rs := [22]) (by kernel_rfl) (by simp) ?_
        refine AllReadyH.cons rfl (fun K hK => ?_) AllReadyH.nil
        go_simp
        refine hK.out _ _ ?_ (fun hHeld => ?_)
        · assumption
        clear hK K
        try simp only [Act.put, List.getElem_toArray, List.getElem_cons_succ, List.getElem_cons_zero, List.setIfInBounds_toArray, List.set_cons_zero, List.set_cons_succ]
        refine wpAnyH_take (i := 23) (v := ?_) rfl (by kernel_rfl) (by kernel_rfl) (by kernel_rfl) (fun _ _ _ h => h) (Or.inl ⟨by rfl, ?_⟩) (by assumption) ?_
        rotate_left
        · (intro w hSw; (try dsimp only at hSw); go_simp)
          all_goals with_reducible rfl
        try simp only [Act.put, List.getElem_toArray, List.getElem_cons_succ, List.getElem_cons_zero, List.setIfInBounds_toArray, List.set_cons_zero, List.set_cons_succ]
        refine wpAnyH_take (i := 24) (v := ?_) rfl (by kernel_rfl) (by kernel_rfl) (by kernel_rfl) (fun _ _ _ h => h) (Or.inl ⟨by rfl, ?_⟩) (by assumption) ?_
        rotate_left
        · (intro w hSw; (try dsimp only at hSw); go_simp)
          all_goals with_reducible rfl
        try simp only [Act.put, List.getElem_toArray, List.getElem_cons_succ, List.getElem_cons_zero, List.setIfInBounds_toArray, List.set_cons_zero, List.set_cons_succ]
        refine wpAnyH_take (i := 25) (v := ?_) rfl (by kernel_rfl) (by kernel_rfl) (by kernel_rfl) (fun _ _ _ h => h) (Or.inl ⟨by rfl, ?_⟩) (by assumption) ?_
        rotate_left
        · (intro w hSw; (try dsimp only at hSw); go_simp)
          all_goals with_reducible rfl
        try simp only [Act.put, List.getElem_toArray, List.getElem_cons_succ, List.getElem_cons_zero, List.setIfInBounds_toArray, List.set_cons_zero, List.set_cons_succ]
        obtain ⟨s0, s1, s2, s3, s4, s5, s6, s7, s8, s9, sc⟩ := id hHeld
        refine wpAnyH_ready (rs := [26]) (by kernel_rfl) (by simp) ?_
        refine AllReadyH.cons rfl (fun K hK => ?_) AllReadyH.nil
        go_simp
        refine (CW.out _ (hE.on (belT hBD.out hbr))).mono ?_
        rintro e w7 ⟨rfl, hb7⟩
        refine hK.out _ _ ?_ (fun hHeld => ?_)
        · exact ⟨cell_bel s0 hb7, cell_bel s1 hb7, cell_bel s2 hb7, cell_bel s3 hb7, cell_bel s4 hb7, cell_bel s5 hb7, cell_bel s6 hb7, cell_bel s7 hb7, cell_bel s8 hb7, cell_bel s9 hb7, conv_arg ((hvD.out.bel hbr).bel hb7)⟩
        clear hK K
        try simp only [Act.put, List.getElem_toArray, List.getElem_cons_succ, List.getElem_cons_zero, List.setIfInBounds_toArray, List.set_cons_zero, List.set_cons_succ]
        refine wpAnyH_take (i := 27) (v := ?_) rfl (by kernel_rfl) (by kernel_rfl) (by kernel_rfl) (fun _ _ _ h => h) (Or.inl ⟨by rfl, ?_⟩) (by assumption) ?_
        rotate_left
        · (intro w hSw; (try dsimp only at hSw); go_simp)
          all_goals with_reducible rfl
        try simp only [Act.put, List.getElem_toArray, List.getElem_cons_succ, List.getElem_cons_zero, List.setIfInBounds_toArray, List.set_cons_zero, List.set_cons_succ]
        refine wpAnyH_take (i := 28) (v := ?_) rfl (by kernel_rfl) (by kernel_rfl) (by kernel_rfl) (fun _ _ _ h => h) (Or.inl ⟨by rfl, ?_⟩) (by assumption) ?_
        rotate_left
        · (intro w hSw; (try dsimp only at hSw); go_simp)
          all_goals with_reducible rfl
        try simp only [Act.put, List.getElem_toArray, List.getElem_cons_succ, List.getElem_cons_zero, List.setIfInBounds_toArray, List.set_cons_zero, List.set_cons_succ]
        refine wpAnyH_done (by kernel_rfl) ?_ _
        go_wp2_with fail
        go_ret
        exact ⟨rfl, belT (belT hBD.out hbr) hb7⟩

theorem instrBytes_row (op a b c m : Int) (v : Value) (l : List Nat) (w : World) (hE : EnvM w) (hm : 0 ≤ m ∧ m < 4294967296) (hv : ArgB w v l) (hl : l.length ≤ 9223372036854775807) :
    Calls Tryz.prog 3 #[insV op a b c m, v] w fun e w' => e = .returned (.bool true) ∧ Below w.heap.size w w' := by
  by_cases h : l.length ≤ 60
  · exact instrBytes_short op a b c m hm l h v w hE hv
  · obtain ⟨ao, cp, rfl⟩ := hv.form
    exact instrBytes_long op a b c m l (by omega) hl ao cp w hE
end Go.Proofs.YtgjibnfdaigpkaaGreatDoor
