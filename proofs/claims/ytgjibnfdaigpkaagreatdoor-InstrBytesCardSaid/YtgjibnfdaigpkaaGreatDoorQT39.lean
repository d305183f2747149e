/- Joined texts: The walk of InstrHolds. -/
import Derived.Test.YtgjibnfdaigpkaaGreatDoorQT38
import Derived.BigQuiet
/- The walk of InstrHolds. -/
namespace Go.Proofs.YtgjibnfdaigpkaaGreatDoor
set_option linter.unusedVariables false
open Go Go.Proofs Go.RowKit

/-- What Bytes and Text tell of any instruction. -/
def bytesE (op a b c m : Int) : Int := if rightF op a b c m = true then 0 else 2
def bytesL (op a b c m : Int) : List Nat := if rightF op a b c m = true then insB op a b c m else []
def textE (op a b c m : Int) : ByteArray := if rightF op a b c m = true then ⟨(textF op a b c m).toArray⟩ else ⟨#[]⟩
theorem insBytes_any (op a b c m : Int) (hm : 0 ≤ m ∧ m < 4294967296) (w : World) :
    Calls Tryz.prog 10 #[insV op a b c m] w fun e w' => ∃ v, e = .returned (.tuple #[v, .int .i64 (bytesE op a b c m)]) ∧ OwnB w.heap.size v (bytesL op a b c m) w' ∧ Below w.heap.size w w' := by
  unfold bytesE bytesL
  cases hr : rightF op a b c m with
  | true => exact insBytes_yes op a b c m hm hr w
  | false =>
    refine (insBytes_no op a b c m hm hr w).mono ?_
    rintro e w' ⟨rfl, hb⟩
    exact ⟨_, rfl, OwnB.nil _ _, hb⟩
theorem insText_any (op a b c m : Int) (hm : 0 ≤ m ∧ m < 4294967296) (w : World) (hE : Env w) :
    Calls Tryz.prog 16 #[insV op a b c m] w fun e w' => e = .returned (.tuple #[.string (textE op a b c m), .int .i64 (bytesE op a b c m)]) ∧ Below w.heap.size w w' := by
  unfold bytesE textE
  cases hr : rightF op a b c m with
  | true => exact insText_yes op a b c m hm hr w hE
  | false => exact insText_no op a b c m hm hr w

theorem slice_upto (ad : Addr) (n c k : Nat) (hk : k ≤ n) (hc : n ≤ c) (w : World) : (Instr.slice 26 (.slice (some ad) n c) none (some (.int .i64 k)) none).run Tryz.prog w = .ok (.slice (some ad) k c) w := by
  obtain ⟨i0, hi0, hz0, hz1, hz2⟩ := info_of info_octet
  have h2 : k ≤ c := by omega
  simp [Instr.slice, run_underlying Tryz.underlying26, Instr.sliceBounds, Instr.sliceBound, asIntOf, sizeOf, typeInfo, hi0, h2, Addr.add]

set_option maxRecDepth 100000 in
set_option maxHeartbeats 1000000 in
theorem instrHolds_walk (op a b c m op' a' b' c' m' : Int) (hm : 0 ≤ m ∧ m < 4294967296) (hm' : 0 ≤ m' ∧ m' < 4294967296) (w : World) (hE : EnvM w) :
    Calls Tryz.prog 5 #[insV op a b c m, insV op' a' b' c' m'] w fun e w' => e = .returned (.bool true) ∧ Below w.heap.size w w' := by
  have CB1 := Lib.hid fun W => insBytes_any op a b c m hm W
  have CB2 := Lib.hid fun W => insBytes_any op' a' b' c' m' hm' W
  have CT1 := Lib.hid fun W hE => insText_any op a b c m hm W hE
  have CT2 := Lib.hid fun W hE => insText_any op' a' b' c' m' hm' W hE
  unfold insV at CB1 CB2 CT1 CT2 ⊢
  go_enter Tryz.func5, Tryz.ntmps5
  go_wp2_with fail
  have hI := Bare.new op a b c m w 25
  have hI := hI.bel (bel1 (.cells #[.int .i64 op', .int .i64 a', .int .i64 b', .int .i64 c', .int .u32 m'] 25))
  have hJ := Bare.new op' a' b' c' m' (w.alloc (.cells #[.int .i64 op, .int .i64 a, .int .i64 b, .int .i64 c, .int .u32 m] 25)) 25
  have B0 := belA (bel1 (W := w) (.cells #[.int .i64 op, .int .i64 a, .int .i64 b, .int .i64 c, .int .u32 m] 25)) (.cells #[.int .i64 op', .int .i64 a', .int .i64 b', .int .i64 c', .int .u32 m'] 25)
  simp only [World.size_alloc] at hJ
  generalize World.alloc _ _ = V at hI hJ B0 ⊢
  refine (CB1.out _).mono ?_
  rintro e w1 ⟨v1, rfl, ho1, hb1⟩
  have hv1 := ho1.arg
  have hI := hI.bel hb1
  have hJ := hJ.bel hb1
  have B1 := belT B0 hb1
  clear hb1 B0 ho1 CB1
  obtain ⟨j0, j1, j2, j3, j4, _, _, _, _⟩ := id hJ
  dsimp only at j1 j2 j3 j4
  go_wp2_with fail
  refine (CB2.out _).mono ?_
  rintro e w2 ⟨v2, rfl, ho2, hb2⟩
  have hv2 := ho2.arg
  have hv1 := hv1.bel hb2
  have hI := hI.bel hb2
  have hJ := hJ.bel hb2
  have B2 := belT B1 hb2
  clear hb2 B1 ho2 CB2 j0 j1 j2 j3 j4
  obtain ⟨i0, i1, i2, i3, i4, _, _, _, _⟩ := id hI
  dsimp only at i1 i2 i3 i4
  go_wp2_with fail
  refine (CT1.out _ (hE.env.on B2)).mono ?_
  rintro e w3 ⟨rfl, hb3⟩
  have hv1 := hv1.bel hb3
  have hv2 := hv2.bel hb3
  have hI := hI.bel hb3
  have hJ := hJ.bel hb3
  have B3 := belT B2 hb3
  clear hb3 B2 CT1 i0 i1 i2 i3 i4
  obtain ⟨j0, j1, j2, j3, j4, _, _, _, _⟩ := id hJ
  dsimp only at j1 j2 j3 j4
  go_wp2_with fail
  refine (CT2.out _ (hE.env.on B3)).mono ?_
  rintro e w4 ⟨rfl, hb4⟩
  have hv1 := hv1.bel hb4
  have hv2 := hv2.bel hb4
  have hI := hI.bel hb4
  have hJ := hJ.bel hb4
  have B4 := belT B3 hb4
  clear hb4 B3 CT2 j0 j1 j2 j3 j4
  by_cases hr : rightF op a b c m = true ∧ rightF op' a' b' c' m' = true
  · obtain ⟨hr, hr'⟩ := hr
    have e1 : bytesE op a b c m = 0 := if_pos hr
    have e2 : bytesE op' a' b' c' m' = 0 := if_pos hr'
    have e3 : bytesL op a b c m = insB op a b c m := if_pos hr
    have e4 : bytesL op' a' b' c' m' = insB op' a' b' c' m' := if_pos hr'
    have e5 : textE op a b c m = ⟨(textF op a b c m).toArray⟩ := if_pos hr
    have e6 : textE op' a' b' c' m' = ⟨(textF op' a' b' c' m').toArray⟩ := if_pos hr'
    rw [e1, e2, e5, e6]
    rw [e3] at hv1
    rw [e4] at hv2
    clear e1 e2 e3 e4 e5 e6
    go_wp2_with (go_at_call 13; refine (num_any _ _).mono ?_; rintro e wn ⟨rfl, rfl⟩)
    obtain ⟨i0, i1, i2, i3, i4, _, _, _, _⟩ := hI
    obtain ⟨j0, j1, j2, j3, j4, _, _, _, _⟩ := hJ
    dsimp only at i1 i2 i3 i4 j1 j2 j3 j4
    have x0 := cell_regrown i0
    have x1 := cell_regrown i1
    have x2 := cell_regrown i2
    have x3 := cell_regrown i3
    have x4 := cell_regrown i4
    have y0 := cell_regrown j0
    have y1 := cell_regrown j1
    have y2 := cell_regrown j2
    have y3 := cell_regrown j3
    have y4 := cell_regrown j4
    have hcv1 := fun (d' : Nat) os => conv_arg (hv1.bel (below_regrown w4 d' os))
    have hcv2 := fun (d' : Nat) os => conv_arg (hv2.bel (below_regrown w4 d' os))
    have CW := Lib.hid fun (d' : Nat) os => Calls.regrown_of (works_any _ ((hE.on B4).on (below_regrown w4 d' os)))
    by_cases hs : op = op' ∧ a = a' ∧ b = b' ∧ c = c' ∧ m = m'
    · obtain ⟨rfl, rfl, rfl, rfl, rfl⟩ := hs
      have hsq : ∀ w, (binOp .eql 25 (.agg #[.int .i64 op, .int .i64 a, .int .i64 b, .int .i64 c, .int .u32 m]) (.agg #[.int .i64 op, .int .i64 a, .int .i64 b, .int .i64 c, .int .u32 m])).run Tryz.prog w = .ok (.bool true) w := fun w => by rw [ins_eq]; simp
      clear hr hr' hm hm' hv1 hv2 i0 i1 i2 i3 i4 j0 j1 j2 j3 j4
      generalize bytesS (insB op a b c m) = X at hcv1 hcv2
      generalize (⟨(textF op a b c m).toArray⟩ : ByteArray) = T
      refine wp_region_quiet_below (by kernel_rfl) (by kernel_rfl) ?_
      repeat (go_big_quiet_step (exact CW.out _ _))
      refine wpQuiet_nil ?_
      intro _ hw'
      obtain ⟨⟨dq, osq⟩, hw''⟩ := hw'
      subst hw''
      go_wp2_with fail
      go_ret
      exact ⟨rfl, belT B4 (below_regrown w4 dq osq)⟩
    · have hsq : ∀ w, (binOp .eql 25 (.agg #[.int .i64 op, .int .i64 a, .int .i64 b, .int .i64 c, .int .u32 m]) (.agg #[.int .i64 op', .int .i64 a', .int .i64 b', .int .i64 c', .int .u32 m'])).run Tryz.prog w = .ok (.bool false) w := fun w => by
        rw [ins_eq]
        congr 2
        rw [Bool.eq_false_iff]
        intro h
        simp only [Bool.and_eq_true, decide_eq_true_eq] at h
        exact hs ⟨h.1.1.1.1, h.1.1.1.2, h.1.1.2, h.1.2, h.2⟩
      have hne := str_ne (fun h => hs (bytes_apart hm hr hm' hr' [] (by rw [List.append_nil]; exact (bytesS_inj (insB_lt hr) (insB_lt hr') h).symm)))
      have hnt : ((⟨(textF op a b c m).toArray⟩ : ByteArray).toList == (⟨(textF op' a' b' c' m').toArray⟩ : ByteArray).toList) = false := str_ne (fun h => hs (text_inj hm hr hm' hr' (by
        have := congrArg (fun x : ByteArray => x.data.toList) h
        simpa using this)))
      have hpre : ∀ k, k = (insB op a b c m).length → bytesS ((insB op' a' b' c' m').take k) ≠ bytesS (insB op a b c m) := by
        rintro k rfl h
        have h1 := bytesS_inj (fun x hx => insB_lt hr' x (List.mem_of_mem_take hx)) (insB_lt hr) h
        exact hs (bytes_apart hm hr hm' hr' ((insB op' a' b' c' m').drop (insB op a b c m).length) (by
          conv => lhs; rw [← List.take_append_drop (insB op a b c m).length (insB op' a' b' c' m')]
          rw [h1]))
      have hne2 : insB op' a' b' c' m' ≠ [] := by unfold insB; simp
      have hlt2 := insB_lt hr'
      clear hr hr' hm hm' hs i0 i1 i2 i3 i4 j0 j1 j2 j3 j4
      generalize insB op a b c m = L1 at hv1 hcv1 hne hpre
      generalize insB op' a' b' c' m' = L2 at hv2 hcv2 hne hpre hne2 hlt2
      generalize (⟨(textF op a b c m).toArray⟩ : ByteArray) = T1 at hnt ⊢
      generalize (⟨(textF op' a' b' c' m').toArray⟩ : ByteArray) = T2 at hnt ⊢
      obtain ⟨a1, c1, rfl⟩ := hv1.form
      obtain ⟨ad, c2, rfl, hc2, hcm, hB⟩ : ∃ ad c, v2 = .slice (some ad) L2.length c ∧ L2.length ≤ c ∧ c ≤ 9223372036854775807 ∧ ∃ b o, ad = ⟨b, o, none⟩ ∧ HasB w4 b o L2 := by
        rcases hv2 with ⟨_, h⟩ | ⟨ad, c, h, h1, h2, h3⟩
        · exact absurd h hne2
        · exact ⟨ad, c, h, h1, h2, h3 hne2⟩
      by_cases hlen : L2.length < L1.length
      · clear hpre hne2 hlt2 hB
        generalize bytesS L1 = X1 at hcv1 hne
        generalize bytesS L2 = X2 at hcv2 hne
        refine wp_region_quiet_below (by kernel_rfl) (by kernel_rfl) ?_
        repeat (go_big_quiet_step (exact CW.out _ _))
        refine wpQuiet_nil ?_
        intro _ hw'
        obtain ⟨⟨dq, osq⟩, hw''⟩ := hw'
        subst hw''
        go_wp2_with fail
        go_ret
        exact ⟨rfl, belT B4 (below_regrown w4 dq osq)⟩
      · have hk : L1.length ≤ L2.length := by omega
        have hsl := slice_upto ad L2.length c2 L1.length hk hc2
        obtain ⟨b0, o0, rfl, hB⟩ := hB
        have hv3 : ArgB w4 (.slice (some ⟨b0, o0, none⟩) (L2.take L1.length).length c2) (L2.take L1.length) := Or.inr ⟨_, c2, rfl, by rw [List.length_take]; omega, hcm, fun _ => ⟨b0, o0, rfl, fun x hx => hlt2 x (List.mem_of_mem_take hx), fun j hj => by
          rw [List.length_take] at hj
          rw [hB.2 j (by omega), List.getD_eq_getElem?_getD, List.getD_eq_getElem?_getD, List.getElem?_take_of_lt (by omega)]⟩⟩
        have hcv3 := fun (d' : Nat) os => conv_arg (hv3.bel (below_regrown w4 d' os))
        rw [List.length_take, Nat.min_eq_left hk] at hcv3
        have hnp := str_ne (hpre _ rfl)
        clear hpre hne2 hlt2 hB hv3 hv1 hv2
        generalize bytesS (L2.take L1.length) = X3 at hcv3 hnp
        generalize bytesS L1 = X1 at hcv1 hne hnp
        generalize bytesS L2 = X2 at hcv2 hne
        refine wp_region_quiet_below (by kernel_rfl) (by kernel_rfl) ?_
        repeat (go_big_quiet_step (exact CW.out _ _))
        refine wpQuiet_nil ?_
        intro _ hw'
        obtain ⟨⟨dq, osq⟩, hw''⟩ := hw'
        subst hw''
        go_wp2_with fail
        go_ret
        exact ⟨rfl, belT B4 (below_regrown w4 dq osq)⟩
  · have hne : (bytesE op a b c m = 0 ∧ bytesE op' a' b' c' m' = 2) ∨ (bytesE op a b c m = 2 ∧ bytesE op' a' b' c' m' = 0) ∨ (bytesE op a b c m = 2 ∧ bytesE op' a' b' c' m' = 2) := by
      unfold bytesE
      cases h1 : rightF op a b c m <;> cases h2 : rightF op' a' b' c' m' <;> simp_all
    clear hI hJ hv1 hv2 hr
    have CW := Lib.hid (works_any _ (hE.on B4))
    rcases hne with ⟨e1, e2⟩ | ⟨e1, e2⟩ | ⟨e1, e2⟩ <;> rw [e1, e2] <;> clear e1 e2
    all_goals
      go_wp2_with (first
        | (go_at_call 13; refine (num_any _ _).mono ?_; rintro e wn ⟨rfl, rfl⟩)
        | (go_at_call 9; refine CW.out.mono ?_; rintro e w7 ⟨rfl, hb7⟩))
      go_ret
      exact ⟨rfl, belT B4 hb7⟩

theorem instrHolds_row (op a b c m op' a' b' c' m' : Int) (w : World) (hE : EnvM w) (hm : 0 ≤ m ∧ m < 4294967296) (hm' : 0 ≤ m' ∧ m' < 4294967296) :
    Calls Tryz.prog 5 #[insV op a b c m, insV op' a' b' c' m'] w fun e w' => e = .returned (.bool true) ∧ Below w.heap.size w w' := instrHolds_walk op a b c m op' a' b' c' m' hm hm' w hE
end Go.Proofs.YtgjibnfdaigpkaaGreatDoor
