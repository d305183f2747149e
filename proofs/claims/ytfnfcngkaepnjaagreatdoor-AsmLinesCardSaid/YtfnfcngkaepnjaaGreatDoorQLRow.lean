/- The row of AsmLines, and its card: called with whatever input, it returns true; it is walked under what the listed variables hold. -/
import Derived.Test.YtfnfcngkaepnjaaGreatDoorQL17
import Derived.Test.YtfnfcngkaepnjaaGreatDoorQL43
import Derived.Test.YtfnfcngkaepnjaaGreatDoorCards
import Derived.Test.YtfnfcngkaepnjaaGreatDoorTie
import Derived.SevenTiedAt
import Derived.Lib.SmallJoins
namespace Go.Proofs.YtfnfcngkaepnjaaGreatDoor.asmLines
open Go Go.Proofs Go.ChangeShapes Go.WideShapes Go.ChangeAt Go.RowKit
open Go.ChangeMaps (open_string shut_string)
set_option maxRecDepth 100000 in
theorem lifted (os : Os) (started : os.Started) (H : Type) (enc : TypeId × Value → H) :
    ReturnsInHanded {} Tryz.checked os 9 .any (fun w args => (Rows.asmLinesSpec.pre enc Tryz.prog Tryz.f9 [] false w args ∧ laidMetH Tryz.prog laidL w) ∧ sizedMet enc Tryz.prog Tryz.f9 (OpenSpec.ofChange Rows.asmLinesSpec) false w args)
      (Rows.asmLinesSpec.post enc Tryz.prog Tryz.f9 false true false false) := by
  refine handed_sized (C := Tryz.checked) (X := fun w _ => laidMetH Tryz.prog laidL w) (fun _ _ _ hh h => h.of_heap hh) own started (by kernel_rfl) Tryz.func9
    (ChangeSpec.witness_shaped (enc := enc) (C := Tryz.checked) (os := os) (X := fun w _ => laidMetH Tryz.prog laidL w) false (World.laidAll Tryz.prog os laidL) #[.agg #[.slice none 0 0, .int .i64 0, .int .i64 0, .int .i64 0], .agg #[.int .i64 0, .int .i64 0], .int .i64 0] 8 (World.laidAll_os _ _ _) (World.shaped_of_ZipB (by kernel_rfl) (by kernel_rfl)) (by kernel_rfl) (by kernel_rfl) (by kernel_rfl) (door_met os _)) ?_
  intro W base args ds gs before hval0 hW _ hsz hz hL _
  have hval : ∀ (j : Nat) t v, Tryz.f9.params[j]? = some t → args[j]? = some v → Value.okWide Tryz.prog W .any base t v := hval0
  have hW' := hW
  obtain ⟨p, q, hA0, hV, rfl, hfz, hnd⟩ := hW
  have hA : DataW.TrodAll enc Tryz.prog W 0 (fun _ => true) true Tryz.f9.params.toList args.toList ds p := hA0
  rw [Tryz.params9] at hA hval
  obtain ⟨v0, vs0, d0, ds0, p0, q0, hargs, rfl, rfl, h0, r0⟩ := trodAll_cons hA
  obtain ⟨v1, vs1, d1, ds1, p1, q1, rfl, rfl, rfl, h1, r1⟩ := trodAll_cons r0
  obtain ⟨v2, vs2, d2, ds2, p2, q2, rfl, rfl, rfl, h2, r2⟩ := trodAll_cons r1
  obtain ⟨rfl, rfl, rfl⟩ := trodAll_nil r2
  obtain rfl : args = #[v0, v1, v2] := by cases args; simp_all
  obtain ⟨rfl, rfl⟩ := trodVars_none hV
  obtain ⟨_, es, gs2, bf2, hW2, hwt⟩ := hz
  obtain ⟨p9, q9, hB0, hV2, _, _, _⟩ := hW2
  have hB : DataW.TrodAll enc Tryz.prog W 0 (fun _ => true) true Tryz.f9.params.toList #[v0, v1, v2].toList es p9 := hB0
  rw [Tryz.params9] at hB hwt
  obtain ⟨u0, us0, e0, es0, m0, n0, hus0, rfl, rfl, k0, t0⟩ := trodAll_cons hB
  obtain ⟨rfl, rfl⟩ := List.cons.inj hus0
  obtain ⟨u1, us1, e1, es1, m1, n1, hus1, rfl, rfl, k1, t1⟩ := trodAll_cons t0
  obtain ⟨rfl, rfl⟩ := List.cons.inj hus1
  obtain ⟨u2, us2, e2, es2, m2, n2, hus2, rfl, rfl, k2, t2⟩ := trodAll_cons t1
  obtain ⟨rfl, rfl⟩ := List.cons.inj hus2
  obtain ⟨P0, ap0, ft0, sb0⟩ := prog_open (hval 0 58 v0 rfl rfl) k0
  have sz0 := prog_sized hwt (j := 0) rfl rfl sb0
  obtain ⟨x1, y1, ex1, ey1, n1, rfl, rfl, rfl, tx1, ty1⟩ := Go.Joins.open_agg2 Tryz.underlying43 (by kernel_rfl) (by kernel_rfl) (hval 1 43 v1 rfl rfl) h1
  obtain ⟨a1, hc1, rfl, wa1⟩ := DataW.trod_int Tryz.underlying3 tx1
  obtain rfl : x1 = .int .i64 a1 := by simpa using hc1
  obtain ⟨b1, hd1, rfl, wb1⟩ := DataW.trod_int Tryz.underlying3 ty1
  obtain rfl : y1 = .int .i64 b1 := by simpa using hd1
  obtain ⟨a2, rfl, rfl, rfl, w2⟩ := open_int Tryz.underlying3 (hval 2 3 v2 rfl rfl) h2
  have bd2 : -9223372036854775808 ≤ a2 ∧ a2 ≤ 9223372036854775807 := by have e1 : IntKind.i64.min = -9223372036854775808 := rfl; have e2 : IntKind.i64.max = 9223372036854775807 := rfl; simp [Lit.wf, e1, e2] at w2; omega
  clear hA0 hval0
  simp only [List.append_nil] at hW'
  refine (asmLines_row v0 P0 a1 b1 a2 W (envM_of_laid hL hsz) ap0 ft0 sz0 bd2.1 bd2.2).mono fun e W' ⟨he, hg⟩ => ?_
  subst he
  exact ⟨_, rfl, _, _, _, [], _, [], hW', trodAll_cons_mk (shut_bool Tryz.underlying4 _) trodAll_mk0, (trodAll_cons_mk (Below.trod (by kernel_rfl) (by kernel_rfl) (of_decide_eq_true (by kernel_rfl)) h0 hg (fun x hx => hW'.lt x (by simp [hx]))) (trodAll_cons_mk (Go.Joins.shut_agg2 Tryz.underlying43 (by kernel_rfl) (by kernel_rfl) ⟨_, trod_int_mk 0 Tryz.underlying3 wa1⟩ ⟨_, trod_int_mk 0 Tryz.underlying3 wb1⟩) (trodAll_cons_mk (shut_int Tryz.underlying3 w2) trodAll_mk0))), rfl, hg.frame _, fun h => by cases h⟩

theorem over : Rows.AsmLinesSaid :=
  OpenClaim.holds_of_wide 9 Tryz.f9 rfl rfl rfl rfl rfl rfl rfl ⟨rfl, rfl, rfl, rfl, rfl⟩ rfl rfl rfl rfl rfl (by kernel_rfl) Tryz.func9 (by kernel_rfl)
    (of_decide_eq_true (by kernel_rfl)) (by unfold Func.isWrapper; first | (rw [if_pos (by decide +kernel)]; kernel_rfl) | (rw [if_neg (by decide +kernel)]; exact ⟨rfl, rfl⟩))
    (fun os started H enc _ => lifted os started H enc)

theorem card_holds : Rows.AsmLinesCardSaid :=
  Claim7.holds_tied_plain_at .later [] _ true _ true
    over (fun _ h => by cases h) (by kernel_rfl) (fun _ h => by cases h) asmLines_row_tie rfl ⟨rfl, rfl⟩ (by kernel_rfl) rfl
    (fun f fn hf hfn => by
      obtain rfl : f = 9 := Option.some.inj ((show Tryz.prog.funcNamed "linesman/linesmanlaw11.AsmLines" = some 9 by kernel_rfl).symm.trans hf) |>.symm
      obtain rfl : fn = Tryz.f9 := (Option.some.inj (Tryz.func9.symm.trans hfn)).symm
      exact ⟨by kernel_rfl, fun j t ht => by
        rw [Tryz.params9] at ht
        have hm : t ∈ [58, 43, 3] := by simpa using Array.mem_of_getElem? ht
        have hall : ([58, 43, 3].all fun u => !Tryz.prog.wantsStandIn u) = true := by kernel_rfl
        exact (show Tryz.prog.wantsStandIn t = false by simpa using List.all_eq_true.1 hall t hm)⟩)
    (by kernel_rfl)
#print axioms card_holds
end Go.Proofs.YtfnfcngkaepnjaaGreatDoor.asmLines
