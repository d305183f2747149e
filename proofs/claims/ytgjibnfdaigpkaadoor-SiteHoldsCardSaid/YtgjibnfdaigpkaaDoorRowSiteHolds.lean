/- The row of SiteHolds, and its card: called with whatever input, it returns true; it is walked under what the listed variables hold. -/
import Derived.Test.YtgjibnfdaigpkaaDoorLaid
import Derived.Test.YtgjibnfdaigpkaaDoorSiX
import Derived.Test.YtgjibnfdaigpkaaDoorCards
import Derived.Test.YtgjibnfdaigpkaaDoorTie
import Derived.SevenTiedAt
import Derived.Lib.SmallJoins
namespace Go.Proofs.YtgjibnfdaigpkaaDoor.siteHolds
open Go Go.Proofs Go.ChangeShapes Go.WideShapes Go.ChangeAt Go.RowKit
open Go.ChangeMaps (open_string shut_string)
set_option maxRecDepth 100000 in
theorem lifted (os : Os) (started : os.Started) (H : Type) (enc : TypeId × Value → H) :
    ReturnsInHanded {} Tryd.checked os 4 .any (fun w args => (Rows.siteHoldsSpec.pre enc Tryd.prog Tryd.f4 [] false w args ∧ laidMetH Tryd.prog laidL w) ∧ sizedMet enc Tryd.prog Tryd.f4 (OpenSpec.ofChange Rows.siteHoldsSpec) false w args)
      (Rows.siteHoldsSpec.post enc Tryd.prog Tryd.f4 false true false false) := by
  refine returnsInHanded_of_change_and (C := Tryd.checked) (X := fun w _ => laidMetH Tryd.prog laidL w) (fun _ _ _ hh h => h.of_heap hh) own started (by kernel_rfl) Tryd.func4
    (ChangeSpec.witness_shaped (enc := enc) (C := Tryd.checked) (os := os) (X := fun w _ => laidMetH Tryd.prog laidL w) false (World.doorLaid Tryd.prog 1000 os) #[.agg #[.int .i64 0, .int .i64 0], .agg #[.int .i64 0, .int .i64 0], .agg #[.int .i64 0, .int .i64 0]] 8 rfl (World.shaped_of_RefB (by kernel_rfl) (by kernel_rfl)) (by kernel_rfl) (by kernel_rfl) (by kernel_rfl) (door_met os _)) ?_
  intro W base args ds gs before hval0 hW _ hsz hL _
  have hval : ∀ (j : Nat) t v, Tryd.f4.params[j]? = some t → args[j]? = some v → Value.okWide Tryd.prog W .any base t v := hval0
  have hW' := hW
  obtain ⟨p, q, hA0, hV, rfl, hfz, hnd⟩ := hW
  have hA : DataW.TrodAll enc Tryd.prog W 0 (fun _ => true) true Tryd.f4.params.toList args.toList ds p := hA0
  rw [Tryd.params4] at hA hval
  obtain ⟨v0, vs0, d0, ds0, p0, q0, hargs, rfl, rfl, h0, r0⟩ := trodAll_cons hA
  obtain ⟨v1, vs1, d1, ds1, p1, q1, rfl, rfl, rfl, h1, r1⟩ := trodAll_cons r0
  obtain ⟨v2, vs2, d2, ds2, p2, q2, rfl, rfl, rfl, h2, r2⟩ := trodAll_cons r1
  obtain ⟨rfl, rfl, rfl⟩ := trodAll_nil r2
  obtain rfl : args = #[v0, v1, v2] := by cases args; simp_all
  obtain ⟨rfl, rfl⟩ := trodVars_none hV
  obtain ⟨x0, y0, ex0, ey0, n0, rfl, rfl, rfl, tx0, ty0⟩ := Go.Joins.open_agg2 Tryd.underlying23 (by kernel_rfl) (by kernel_rfl) (hval 0 23 v0 rfl rfl) h0
  obtain ⟨a0, hc0, rfl, wa0⟩ := DataW.trod_int Tryd.underlying3 tx0
  obtain rfl : x0 = .int .i64 a0 := by simpa using hc0
  obtain ⟨b0, hd0, rfl, wb0⟩ := DataW.trod_int Tryd.underlying3 ty0
  obtain rfl : y0 = .int .i64 b0 := by simpa using hd0
  obtain ⟨x1, y1, ex1, ey1, n1, rfl, rfl, rfl, tx1, ty1⟩ := Go.Joins.open_agg2 Tryd.underlying23 (by kernel_rfl) (by kernel_rfl) (hval 1 23 v1 rfl rfl) h1
  obtain ⟨a1, hc1, rfl, wa1⟩ := DataW.trod_int Tryd.underlying3 tx1
  obtain rfl : x1 = .int .i64 a1 := by simpa using hc1
  obtain ⟨b1, hd1, rfl, wb1⟩ := DataW.trod_int Tryd.underlying3 ty1
  obtain rfl : y1 = .int .i64 b1 := by simpa using hd1
  obtain ⟨x2, y2, ex2, ey2, n2, rfl, rfl, rfl, tx2, ty2⟩ := Go.Joins.open_agg2 Tryd.underlying23 (by kernel_rfl) (by kernel_rfl) (hval 2 23 v2 rfl rfl) h2
  obtain ⟨a2, hc2, rfl, wa2⟩ := DataW.trod_int Tryd.underlying3 tx2
  obtain rfl : x2 = .int .i64 a2 := by simpa using hc2
  obtain ⟨b2, hd2, rfl, wb2⟩ := DataW.trod_int Tryd.underlying3 ty2
  obtain rfl : y2 = .int .i64 b2 := by simpa using hd2
  clear hA0 hval0
  simp only [List.append_nil] at hW'
  refine (siteHolds_walk a0 b0 a1 b1 a2 b2 W (env_of_laid hL) ).mono fun e W' ⟨he, hg⟩ => ?_
  subst he
  exact ⟨_, rfl, _, _, _, [], [], [], hW', trodAll_cons_mk (shut_bool Tryd.underlying4 _) trodAll_mk0, (trodAll_cons_mk (Go.Joins.shut_agg2 Tryd.underlying23 (by kernel_rfl) (by kernel_rfl) ⟨_, trod_int_mk 0 Tryd.underlying3 wa0⟩ ⟨_, trod_int_mk 0 Tryd.underlying3 wb0⟩) (trodAll_cons_mk (Go.Joins.shut_agg2 Tryd.underlying23 (by kernel_rfl) (by kernel_rfl) ⟨_, trod_int_mk 0 Tryd.underlying3 wa1⟩ ⟨_, trod_int_mk 0 Tryd.underlying3 wb1⟩) (trodAll_cons_mk (Go.Joins.shut_agg2 Tryd.underlying23 (by kernel_rfl) (by kernel_rfl) ⟨_, trod_int_mk 0 Tryd.underlying3 wa2⟩ ⟨_, trod_int_mk 0 Tryd.underlying3 wb2⟩) trodAll_mk0))), rfl, hg.frame _, fun h => by cases h⟩

theorem over : Rows.SiteHoldsSaid :=
  OpenClaim.holds_of_wide 4 Tryd.f4 rfl rfl rfl rfl rfl rfl rfl ⟨rfl, rfl, rfl, rfl, rfl⟩ rfl rfl rfl rfl rfl (by kernel_rfl) Tryd.func4 (by kernel_rfl)
    (of_decide_eq_true (by kernel_rfl)) (by unfold Func.isWrapper; first | (rw [if_pos (by decide +kernel)]; kernel_rfl) | (rw [if_neg (by decide +kernel)]; exact ⟨rfl, rfl⟩))
    (fun os started H enc _ => lifted os started H enc)

theorem card_holds : Rows.SiteHoldsCardSaid :=
  Claim7.holds_tied_plain_at .later [] _ true _ true
    over (fun _ h => by cases h) (by kernel_rfl) (fun _ h => by cases h) siteHolds_row_tie rfl ⟨rfl, rfl⟩ (by kernel_rfl) rfl
    (fun f fn hf hfn => by
      obtain rfl : f = 4 := Option.some.inj ((show Tryd.prog.funcNamed "linesman/linesmanlaw07.SiteHolds" = some 4 by kernel_rfl).symm.trans hf) |>.symm
      obtain rfl : fn = Tryd.f4 := (Option.some.inj (Tryd.func4.symm.trans hfn)).symm
      exact ⟨by kernel_rfl, fun j t ht => by
        rw [Tryd.params4] at ht
        have hm : t ∈ [23, 23, 23] := by simpa using Array.mem_of_getElem? ht
        have hall : ([23, 23, 23].all fun u => !Tryd.prog.wantsStandIn u) = true := by kernel_rfl
        exact (show Tryd.prog.wantsStandIn t = false by simpa using List.all_eq_true.1 hall t hm)⟩)
    (by kernel_rfl)
#print axioms card_holds
end Go.Proofs.YtgjibnfdaigpkaaDoor.siteHolds
