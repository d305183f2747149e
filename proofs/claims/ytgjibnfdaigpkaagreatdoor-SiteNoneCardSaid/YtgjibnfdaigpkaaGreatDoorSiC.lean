/- Walks of package site: Text; every site. -/
import Derived.Test.YtgjibnfdaigpkaaGreatDoorSiB
import Derived.Test.YtgjibnfdaigpkaaGreatDoorEnv
import Derived.Test.YtgjibnfdaigpkaaGreatDoorCut
import Derived.Lib.ItoaLen
namespace Go.Proofs.YtgjibnfdaigpkaaGreatDoor
set_option linter.unusedVariables false
open Go Go.Proofs Go.RowKit Go.Sort

/-- A site's text. -/
def textS (f p : Nat) : List UInt8 := 102 :: (Lib.decDigits f ++ 58 :: Lib.decDigits p)

set_option maxRecDepth 100000 in
set_option maxHeartbeats 400000 in
theorem siText_yes (f p : Nat) (hf : f < 32) (hp : p < 512) (w : World) (hE : Env w) :
    Calls Tryz.prog 68 #[.agg #[.int .i64 f, .int .i64 p]] w fun e w' => e = .returned (.tuple #[.string ⟨(textS f p).toArray⟩, .int .i64 0]) ∧ Below w.heap.size w w' := by
  have n1 := Lib.nDigits_le20 f (by omega)
  have n2 := Lib.nDigits_le20 p (by omega)
  rw [← Lib.decDigits_length] at n1 n2
  have cf := fun w hE => itoa_any (f : Int) (by omega) (by omega) w hE
  have cp := fun w hE => itoa_any (p : Int) (by omega) (by omega) w hE
  rw [Lib.itoa_nonneg] at cf cp
  have CK := Lib.hid fun w => (by
    have := check_any f p w
    rw [show chkF f p = 0 from by unfold chkF; rw [if_pos (by omega)]] at this
    exact this : Calls Tryz.prog 104 #[.agg #[.int .i64 f, .int .i64 p]] w fun e w' => e = .returned (.int .i64 0) ∧ Below w.heap.size w w')
  have HT := Lib.hid (show textS f p = 102 :: (Lib.decDigits f ++ 58 :: Lib.decDigits p) from rfl)
  generalize Lib.decDigits f = l1 at n1 cf HT
  generalize Lib.decDigits p = l2 at n2 cp HT
  have HC := Lib.hid (show (⟨#[102]⟩ ++ ⟨l1.toArray⟩ ++ ⟨#[58]⟩ ++ ⟨l2.toArray⟩ : ByteArray) = ⟨(102 :: (l1 ++ 58 :: l2)).toArray⟩ from by
    apply WideShapes.bytes_inj
    simp)
  have CF := Lib.hid cf
  have CP := Lib.hid cp
  clear cf cp
  go_enter Tryz.func68, Tryz.ntmps68
  go_wp2_with fail
  refine (CK.out _).mono ?_
  rintro e w1 ⟨rfl, hb1⟩
  have k0 := cell_bel (cell_new w #[.int .i64 f, .int .i64 p] 60 0) hb1
  have k1 := cell_bel (cell_new w #[.int .i64 f, .int .i64 p] 60 1) hb1
  have hB1 := belT (bel1 _) hb1
  have hE1 := hE.on hB1
  go_wp2_with fail
  have c0 := cell_regrown k0
  have c1 := cell_regrown k1
  have cQ : ∀ d os, Calls Tryz.prog 64 #[.int .i64 f] (grow (redrawn w1 d) os) fun e w'' => e = .returned (.string ⟨l1.toArray⟩) ∧ ∃ p : Regrown, w'' = grow (redrawn w1 p.d) p.os := fun d os => Calls.regrown_of (CF.out _ (hE1.on (below_regrown w1 d os)))
  have cR : ∀ d os, Calls Tryz.prog 64 #[.int .i64 p] (grow (redrawn w1 d) os) fun e w'' => e = .returned (.string ⟨l2.toArray⟩) ∧ ∃ p : Regrown, w'' = grow (redrawn w1 p.d) p.os := fun d os => Calls.regrown_of (CP.out _ (hE1.on (below_regrown w1 d os)))
  have CQ := Lib.hid cQ
  have CR := Lib.hid cR
  clear k0 k1 cQ cR
  have m1 : ¬ 9223372036854775807 < 1 + l1.length := by omega
  have m2 : ¬ 9223372036854775807 < 1 + l1.length + 1 := by omega
  have m3 : ¬ 9223372036854775807 < 1 + l1.length + 1 + l2.length := by omega
  refine wp_region_quiet_below (by kernel_rfl) (by kernel_rfl) ?_
  repeat (quiet_step (first | exact CQ.out _ _ | exact CR.out _ _))
  refine wpQuiet_nil ?_
  intro _ hw'
  obtain ⟨⟨dq, osq⟩, hw''⟩ := hw'
  subst hw''
  go_wp2
  go_ret2
  refine ⟨?_, belT hB1 (below_regrown w1 dq osq)⟩
  rw [HT.out, ← HC.out]
  rfl

set_option maxRecDepth 100000 in
set_option maxHeartbeats 400000 in
theorem siText_no (f p : Int) (hn : chkF f p = 2) (w : World) :
    Calls Tryz.prog 68 #[.agg #[.int .i64 f, .int .i64 p]] w fun e w' => e = .returned (.tuple #[.string ⟨#[]⟩, .int .i64 2]) ∧ Below w.heap.size w w' := by
  have ck := check_any f p
  rw [hn] at ck
  have CK := Lib.hid ck
  clear ck hn
  go_enter Tryz.func68, Tryz.ntmps68
  go_wp2_with fail
  refine (CK.out _).mono ?_
  rintro e w1 ⟨rfl, hb1⟩
  have hB1 := belT (bel1 _) hb1
  go_wp2_with fail
  go_ret2
  exact ⟨rfl, hB1⟩
end Go.Proofs.YtgjibnfdaigpkaaGreatDoor
