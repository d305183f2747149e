/- Joined texts: Walks of package site: Text; every site.; Walks of package site: right; read of a pair; Of. -/
import Derived.Test.YtnefpiohmokkiaaGreatDoorQS5
import Derived.Test.YtnefpiohmokkiaaGreatDoorQS3
import Derived.Lib.ItoaLen
/- Walks of package site: Text; every site. -/
namespace Go.Proofs.YtnefpiohmokkiaaGreatDoor
set_option linter.unusedVariables false
open Go Go.Proofs Go.RowKit Go.Sort

/-- A site's text. -/
def textS (f p : Nat) : List UInt8 := 102 :: (Lib.decDigits f ++ 58 :: Lib.decDigits p)

set_option maxRecDepth 100000 in
set_option maxHeartbeats 400000 in
theorem siText_yes (f p : Nat) (hf : f < 32) (hp : p < 512) (w : World) (hE : Env w) :
    Calls Tryz.prog 30 #[.agg #[.int .i64 f, .int .i64 p]] w fun e w' => e = .returned (.tuple #[.string ⟨(textS f p).toArray⟩, .int .i64 0]) ∧ Below w.heap.size w w' := by
  have n1 := Lib.nDigits_le20 f (by omega)
  have n2 := Lib.nDigits_le20 p (by omega)
  rw [← Lib.decDigits_length] at n1 n2
  have cf := fun w hE => itoa_any (f : Int) (by omega) (by omega) w hE
  have cp := fun w hE => itoa_any (p : Int) (by omega) (by omega) w hE
  rw [Lib.itoa_nonneg] at cf cp
  have CK := Lib.hid fun w => (by
    have := check_any f p w
    rw [show chkF f p = 0 from by unfold chkF; rw [if_pos (by omega)]] at this
    exact this : Calls Tryz.prog 72 #[.agg #[.int .i64 f, .int .i64 p]] w fun e w' => e = .returned (.int .i64 0) ∧ Below w.heap.size w w')
  have HT := Lib.hid (show textS f p = 102 :: (Lib.decDigits f ++ 58 :: Lib.decDigits p) from rfl)
  generalize Lib.decDigits f = l1 at n1 cf HT
  generalize Lib.decDigits p = l2 at n2 cp HT
  have HC := Lib.hid (show (⟨#[102]⟩ ++ ⟨l1.toArray⟩ ++ ⟨#[58]⟩ ++ ⟨l2.toArray⟩ : ByteArray) = ⟨(102 :: (l1 ++ 58 :: l2)).toArray⟩ from by
    apply WideShapes.bytes_inj
    simp)
  have CF := Lib.hid cf
  have CP := Lib.hid cp
  clear cf cp
  go_enter Tryz.func30, Tryz.ntmps30
  go_wp2_with fail
  refine (CK.out _).mono ?_
  rintro e w1 ⟨rfl, hb1⟩
  have k0 := cell_bel (cell_new w #[.int .i64 f, .int .i64 p] 30 0) hb1
  have k1 := cell_bel (cell_new w #[.int .i64 f, .int .i64 p] 30 1) hb1
  have hB1 := belT (bel1 _) hb1
  have hE1 := hE.on hB1
  go_wp2_with fail
  have c0 := cell_regrown k0
  have c1 := cell_regrown k1
  have cQ : ∀ d os, Calls Tryz.prog 73 #[.int .i64 f] (grow (redrawn w1 d) os) fun e w'' => e = .returned (.string ⟨l1.toArray⟩) ∧ ∃ p : Regrown, w'' = grow (redrawn w1 p.d) p.os := fun d os => Calls.regrown_of (CF.out _ (hE1.on (below_regrown w1 d os)))
  have cR : ∀ d os, Calls Tryz.prog 73 #[.int .i64 p] (grow (redrawn w1 d) os) fun e w'' => e = .returned (.string ⟨l2.toArray⟩) ∧ ∃ p : Regrown, w'' = grow (redrawn w1 p.d) p.os := fun d os => Calls.regrown_of (CP.out _ (hE1.on (below_regrown w1 d os)))
  have CQ := Lib.hid cQ
  have CR := Lib.hid cR
  clear k0 k1 cQ cR
  have m1 : ¬ 9223372036854775807 < 1 + l1.length := by omega
  have m2 : ¬ 9223372036854775807 < 1 + l1.length + 1 := by omega
  have m3 : ¬ 9223372036854775807 < 1 + l1.length + 1 + l2.length := by omega
  refine wp_region_quiet_below (by kernel_rfl) (by kernel_rfl) ?_
  repeat (quiet_step (first | exact CQ.out _ _ | exact CR.out _ _))
  refine wpQuiet_nil ?_
  intro _ hw'
  obtain ⟨⟨dq, osq⟩, hw''⟩ := hw'
  subst hw''
  go_wp2
  go_ret2
  refine ⟨?_, belT hB1 (below_regrown w1 dq osq)⟩
  rw [HT.out, ← HC.out]
  rfl

set_option maxRecDepth 100000 in
set_option maxHeartbeats 400000 in
theorem siText_no (f p : Int) (hn : chkF f p = 2) (w : World) :
    Calls Tryz.prog 30 #[.agg #[.int .i64 f, .int .i64 p]] w fun e w' => e = .returned (.tuple #[.string ⟨#[]⟩, .int .i64 2]) ∧ Below w.heap.size w w' := by
  have ck := check_any f p
  rw [hn] at ck
  have CK := Lib.hid ck
  clear ck hn
  go_enter Tryz.func30, Tryz.ntmps30
  go_wp2_with fail
  refine (CK.out _).mono ?_
  rintro e w1 ⟨rfl, hb1⟩
  have hB1 := belT (bel1 _) hb1
  go_wp2_with fail
  go_ret2
  exact ⟨rfl, hB1⟩
end Go.Proofs.YtnefpiohmokkiaaGreatDoor

/- Walks of package site: right; read of a pair; Of. -/
namespace Go.Proofs.YtnefpiohmokkiaaGreatDoor
set_option linter.unusedVariables false
open Go Go.Proofs Go.RowKit

theorem chk_two (f p : Int) : chkF f p = 0 ∨ chkF f p = 2 := by
  unfold chkF
  split
  · exact Or.inl rfl
  · exact Or.inr rfl

/-- Whether a pair may be. -/
def rightF (f p f' p' : Int) : Bool := chkF f p == 0 && (chkF f' p' == 0 && decide (ordF f p f' p' ≤ 0))

set_option maxRecDepth 100000 in
set_option maxHeartbeats 400000 in
theorem right_any (f p f' p' : Int) (w : World) :
    Calls Tryz.prog 35 #[.agg #[.int .i64 f, .int .i64 p, .int .i64 f', .int .i64 p']] w fun e w' => e = .returned (.bool (rightF f p f' p')) ∧ Below w.heap.size w w' := by
  unfold rightF
  have c1 := check_any f p
  have c2 := check_any f' p'
  have c3 := order_any f p f' p'
  generalize ordF f p f' p' = o at c3
  have k0 := cell_new w #[.int .i64 f, .int .i64 p, .int .i64 f', .int .i64 p'] 32 0
  have k1 := cell_new w #[.int .i64 f, .int .i64 p, .int .i64 f', .int .i64 p'] 32 1
  have k2 := cell_new w #[.int .i64 f, .int .i64 p, .int .i64 f', .int .i64 p'] 32 2
  have k3 := cell_new w #[.int .i64 f, .int .i64 p, .int .i64 f', .int .i64 p'] 32 3
  rcases chk_two f p with h1 | h1
  · rcases chk_two f' p' with h2 | h2
    · rw [h1] at c1 ⊢
      rw [h2] at c2 ⊢
      have C1 := Lib.hid c1
      have C2 := Lib.hid c2
      have C3 := Lib.hid c3
      clear c1 c2 c3 h1 h2
      go_enter Tryz.func35, Tryz.ntmps35
      go_wp2_with fail
      refine (C1.out _).mono ?_
      rintro e w1 ⟨rfl, hb1⟩
      have m0 := cell_bel k0 hb1
      have m1 := cell_bel k1 hb1
      have m2 := cell_bel k2 hb1
      have m3 := cell_bel k3 hb1
      have hB1 := belT (bel1 _) hb1
      clear k0 k1 k2 k3 hb1
      go_wp2_with fail
      refine (C2.out _).mono ?_
      rintro e w2 ⟨rfl, hb2⟩
      have n0 := cell_bel m0 hb2
      have n1 := cell_bel m1 hb2
      have n2 := cell_bel m2 hb2
      have n3 := cell_bel m3 hb2
      have hB2 := belT hB1 hb2
      clear m0 m1 m2 m3 hb2
      go_wp2_with fail
      refine (C3.out _).mono ?_
      rintro e w3 ⟨rfl, hb3⟩
      go_wp2
      go_ret
      exact ⟨by simp, belT hB2 hb3⟩
    · rw [h1] at c1 ⊢
      rw [h2] at c2 ⊢
      have C1 := Lib.hid c1
      have C2 := Lib.hid c2
      clear c1 c2 c3 h1 h2
      go_enter Tryz.func35, Tryz.ntmps35
      go_wp2_with fail
      refine (C1.out _).mono ?_
      rintro e w1 ⟨rfl, hb1⟩
      have m0 := cell_bel k0 hb1
      have m1 := cell_bel k1 hb1
      have m2 := cell_bel k2 hb1
      have m3 := cell_bel k3 hb1
      have hB1 := belT (bel1 _) hb1
      clear k0 k1 k2 k3 hb1
      go_wp2_with fail
      refine (C2.out _).mono ?_
      rintro e w2 ⟨rfl, hb2⟩
      go_wp2
      go_ret
      exact ⟨by simp, belT hB1 hb2⟩
  · rw [h1] at c1 ⊢
    have C1 := Lib.hid c1
    clear c1 c2 c3 h1
    go_enter Tryz.func35, Tryz.ntmps35
    go_wp2_with fail
    refine (C1.out _).mono ?_
    rintro e w1 ⟨rfl, hb1⟩
    go_wp2
    go_ret
    exact ⟨by simp, belT (bel1 _) hb1⟩

set_option maxRecDepth 100000 in
set_option maxHeartbeats 400000 in
theorem readP_yes (f p f' p' k : Int) (w : World) : Calls Tryz.prog 80 #[.agg #[.int .i64 f, .int .i64 p, .int .i64 f', .int .i64 p'], .bool true, .int .i64 k] w fun e w' => e = .returned (.tuple #[.agg #[.int .i64 f, .int .i64 p, .int .i64 f', .int .i64 p'], .int .i64 0]) ∧ Below w.heap.size w w' := by
  go_enter Tryz.func80, Tryz.ntmps80
  go_wp2
  exact bodyPost_ret (v := .tuple #[.agg #[.int .i64 f, .int .i64 p, .int .i64 f', .int .i64 p'], .int .i64 0]) (by simp [results, Tryz.results80, go_sem]) rfl ⟨rfl, belA (bel1 _) _⟩

set_option maxHeartbeats 400000 in
theorem readP_no (f p f' p' k : Int) (w : World) : Calls Tryz.prog 80 #[.agg #[.int .i64 f, .int .i64 p, .int .i64 f', .int .i64 p'], .bool false, .int .i64 k] w fun e w' => e = .returned (.tuple #[.agg #[.int .i64 0, .int .i64 0, .int .i64 0, .int .i64 0], .int .i64 k]) ∧ Below w.heap.size w w' := by
  go_enter Tryz.func80, Tryz.ntmps80
  go_wp2
  exact bodyPost_ret (v := .tuple #[.agg #[.int .i64 0, .int .i64 0, .int .i64 0, .int .i64 0], .int .i64 k]) (by simp [results, Tryz.results80, go_sem]) rfl ⟨rfl, belA (belA (bel1 _) _) _⟩
end Go.Proofs.YtnefpiohmokkiaaGreatDoor
