/- Joined texts: The reference of layer 11: Cut. -/
import Derived.Test.YtfnfcngkaepnjaaGreatDoorQZ28
import Derived.Test.YtfnfcngkaepnjaaGreatDoorQZ35
/- The reference of layer 11: Cut. -/
namespace Go.Proofs.YtfnfcngkaepnjaaGreatDoor
set_option linter.unusedVariables false
set_option linter.unusedSimpArgs false
open Go Go.Proofs Go.RowKit Go.Sort

set_option maxRecDepth 100000 in
set_option maxHeartbeats 4000000 in
theorem rfCut_any (s : ByteArray) (hs : s.size ≤ 999990) (w : World) : Calls Tryz.prog 73 #[.string s] w fun e w' => ∃ v, e = .returned v ∧ OwnW 9 1 encS w.heap.size v (lnsO (nlF s)) w' ∧ Below w.heap.size w w' := by
  go_enter Tryz.func73, Tryz.ntmps73
  go_wp2_with fail
  go_loopw [3, 4, 5] (fun vo vf vi wr => ∃ (i f : Nat) (done : List ByteArray), vi = .int .i64 i ∧ vf = .int .i64 f ∧ Hid (NlI s i f done) ∧ Hid (OwnW 9 1 encS w.heap.size vo done wr) ∧ Hid (Below w.heap.size w wr)) (fun _ _ vi _ => s.size - (intOf vi).toNat)
  case atStart => exact ⟨0, 0, [], rfl, rfl, Lib.hid (nlI_start s), Lib.hid OwnW.nil, Lib.hid (Below.refl _ _)⟩
  case round =>
    obtain ⟨i, f, done, rfl, rfl, hI, hO, hB⟩ := hrel
    have h1 := hI.out.le
    have h2 := hI.out.len
    have h3 := hI.out.fle
    obtain ⟨ao, co, rfl⟩ := hO.out.form
    by_cases hlt : i < s.size
    · obtain ⟨x, hx⟩ : ∃ x, s[i] = x := ⟨_, rfl⟩
      by_cases h10 : x = 10
      · have hI2 := Lib.hid (hI.out.cut hlt (by rw [hx]; exact h10))
        have e1 : ((x.toNat : Int) == 10) = true := by rw [h10]; rfl
        clear h10 hI
        go_wp2_with (at_builtin; refine append_W rowS rfl _ _ rfl rfl (hO.out.bel (bel1 _)) wr.heap.size 1 (s.extract f i) rfl (fun j u hj => (cell_new wr _ 9 j).trans (by simpa using hj)) (by omega) (Nat.le_trans hB.out.size (by simp)) ?_; intro vo wo hO2 hg2 hb2)
        exact ⟨⟨i + 1, i + 1, _, by go_num, by go_num, hI2, Lib.hid hO2, Lib.hid ((belA hB.out _).trans hb2)⟩, by simp [intOf]; omega⟩
      · have hI2 := Lib.hid (hI.out.on1 hlt (by rw [hx]; exact h10))
        have e1 : ((x.toNat : Int) == 10) = false := beq_eq_false_iff_ne.2 (fun h => h10 (UInt8.toNat_inj.1 (by have : (10 : UInt8).toNat = 10 := rfl; omega)))
        clear h10 hI
        go_wp2_with fail
        exact ⟨⟨i + 1, f, done, by go_num, rfl, hI2, hO, hB⟩, by simp [intOf]; omega⟩
    · have he : i = s.size := by omega
      subst he
      obtain ⟨hF1, hF2⟩ := hI.out.fin
      by_cases hf : f < s.size
      · have HF := Lib.hid (hF1 hf).1
        clear hF1 hF2 hI
        go_wp2_with (at_builtin; refine append_W rowS rfl _ _ rfl rfl (hO.out.bel (bel1 _)) wr.heap.size 1 (s.extract f s.size) rfl (fun j u hj => (cell_new wr _ 9 j).trans (by simpa using hj)) (by omega) (Nat.le_trans hB.out.size (by simp)) ?_; intro vo wo hO2 hg2 hb2)
        go_ret
        exact ⟨_, rfl, by rw [HF.out]; exact hO2, (belA hB.out _).trans hb2⟩
      · have HF := Lib.hid (hF2 (by omega)).1
        clear hF1 hF2 hI
        go_wp2_with fail
        go_ret
        exact ⟨_, rfl, by rw [HF.out]; exact hO.out, hB.out⟩
end Go.Proofs.YtfnfcngkaepnjaaGreatDoor
