/- Joined texts: Reference 09: are two programs the same?; Layer 11: a program's text ends with a line. -/
import Derived.Test.YtfnfcngkaepnjaaGreatDoorQZ38
import Derived.Deep.RegionHeld3
import Derived.Test.YtfnfcngkaepnjaaGreatDoorQZ16
/- Reference 09: are two programs the same? -/
namespace Go.Proofs.YtfnfcngkaepnjaaGreatDoor
set_option linter.unusedVariables false
set_option linter.unusedSimpArgs false
open Go Go.Proofs Go.RowKit Go.Sort

theorem take_same {α : Type} {F G : List α} {k : Nat} {f g : α} (h : F.take k = G.take k) (hf : F[k]? = some f) (hg : G[k]? = some g) (hfg : f = g) : F.take (k + 1) = G.take (k + 1) := by
  obtain ⟨h1, h2⟩ := List.getElem?_eq_some_iff.1 hf
  obtain ⟨h3, h4⟩ := List.getElem?_eq_some_iff.1 hg
  rw [← List.take_append_getElem h1, ← List.take_append_getElem h3, h, h2, h4, hfg]

set_option maxRecDepth 100000 in
set_option maxHeartbeats 4000000 in
theorem rSame_any (P Q : ProgM) (u v : Value) (w : World) (hu : ArgP w u P) (hv : ArgP w v Q) :
    Calls Tryz.prog 29 #[u, v] w fun e w' => e = .returned (.bool (decide (P = Q))) ∧ Below w.heap.size w w' := by
  obtain ⟨vf, rfl, hF⟩ := hu
  obtain ⟨vg, rfl, hG⟩ := hv
  obtain ⟨F, mu, rw0, gr⟩ := P
  obtain ⟨G, mv, rv0, gs⟩ := Q
  dsimp only at hF hG ⊢
  obtain ⟨ao, c, rfl⟩ := hF.form
  obtain ⟨ap, d, rfl⟩ := hG.form
  have HLF := Lib.hid hF.len
  have B1 := belA (bel1 (W := w) (.cells #[.slice ao F.length c, .int .i64 mu, .int .i64 rw0, .int .i64 gr] 58)) (.cells #[.slice ap G.length d, .int .i64 mv, .int .i64 rv0, .int .i64 gs] 58)
  have HB := Lib.hid B1
  have HF := Lib.hid (hF.bel B1)
  have HG := Lib.hid (hG.bel B1)
  have a0 := cell_al (cell_new w #[.slice ao F.length c, .int .i64 mu, .int .i64 rw0, .int .i64 gr] 58 0) (.cells #[.slice ap G.length d, .int .i64 mv, .int .i64 rv0, .int .i64 gs] 58)
  have b0 := cell_two w (.cells #[.slice ao F.length c, .int .i64 mu, .int .i64 rw0, .int .i64 gr] 58) #[.slice ap G.length d, .int .i64 mv, .int .i64 rv0, .int .i64 gs] 58 0
  clear hF hG B1
  by_cases h1 : mu ≠ mv
  · have e1 : (mu != mv) = true := by rw [bne, beq_eq_false_iff_ne.2 h1]; rfl
    rw [decide_eq_false (fun h => h1 (by injection h))]
    go_enter Tryz.func29, Tryz.ntmps29
    go_wp2
    go_ret
    exact ⟨rfl, HB.out⟩
  have h1 := Decidable.not_not.1 h1
  subst h1
  by_cases h1 : rw0 ≠ rv0
  · have e1 : (rw0 != rv0) = true := by rw [bne, beq_eq_false_iff_ne.2 h1]; rfl
    rw [decide_eq_false (fun h => h1 (by injection h))]
    go_enter Tryz.func29, Tryz.ntmps29
    go_wp2
    go_ret
    exact ⟨rfl, HB.out⟩
  have h1 := Decidable.not_not.1 h1
  subst h1
  by_cases h1 : gr ≠ gs
  · have e1 : (gr != gs) = true := by rw [bne, beq_eq_false_iff_ne.2 h1]; rfl
    rw [decide_eq_false (fun h => h1 (by injection h))]
    go_enter Tryz.func29, Tryz.ntmps29
    go_wp2
    go_ret
    exact ⟨rfl, HB.out⟩
  have h1 := Decidable.not_not.1 h1
  subst h1
  by_cases h1 : F.length ≠ G.length
  · have e1 : (F.length != G.length) = true := by rw [bne, beq_eq_false_iff_ne.2 h1]; rfl
    have e2 : ((F.length : Int) != (G.length : Int)) = true := by rw [bne, beq_eq_false_iff_ne.2 (by omega)]; rfl
    rw [decide_eq_false (fun h => h1 (by injection h with h; rw [h]))]
    go_enter Tryz.func29, Tryz.ntmps29
    go_wp2
    go_ret
    exact ⟨rfl, HB.out⟩
  have h1 := Decidable.not_not.1 h1
  have HLG := Lib.hid h1
  have e1 : (F.length != G.length) = false := by rw [h1]; simp
  have e2 : ((F.length : Int) != (G.length : Int)) = false := by rw [h1]; simp
  clear h1
  go_enter Tryz.func29, Tryz.ntmps29
  go_wp2_with fail
  generalize (w.alloc _).alloc _ = V at HB HF HG a0 b0 ⊢
  clear e1 e2
  have HA := Lib.hid a0
  have HBB := Lib.hid b0
  clear a0 b0
  go_loopw [5] (fun vi wr => ∃ k : Nat, vi = .int .i64 k ∧ k ≤ F.length ∧ Hid (F.take k = G.take k) ∧ Hid (Below V.heap.size V wr)) (fun vi _ => F.length - (intOf vi).toNat)
  case atStart => exact ⟨0, rfl, by omega, Lib.hid rfl, Lib.hid (Below.refl _ _)⟩
  case round =>
    obtain ⟨k, rfl, hk, HT, HBr⟩ := hrel
    have HBw := Lib.hid (belT HB.out HBr.out)
    have a0 := cell_bel HA.out HBr.out
    have b0 := cell_bel HBB.out HBr.out
    by_cases hlt : k < F.length
    · obtain ⟨f, hf⟩ : ∃ f, F[k]? = some f := ⟨F[k], List.getElem?_eq_getElem hlt⟩
      obtain ⟨g, hg⟩ : ∃ g, G[k]? = some g := ⟨G[k]'(by rw [← HLG.out]; exact hlt), List.getElem?_eq_getElem _⟩
      obtain ⟨b, o, c', vc, hv, _, x0, x1, hcf⟩ := (HF.out.bel HBr.out).at_ hf
      simp only [Value.slice.injEq, true_and] at hv
      obtain ⟨hao, hcc⟩ := hv
      subst hao hcc
      obtain ⟨b', o', d', vd, hv, _, y0, y1, hcg⟩ := (HG.out.bel HBr.out).at_ hg
      simp only [Value.slice.injEq, true_and] at hv
      obtain ⟨hao, hcc⟩ := hv
      subst hao hcc
      obtain ⟨ac, cc, rfl⟩ := hcf.form
      obtain ⟨ad, cd, rfl⟩ := hcg.form
      have HCF := Lib.hid hcf
      have HCG := Lib.hid hcg
      have HKf := Lib.hid hf
      have HKg := Lib.hid hg
      have hk0 : (0 : Int) ≤ (k : Int) := by omega
      have hk1 : (k : Int) < (F.length : Int) := by omega
      have hk2 : (k : Int) < (G.length : Int) := by have := HLG.out; omega
      clear hcf hcg hf hg
      go_wp2_with fail
      have HBd := Lib.hid (Below.drew (Below.refl wr.heap.size wr))
      go_cut [6, 7] from 44 (fun v6 v7 wc => ∃ X Y : Nat, v6 = .pointer (some ⟨X, 0, none⟩) ∧ v7 = .pointer (some ⟨Y, 0, none⟩) ∧ wc.cell? ⟨X, 0, none⟩ = some (.int .i64 f.regs) ∧ wc.cell? ⟨X, 1, none⟩ = some (.slice ac f.code.length cc) ∧ wc.cell? ⟨Y, 0, none⟩ = some (.int .i64 g.regs) ∧ wc.cell? ⟨Y, 1, none⟩ = some (.slice ad g.code.length cd) ∧ Below wr.heap.size wr wc)
      case first =>
        obtain ⟨a0, b0, x0, x1, y0, y1⟩ : wr.drew.cell? ⟨w.heap.size, 0, none⟩ = some (.slice (some ⟨b, o, none⟩) F.length c) ∧ wr.drew.cell? ⟨w.heap.size + 1, 0, none⟩ = some (.slice (some ⟨b', o', none⟩) G.length d) ∧ wr.drew.cell? ⟨b, o + k * 2, none⟩ = some (.int .i64 f.regs) ∧ wr.drew.cell? ⟨b, o + k * 2 + 1, none⟩ = some (.slice ac f.code.length cc) ∧ wr.drew.cell? ⟨b', o' + k * 2, none⟩ = some (.int .i64 g.regs) ∧ wr.drew.cell? ⟨b', o' + k * 2 + 1, none⟩ = some (.slice ad g.code.length cd) := ⟨a0, b0, x0, x1, y0, y1⟩
        refine wp_region_held_drew (S := fun W' => Below wr.drew.heap.size wr.drew W') (by kernel_rfl) (Below.refl _ _) (fun hHeld => ?_)
        generalize wr.drew = V0 at a0 b0 x0 x1 y0 y1 HBd hHeld ⊢
        refine wpAnyH_take (i := 0) (v := ?_) rfl (by kernel_rfl) (by kernel_rfl) (by kernel_rfl) (fun _ _ _ h => h) (Or.inl ⟨by rfl, ?_⟩) (by assumption) ?_
        rotate_left
        · (intro W0 hSw; (have e0 := cell_bel a0 hSw); (have e1 := cell_bel b0 hSw); (have e2 := cell_bel x0 hSw); (have e3 := cell_bel x1 hSw); (have e4 := cell_bel y0 hSw); (have e5 := cell_bel y1 hSw); go_simp)
          all_goals with_reducible rfl
        try simp only [Act.put, List.getElem_toArray, List.getElem_cons_succ, List.getElem_cons_zero, List.setIfInBounds_toArray, List.set_cons_zero, List.set_cons_succ]
        refine wpAnyH_take (i := 1) (v := ?_) rfl (by kernel_rfl) (by kernel_rfl) (by kernel_rfl) (fun _ _ _ h => h) (Or.inl ⟨by rfl, ?_⟩) (by assumption) ?_
        rotate_left
        · (intro W0 hSw; (have e0 := cell_bel a0 hSw); (have e1 := cell_bel b0 hSw); (have e2 := cell_bel x0 hSw); (have e3 := cell_bel x1 hSw); (have e4 := cell_bel y0 hSw); (have e5 := cell_bel y1 hSw); go_simp)
          all_goals with_reducible rfl
        try simp only [Act.put, List.getElem_toArray, List.getElem_cons_succ, List.getElem_cons_zero, List.setIfInBounds_toArray, List.set_cons_zero, List.set_cons_succ]
        refine wpAnyH_take (i := 2) (v := ?_) rfl (by kernel_rfl) (by kernel_rfl) (by kernel_rfl) (fun _ _ _ h => h) (Or.inl ⟨by rfl, ?_⟩) (by assumption) ?_
        rotate_left
        · (intro W0 hSw; (have e0 := cell_bel a0 hSw); (have e1 := cell_bel b0 hSw); (have e2 := cell_bel x0 hSw); (have e3 := cell_bel x1 hSw); (have e4 := cell_bel y0 hSw); (have e5 := cell_bel y1 hSw); go_simp)
          all_goals with_reducible rfl
        try simp only [Act.put, List.getElem_toArray, List.getElem_cons_succ, List.getElem_cons_zero, List.setIfInBounds_toArray, List.set_cons_zero, List.set_cons_succ]
        refine wpAnyH_take (i := 3) (v := ?_) rfl (by kernel_rfl) (by kernel_rfl) (by kernel_rfl) (fun _ _ _ h => h) (Or.inl ⟨by rfl, ?_⟩) (by assumption) ?_
        rotate_left
        · (intro W0 hSw; (have e0 := cell_bel a0 hSw); (have e1 := cell_bel b0 hSw); (have e2 := cell_bel x0 hSw); (have e3 := cell_bel x1 hSw); (have e4 := cell_bel y0 hSw); (have e5 := cell_bel y1 hSw); go_simp)
          all_goals with_reducible rfl
        try simp only [Act.put, List.getElem_toArray, List.getElem_cons_succ, List.getElem_cons_zero, List.setIfInBounds_toArray, List.set_cons_zero, List.set_cons_succ]
        refine wpAnyH_take (i := 4) (v := ?_) rfl (by kernel_rfl) (by kernel_rfl) (by kernel_rfl) (fun _ _ _ h => h) (Or.inl ⟨by rfl, ?_⟩) (by assumption) ?_
        rotate_left
        · (intro W0 hSw; (have e0 := cell_bel a0 hSw); (have e1 := cell_bel b0 hSw); (have e2 := cell_bel x0 hSw); (have e3 := cell_bel x1 hSw); (have e4 := cell_bel y0 hSw); (have e5 := cell_bel y1 hSw); go_simp)
          all_goals with_reducible rfl
        try simp only [Act.put, List.getElem_toArray, List.getElem_cons_succ, List.getElem_cons_zero, List.setIfInBounds_toArray, List.set_cons_zero, List.set_cons_succ]
        refine wpAnyH_take (i := 5) (v := ?_) rfl (by kernel_rfl) (by kernel_rfl) (by kernel_rfl) (fun _ _ _ h => h) (Or.inl ⟨by rfl, ?_⟩) (by assumption) ?_
        rotate_left
        · (intro W0 hSw; (have e0 := cell_bel a0 hSw); (have e1 := cell_bel b0 hSw); (have e2 := cell_bel x0 hSw); (have e3 := cell_bel x1 hSw); (have e4 := cell_bel y0 hSw); (have e5 := cell_bel y1 hSw); go_simp)
          all_goals with_reducible rfl
        try simp only [Act.put, List.getElem_toArray, List.getElem_cons_succ, List.getElem_cons_zero, List.setIfInBounds_toArray, List.set_cons_zero, List.set_cons_succ]
        refine wpAnyH_take (i := 6) (v := ?_) rfl (by kernel_rfl) (by kernel_rfl) (by kernel_rfl) (fun _ _ _ h => h) (Or.inl ⟨by rfl, ?_⟩) (by assumption) ?_
        rotate_left
        · (intro W0 hSw; (have e0 := cell_bel a0 hSw); (have e1 := cell_bel b0 hSw); (have e2 := cell_bel x0 hSw); (have e3 := cell_bel x1 hSw); (have e4 := cell_bel y0 hSw); (have e5 := cell_bel y1 hSw); go_simp)
          all_goals with_reducible rfl
        try simp only [Act.put, List.getElem_toArray, List.getElem_cons_succ, List.getElem_cons_zero, List.setIfInBounds_toArray, List.set_cons_zero, List.set_cons_succ]
        refine wpAnyH_take (i := 7) (v := ?_) rfl (by kernel_rfl) (by kernel_rfl) (by kernel_rfl) (fun _ _ _ h => h) (Or.inl ⟨by rfl, ?_⟩) (by assumption) ?_
        rotate_left
        · (intro W0 hSw; (have e0 := cell_bel a0 hSw); (have e1 := cell_bel b0 hSw); (have e2 := cell_bel x0 hSw); (have e3 := cell_bel x1 hSw); (have e4 := cell_bel y0 hSw); (have e5 := cell_bel y1 hSw); go_simp)
          all_goals with_reducible rfl
        try simp only [Act.put, List.getElem_toArray, List.getElem_cons_succ, List.getElem_cons_zero, List.setIfInBounds_toArray, List.set_cons_zero, List.set_cons_succ]
        refine wpAnyH_take (i := 8) (v := ?_) rfl (by kernel_rfl) (by kernel_rfl) (by kernel_rfl) (fun _ _ _ h => h) (Or.inl ⟨by rfl, ?_⟩) (by assumption) ?_
        rotate_left
        · (intro W0 hSw; (have e0 := cell_bel a0 hSw); (have e1 := cell_bel b0 hSw); (have e2 := cell_bel x0 hSw); (have e3 := cell_bel x1 hSw); (have e4 := cell_bel y0 hSw); (have e5 := cell_bel y1 hSw); go_simp)
          all_goals with_reducible rfl
        try simp only [Act.put, List.getElem_toArray, List.getElem_cons_succ, List.getElem_cons_zero, List.setIfInBounds_toArray, List.set_cons_zero, List.set_cons_succ]
        refine wpAnyH_take (i := 9) (v := ?_) rfl (by kernel_rfl) (by kernel_rfl) (by kernel_rfl) (fun _ _ _ h => h) (Or.inl ⟨by rfl, ?_⟩) (by assumption) ?_
        rotate_left
        · (intro W0 hSw; (have e0 := cell_bel a0 hSw); (have e1 := cell_bel b0 hSw); (have e2 := cell_bel x0 hSw); (have e3 := cell_bel x1 hSw); (have e4 := cell_bel y0 hSw); (have e5 := cell_bel y1 hSw); go_simp)
          all_goals with_reducible rfl
        try simp only [Act.put, List.getElem_toArray, List.getElem_cons_succ, List.getElem_cons_zero, List.setIfInBounds_toArray, List.set_cons_zero, List.set_cons_succ]
        refine wpAnyH_ready (rs := [10, 11]) (by kernel_rfl) (by simp) ?_
        refine AllReadyH.cons rfl (fun K hK => ?_) (AllReadyH.cons rfl (fun K hK => ?_) AllReadyH.nil)
        · go_simp
          refine hK.out _ _ ?_ (fun hHeld => ?_)
          · exact hHeld.alloc hHeld.size _
          clear hK K
          try simp only [Act.put, List.getElem_toArray, List.getElem_cons_succ, List.getElem_cons_zero, List.setIfInBounds_toArray, List.set_cons_zero, List.set_cons_succ]
          refine wpAnyH_ready (rs := [11]) (by kernel_rfl) (by simp) ?_
          refine AllReadyH.cons rfl (fun K hK => ?_) AllReadyH.nil
          go_simp
          refine hK.out _ _ ?_ (fun hHeld => ?_)
          · exact hHeld.alloc hHeld.size _
          clear hK K
          try simp only [Act.put, List.getElem_toArray, List.getElem_cons_succ, List.getElem_cons_zero, List.setIfInBounds_toArray, List.set_cons_zero, List.set_cons_succ]
          refine wpAnyH_ready (rs := [12]) (by kernel_rfl) (by simp) ?_
          refine AllReadyH.cons rfl (fun K hK => ?_) AllReadyH.nil
          go_simp
          refine hK.out _ _ ?_ (fun hHeld => ?_)
          · exact belA (bel1 _) _
          clear hK K
          try simp only [Act.put, List.getElem_toArray, List.getElem_cons_succ, List.getElem_cons_zero, List.setIfInBounds_toArray, List.set_cons_zero, List.set_cons_succ]
          refine wpAnyH_ready (rs := [13]) (by kernel_rfl) (by simp) ?_
          refine AllReadyH.cons rfl (fun K hK => ?_) AllReadyH.nil
          go_simp
          refine hK.out _ _ ?_ (fun hHeld => ?_)
          · exact belA (bel1 _) _
          clear hK K
          try simp only [Act.put, List.getElem_toArray, List.getElem_cons_succ, List.getElem_cons_zero, List.setIfInBounds_toArray, List.set_cons_zero, List.set_cons_succ]
          refine wpAnyH_done (by kernel_rfl) ?_ _
          have xf0 := cell_al (cell_new V0 #[.int .i64 f.regs, .slice ac f.code.length cc] 114 0) (.cells #[.int .i64 g.regs, .slice ad g.code.length cd] 114)
          have xf1 := cell_al (cell_new V0 #[.int .i64 f.regs, .slice ac f.code.length cc] 114 1) (.cells #[.int .i64 g.regs, .slice ad g.code.length cd] 114)
          have yg0 := cell_two V0 (.cells #[.int .i64 f.regs, .slice ac f.code.length cc] 114) #[.int .i64 g.regs, .slice ad g.code.length cd] 114 0
          have yg1 := cell_two V0 (.cells #[.int .i64 f.regs, .slice ac f.code.length cc] 114) #[.int .i64 g.regs, .slice ad g.code.length cd] 114 1
          go_wp2_with fail
          go_meet
          exact ⟨V0.heap.size, V0.heap.size + 1, rfl, rfl, xf0, xf1, yg0, yg1, HBd.out.trans (hHeld.mono HBd.out.size)⟩
        · go_simp
          refine hK.out _ _ ?_ (fun hHeld => ?_)
          · exact hHeld.alloc hHeld.size _
          clear hK K
          try simp only [Act.put, List.getElem_toArray, List.getElem_cons_succ, List.getElem_cons_zero, List.setIfInBounds_toArray, List.set_cons_zero, List.set_cons_succ]
          refine wpAnyH_ready (rs := [10]) (by kernel_rfl) (by simp) ?_
          refine AllReadyH.cons rfl (fun K hK => ?_) AllReadyH.nil
          go_simp
          refine hK.out _ _ ?_ (fun hHeld => ?_)
          · exact hHeld.alloc hHeld.size _
          clear hK K
          try simp only [Act.put, List.getElem_toArray, List.getElem_cons_succ, List.getElem_cons_zero, List.setIfInBounds_toArray, List.set_cons_zero, List.set_cons_succ]
          refine wpAnyH_ready (rs := [12]) (by kernel_rfl) (by simp) ?_
          refine AllReadyH.cons rfl (fun K hK => ?_) AllReadyH.nil
          go_simp
          refine hK.out _ _ ?_ (fun hHeld => ?_)
          · exact belA (bel1 _) _
          clear hK K
          try simp only [Act.put, List.getElem_toArray, List.getElem_cons_succ, List.getElem_cons_zero, List.setIfInBounds_toArray, List.set_cons_zero, List.set_cons_succ]
          refine wpAnyH_ready (rs := [13]) (by kernel_rfl) (by simp) ?_
          refine AllReadyH.cons rfl (fun K hK => ?_) AllReadyH.nil
          go_simp
          refine hK.out _ _ ?_ (fun hHeld => ?_)
          · exact belA (bel1 _) _
          clear hK K
          try simp only [Act.put, List.getElem_toArray, List.getElem_cons_succ, List.getElem_cons_zero, List.setIfInBounds_toArray, List.set_cons_zero, List.set_cons_succ]
          refine wpAnyH_done (by kernel_rfl) ?_ _
          have yg0 := cell_al (cell_new V0 #[.int .i64 g.regs, .slice ad g.code.length cd] 114 0) (.cells #[.int .i64 f.regs, .slice ac f.code.length cc] 114)
          have yg1 := cell_al (cell_new V0 #[.int .i64 g.regs, .slice ad g.code.length cd] 114 1) (.cells #[.int .i64 f.regs, .slice ac f.code.length cc] 114)
          have xf0 := cell_two V0 (.cells #[.int .i64 g.regs, .slice ad g.code.length cd] 114) #[.int .i64 f.regs, .slice ac f.code.length cc] 114 0
          have xf1 := cell_two V0 (.cells #[.int .i64 g.regs, .slice ad g.code.length cd] 114) #[.int .i64 f.regs, .slice ac f.code.length cc] 114 1
          go_wp2_with fail
          go_meet
          exact ⟨V0.heap.size + 1, V0.heap.size, rfl, rfl, xf0, xf1, yg0, yg1, HBd.out.trans (hHeld.mono HBd.out.size)⟩
      case rest =>
        obtain ⟨X, Y, rfl, rfl, xf0, xf1, yg0, yg1, hb6⟩ := hcut
        have HB6 := Lib.hid hb6
        clear hb6 a0 b0 x0 x1 y0 y1 HBd
        have hfb : (F.length : Int) ≤ 9223372036854775807 := by have := HLF.out; omega
        have hcb : (f.code.length : Int) ≤ 9223372036854775807 := by have := HCF.out.len; omega
        have HB7 := Lib.hid (HBr.out.trans (HB6.out.mono HBr.out.size))
        by_cases r1 : f.regs ≠ g.regs
        · have e1 : (f.regs != g.regs) = true := by rw [bne, beq_eq_false_iff_ne.2 r1]; rfl
          have HQ := Lib.hid (show ¬ F = G from fun h => by
            have h1 := HKf.out
            rw [h, HKg.out] at h1
            exact r1 (by rw [Option.some.inj h1]))
          clear r1
          go_wp2_with fail
          go_ret
          exact ⟨ret_bool (decide_eq_false (fun h => HQ.out (by injection h))).symm, belT HB.out HB7.out⟩
        have r1 := Decidable.not_not.1 r1
        by_cases r2 : f.code.length ≠ g.code.length
        · have e1 : (f.regs != g.regs) = false := by rw [r1]; simp
          have e2 : (f.code.length != g.code.length) = true := by rw [bne, beq_eq_false_iff_ne.2 r2]; rfl
          have e3 : ((f.code.length : Int) != (g.code.length : Int)) = true := by rw [bne, beq_eq_false_iff_ne.2 (by omega)]; rfl
          have HQ := Lib.hid (show ¬ F = G from fun h => by
            have h1 := HKf.out
            rw [h, HKg.out] at h1
            exact r2 (by rw [Option.some.inj h1]))
          clear r1 r2
          go_wp2_with fail
          go_ret
          exact ⟨ret_bool (decide_eq_false (fun h => HQ.out (by injection h))).symm, belT HB.out HB7.out⟩
        have HR2 := Lib.hid (Decidable.not_not.1 r2)
        have HR1 := Lib.hid r1
        have e1 : (f.regs != g.regs) = false := by rw [r1]; simp
        have e2 : (f.code.length != g.code.length) = false := by rw [HR2.out]; simp
        have e3 : ((f.code.length : Int) != (g.code.length : Int)) = false := by rw [HR2.out]; simp
        clear r1 r2
        have HCl := Lib.hid HCF.out.len
        have HCF := Lib.hid (HCF.out.bel HB6.out)
        have HCG := Lib.hid (HCG.out.bel HB6.out)
        go_wp2_with fail
        clear e1 e2 e3
        have XF := Lib.hid xf1
        have YG := Lib.hid yg1
        clear xf0 xf1 yg0 yg1
        go_loopw [8] (fun vi wi => ∃ j : Nat, vi = .int .i64 j ∧ j ≤ f.code.length ∧ Hid (f.code.take j = g.code.take j) ∧ Hid (Below wc.heap.size wc wi)) (fun vi _ => f.code.length - (intOf vi).toNat)
        case atStart => exact ⟨0, rfl, by omega, Lib.hid rfl, Lib.hid (Below.refl _ _)⟩
        case round =>
          obtain ⟨j, rfl, hj, HT2, HBi⟩ := hrel
          have xf1 := cell_bel XF.out HBi.out
          have yg1 := cell_bel YG.out HBi.out
          have HB8 := Lib.hid (belT HB7.out HBi.out)
          by_cases hlj : j < f.code.length
          · obtain ⟨x, hx⟩ : ∃ x, f.code[j]? = some x := ⟨f.code[j], List.getElem?_eq_getElem hlj⟩
            obtain ⟨y, hy⟩ : ∃ y, g.code[j]? = some y := ⟨g.code[j]'(by rw [← HR2.out]; exact hlj), List.getElem?_eq_getElem _⟩
            obtain ⟨b2, o2, c2, hv, _, p0, p1, p2, p3, p4⟩ := code_at (HCF.out.bel HBi.out) hx
            simp only [Value.slice.injEq, true_and] at hv
            obtain ⟨hac, hcc⟩ := hv
            subst hac hcc
            obtain ⟨b3, o3, c3, hv, _, q0, q1, q2, q3, q4⟩ := code_at (HCG.out.bel HBi.out) hy
            simp only [Value.slice.injEq, true_and] at hv
            obtain ⟨hac, hcc⟩ := hv
            subst hac hcc
            have hj0 : (0 : Int) ≤ (j : Int) := by omega
            have hj1 : (j : Int) < (f.code.length : Int) := by omega
            have hj2 : (j : Int) < (g.code.length : Int) := by have := HR2.out; omega
            have HX := Lib.hid hx
            have HY := Lib.hid hy
            clear hx hy
            go_wp2_with fail
            have xf1 := cell_regrown xf1
            have yg1 := cell_regrown yg1
            have p0 := cell_regrown p0
            have p1 := cell_regrown p1
            have p2 := cell_regrown p2
            have p3 := cell_regrown p3
            have p4 := cell_regrown p4
            have q0 := cell_regrown q0
            have q1 := cell_regrown q1
            have q2 := cell_regrown q2
            have q3 := cell_regrown q3
            have q4 := cell_regrown q4
            by_cases hxy : x = y
            · have HXY := Lib.hid hxy
              have hne : ∀ w, (binOp .neq 29 (.agg #[.int .i64 x.op, .int .i64 x.a, .int .i64 x.b, .int .i64 x.c, .int .u32 x.m]) (.agg #[.int .i64 y.op, .int .i64 y.a, .int .i64 y.b, .int .i64 y.c, .int .u32 y.m])).run Tryz.prog w = .ok (.bool false) w := fun w => by rw [ins_ne, hxy]; simp
              clear hxy
              refine wp_region_quiet_below (by kernel_rfl) (by kernel_rfl) ?_
              repeat (go_big_quiet_step (fail))
              refine wpQuiet_nil ?_
              intro _ hw'
              obtain ⟨⟨dq, osq⟩, hw''⟩ := hw'
              subst hw''
              clear hne xf1 yg1 p0 p1 p2 p3 p4 q0 q1 q2 q3 q4
              go_wp2_with fail
              exact ⟨⟨j + 1, by go_num, by omega, Lib.hid (take_same HT2.out HX.out HY.out HXY.out), Lib.hid (belT HBi.out (below_regrown wr dq osq))⟩, by simp [intOf]; omega⟩
            · have HQ := Lib.hid (show ¬ F = G from fun h => by
                have h1 := HKf.out
                rw [h, HKg.out] at h1
                have h2 := HX.out
                rw [← Option.some.inj h1, HY.out] at h2
                exact hxy (Option.some.inj h2).symm)
              have hne : ∀ w, (binOp .neq 29 (.agg #[.int .i64 x.op, .int .i64 x.a, .int .i64 x.b, .int .i64 x.c, .int .u32 x.m]) (.agg #[.int .i64 y.op, .int .i64 y.a, .int .i64 y.b, .int .i64 y.c, .int .u32 y.m])).run Tryz.prog w = .ok (.bool true) w := fun w => by
                rw [ins_ne]
                congr 2
                rw [Bool.not_eq_true', Bool.eq_false_iff]
                intro h
                simp only [Bool.and_eq_true, decide_eq_true_eq] at h
                exact hxy (by cases x; cases y; simp_all)
              clear hxy
              refine wp_region_quiet_below (by kernel_rfl) (by kernel_rfl) ?_
              repeat (go_big_quiet_step (fail))
              refine wpQuiet_nil ?_
              intro _ hw'
              obtain ⟨⟨dq, osq⟩, hw''⟩ := hw'
              subst hw''
              clear hne xf1 yg1 p0 p1 p2 p3 p4 q0 q1 q2 q3 q4
              go_wp2_with fail
              go_ret
              exact ⟨ret_bool (decide_eq_false (fun h => HQ.out (by injection h))).symm, belT HB.out (belT HB8.out (below_regrown wr dq osq))⟩
          · have hj2 : j = f.code.length := by omega
            subst hj2
            have HFG := Lib.hid (show f = g by
              have h1 := HT2.out
              rw [List.take_length, HR2.out, List.take_length] at h1
              have h2 := HR1.out
              cases f
              cases g
              simp_all)
            go_wp2_with fail
            exact ⟨⟨k + 1, by go_num, by omega, Lib.hid (take_same HT.out HKf.out HKg.out HFG.out), HB8⟩, by simp [intOf]; omega⟩
    · have hk2 : k = F.length := by omega
      subst hk2
      have HQ := Lib.hid (show F = G by
        have := HT.out
        rw [List.take_length, HLG.out, List.take_length] at this
        exact this)
      go_wp2_with fail
      go_ret
      exact ⟨ret_bool (by rw [HQ.out]; simp), HBw.out⟩
end Go.Proofs.YtfnfcngkaepnjaaGreatDoor

/- Layer 11: a program's text ends with a line. -/
namespace Go.Proofs.YtfnfcngkaepnjaaGreatDoor
set_option linter.unusedVariables false
set_option linter.unusedSimpArgs false
open Go Go.Proofs Go.RowKit Go.Sort

theorem joined_last (L : List ByteArray) (h : L ≠ []) : ∃ l, joinedF L = l ++ [10] := by
  obtain ⟨M, x, rfl⟩ : ∃ M x, L = M ++ [x] := ⟨L.dropLast, L.getLast h, (List.dropLast_concat_getLast h).symm⟩
  refine ⟨joinedF M ++ x.data.toList, ?_⟩
  unfold joinedF
  rw [List.flatMap_append]
  simp
theorem printS_last {P : ProgM} (hP : P.Fits) (h : rightP P = true) : 1 ≤ (printS P).size ∧ (printS P).size ≤ 10000000 ∧ ∀ h : (printS P).size - 1 < (printS P).size, (printS P)[(printS P).size - 1]'h = 10 := by
  have hsm := joined_small hP h
  obtain ⟨l, hl⟩ := joined_last (linesF P) (by unfold linesF headLines; simp)
  have hp : printS P = ⟨(l ++ [10]).toArray⟩ := by unfold printS; rw [if_pos h, hl]
  have hs : (⟨(l ++ [10]).toArray⟩ : ByteArray).size = l.length + 1 := by simp [ByteArray.size]
  rw [hl] at hsm
  simp only [List.length_append, List.length_cons, List.length_nil] at hsm
  rw [hp]
  refine ⟨by omega, by omega, fun hh => ?_⟩
  have hi : (⟨(l ++ [10]).toArray⟩ : ByteArray).size - 1 = l.length := by omega
  simp only [hi]
  show (l ++ [10]).toArray[l.length]'_ = 10
  simp
end Go.Proofs.YtfnfcngkaepnjaaGreatDoor
