/- Joined texts: Package program: may a program's numbers be?; Reference 09: may a program's numbers be? The statements' few.; Layer 11: few, where only the first 40 functions' sizes are bounded.; The wrap that hands on a bound of what is read; programs' sizes.; Bytes as strings. -/
import Derived.Test.YtfnfcngkaepnjaaGreatDoorQL16
import Derived.Test.YtfnfcngkaepnjaaGreatDoorQL14
import Derived.SizedLaws
import Derived.Test.YtfnfcngkaepnjaaGreatDoorQL7
import Derived.Laws.IdiomStrings
/- Package program: may a program's numbers be? -/
namespace Go.Proofs.YtfnfcngkaepnjaaGreatDoor
set_option linter.unusedVariables false
set_option linter.unusedSimpArgs false
open Go Go.Proofs Go.RowKit

theorem bnds_take (F : List FnM) (k : Nat) (f : FnM) (h : F[k]? = some f) : (F.take (k + 1)).flatMap bndsF = (F.take k).flatMap bndsF ++ bndsF f := by
  obtain ⟨h1, h2⟩ := List.getElem?_eq_some_iff.1 h
  rw [← List.take_append_getElem h1, List.flatMap_append, h2]
  simp

theorem flatMap_bnds (F : List FnM) : (F.flatMap bndsF).length = F.length * 2 := by
  induction F with
  | nil => rfl
  | cons f F ih => rw [List.flatMap_cons, List.length_append, ih, List.length_cons]; simp [bndsF]; omega

set_option maxRecDepth 100000 in
set_option maxHeartbeats 2000000 in
theorem pgNumbers_any (P : ProgM) (hP : P.funcs.length ≤ 100000) (v : Value) (w : World) (h : ArgP w v P) :
    Calls Tryz.prog 120 #[v] w fun e w' => e = .returned (.bool (numbersF P)) ∧ Below w.heap.size w w' := by
  obtain ⟨vf, rfl, hF⟩ := h
  obtain ⟨F, mu, rw0, gr⟩ := P
  dsimp only at hP hF ⊢
  obtain ⟨ao, c, rfl⟩ := hF.form
  have HF := Lib.hid hF
  clear hF
  have q0 := cell_new w #[.slice ao F.length c, .int .i64 mu, .int .i64 rw0, .int .i64 gr] 58 0
  have q1 := cell_new w #[.slice ao F.length c, .int .i64 mu, .int .i64 rw0, .int .i64 gr] 58 1
  have q2 := cell_new w #[.slice ao F.length c, .int .i64 mu, .int .i64 rw0, .int .i64 gr] 58 2
  have q3 := cell_new w #[.slice ao F.length c, .int .i64 mu, .int .i64 rw0, .int .i64 gr] 58 3
  go_enter Tryz.func120, Tryz.ntmps120
  have hO := OwnW.made (e := 248) rowB.len (w.alloc (.cells #[.slice ao F.length c, .int .i64 mu, .int .i64 rw0, .int .i64 gr] 58)) #[.int .i64 F.length, .int .i64 1, .int .i64 32, .int .i64 mu, .int .i64 0, .int .i64 64, .int .i64 rw0, .int .i64 0, .int .i64 64, .int .i64 gr, .int .i64 0, .int .i64 64] [⟨F.length, 1, 32⟩, ⟨mu, 0, 64⟩, ⟨rw0, 0, 64⟩, ⟨gr, 0, 64⟩] 4 rfl (by simp) (by simp)
  have HO := Lib.hid (hO.base_le (base' := w.heap.size) (by simp))
  simp only [World.size_alloc] at HO
  have HB := belA (bel1 (W := w) (.cells #[.slice ao F.length c, .int .i64 mu, .int .i64 rw0, .int .i64 gr] 58)) (.cells #[.int .i64 F.length, .int .i64 1, .int .i64 32, .int .i64 mu, .int .i64 0, .int .i64 64, .int .i64 rw0, .int .i64 0, .int .i64 64, .int .i64 gr, .int .i64 0, .int .i64 64] 248)
  clear hO q0 q1 q2 q3
  go_wp2_with fail
  go_loopw [3, 23] (fun vl vi wr => ∃ k : Nat, vi = .int .i64 k ∧ k ≤ F.length ∧ Hid (OwnW 248 3 encB w.heap.size vl ([⟨F.length, 1, 32⟩, ⟨mu, 0, 64⟩, ⟨rw0, 0, 64⟩, ⟨gr, 0, 64⟩] ++ (F.take k).flatMap bndsF) wr) ∧ Below w.heap.size w wr) (fun _ vi _ => F.length - (intOf vi).toNat)
  case atStart => exact ⟨0, rfl, by omega, by simpa using HO, HB⟩
  case round =>
    clear HO HB
    obtain ⟨k, rfl, hk, HO, hB⟩ := hrel
    obtain ⟨al, cl, hal⟩ := HO.out.form
    rw [hal] at HO ⊢
    clear hal
    by_cases hlt : k < F.length
    · obtain ⟨f, hf⟩ : ∃ f, F[k]? = some f := ⟨F[k], List.getElem?_eq_getElem hlt⟩
      obtain ⟨b, o, c', vc, hv, hc', x0, x1, hcd⟩ := (HF.out.bel hB).at_ hf
      simp only [Value.slice.injEq, true_and] at hv
      obtain ⟨hao, hcc⟩ := hv
      subst hao hcc
      obtain ⟨ac, cc, rfl⟩ := hcd.form
      have HT := Lib.hid (bnds_take F k f hf)
      have hlen := Lib.hid (show ([⟨F.length, 1, 32⟩, ⟨mu, 0, 64⟩, ⟨rw0, 0, 64⟩, ⟨gr, 0, 64⟩] ++ (F.take k).flatMap bndsF : List BndM).length ≤ 300000 by
        rw [List.length_append, flatMap_bnds, List.length_take, Nat.min_eq_left (by omega)]; simp; omega)
      have hTL := Lib.hid (show ([⟨F.length, 1, 32⟩, ⟨mu, 0, 64⟩, ⟨rw0, 0, 64⟩, ⟨gr, 0, 64⟩] ++ (F.take (k + 1)).flatMap bndsF : List BndM) = ([⟨F.length, 1, 32⟩, ⟨mu, 0, 64⟩, ⟨rw0, 0, 64⟩, ⟨gr, 0, 64⟩] ++ (F.take k).flatMap bndsF : List BndM) ++ [⟨f.regs, 1, 16⟩, ⟨f.code.length, 1, 512⟩] by rw [HT.out, List.append_assoc]; rfl)
      generalize ([⟨F.length, 1, 32⟩, ⟨mu, 0, 64⟩, ⟨rw0, 0, 64⟩, ⟨gr, 0, 64⟩] ++ (F.take k).flatMap bndsF : List BndM) = LB at HO hlen hTL ⊢
      have hb1 := belA (bel1 (W := wr) (.cells #[.int .i64 f.regs, .slice ac f.code.length cc] 114)) (.cells #[.int .i64 f.regs, .int .i64 1, .int .i64 16, .int .i64 f.code.length, .int .i64 1, .int .i64 512] 248)
      have hm := made_has rowB.len (wr.alloc (.cells #[.int .i64 f.regs, .slice ac f.code.length cc] 114)) #[.int .i64 f.regs, .int .i64 1, .int .i64 16, .int .i64 f.code.length, .int .i64 1, .int .i64 512] [⟨f.regs, 1, 16⟩, ⟨f.code.length, 1, 512⟩] 248 (by simp)
      simp only [World.size_alloc] at hm
      clear hcd hf hc' HT
      go_wp2_with (at_builtin; refine append_L rowB rfl _ _ rfl rfl (HO.out.bel hb1) (wr.heap.size + 1) 2 2 [⟨f.regs, 1, 16⟩, ⟨f.code.length, 1, 512⟩] rfl rfl hm (by have := hlen.out; simp; omega) (Nat.le_trans hB.size hb1.size) ?_; intro vo wo hO1 hg1 hb2)
      exact ⟨⟨k + 1, by go_num, by omega, Lib.hid (by rw [hTL.out]; exact hO1), (hB.trans (hb1.mono hB.size)).trans hb2⟩, by simp [intOf]; omega⟩
    · have hk2 : k = F.length := by omega
      subst hk2
      have HQ := Lib.hid (show numbersF ⟨F, mu, rw0, gr⟩ = ([⟨F.length, 1, 32⟩, ⟨mu, 0, 64⟩, ⟨rw0, 0, 64⟩, ⟨gr, 0, 64⟩] ++ (F.take F.length).flatMap bndsF : List BndM).all inB from by rw [List.take_length]; rfl)
      have hlen : ([⟨F.length, 1, 32⟩, ⟨mu, 0, 64⟩, ⟨rw0, 0, 64⟩, ⟨gr, 0, 64⟩] ++ (F.take F.length).flatMap bndsF : List BndM).length ≤ 1000000 := by
        rw [List.length_append, flatMap_bnds, List.length_take]; simp; omega
      have CW := Lib.hid (within_any _ _ hlen wr (HO.out.arg rowB.len))
      clear HO
      generalize ([⟨F.length, 1, 32⟩, ⟨mu, 0, 64⟩, ⟨rw0, 0, 64⟩, ⟨gr, 0, 64⟩] ++ (F.take F.length).flatMap bndsF : List BndM) = LB at CW HQ ⊢
      generalize LB.all inB = q at CW HQ ⊢
      go_wp2_with (refine CW.out.mono ?_; rintro e w1 ⟨rfl, hb1⟩)
      go_ret
      exact ⟨by rw [HQ.out]; rfl, hB.trans (hb1.mono hB.size)⟩
end Go.Proofs.YtfnfcngkaepnjaaGreatDoor

/- Reference 09: may a program's numbers be? The statements' few. -/
namespace Go.Proofs.YtfnfcngkaepnjaaGreatDoor
set_option linter.unusedVariables false
set_option linter.unusedSimpArgs false
open Go Go.Proofs Go.RowKit

theorem numbersF_iff (P : ProgM) : numbersF P = true ↔ ((1 ≤ P.funcs.length ∧ P.funcs.length ≤ 32) ∧ (0 ≤ P.mu ∧ P.mu ≤ 64) ∧ (0 ≤ P.rw ∧ P.rw ≤ 64) ∧ (0 ≤ P.gr ∧ P.gr ≤ 64)) ∧ ∀ f ∈ P.funcs, (1 ≤ f.regs ∧ f.regs ≤ 16) ∧ 1 ≤ f.code.length ∧ f.code.length ≤ 512 := by
  have e : numbersF P = (([⟨P.funcs.length, 1, 32⟩, ⟨P.mu, 0, 64⟩, ⟨P.rw, 0, 64⟩, ⟨P.gr, 0, 64⟩] : List BndM).all inB && P.funcs.all fun f => (bndsF f).all inB) := by
    unfold numbersF bndsP
    rw [List.all_append, List.all_flatMap]
  rw [e, Bool.and_eq_true]
  refine and_congr ?_ ?_
  · simp only [List.all_cons, List.all_nil, inB, Bool.and_eq_true, decide_eq_true_eq, Bool.and_true, and_true]
    omega
  · rw [List.all_eq_true]
    refine forall_congr' fun f => forall_congr' fun _ => ?_
    simp only [bndsF, List.all_cons, List.all_nil, inB, Bool.and_eq_true, decide_eq_true_eq, Bool.and_true, and_true]
    omega
theorem numbersF_no {P : ProgM} (h : ¬ ((1 ≤ P.funcs.length ∧ P.funcs.length ≤ 32) ∧ (0 ≤ P.mu ∧ P.mu ≤ 64) ∧ (0 ≤ P.rw ∧ P.rw ≤ 64) ∧ (0 ≤ P.gr ∧ P.gr ≤ 64))) : numbersF P = false := by
  rw [Bool.eq_false_iff]
  intro h1
  exact h ((numbersF_iff P).1 h1).1

/-- The sum that few makes. -/
def fewSum (F : List FnM) : Nat := (F.map fun f => f.code.length).sum
def fewF (P : ProgM) : Bool := decide (P.funcs.length ≤ 40) && decide (fewSum (P.funcs.take 40) ≤ 600)
theorem fewSum_take (F : List FnM) (k : Nat) (f : FnM) (h : F[k]? = some f) : fewSum (F.take (k + 1)) = fewSum (F.take k) + f.code.length := by
  obtain ⟨h1, h2⟩ := List.getElem?_eq_some_iff.1 h
  unfold fewSum
  rw [← List.take_append_getElem h1, List.map_append, List.sum_append, h2]
  simp
theorem fewF_le {F : List FnM} {mu rw0 gr : Int} (h : F.length ≤ 40) : fewF ⟨F, mu, rw0, gr⟩ = decide (fewSum F ≤ 600) := by
  unfold fewF
  dsimp only
  rw [List.take_of_length_le h, decide_eq_true h, Bool.true_and]
theorem fewSum_le (F : List FnM) (k : Nat) : fewSum (F.take k) ≤ fewSum F := by
  conv => rhs; rw [← List.take_append_drop k F]
  unfold fewSum
  rw [List.map_append, List.sum_append]
  omega

theorem numbersF_fn {P : ProgM} {k : Nat} {f : FnM} (hf : P.funcs[k]? = some f) (h : ¬ ((1 ≤ f.regs ∧ f.regs ≤ 16) ∧ 1 ≤ f.code.length ∧ f.code.length ≤ 512)) : numbersF P = false := by
  rw [Bool.eq_false_iff]
  intro h1
  exact h (((numbersF_iff P).1 h1).2 f (List.mem_of_getElem? hf))
theorem take_ok {q : FnM → Prop} {F : List FnM} {k : Nat} {f : FnM} (h : ∀ f ∈ F.take k, q f) (hf : F[k]? = some f) (hq : q f) : ∀ f ∈ F.take (k + 1), q f := by
  obtain ⟨h1, h2⟩ := List.getElem?_eq_some_iff.1 hf
  intro g hg
  rw [← List.take_append_getElem h1, List.mem_append] at hg
  rcases hg with hg | hg
  · exact h g hg
  · rw [List.mem_singleton.1 hg, h2]; exact hq

set_option maxRecDepth 100000 in
set_option maxHeartbeats 4000000 in
theorem rNumbers_any (P : ProgM) (v : Value) (w : World) (h : ArgP w v P) :
    Calls Tryz.prog 78 #[v] w fun e w' => e = .returned (.bool (numbersF P)) ∧ Below w.heap.size w w' := by
  obtain ⟨vf, rfl, hF⟩ := h
  obtain ⟨F, mu, rw0, gr⟩ := P
  dsimp only at hF ⊢
  obtain ⟨ao, c, rfl⟩ := hF.form
  have HF := Lib.hid hF
  have HM := Lib.hid hF.len
  clear hF
  have HB := bel1 (W := w) (.cells #[.slice ao F.length c, .int .i64 mu, .int .i64 rw0, .int .i64 gr] 58)
  have p0 := cell_new w #[.slice ao F.length c, .int .i64 mu, .int .i64 rw0, .int .i64 gr] 58 0
  have HF := Lib.hid (HF.out.bel HB)
  by_cases c1 : (F.length : Int) < 1
  · go_enter Tryz.func78, Tryz.ntmps78
    have : F = [] := List.eq_nil_of_length_eq_zero (by omega)
    subst this
    go_wp2_with fail
    go_ret
    exact ⟨ret_bool (numbersF_no (by dsimp only; omega)).symm, HB⟩
  by_cases c2 : (32 : Int) < F.length
  · go_enter Tryz.func78, Tryz.ntmps78
    go_wp2_with fail
    go_ret
    exact ⟨ret_bool (numbersF_no (by dsimp only; omega)).symm, HB⟩
  by_cases c3 : mu < 0
  · go_enter Tryz.func78, Tryz.ntmps78
    go_wp2_with fail
    go_ret
    exact ⟨ret_bool (numbersF_no (by dsimp only; omega)).symm, HB⟩
  by_cases c4 : 64 < mu
  · go_enter Tryz.func78, Tryz.ntmps78
    go_wp2_with fail
    go_ret
    exact ⟨ret_bool (numbersF_no (by dsimp only; omega)).symm, HB⟩
  by_cases c5 : rw0 < 0
  · go_enter Tryz.func78, Tryz.ntmps78
    go_wp2_with fail
    go_ret
    exact ⟨ret_bool (numbersF_no (by dsimp only; omega)).symm, HB⟩
  by_cases c6 : 64 < rw0
  · go_enter Tryz.func78, Tryz.ntmps78
    go_wp2_with fail
    go_ret
    exact ⟨ret_bool (numbersF_no (by dsimp only; omega)).symm, HB⟩
  by_cases c7 : gr < 0
  · go_enter Tryz.func78, Tryz.ntmps78
    go_wp2_with fail
    go_ret
    exact ⟨ret_bool (numbersF_no (by dsimp only; omega)).symm, HB⟩
  by_cases c8 : 64 < gr
  · go_enter Tryz.func78, Tryz.ntmps78
    go_wp2_with fail
    go_ret
    exact ⟨ret_bool (numbersF_no (by dsimp only; omega)).symm, HB⟩
  go_enter Tryz.func78, Tryz.ntmps78
  have HK := Lib.hid (show (1 ≤ F.length ∧ F.length ≤ 32) ∧ (0 ≤ mu ∧ mu ≤ 64) ∧ (0 ≤ rw0 ∧ rw0 ≤ 64) ∧ (0 ≤ gr ∧ gr ≤ 64) by omega)
  have hl32 : F.length ≤ 32 := by omega
  go_wp2_with fail
  clear c1 c2 c3 c4 c5 c6 c7 c8 HM
  generalize w.alloc _ = W at HB p0 HF ⊢
  go_loopw [3] (fun vi wr => ∃ k : Nat, vi = .int .i64 k ∧ k ≤ F.length ∧ Hid (∀ f ∈ F.take k, (1 ≤ f.regs ∧ f.regs ≤ 16) ∧ 1 ≤ f.code.length ∧ f.code.length ≤ 512) ∧ Hid (Below W.heap.size W wr)) (fun vi _ => F.length - (intOf vi).toNat)
  case atStart => exact ⟨0, rfl, by omega, Lib.hid (fun f hf => by simp at hf), Lib.hid (Below.refl _ _)⟩
  case round =>
    obtain ⟨k, rfl, hk, HN, HBr⟩ := hrel
    have p1 := cell_bel p0 HBr.out
    by_cases hlt : k < F.length
    · obtain ⟨f, hf⟩ : ∃ f, F[k]? = some f := ⟨F[k], List.getElem?_eq_getElem hlt⟩
      obtain ⟨b, o, c', vc, hv, hc', x0, x1, hcd⟩ := (HF.out.bel HBr.out).at_ hf
      simp only [Value.slice.injEq, true_and] at hv
      obtain ⟨hao, hcc⟩ := hv
      subst hao hcc
      obtain ⟨ac, cc, rfl⟩ := hcd.form
      have HT := Lib.hid (fun h => numbersF_fn (P := ⟨F, mu, rw0, gr⟩) (k := k) hf h)
      have HX := Lib.hid (fun h => take_ok HN.out hf h)
      have HB2 := Lib.hid (HB.trans (HBr.out.mono HB.size))
      have HB1 := Lib.hid (belA HB2.out (.cells #[.int .i64 f.regs, .slice ac f.code.length cc] 114))
      clear hcd hf hc' p0 hk
      by_cases d1 : f.regs < 1
      · go_wp2_with fail
        go_ret
        exact ⟨ret_bool (HT.out (by omega)).symm, HB1.out⟩
      by_cases d2 : 16 < f.regs
      · go_wp2_with fail
        go_ret
        exact ⟨ret_bool (HT.out (by omega)).symm, HB1.out⟩
      by_cases d3 : (f.code.length : Int) < 1
      · have d4 : f.code = [] := List.eq_nil_of_length_eq_zero (by omega)
        have d5 : f.code.length = 0 := by rw [d4]; rfl
        have h9 := HB1.out
        rw [d5] at h9
        have HB1 := Lib.hid h9
        clear h9
        go_wp2_with fail
        go_ret
        exact ⟨ret_bool (HT.out (by omega)).symm, HB1.out⟩
      by_cases d4 : (512 : Int) < f.code.length
      · go_wp2_with fail
        go_ret
        exact ⟨ret_bool (HT.out (by omega)).symm, HB1.out⟩
      have HX := Lib.hid (HX.out (by omega))
      have d5 : ¬ f.code = [] := fun h => by rw [h] at d3; simp at d3
      go_wp2_with fail
      exact ⟨⟨k + 1, by go_num, by omega, HX, Lib.hid (belA HBr.out _)⟩, by simp [intOf]; omega⟩
    · have hk2 : k = F.length := by omega
      subst hk2
      have HN := Lib.hid (show ∀ f ∈ F, (1 ≤ f.regs ∧ f.regs ≤ 16) ∧ 1 ≤ f.code.length ∧ f.code.length ≤ 512 by have := HN.out; rwa [List.take_length] at this)
      have HB2 := Lib.hid (HB.trans (HBr.out.mono HB.size))
      go_wp2_with fail
      go_ret
      exact ⟨ret_bool ((numbersF_iff ⟨F, mu, rw0, gr⟩).2 ⟨HK.out, HN.out⟩).symm, HB2.out⟩
end Go.Proofs.YtfnfcngkaepnjaaGreatDoor

/- Layer 11: few, where only the first 40 functions' sizes are bounded. -/
namespace Go.Proofs.YtfnfcngkaepnjaaGreatDoor
set_option linter.unusedVariables false
set_option linter.unusedSimpArgs false
open Go Go.Proofs Go.RowKit

theorem fewSum_le40 (F : List FnM) (k : Nat) (h : k ≤ 40) : fewSum (F.take k) ≤ fewSum (F.take 40) := by
  have := fewSum_le (F.take 40) k
  rwa [List.take_take, Nat.min_eq_left h] at this
theorem fewSum_bound (F : List FnM) (h : ∀ f ∈ F, f.code.length ≤ 140737488355328) : fewSum (F.take 40) ≤ 4611686018427387904 := by
  have : ∀ G : List FnM, (∀ f ∈ G, f.code.length ≤ 140737488355328) → fewSum G ≤ 140737488355328 * G.length := by
    intro G
    induction G with
    | nil => simp [fewSum]
    | cons g G ih =>
      intro hG
      have h1 := hG g (by simp)
      have h2 := ih (fun f hf => hG f (by simp [hf]))
      unfold fewSum at h2 ⊢
      simp only [List.map_cons, List.sum_cons, List.length_cons]
      omega
  have h1 := this (F.take 40) (fun f hf => h f (List.mem_of_mem_take hf))
  have h2 : (F.take 40).length ≤ 40 := by rw [List.length_take]; omega
  omega

set_option maxRecDepth 100000 in
set_option maxHeartbeats 2000000 in
theorem few2_any (P : ProgM) (hS : fewSum (P.funcs.take 40) ≤ 4611686018427387904) (v : Value) (w : World) (h : ArgP w v P) :
    Calls Tryz.prog 23 #[v] w fun e w' => e = .returned (.bool (fewF P)) ∧ Below w.heap.size w w' := by
  obtain ⟨vf, rfl, hF⟩ := h
  obtain ⟨F, mu, rw0, gr⟩ := P
  dsimp only at hF hS ⊢
  obtain ⟨ao, c, rfl⟩ := hF.form
  have HF := Lib.hid hF
  have HM := Lib.hid hF.len
  clear hF
  have HB := bel1 (W := w) (.cells #[.slice ao F.length c, .int .i64 mu, .int .i64 rw0, .int .i64 gr] 58)
  have p0 := cell_new w #[.slice ao F.length c, .int .i64 mu, .int .i64 rw0, .int .i64 gr] 58 0
  have HF := Lib.hid (HF.out.bel HB)
  go_enter Tryz.func23, Tryz.ntmps23
  go_wp2_with fail
  generalize w.alloc _ = W at HB p0 HF ⊢
  go_loopw [3, 4] (fun vn vi wr => ∃ k n : Nat, vi = .int .i64 k ∧ vn = .int .i64 n ∧ k ≤ F.length ∧ k ≤ 40 ∧ Hid (n = fewSum (F.take k)) ∧ wr = W) (fun _ vi _ => F.length - (intOf vi).toNat)
  case atStart => exact ⟨0, 0, rfl, rfl, by omega, by omega, Lib.hid rfl, rfl⟩
  case round =>
    obtain ⟨k, n, rfl, rfl, hk, hk4, HN, rfl⟩ := hrel
    have hn : n ≤ 4611686018427387904 := by have := HN.out; have := fewSum_le40 F k hk4; omega
    by_cases hlt : k < F.length
    · by_cases h40 : k < 40
      · obtain ⟨f, hf⟩ : ∃ f, F[k]? = some f := ⟨F[k], List.getElem?_eq_getElem hlt⟩
        obtain ⟨b, o, c', vc, hv, hc', x0, x1, hcd⟩ := HF.out.at_ hf
        simp only [Value.slice.injEq, true_and] at hv
        obtain ⟨hao, hcc⟩ := hv
        subst hao hcc
        obtain ⟨ac, cc, rfl⟩ := hcd.form
        have HT := Lib.hid (fewSum_take F k f hf)
        have hbig : n + f.code.length ≤ 4611686018427387904 := by have := HN.out; have := HT.out; have := fewSum_le40 F (k + 1) (by omega); omega
        clear hcd hf hc'
        go_wp2_with fail
        exact ⟨⟨k + 1, n + f.code.length, by go_num, by rw [Int.natCast_add], by omega, by omega, Lib.hid (by have h1 := HT.out; have h2 := HN.out; omega), trivial⟩, by simp [intOf]; omega⟩
      · have hk40 : k = 40 := by omega
        subst hk40
        have hle : ¬ F.length ≤ 40 := by omega
        go_wp2_with fail
        go_ret
        exact ⟨ret_bool (by unfold fewF; rw [decide_eq_false hle, Bool.false_and]), HB⟩
    · have hk2 : k = F.length := by omega
      subst hk2
      have h40 : F.length ≤ 40 := by omega
      have HN := Lib.hid (show n = fewSum F by have := HN.out; rwa [List.take_length] at this)
      go_wp2_with fail
      go_ret
      exact ⟨ret_bool (by rw [fewF_le h40, ← HN.out]; rw [Bool.eq_iff_iff]; simp <;> omega), HB⟩
end Go.Proofs.YtfnfcngkaepnjaaGreatDoor

/- The wrap that hands on a bound of what is read; programs' sizes. -/
namespace Go.Proofs.YtfnfcngkaepnjaaGreatDoor
set_option linter.unusedVariables false
open Go Go.Proofs Go.ChangeShapes Go.WideShapes Go.ChangeAt Go.RowKit Go.Joins

/-- The wrap of a row that lists variables; the world's shape is handed on, and what it reads is of bounded size. -/
theorem handed_sized {H : Type} {enc : TypeId × Value → H} {a : Assume} {C : Checked} {os : Os} {f : FuncId} {fn : Func} {s : ChangeSpec} {conds : List PathCond} {apart fresh handsOn again : Bool} {X : World → Array Value → Prop}
    (hX : ∀ (w w' : World) (args : Array Value), w.heap = w'.heap → X w args → X w' args)
    (own : ownKnob C.prog.godebug = none) (started : os.Started) (noInit : C.prog.inits.idxOf? f = none) (hfn : C.prog.funcs[f]? = some fn)
    (witness : ∃ (w : World) (tape : Tape) (i : Input), w.os = os ∧ (w.forCall tape i).Shaped C.prog ∧ i.vars = [] ∧ Input.okWide C.prog (w.forCall tape i) .any w.heap.size f i ∧
      ((s.pre enc C.prog fn conds apart (w.forCall tape i).memory i.args ∧ X (w.forCall tape i).memory i.args) ∧ sizedMet enc C.prog fn (OpenSpec.ofChange s) apart (w.forCall tape i).memory i.args) ∧ a.holds C.prog (lone (Frame.enter C.prog f i.args .normal) [] (w.forCall tape i)))
    (contract : ∀ (W : World) (base : Nat) (args : Array Value) (ds gs : List (DataW H)) (before : List MemPlace),
      (∀ (j : Nat) t v, fn.params[j]? = some t → args[j]? = some v → Value.okWide C.prog W .any base t v) →
      DataW.Whole enc C.prog fn.params.toList s.vars apart W args.toList ds gs before →
      conds.all (PathCond.test C.prog ⟨fn.params.toList, ds, s.plain.varTypes C.prog, gs⟩) = true →
      W.ShapedOpen C.prog → sizedMet enc C.prog fn (OpenSpec.ofChange s) apart W args → X W args →
      a.holds C.prog (lone (Frame.enter C.prog f args .normal) [] W) →
      Calls C.prog f args W fun e W' => ∃ v, e = .returned v ∧ s.post enc C.prog fn apart fresh handsOn again W args v W') :
    ReturnsInHanded a C os f .any (fun w args => (s.pre enc C.prog fn conds apart w args ∧ X w args) ∧ sizedMet enc C.prog fn (OpenSpec.ofChange s) apart w args) (s.post enc C.prog fn apart fresh handsOn again) := by
  refine returnsInHanded_of_calls own started noInit witness ?_
  intro w tape i _ hsh _ hok hpre hholds
  obtain ⟨_, _, _, fn', hfn', _, _, _, _, hval⟩ := hok
  obtain rfl : fn' = fn := Option.some.inj (hfn'.symm.trans hfn)
  obtain ⟨⟨⟨ds, gs, before, hw, hc⟩, hx⟩, hz⟩ := hpre
  have hw' := DataW.Whole.of_heap (w' := w.forCall tape i) (by rfl) hw
  refine (contract (w.forCall tape i) w.heap.size i.args ds gs before hval hw' hc hsh (by
    obtain ⟨hpl, ds2, gs2, bf2, hw2, hwt⟩ := hz
    exact ⟨hpl, ds2, gs2, bf2, DataW.Whole.of_heap (w' := w.forCall tape i) (by rfl) hw2, hwt⟩) (hX _ _ _ (by rfl) hx) hholds).mono fun e W' ⟨v, he, hp⟩ => ?_
  subst he
  exact ChangeSpec.post_blind hp


theorem prog_sized {H : Type} {ts : List TypeId} {ds : List (DataW H)} (hwt : (DataW.weightsEach Tryz.prog ts ds).all (· ≤ reachBytes) = true) {j : Nat} {d : DataW H} (ht : ts[j]? = some 58) (hd : ds[j]? = some d) {P : ProgM}
    (hb : ∀ f ∈ P.funcs, f.code.length = 0 ∨ ∃ m ∈ d.weights Tryz.prog 58, f.code.length ≤ m) : fewSum (P.funcs.take 40) ≤ 4611686018427387904 :=
  fewSum_bound _ fun f hf => by
    rcases hb f hf with h | ⟨m, hm, hle⟩
    · omega
    · have h1 := List.all_eq_true.1 hwt m (DataW.weights_mem_each ht hd m hm)
      have h2 : m ≤ reachBytes := by simpa using h1
      unfold reachBytes at h2
      omega
end Go.Proofs.YtfnfcngkaepnjaaGreatDoor

/- Bytes as strings. -/
namespace Go.Proofs.YtfnfcngkaepnjaaGreatDoor
set_option linter.unusedVariables false
open Go Go.Proofs Go.RowKit

end Go.Proofs.YtfnfcngkaepnjaaGreatDoor
