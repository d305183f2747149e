/- Joined texts: Programs: the first place that may not be; reference 09's Wrong, Right. -/
import Derived.Test.YtfnfcngkaepnjaaGreatDoorQL22
/- Programs: the first place that may not be; reference 09's Wrong, Right. -/
namespace Go.Proofs.YtfnfcngkaepnjaaGreatDoor
set_option linter.unusedVariables false
set_option linter.unusedSimpArgs false
open Go Go.Proofs Go.RowKit

/-- All places ahead of one are fine. -/
def Before (F : List FnM) (f pc : Nat) : Prop := ∀ (f' pc' : Nat) (fn : FnM) (x : InsM), F[f']? = some fn → fn.code[pc']? = some x → (f' < f ∨ (f' = f ∧ pc' < pc)) → fineF F fn pc' x = true
/-- The first place that is not. -/
def WrongAt (F : List FnM) (f pc : Nat) : Prop := (∃ fn x, F[f]? = some fn ∧ fn.code[pc]? = some x ∧ fineF F fn pc x = false) ∧ Before F f pc
def AllFine (F : List FnM) : Prop := ∀ (f' pc' : Nat) (fn : FnM) (x : InsM), F[f']? = some fn → fn.code[pc']? = some x → fineF F fn pc' x = true
open Classical in
noncomputable def wrongF (F : List FnM) : Option (Nat × Nat) := if h : ∃ q : Nat × Nat, WrongAt F q.1 q.2 then some (Classical.choose h) else none
theorem WrongAt.uniq {F : List FnM} {f pc f' pc' : Nat} (h : WrongAt F f pc) (h' : WrongAt F f' pc') : f = f' ∧ pc = pc' := by
  obtain ⟨⟨fn, x, h1, h2, h3⟩, h4⟩ := h
  obtain ⟨⟨fn', x', h1', h2', h3'⟩, h4'⟩ := h'
  rcases Nat.lt_trichotomy f f' with hl | rfl | hl
  · rw [h4' f pc fn x h1 h2 (Or.inl hl)] at h3; cases h3
  · rcases Nat.lt_trichotomy pc pc' with hl | rfl | hl
    · rw [h4' f pc fn x h1 h2 (Or.inr ⟨rfl, hl⟩)] at h3; cases h3
    · exact ⟨rfl, rfl⟩
    · rw [h4 f pc' fn' x' h1' h2' (Or.inr ⟨rfl, hl⟩)] at h3'; cases h3'
  · rw [h4 f' pc' fn' x' h1' h2' (Or.inl hl)] at h3'; cases h3'
theorem wrongF_some {F : List FnM} {f pc : Nat} (h : WrongAt F f pc) : wrongF F = some (f, pc) := by
  have hx : ∃ q : Nat × Nat, WrongAt F q.1 q.2 := ⟨(f, pc), h⟩
  unfold wrongF
  rw [dif_pos hx]
  have := Classical.choose_spec hx
  generalize Classical.choose hx = q at this
  obtain ⟨rfl, rfl⟩ := this.uniq h
  rfl
theorem wrongF_none {F : List FnM} (h : AllFine F) : wrongF F = none := by
  unfold wrongF
  rw [dif_neg]
  rintro ⟨q, ⟨fn, x, h1, h2, h3⟩, _⟩
  rw [h _ _ fn x h1 h2] at h3
  cases h3
/-- May a program be? -/
noncomputable def rightP (P : ProgM) : Bool := numbersF P && (wrongF P.funcs).isNone
/-- What Wrong tells: a site, and whether there is one. -/
noncomputable def wrongP (P : ProgM) : Option (Nat × Nat) := if numbersF P then wrongF P.funcs else none
def wrongV : Option (Nat × Nat) → Value
  | none => .tuple #[.agg #[.int .i64 0, .int .i64 0], .bool false]
  | some (f, pc) => .tuple #[.agg #[.int .i64 f, .int .i64 pc], .bool true]
theorem before_start (F : List FnM) : Before F 0 0 := fun f' pc' fn x h1 h2 h3 => by omega
theorem Before.next {F : List FnM} {f pc : Nat} (h : Before F f pc) {fn : FnM} {x : InsM} (h1 : F[f]? = some fn) (h2 : fn.code[pc]? = some x) (h3 : fineF F fn pc x = true) : Before F f (pc + 1) := by
  intro f' pc' fn' x' e1 e2 e3
  by_cases hq : f' = f ∧ pc' = pc
  · obtain ⟨rfl, rfl⟩ := hq
    rw [h1] at e1
    cases e1
    rw [h2] at e2
    cases e2
    exact h3
  · exact h f' pc' fn' x' e1 e2 (by omega)
theorem Before.row {F : List FnM} {f : Nat} {fn : FnM} (h : Before F f fn.code.length) (h1 : F[f]? = some fn) : Before F (f + 1) 0 := by
  intro f' pc' fn' x' e1 e2 e3
  by_cases hq : f' = f
  · subst hq
    rw [h1] at e1
    cases e1
    exact h f' pc' fn x' h1 e2 (Or.inr ⟨rfl, (List.getElem?_eq_some_iff.1 e2).1⟩)
  · exact h f' pc' fn' x' e1 e2 (by omega)
theorem Before.all {F : List FnM} (h : Before F F.length 0) : AllFine F := fun f' pc' fn x e1 e2 => h f' pc' fn x e1 e2 (Or.inl (List.getElem?_eq_some_iff.1 e1).1)

/-- A program's block. -/
structure PrgB (B : Nat) (vf : Value) (P : ProgM) (w : World) : Prop where
  c0 : w.cell? ⟨B, 0, none⟩ = some vf
  c1 : w.cell? ⟨B, 1, none⟩ = some (.int .i64 P.mu)
  c2 : w.cell? ⟨B, 2, none⟩ = some (.int .i64 P.rw)
  c3 : w.cell? ⟨B, 3, none⟩ = some (.int .i64 P.gr)
  fns : ArgF w vf P.funcs
theorem PrgB.bel {B : Nat} {vf : Value} {P : ProgM} {w w' : World} (h : PrgB B vf P w) (hb : Below w.heap.size w w') : PrgB B vf P w' :=
  ⟨cell_bel h.c0 hb, cell_bel h.c1 hb, cell_bel h.c2 hb, cell_bel h.c3 hb, h.fns.bel hb⟩
theorem PrgB.new {vf : Value} {P : ProgM} (w : World) (t : TypeId) (h : ArgF w vf P.funcs) : PrgB w.heap.size vf P (w.alloc (.cells #[vf, .int .i64 P.mu, .int .i64 P.rw, .int .i64 P.gr] t)) :=
  ⟨cell_new w _ t 0, cell_new w _ t 1, cell_new w _ t 2, cell_new w _ t 3, h.bel (bel1 _)⟩
theorem PrgB.arg {B : Nat} {vf : Value} {P : ProgM} {w : World} (h : PrgB B vf P w) : ArgP w (progV vf P.mu P.rw P.gr) P := ⟨vf, rfl, h.fns⟩
/-- A site's block, two cells that may be written. -/
structure SitB (B : Nat) (w : World) : Prop where
  c0 : ∃ v, w.cell? ⟨B, 0, none⟩ = some v
  c1 : ∃ v, w.cell? ⟨B, 1, none⟩ = some v
  f0 : w.frozen? ⟨B, 0, none⟩ = false
  f1 : w.frozen? ⟨B, 1, none⟩ = false
theorem SitB.bel {B : Nat} {w w' : World} (h : SitB B w) (hb : Below w.heap.size w w') : SitB B w' := by
  obtain ⟨⟨v0, h0⟩, ⟨v1, h1⟩, f0, f1⟩ := h
  exact ⟨⟨v0, cell_bel h0 hb⟩, ⟨v1, cell_bel h1 hb⟩, froz_bel h0 f0 hb, froz_bel h1 f1 hb⟩
theorem SitB.new (w : World) (v0 v1 : Value) (t : TypeId) : SitB w.heap.size (w.alloc (.cells #[v0, v1] t)) :=
  ⟨⟨_, cell_new w _ t 0⟩, ⟨_, cell_new w _ t 1⟩, World.frozen?_alloc_new _ _ _ _, World.frozen?_alloc_new _ _ _ _⟩

set_option maxRecDepth 100000 in
set_option maxHeartbeats 4000000 in
theorem rWrong_any (P : ProgM) (hP : P.Fits) (v : Value) (w : World) (h : ArgP w v P) :
    Calls Tryz.prog 76 #[v] w fun e w' => e = .returned (wrongV (wrongP P)) ∧ Below w.heap.size w w' := by
  have CN := Lib.hid fun v W h => rNumbers_any P v W h
  obtain ⟨vf, rfl, hF⟩ := h
  have HPG := Lib.hid ((PrgB.new w 58 hF).bel (bel1 (.cells #[.int .i64 0, .int .i64 0] 43)))
  have HST := Lib.hid (SitB.new (w.alloc (.cells #[vf, .int .i64 P.mu, .int .i64 P.rw, .int .i64 P.gr] 58)) (.int .i64 0) (.int .i64 0) 43)
  rw [World.size_alloc] at HST
  have HB := Lib.hid (belA (bel1 (W := w) (.cells #[vf, .int .i64 P.mu, .int .i64 P.rw, .int .i64 P.gr] 58)) (.cells #[.int .i64 0, .int .i64 0] 43))
  have c9 : ∀ (v0 v1 : Value) (W : World), SitB (w.heap.size + 1) W → ((W.setCell ⟨w.heap.size + 1, 0, none⟩ v0).setCell ⟨w.heap.size + 1, 1, none⟩ v1).cell? ⟨w.heap.size + 1, 0, none⟩ = some v0 ∧ ((W.setCell ⟨w.heap.size + 1, 0, none⟩ v0).setCell ⟨w.heap.size + 1, 1, none⟩ v1).cell? ⟨w.heap.size + 1, 1, none⟩ = some v1 := fun v0 v1 W h => by
    obtain ⟨u0, h0⟩ := h.c0
    obtain ⟨u1, h1⟩ := h.c1
    exact ⟨(World.cell?_setCell_other _ _ _ _ (by simp)).trans (World.cell?_setCell_same _ _ _ h0), World.cell?_setCell_same _ _ _ ((World.cell?_setCell_other _ _ _ _ (by simp)).trans h1)⟩
  unfold wrongP
  cases hn : numbersF P with
  | false =>
    rw [hn] at CN
    rw [if_neg (by decide)]
    obtain ⟨c0, c1, c2, c3, _⟩ := HPG.out
    go_enter Tryz.func76, Tryz.ntmps76
    go_wp2_with (refine (CN.out _ _ HPG.out.arg).mono ?_; rintro e w1 ⟨rfl, hb1⟩; have HST := Lib.hid (HST.out.bel hb1); have HB := Lib.hid (belT HB.out hb1); obtain ⟨⟨s0, d0⟩, ⟨s1, d1⟩, f0, f1⟩ := HST.out)
    have e0 := (c9 (.int .i64 0) (.int .i64 0) w1 HST.out).1
    have e1 := (c9 (.int .i64 0) (.int .i64 0) w1 HST.out).2
    exact bodyPost_ret (v := .tuple #[.agg #[.int .i64 0, .int .i64 0], .bool false]) (by simp [results, Tryz.results76, go_sem, e0, e1]) rfl ⟨rfl, (HB.out.setCell (p := ⟨w.heap.size + 1, 0, none⟩) (by simp) _).setCell (p := ⟨w.heap.size + 1, 1, none⟩) (by simp) _⟩
  | true =>
    rw [hn] at CN
    rw [if_pos rfl]
    have hN := (numbersF_iff P).1 hn
    obtain ⟨F, mu, rw0, gr⟩ := P
    dsimp only at hF HPG HB hN c9 ⊢
    obtain ⟨⟨⟨_, hl32⟩, _⟩, hN2⟩ := hN
    have HN2 := Lib.hid hN2
    clear hN2 hn
    obtain ⟨ao, c, rfl⟩ := hF.form
    clear hF
    obtain ⟨c0, c1, c2, c3, _⟩ := HPG.out
    dsimp only at c1 c2 c3
    go_enter Tryz.func76, Tryz.ntmps76
    go_wp2_with fail
    refine (CN.out _ _ HPG.out.arg).mono ?_
    rintro e w1 ⟨rfl, hb1⟩
    have HST1 := Lib.hid (HST.out.bel hb1)
    have HPG1 := Lib.hid (HPG.out.bel hb1)
    have HB1 := Lib.hid (belT HB.out hb1)
    clear HST HPG HB hb1 c0 c1 c2 c3 CN
    go_wp2_with fail
    go_loopw [4] (fun vi wr => ∃ k : Nat, vi = .int .i64 k ∧ k ≤ F.length ∧ Hid (Before F k 0) ∧ Hid (Below w1.heap.size w1 wr)) (fun vi _ => F.length - (intOf vi).toNat)
    case atStart => exact ⟨0, rfl, by omega, Lib.hid (before_start F), Lib.hid (Below.refl _ _)⟩
    case round =>
      obtain ⟨k, rfl, hk, HBe, HBr⟩ := hrel
      have HPGr := Lib.hid (HPG1.out.bel HBr.out)
      have c0 := HPGr.out.c0
      by_cases hlt : k < F.length
      · obtain ⟨f, hf⟩ : ∃ f, F[k]? = some f := ⟨F[k], List.getElem?_eq_getElem hlt⟩
        obtain ⟨b, o, c', vc, hv, hc', x0, x1, hcd⟩ := HPGr.out.fns.at_ hf
        simp only [Value.slice.injEq, true_and] at hv
        obtain ⟨hao, hcc⟩ := hv
        subst hao hcc
        obtain ⟨ac, cc, rfl⟩ := hcd.form
        have hl5 := (HN2.out f (List.mem_of_getElem? hf)).2.2
        have HK := Lib.hid hf
        clear hcd hf hc' x0 x1
        go_wp2_with fail
        clear c0
        go_loopw [5] (fun vi wr => ∃ j : Nat, vi = .int .i64 j ∧ j ≤ f.code.length ∧ Hid (Before F k j) ∧ Hid (Below w1.heap.size w1 wr)) (fun vi _ => f.code.length - (intOf vi).toNat)
        case atStart => exact ⟨0, rfl, by omega, HBe, HBr⟩
        case round =>
          clear HBe HBr HPGr
          obtain ⟨j, rfl, hj, HBe, HBr⟩ := hrel
          have HPGr := Lib.hid (HPG1.out.bel HBr.out)
          obtain ⟨c0, c1, c2, c3, _⟩ := HPGr.out
          dsimp only at c1 c2 c3
          obtain ⟨b', o', c'', vc, hv, hc', x0, x1, hcd⟩ := HPGr.out.fns.at_ HK.out
          simp only [Value.slice.injEq, Option.some.injEq, Addr.mk.injEq, and_true, true_and] at hv
          obtain ⟨⟨rfl, rfl⟩, rfl⟩ := hv
          obtain ⟨ac', cc', rfl⟩ := hcd.form
          by_cases hlj : j < f.code.length
          · obtain ⟨x, hx⟩ : ∃ x, f.code[j]? = some x := ⟨f.code[j], List.getElem?_eq_getElem hlj⟩
            have CF := Lib.hid (rFine_any ⟨F, mu, rw0, gr⟩ hP k j f x HK.out hx hl5 _ wr HPGr.out.arg)
            dsimp only at CF
            cases hfx : fineF F f j x with
            | true =>
              rw [hfx] at CF
              have HBe := Lib.hid (HBe.out.next HK.out hx hfx)
              clear hcd hx hfx
              go_wp2_with (refine CF.out.mono ?_; rintro e w5 ⟨rfl, hb5⟩)
              exact ⟨⟨j + 1, by go_num, by omega, HBe, Lib.hid (HBr.out.trans (hb5.mono HBr.out.size))⟩, by simp [intOf]; omega⟩
            | false =>
              rw [hfx] at CF
              have HQ := Lib.hid (wrongF_some ⟨⟨f, x, HK.out, hx, hfx⟩, HBe.out⟩)
              clear hcd hx hfx
              go_wp2_with fail
              refine CF.out.mono ?_
              rintro e w5 ⟨rfl, hb5⟩
              have HST := Lib.hid ((HST1.out.bel HBr.out).bel hb5)
              have HB := Lib.hid (belT (belT HB1.out HBr.out) hb5)
              obtain ⟨⟨s0, d0⟩, ⟨s1, d1⟩, f0, f1⟩ := HST.out
              go_wp2_with fail
              have e0 := (c9 (.int .i64 k) (.int .i64 j) w5 HST.out).1
              have e1 := (c9 (.int .i64 k) (.int .i64 j) w5 HST.out).2
              exact bodyPost_ret (v := .tuple #[.agg #[.int .i64 k, .int .i64 j], .bool true]) (by simp [results, Tryz.results76, go_sem, e0, e1]) rfl ⟨by rw [HQ.out]; rfl, (HB.out.setCell (p := ⟨w.heap.size + 1, 0, none⟩) (by simp) _).setCell (p := ⟨w.heap.size + 1, 1, none⟩) (by simp) _⟩
          · have hj2 : j = f.code.length := by omega
            subst hj2
            clear hcd
            go_wp2_with fail
            exact ⟨⟨k + 1, by go_num, by omega, Lib.hid (HBe.out.row HK.out), HBr⟩, by simp [intOf]; omega⟩
      · have hk2 : k = F.length := by omega
        subst hk2
        have HQ := Lib.hid (wrongF_none HBe.out.all)
        have HST := Lib.hid (HST1.out.bel HBr.out)
        have HB := Lib.hid (belT HB1.out HBr.out)
        obtain ⟨⟨s0, d0⟩, ⟨s1, d1⟩, f0, f1⟩ := HST.out
        go_wp2_with fail
        have e0 := (c9 (.int .i64 0) (.int .i64 0) wr HST.out).1
        have e1 := (c9 (.int .i64 0) (.int .i64 0) wr HST.out).2
        exact bodyPost_ret (v := .tuple #[.agg #[.int .i64 0, .int .i64 0], .bool false]) (by simp [results, Tryz.results76, go_sem, e0, e1]) rfl ⟨by rw [HQ.out]; rfl, (HB.out.setCell (p := ⟨w.heap.size + 1, 0, none⟩) (by simp) _).setCell (p := ⟨w.heap.size + 1, 1, none⟩) (by simp) _⟩
end Go.Proofs.YtfnfcngkaepnjaaGreatDoor
