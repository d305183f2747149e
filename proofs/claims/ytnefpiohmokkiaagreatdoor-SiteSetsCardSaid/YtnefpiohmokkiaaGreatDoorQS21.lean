/- Joined texts: A set's pairs in order: slices.AppendSeq and slices.Collect of its keys. -/
import Derived.Test.YtnefpiohmokkiaaGreatDoorQS17
import Derived.Test.YtnefpiohmokkiaaGreatDoorQS19
import Derived.Test.YtnefpiohmokkiaaGreatDoorQS20
/- A set's pairs in order: slices.AppendSeq and slices.Collect of its keys. -/
namespace Go.Proofs.YtnefpiohmokkiaaGreatDoor
set_option linter.unusedVariables false
set_option linter.unusedSimpArgs false
open Go Go.Proofs Go.RowKit Go.Sort

section
variable {α : Type} {e : TypeId} {size : Nat} {enc : α → List Value} {base : Nat} {v : Value} {L : List α} {w w' : World}
theorem OwnW.isC (h : OwnW e size enc base v L w) (g : Nat) (hg : v.ownBlock = some g) : isC w.heap[g]? := by
  rcases h.2 with ⟨rfl, _⟩ | ⟨g1, cap, cur, fz, rfl, hbg, hh, rest⟩
  · cases hg
  · cases hg
    rw [hh]
    trivial
theorem OwnU.step {n : Nat} (h : OwnU e size enc base v L w) (hs : StepC n w w') : OwnU e size enc base v L w' :=
  h.touch (T := fun k => ¬ Go.Proofs.YtnefpiohmokkiaaGreatDoor.isC w.heap[k]?) ⟨hs.bel.size, fun k hk hc => hs.same k hk (Or.inr (Classical.not_not.1 hc))⟩ (fun g hg hc => hc (h.own.isC g hg))
end
theorem StepC.froz {n : Nat} {A B : World} (h : StepC n A B) {b o : Nat} {v : Value} (hc : A.cell? ⟨b, o, none⟩ = some v) (hf : A.frozen? ⟨b, o, none⟩ = false) : B.frozen? ⟨b, o, none⟩ = false := by
  have hlt := lt_of_cell hc
  have hi : isC A.heap[b]? := by
    simp only [World.cell?] at hc
    split at hc
    · rename_i h1
      simp only [h1, isC]
    · cases hc
  have e := h.same b hlt (Or.inr hi)
  simp only [World.frozen?] at hf ⊢
  rw [e]
  exact hf
theorem isC_of_cell {w : World} {b o : Nat} {v : Value} (hc : w.cell? ⟨b, o, none⟩ = some v) : isC w.heap[b]? := by
  simp only [World.cell?] at hc
  split at hc
  · rename_i h1
    simp only [h1, isC]
  · cases hc
theorem KeepC.setCell {w : World} {b o : Nat} {v : Value} (u : Value) (hc : w.cell? ⟨b, o, none⟩ = some v) : KeepC w (w.setCell ⟨b, o, none⟩ u) :=
  ⟨(KeepsWalks.setCell w _ u).size, fun k hk hn => Below.heap_setCell w _ u k (fun e => by
    dsimp only at e
    subst e
    exact hn (isC_of_cell hc))⟩
theorem StepC.below {n : Nat} {w A B : World} (h : Below n w A) (hn : n ≤ A.heap.size) (hs : StepC n A B) : Below n w B :=
  ⟨hs.bel.1.trans h.1, hs.bel.2.trans h.2, hs.bel.3.trans h.3, Nat.le_trans h.size hs.bel.size, fun k hk => (hs.same k (Nat.lt_of_lt_of_le hk hn) (Or.inl hk)).trans (h.block k hk)⟩

/-- Append, inside a fence. -/
theorem append_in {F : Fence} {n : Nat} {t : TypeId} {v u v' : Value} {w w' : World} {ops : Array Oper} {rest : List Oper} {o : Oper} {a : Act} {Q : Exit → Act → World → Prop} (hgd : o.guard = none) (s x : Operand)
    (ho : o.op = .call { callee := .builtin .append, args := #[s, x], argTypes := #[t, t] })
    (hs : a.eval s = v) (hx : a.eval x = u) (hr : (Builtin.append_ #[t, t] o.type #[v, u]).run Tryz.prog w = .ok v' w') (h : wpListIn F n Tryz.prog ops Q rest (a.put o.dst v') w') : wpListIn F n Tryz.prog ops Q (o :: rest) a w := by
  refine wpListIn_plain hgd fun K' hK' => ?_
  unfold Oper.wpIn
  refine ⟨by simp [Oper.about, ho, resolve, Target.leads, Sem.run_pure], ?_⟩
  rw [Oper.semAt_plain F _ _ (by rw [ho]; intro c hc'; cases hc')]
  simp [execOp, ho, resolve, invoke, builtin, hs, hx, hr, Result.andThen]
  exact hK' _ _ h

attribute [local go_sem] Oper.semAt_some

/-- Between two rounds: what has come lies in a row of its own. -/
structure GotP (w : World) (pre : List PaM) (W : World) : Prop where
  bel : Below w.heap.size w W
  own : ∃ v, W.cell? ⟨w.heap.size, 0, none⟩ = some v ∧ OwnU 32 4 encPa (w.heap.size + 1) v pre W
  fr : W.frozen? ⟨w.heap.size, 0, none⟩ = false
  sz : w.heap.size + 1 ≤ W.heap.size
theorem GotP.step {w : World} {n : Nat} (hn : w.heap.size ≤ n) {pre : List PaM} {A B : World} (h : GotP w pre A) (hs : StepC n A B) : GotP w pre B := by
  obtain ⟨hb, ⟨v, hc, hO⟩, hf, hz⟩ := h
  exact ⟨StepC.below hb (by omega) (hs.mono hn), ⟨v, hs.cell hc, hO.step hs⟩, hs.froz hc hf, Nat.le_trans hz hs.bel.size⟩

set_option maxRecDepth 100000 in
set_option maxHeartbeats 2000000 in
theorem appendSeq_any (Bm M : Nat) (L : List (PaM × Int)) (hL : L.length ≤ 1000) (w : World) (c0 : w.cell? ⟨Bm, 0, none⟩ = some (.map (some M))) (hM : w.heap[M]? = some (.map (esL L).toArray L.length)) :
    Calls Tryz.prog 198 #[.slice none 0 0, .func (.func 135) #[] #[.pointer (some ⟨Bm, 0, none⟩)]] w fun e w' =>
      ∃ v xs, e = .returned v ∧ xs.Perm (L.map (·.1)) ∧ OwnU 32 4 encPa (w.heap.size + 1) v xs w' ∧ Below w.heap.size w w' := by
  have hb0 := bel1 (W := w) (.cells #[.slice none 0 0] 22)
  have hG0 : GotP w [] (w.alloc (.cells #[.slice none 0 0] 22)) := ⟨hb0, ⟨_, cell_new w #[.slice none 0 0] 22 0, OwnU.nil⟩, World.frozen?_alloc_new w #[.slice none 0 0] 22 0, by simp⟩
  have HG0 := Lib.hid hG0
  have HC := Lib.hid (And.intro (cell_bel c0 hb0) ((hb0.block M (Array.getElem?_eq_some_iff.1 hM).1).trans hM))
  have hMs := (Array.getElem?_eq_some_iff.1 hM).1
  have HsU := Lib.hid (show (w.alloc (.cells #[.slice none 0 0] 22)).heap.size = w.heap.size + 1 by simp)
  have hlc := lt_of_cell c0
  clear hG0 hb0 c0 hM
  refine (callsIn_wide (n := 20)).1 ?_
  refine callsIn_of_wp_marks Tryz.func198 rfl trivial ?_ rfl
  simp only [Tryz.ntmps198, List.size_toArray, List.length_cons, List.length_nil, Nat.reduceAdd, Nat.reduceSub, Array.replicate_succ, Array.replicate_zero, List.push_toArray, List.append_toArray, List.nil_append, List.cons_append]
  refine wpIn_wide.2 ?_
  go_wp2
  generalize w.alloc _ = U at HG0 HC HsU ⊢
  refine (wpIn_wide (n := 20)).1 ?_
  refine wpIn_rangeC rfl (by omega) (gf := 135) (lb := #[.pointer (some ⟨Bm, 0, none⟩)]) (by simp [go_sem]) trivial (enters_of Tryz.func135 (by kernel_rfl) rfl)
    (keys_in (20 - 1) Bm M (by omega) L) (fun W' hb => ⟨cell_bel HC.out.1 hb, (hb.block M (by have := HsU.out; omega)).trans HC.out.2⟩) (fun _ => rfl)
    (fun pre W => GotP w pre W) ?hI HG0.out ?hround ?hdone
  case hI => exact fun s A B h hs => h.step (by have := HsU.out; omega) hs
  case hround =>
    rintro l2 pre x W hG hlt hlen
    gi_wp2
    have hb1 := bel1 (W := W) (.cells #[.int .i64 x.a, .int .i64 x.b, .int .i64 x.c, .int .i64 x.d] 32)
    refine ⟨KeepC.below hb1, fun W2 hb2 ht2 hs2 => ?_⟩
    have hG2 := (hG.step (n := w.heap.size) (Nat.le_refl _) (StepC.of_below hb1)).step (by have := HsU.out; omega) hs2
    have x0 : W2.cell? ⟨W.heap.size, 0, none⟩ = some (.int .i64 x.a) := hs2.cell (cell_new W #[.int .i64 x.a, .int .i64 x.b, .int .i64 x.c, .int .i64 x.d] 32 0)
    have x1 : W2.cell? ⟨W.heap.size, 1, none⟩ = some (.int .i64 x.b) := hs2.cell (cell_new W #[.int .i64 x.a, .int .i64 x.b, .int .i64 x.c, .int .i64 x.d] 32 1)
    have x2 : W2.cell? ⟨W.heap.size, 2, none⟩ = some (.int .i64 x.c) := hs2.cell (cell_new W #[.int .i64 x.a, .int .i64 x.b, .int .i64 x.c, .int .i64 x.d] 32 2)
    have x3 : W2.cell? ⟨W.heap.size, 3, none⟩ = some (.int .i64 x.d) := hs2.cell (cell_new W #[.int .i64 x.a, .int .i64 x.b, .int .i64 x.c, .int .i64 x.d] 32 3)
    obtain ⟨hbw, ⟨v, hc, hO⟩, hf, hz⟩ := hG2
    obtain ⟨av, cv, rfl⟩ := hO.own.form
    have hb3 := bel1 (W := W2) (.cells #[.int .i64 x.a, .int .i64 x.b, .int .i64 x.c, .int .i64 x.d] 32)
    have hO3 := hO.bel hb3
    obtain ⟨v', w4, r1, r2, r3, -⟩ := append_U_run rowPa 22 hO3 W2.heap.size 1 x (fun j u hj => (cell_new W2 #[.int .i64 x.a, .int .i64 x.b, .int .i64 x.c, .int .i64 x.d] 32 j).trans (by simpa using hj)) (by omega) (Nat.le_trans hz hb3.size)
    have hb4 : Below (w.heap.size + 1) (W2.alloc (.cells #[.int .i64 x.a, .int .i64 x.b, .int .i64 x.c, .int .i64 x.d] 32)) w4 := (Below.refl _ _).grown r3 (Nat.le_trans hz hb3.size) (fun k hk => (hO3.own.lt k hk).1)
    have hc4 := cell_belB (cell_bel hc hb3) hb4 (by omega)
    have hf4 := froz_belB (froz_bel hc hf hb3) hb4 (by omega)
    have HK4 := Lib.hid (show KeepC W2 w4 from (KeepC.below hb3).trans ⟨r3.size, fun k hk hcn => r3.block k hk (fun e => hcn (hO3.own.isC k e.symm))⟩)
    have hbw4 := (hbw.trans (hb3.mono hbw.size)).trans (hb4.mono (by omega))
    have HB4 := Lib.hid hbw4
    have HO4 := Lib.hid r2
    have HZ4 := Lib.hid (show w.heap.size + 1 ≤ w4.heap.size from Nat.le_trans hz (Nat.le_trans hb3.size hb4.size))
    obtain ⟨av2, cv2, hv'⟩ := r2.own.form
    clear hb3 hO3 hO hb4 r3 hbw hbw4 hf hb2 ht2 hs2 hb1 hG hz r2
    have hv' : v' = .slice av2 (pre.length + 1) cv2 := by rw [hv']; simp
    subst hv'
    gi_wp2_with (first | (gi_at_builtin; refine append_in rfl _ _ rfl rfl rfl r1 ?_; clear r1) | gi_in)
    refine ⟨HK4.out.trans (KeepC.setCell _ hc4), HB4.out.setCell (p := ⟨w.heap.size, 0, none⟩) (Nat.le_refl _) _, ⟨_, World.cell?_setCell_same _ _ _ hc4, ?_⟩, ?_, ?_⟩
    · have h9 := HO4.out.touch (Touch.setCell (T := fun k => k = w.heap.size) w4 ⟨w.heap.size, 0, none⟩ (.slice av2 (pre.length + 1) cv2) rfl) (fun g hg e => by have := (HO4.out.own.lt g hg).1; omega)
      simpa using h9
    · rw [World.frozen?_setCell]; exact hf4
    · have := HZ4.out; simpa using this
  case hdone =>
    rintro D xs W' hD hS ⟨hb, ⟨v, hc, hO⟩, hf, hz⟩ hK
    obtain ⟨av, cv, rfl⟩ := hO.own.form
    go_wp2
    have hst : StepC U.heap.size W' (W'.putObj D (.deferred none)) := ⟨below_put (n := 0) W' _ _ (by omega) (by omega), fun k hk hc => World.putObj_heap_other (fun e => by
      subst e
      rcases hc with hc | hc
      · omega
      · rw [hK] at hc; exact hc)⟩
    refine ⟨by simp, .inl ⟨_, _, rfl, run_takeDeferred hK, ?_⟩⟩
    exact ⟨_, by simp [results, Tryz.results198, go_sem], _, xs, rfl, hS, hO.step hst, StepC.below hb (by omega) (hst.mono (by have := HsU.out; omega))⟩

/-- slices.Collect of the keys. -/
theorem collect_any (Bm M : Nat) (L : List (PaM × Int)) (hL : L.length ≤ 1000) (w : World) (c0 : w.cell? ⟨Bm, 0, none⟩ = some (.map (some M))) (hM : w.heap[M]? = some (.map (esL L).toArray L.length)) :
    Calls Tryz.prog 133 #[.func (.func 135) #[] #[.pointer (some ⟨Bm, 0, none⟩)]] w fun e w' =>
      ∃ v xs, e = .returned v ∧ xs.Perm (L.map (·.1)) ∧ OwnU 32 4 encPa (w.heap.size + 1) v xs w' ∧ Below w.heap.size w w' := by
  have CA := Lib.hid (appendSeq_any Bm M L hL w c0 hM)
  go_enter Tryz.func133, Tryz.ntmps133
  go_wp2_with fail
  refine CA.out.mono ?_
  rintro e w1 ⟨v, xs, rfl, hp, hO, hb⟩
  go_wp2
  go_ret
  exact ⟨_, xs, rfl, hp, hO, hb⟩
end Go.Proofs.YtnefpiohmokkiaaGreatDoor
