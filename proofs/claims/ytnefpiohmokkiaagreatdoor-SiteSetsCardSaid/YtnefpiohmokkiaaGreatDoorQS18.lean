/- Joined texts: Law: a range over a function whose iterator keeps what is no cells; the body may turn whatever cells. -/
import Derived.Test.YtnefpiohmokkiaaGreatDoorQS4
/- Law: a range over a function whose iterator keeps what is no cells; the body may turn whatever cells. -/
namespace Go.Proofs.YtnefpiohmokkiaaGreatDoor
set_option linter.unusedVariables false
open Go Go.Proofs Go.RowKit

/-- A block of cells. -/
def isC : Option Obj → Prop
  | some (.cells ..) => True
  | _ => False
/-- Whatever is no cells lies as it lay. -/
structure KeepC (W W' : World) : Prop where
  size : W.heap.size ≤ W'.heap.size
  same : ∀ k, k < W.heap.size → ¬ isC W.heap[k]? → W'.heap[k]? = W.heap[k]?
theorem KeepC.refl (W : World) : KeepC W W := ⟨Nat.le_refl _, fun _ _ _ => rfl⟩
theorem KeepC.trans {A B C : World} (h : KeepC A B) (k : KeepC B C) : KeepC A C :=
  ⟨Nat.le_trans h.size k.size, fun i hi hc => (k.same i (Nat.lt_of_lt_of_le hi h.size) (by rw [h.same i hi hc]; exact hc)).trans (h.same i hi hc)⟩
theorem KeepC.below {A B : World} (h : Below A.heap.size A B) : KeepC A B := ⟨h.size, fun i hi _ => h.block i hi⟩
/-- Of what lies below n, and of all cells, nothing has turned. -/
structure StepC (n : Nat) (A B : World) : Prop where
  bel : Below 0 A B
  same : ∀ k, k < A.heap.size → (k < n ∨ isC A.heap[k]?) → B.heap[k]? = A.heap[k]?
theorem StepC.mono {n m : Nat} {A B : World} (h : StepC n A B) (hm : m ≤ n) : StepC m A B := ⟨h.bel, fun k hk hc => h.same k hk (hc.imp (fun h1 => Nat.lt_of_lt_of_le h1 hm) id)⟩
theorem StepC.of_below {n : Nat} {A B : World} (h : Below A.heap.size A B) : StepC n A B := ⟨h.mono (Nat.zero_le _), fun k hk _ => h.block k hk⟩
theorem StepC.cell {n : Nat} {A B : World} (h : StepC n A B) {b o : Nat} {v : Value} (hc : A.cell? ⟨b, o, none⟩ = some v) : B.cell? ⟨b, o, none⟩ = some v := by
  have hlt := lt_of_cell hc
  have hi : isC A.heap[b]? := by
    simp only [World.cell?] at hc
    split at hc
    · rename_i h1
      simp only [h1, isC]
    · cases hc
  have e := h.same b hlt (Or.inr hi)
  simp only [World.cell?] at hc ⊢
  rw [e]
  exact hc
/-- J speaks of what lies below n, and of cells. -/
def AbC {β : Type} (n : Nat) (J : β → World → Prop) : Prop := ∀ s A B, J s A → StepC n A B → J s B

/-- The contract of an iterator that reads no cells between two rounds. -/
def SeqC {α : Type} (F : Fence) (n : Nat) (P : Program) (g : Nat) (lb : Array Value) (encs : α → Array Value) (S : List α → Prop) (N : Nat) (Cin : World → Prop) : Prop :=
  ∀ (l : Nat) (J : List α → World → Prop) (W : World), Cin W → AbC W.heap.size J →
    (∀ pre x W1, J pre W1 → W.heap.size ≤ W1.heap.size → pre.length < N → YieldAt F (n - 1) P l (encs x) W1 fun e W' => (e = .returned (.bool true) ∧ J (pre ++ [x]) W') ∧ KeepC W1 W') →
    J [] W →
    CallsIn F n P g (#[.func (.yield l) #[] #[]] ++ lb) W fun e W' => (∃ v, e = .returned v) ∧ ∃ xs, S xs ∧ J xs W'

/-- A round goes on. -/
def cPost {α : Type} (I : List α → World → Prop) (xs : List α) (W : World) : Exit → Act → World → Prop
  | .normal, _, W' => KeepC W W' ∧ I xs W'
  | _, _, _ => False

variable {F : Fence} {n : Nat} {P : Program}

theorem wpIn_rangeC {α : Type} {g : Operand} {ps : Array Tmp} {assign body : Code} {Q : Exit → Act → World → Prop} {a : Act} {w : World}
    (hro : F.round = none) (h1 : 1 ≤ n) {gf : Nat} {lb : Array Value} (hg : a.eval g = .func (.func gf) #[] lb) (hFg : F.fn gf) (eg : ∀ args w, (callFunc gf args).run P w = .ok (.enter gf args) w)
    {encs : α → Array Value} {S : List α → Prop} {N : Nat} {Cin : World → Prop} (hseq : SeqC F (n - 1) P gf lb encs S N Cin)
    (hCin : ∀ W, Below w.heap.size w W → Cin W) (hps : ∀ x, (encs x).size = ps.size)
    (I : List α → World → Prop) (hI : AbC w.heap.size I) (h0 : I [] w)
    (hround : ∀ (l : Nat) (pre : List α) (x : α) (W : World), I pre W → w.heap.size + 1 < W.heap.size → pre.length < N →
      assign.wpIn (F.inRound l) (n - 1 - 1) P (Exit.then (fun a1 W1 => KeepC W W1 ∧ ∀ W2, Below w.heap.size W1 W2 → Touch (fun k => k = w.heap.size + 1) W1 W2 → StepC w.heap.size W1 W2 → body.wpIn (F.inRound l) (n - 1 - 1) P (cPost I (pre ++ [x]) W2) a1 W2) (fun _ _ _ => False))
        { tmps := (ps.zip (encs x)).foldl (fun t (p, v) => t.setIfInBounds p v) a.tmps, defers := [] } W)
    (hdone : ∀ (D : Nat) (xs : List α) (W : World), w.heap.size ≤ D → S xs → I xs W → W.heap[D]? = some (.deferred (some [])) → Q .normal { a with defers := { target := .collected D, args := #[] } :: a.defers } W) :
    (Code.rangeFunc g ps assign body).wpIn F n P Q a w := by
  refine wpIn_rangeFunc ?_
  intro fn hfn
  rw [hro]
  obtain ⟨rec, hrec⟩ : ∃ rec : LoopState → Option Code → Loop, rec = fun st pe => { state := st, pending := pe, fn, tmps := a.tmps, params := ps, assign, body, defers := w.heap.size } := ⟨_, rfl⟩
  obtain ⟨W1, hW1⟩ : ∃ W1, (w.alloc (.deferred (some []))).alloc (.loop (rec .ready none)) = W1 := ⟨_, rfl⟩
  have hL1 : W1.heap[w.heap.size + 1]? = some (.loop (rec .ready none)) := by
    rw [← hW1]; have := World.alloc_heap_new (w.alloc (.deferred (some []))) (.loop (rec .ready none)); rwa [World.size_alloc] at this
  have hK1 : W1.heap[w.heap.size]? = some (.deferred (some [])) := by
    rw [← hW1]; exact (Below.heap_alloc _ _ _ (by simp)).trans (World.alloc_heap_new w _)
  have hb1 : Below w.heap.size w W1 := by rw [← hW1]; exact belA (bel1 _) _
  have hI1 : I [] W1 := hI _ _ _ h0 (.of_below hb1)
  have hs1 : W1.heap.size = w.heap.size + 1 + 1 := by rw [← hW1]; simp
  have hstep : ∀ (W : World) (r r' : Loop), W.heap[w.heap.size + 1]? = some (.loop r) → StepC w.heap.size W (W.putObj (w.heap.size + 1) (.loop r')) := fun W r r' hl => by
    have hlt : w.heap.size + 1 < W.heap.size := (Array.getElem?_eq_some_iff.1 hl).1
    refine ⟨(below_put (n := 0) W _ _ (by omega) (by omega)), fun k hk hc => World.putObj_heap_other (fun e => ?_)⟩
    subst e
    rcases hc with hc | hc
    · omega
    · rw [hl] at hc; exact hc
  refine ⟨w.heap.size + 1, [{ target := .collected w.heap.size, args := #[] }], W1, { target := .fn (.func gf) lb, args := #[.func (.yield (w.heap.size + 1)) #[] #[]] }, W1, gf,
    #[.func (.yield (w.heap.size + 1)) #[] #[]] ++ lb, W1, ?_, ?_, ?_, ?_, fun _ => h1, ?_⟩
  · rw [← hW1, hrec]; exact run_enterLoop_outer _ _ _ _ _
  · simp only [resolve, hg]
    simp [go_sem]
  · intro f' hf'; simp [Target.leads] at hf'; subst hf'; exact hFg
  · simp [invoke, go_sem, eg]
  · refine (hseq (w.heap.size + 1)
      (fun pre W => I pre W ∧ W.heap[w.heap.size + 1]? = some (.loop (rec .ready none)) ∧ W.heap[w.heap.size]? = some (.deferred (some [])))
      W1 (hCin _ hb1)
      (fun s A B hs hb => ⟨hI s A B hs.1 (hb.mono (by omega)), (hb.same _ (Array.getElem?_eq_some_iff.1 hs.2.1).1 (Or.inl (by omega))).trans hs.2.1, (hb.same _ (Array.getElem?_eq_some_iff.1 hs.2.2).1 (Or.inl (by omega))).trans hs.2.2⟩)
      ?_ ⟨hI1, hL1, hK1⟩).mono ?_
    · rintro pre x W ⟨hi, hl, hk⟩ hsz hlen
      have hlt : w.heap.size + 1 < W.heap.size := (Array.getElem?_eq_some_iff.1 hl).1
      have hy := run_yield (P := P) (args := encs x) hl (by rw [hrec]; exact hps x)
      rw [hrec] at hy
      refine ⟨fn, _, assign, body, hy, roundIn_of_wpIn hfn (wpIn_mono (hround _ pre x W hi hlt hlen) ?_)⟩
      rintro e0 a1 Wa he0
      cases e0 with
      | ret => exact he0.elim
      | exit id => exact he0.elim
      | goto t => exact he0.elim
      | panic ch => exact he0.elim
      | outgrown => exact he0.elim
      | normal =>
      obtain ⟨hta, hbody⟩ := he0
      have hla := (hta.same _ hlt (by rw [hl]; exact fun h => h)).trans hl
      have hka := (hta.same _ (by omega) (by rw [hk]; exact fun h => h)).trans hk
      have hlta : w.heap.size + 1 < Wa.heap.size := (Array.getElem?_eq_some_iff.1 hla).1
      refine ⟨_, run_beginRound hla (by rw [hrec]), ?_⟩
      obtain ⟨W2, hW2⟩ : ∃ W2, Wa.putObj (w.heap.size + 1) (.loop { rec .ready none with state := .busy }) = W2 := ⟨_, rfl⟩
      have hl2 : W2.heap[w.heap.size + 1]? = some (.loop { rec .ready none with state := .busy }) := by rw [← hW2]; exact World.putObj_heap_same hlta
      have hk2 : W2.heap[w.heap.size]? = some (.deferred (some [])) := by rw [← hW2]; exact (World.putObj_heap_other (by omega)).trans hka
      have hb2 : Below w.heap.size Wa W2 := by rw [← hW2]; exact below_put Wa _ _ (by omega) (by omega)
      have hp2 : Touch (fun k => k = w.heap.size + 1) Wa W2 := by rw [← hW2]; exact ⟨by simp, fun k hk ht => World.putObj_heap_other ht⟩
      have hst2 : StepC w.heap.size Wa W2 := by rw [← hW2]; exact hstep _ _ _ hla
      refine wpIn_mono (P := P) (show body.wpIn (F.inRound (w.heap.size + 1)) (n - 1 - 1) P (cPost I (pre ++ [x]) W2) a1 (Wa.putObj (w.heap.size + 1) (.loop { rec .ready none with state := .busy })) from by rw [hW2]; exact hbody _ hb2 hp2 hst2) ?_
      rintro e a3 W3 hp
      cases e with
      | normal =>
        obtain ⟨hk3, hi3⟩ := hp
        have hs2 : w.heap.size + 1 < W2.heap.size := (Array.getElem?_eq_some_iff.1 hl2).1
        have hl3 := (hk3.same _ hs2 (by rw [hl2]; exact fun h => h)).trans hl2
        have hk3' := (hk3.same _ (by omega) (by rw [hk2]; exact fun h => h)).trans hk2
        have hs3 : w.heap.size + 1 < W3.heap.size := (Array.getElem?_eq_some_iff.1 hl3).1
        have hend := run_endRound (P := P) none hl3
        rw [hrec] at hend
        refine ⟨_, _, hend, ⟨rfl, hI _ _ _ hi3 ?_, ?_, ?_⟩, ?_⟩
        · have := hstep W3 _ (rec .ready none) hl3
          rw [hrec] at this
          exact this
        · have := World.putObj_heap_same (o := .loop (rec .ready none)) hs3
          rw [hrec] at this ⊢
          exact this
        · exact (World.putObj_heap_other (by omega)).trans hk3'
        · refine ⟨?_, fun k hk hc => ?_⟩
          · have h4 := hta.size
            have h5 := hp2.size
            have h6 := hk3.size
            simp
            omega
          · by_cases he : k = w.heap.size + 1
            · subst he
              have := World.putObj_heap_same (o := .loop (rec .ready none)) hs3
              rw [hrec] at this
              rw [hl, hrec]
              exact this
            · rw [World.putObj_heap_other he]
              have e1 := hta.same k hk hc
              have e2 := hp2.same k (Nat.lt_of_lt_of_le hk hta.size) he
              have e3 := hk3.same k (Nat.lt_of_lt_of_le (Nat.lt_of_lt_of_le hk hta.size) hp2.size) (by rw [e2, e1]; exact hc)
              rw [e3, e2, e1]
      | ret => exact hp.elim
      | exit id => exact hp.elim
      | goto t => exact hp.elim
      | panic ch => exact hp.elim
      | outgrown => exact hp.elim
    · rintro e W2 ⟨⟨v, rfl⟩, xs, hS, hi, hl, hk⟩
      exact ⟨none, _, by have := run_endLoop (P := P) hl (by rw [hrec]; simp); rw [hrec] at this; exact this, hdone _ xs _ (Nat.le_refl _) hS (hI _ _ _ hi (by have := hstep W2 _ ({ rec .ready none with state := .exhausted }) hl; rw [hrec] at this; exact this)) ((World.putObj_heap_other (by omega)).trans hk)⟩
end Go.Proofs.YtnefpiohmokkiaaGreatDoor
