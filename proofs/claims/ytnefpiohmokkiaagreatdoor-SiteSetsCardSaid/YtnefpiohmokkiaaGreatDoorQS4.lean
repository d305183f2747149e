/- Joined texts: Law: a range over a function whose iterator keeps cells of its own; the body touches only what the caller names. -/
import Derived.Test.YtnefpiohmokkiaaGreatDoorQS1
import Derived.RangeFuncNested
import Derived.RangeFuncBound
import Derived.RangeFuncCalls
import Derived.RangeFuncLeaves
import Derived.Shelf.Abstract
import Derived.Shelf.RegionOpen
import Derived.OwnWalkIn
import Derived.TacticsInMore
import Derived.LoopNIn
import Derived.LoopIn
/- Law: a range over a function whose iterator keeps cells of its own; the body touches only what the caller names. -/
namespace Go.Proofs.YtnefpiohmokkiaaGreatDoor
set_option linter.unusedVariables false
open Go Go.Proofs Go.RowKit

/-- Of what lay, only blocks of T have turned. -/
structure Touch (T : Nat → Prop) (W W' : World) : Prop where
  size : W.heap.size ≤ W'.heap.size
  same : ∀ k, k < W.heap.size → ¬ T k → W'.heap[k]? = W.heap[k]?

theorem Touch.refl (T : Nat → Prop) (W : World) : Touch T W W := ⟨Nat.le_refl _, fun _ _ _ => rfl⟩
theorem Touch.trans {T : Nat → Prop} {A B C : World} (h : Touch T A B) (k : Touch T B C) : Touch T A C :=
  ⟨Nat.le_trans h.size k.size, fun i hi ht => (k.same i (Nat.lt_of_lt_of_le hi h.size) ht).trans (h.same i hi ht)⟩
theorem Touch.below {T : Nat → Prop} {A B : World} (h : Below A.heap.size A B) : Touch T A B := ⟨h.size, fun i hi _ => h.block i hi⟩
theorem Touch.setCell {T : Nat → Prop} (W : World) (a : Addr) (v : Value) (h : T a.block) : Touch T W (W.setCell a v) :=
  ⟨(KeepsWalks.setCell W a v).size, fun k hk ht => Below.heap_setCell W a v k (fun e => ht (e ▸ h))⟩
theorem Touch.alloc {T : Nat → Prop} (W : World) (o : Obj) : Touch T W (W.alloc o) := Touch.below (bel1 o)

/-- Of what lies below n, only blocks of X have turned. -/
def BelX (n : Nat) (X : Nat → Prop) (A B : World) : Prop := Below 0 A B ∧ ∀ k, k < n → ¬ X k → B.heap[k]? = A.heap[k]?

theorem BelX.of_below {n : Nat} {X : Nat → Prop} {A B : World} (h : Below n A B) : BelX n X A B := ⟨h.mono (Nat.zero_le _), fun k hk _ => h.block k hk⟩
theorem BelX.refl (n : Nat) (X : Nat → Prop) (A : World) : BelX n X A A := ⟨Below.refl _ _, fun _ _ _ => rfl⟩
theorem BelX.trans {n : Nat} {X : Nat → Prop} {A B C : World} (h : BelX n X A B) (k : BelX n X B C) : BelX n X A C := ⟨h.1.trans k.1, fun i hi hx => (k.2 i hi hx).trans (h.2 i hi hx)⟩
theorem BelX.mono {n m : Nat} {X Y : Nat → Prop} {A B : World} (h : BelX n X A B) (hm : m ≤ n) (hx : ∀ k, k < m → X k → Y k) : BelX m Y A B := ⟨h.1, fun k hk hy => h.2 k (Nat.lt_of_lt_of_le hk hm) (fun h' => hy (hx k hk h'))⟩
theorem BelX.below {n : Nat} {X : Nat → Prop} {A B : World} (h : BelX n X A B) (hx : ∀ k, k < n → ¬ X k) : Below n A B := ⟨h.1.1, h.1.2, h.1.3, h.1.4, fun k hk => h.2 k hk (hx k hk)⟩
theorem BelX.setCell {n : Nat} {X : Nat → Prop} (W : World) (a : Addr) (v : Value) (h : X a.block) : BelX n X W (W.setCell a v) :=
  ⟨(Below.refl 0 W).setCell (Nat.zero_le _) v, fun k hk hx => Below.heap_setCell W a v k (fun e => hx (e ▸ h))⟩

/-- J speaks of what lies below n, but for X. -/
def AbX {β : Type} (n : Nat) (X : Nat → Prop) (J : β → World → Prop) : Prop := ∀ s A B, J s A → BelX n X A B → J s B

/-- The contract of an iterator: Cin: what it needs of the world; Cap: the blocks that it has captured; X: those of them that it writes. -/
def SeqB {α : Type} (F : Fence) (n : Nat) (P : Program) (g : Nat) (lb : Array Value) (encs : α → Array Value) (Cap X : Nat → Prop) (S Sp : List α → Prop) (N : Nat) (Cin : World → Prop) : Prop :=
  ∀ (l : Nat) (J Jx : List α → World → Prop) (W : World), Cin W → AbX W.heap.size X J → AbX W.heap.size X Jx →
    (∀ pre x W1, J pre W1 → W.heap.size ≤ W1.heap.size → pre.length < N → Sp (pre ++ [x]) → YieldAt F (n - 1) P l (encs x) W1 fun e W' =>
      ((e = .returned (.bool true) ∧ J (pre ++ [x]) W') ∨ (e = .returned (.bool false) ∧ Jx (pre ++ [x]) W')) ∧ Touch (fun k => k < W.heap.size ∧ ¬ Cap k) W1 W') →
    J [] W →
    CallsIn F n P g (#[.func (.yield l) #[] #[]] ++ lb) W fun e W' => (∃ v, e = .returned v) ∧ ((∃ xs, S xs ∧ J xs W') ∨ (∃ pre, Sp pre ∧ Jx pre W'))

/-- How the body of a round may be left. -/
def tPost {α : Type} (T : Nat → Prop) (I : List α → World → Prop) (Ix : Code → List α → World → Prop) (xs : List α) (W : World) : Exit → Act → World → Prop
  | .normal, _, W' => Touch T W W' ∧ I xs W'
  | .ret, _, W' => Touch T W W' ∧ Ix .ret xs W'
  | .exit id, _, W' => Touch T W W' ∧ Ix (.exit id) xs W'
  | .goto t, _, W' => Touch T W W' ∧ Ix (.goto t) xs W'
  | .panic _, _, _ => False
  | .outgrown, _, _ => False

theorem below_put {n : Nat} (W : World) (l : Nat) (o' : Obj) (hl : n ≤ l) (h : n ≤ W.heap.size) : Below n W (W.putObj l o') :=
  (Below.refl n W).grown (grownBy_putObj' W l o') h (fun k e => by cases e; exact hl)

theorem cell_touch {T : Nat → Prop} {W W' : World} {b o : Nat} {v : Value} (h : W.cell? ⟨b, o, none⟩ = some v) (ht : Touch T W W') (hn : ¬ T b) : W'.cell? ⟨b, o, none⟩ = some v := by
  have e := ht.same b (lt_of_cell h) hn
  simp only [World.cell?] at h ⊢
  rw [e]
  exact h

variable {F : Fence} {n : Nat} {P : Program}

theorem wpIn_rangeT {α : Type} {g : Operand} {ps : Array Tmp} {assign body : Code} {Q : Exit → Act → World → Prop} {a : Act} {w : World}
    (hro : F.round = none) (h1 : 1 ≤ n) {gf : Nat} {lb : Array Value} (hg : a.eval g = .func (.func gf) #[] lb) (hFg : F.fn gf) (eg : ∀ args w, (callFunc gf args).run P w = .ok (.enter gf args) w)
    {encs : α → Array Value} {Cap X : Nat → Prop} {S Sp : List α → Prop} {N : Nat} {Cin : World → Prop} (hseq : SeqB F (n - 1) P gf lb encs Cap X S Sp N Cin)
    (hCin : ∀ W, Below w.heap.size w W → Cin W) (hps : ∀ x, (encs x).size = ps.size)
    (T : Nat → Prop) (hT : ∀ k, T k → k < w.heap.size ∧ ¬ Cap k) (hC : ∀ k, Cap k → k < w.heap.size) (hX : ∀ k, X k → k < w.heap.size)
    (I : List α → World → Prop) (Ix : Code → List α → World → Prop) (hI : AbX w.heap.size X I) (hIx : ∀ c, AbX w.heap.size X (Ix c)) (h0 : I [] w)
    (hround : ∀ (l : Nat) (pre : List α) (x : α) (W : World), I pre W → w.heap.size + 1 < W.heap.size → pre.length < N → Sp (pre ++ [x]) →
      assign.wpIn (F.inRound l) (n - 1 - 1) P (Exit.then (fun a1 W1 => Touch T W W1 ∧ ∀ W2, Below w.heap.size W1 W2 → Touch (fun k => k = w.heap.size + 1) W1 W2 → body.wpIn (F.inRound l) (n - 1 - 1) P (tPost T I Ix (pre ++ [x]) W2) a1 W2) (fun _ _ _ => False))
        { tmps := (ps.zip (encs x)).foldl (fun t (p, v) => t.setIfInBounds p v) a.tmps, defers := [] } W)
    (hdone : ∀ (D : Nat) (xs : List α) (W : World), w.heap.size ≤ D → S xs → I xs W → W.heap[D]? = some (.deferred (some [])) → Q .normal { a with defers := { target := .collected D, args := #[] } :: a.defers } W)
    (hstop : ∀ (D : Nat) (c : Code) (pre : List α) (W : World), w.heap.size ≤ D → Sp pre → Ix c pre W → W.heap[D]? = some (.deferred (some [])) → c.wpIn F n P Q { a with defers := { target := .collected D, args := #[] } :: a.defers } W) :
    (Code.rangeFunc g ps assign body).wpIn F n P Q a w := by
  refine wpIn_rangeFunc ?_
  intro fn hfn
  rw [hro]
  obtain ⟨rec, hrec⟩ : ∃ rec : LoopState → Option Code → Loop, rec = fun st pe => { state := st, pending := pe, fn, tmps := a.tmps, params := ps, assign, body, defers := w.heap.size } := ⟨_, rfl⟩
  obtain ⟨W1, hW1⟩ : ∃ W1, (w.alloc (.deferred (some []))).alloc (.loop (rec .ready none)) = W1 := ⟨_, rfl⟩
  have hL1 : W1.heap[w.heap.size + 1]? = some (.loop (rec .ready none)) := by
    rw [← hW1]; have := World.alloc_heap_new (w.alloc (.deferred (some []))) (.loop (rec .ready none)); rwa [World.size_alloc] at this
  have hK1 : W1.heap[w.heap.size]? = some (.deferred (some [])) := by
    rw [← hW1]; exact (Below.heap_alloc _ _ _ (by simp)).trans (World.alloc_heap_new w _)
  have hb1 : Below w.heap.size w W1 := by rw [← hW1]; exact belA (bel1 _) _
  have hI1 : I [] W1 := hI _ _ _ h0 (.of_below hb1)
  have hx0 : ¬ X w.heap.size := fun h => by have := hX _ h; omega
  have hx1 : ¬ X (w.heap.size + 1) := fun h => by have := hX _ h; omega
  have hs1 : W1.heap.size = w.heap.size + 1 + 1 := by rw [← hW1]; simp
  refine ⟨w.heap.size + 1, [{ target := .collected w.heap.size, args := #[] }], W1, { target := .fn (.func gf) lb, args := #[.func (.yield (w.heap.size + 1)) #[] #[]] }, W1, gf,
    #[.func (.yield (w.heap.size + 1)) #[] #[]] ++ lb, W1, ?_, ?_, ?_, ?_, fun _ => h1, ?_⟩
  · rw [← hW1, hrec]; exact run_enterLoop_outer _ _ _ _ _
  · simp only [resolve, hg]
    simp [go_sem]
  · intro f' hf'; simp [Target.leads] at hf'; subst hf'; exact hFg
  · simp [invoke, go_sem, eg]
  · refine (hseq (w.heap.size + 1)
      (fun pre W => I pre W ∧ W.heap[w.heap.size + 1]? = some (.loop (rec .ready none)) ∧ W.heap[w.heap.size]? = some (.deferred (some [])))
      (fun pre W => ∃ c, Ix c pre W ∧ W.heap[w.heap.size + 1]? = some (.loop (rec .done (some c))) ∧ W.heap[w.heap.size]? = some (.deferred (some [])))
      W1 (hCin _ hb1)
      (fun s A B hs hb => ⟨hI s A B hs.1 (hb.mono (by omega) (fun _ _ h => h)), (hb.2 _ (by omega) hx1).trans hs.2.1, (hb.2 _ (by omega) hx0).trans hs.2.2⟩)
      (fun s A B hs hb => by
        obtain ⟨c, hc, hl, hk⟩ := hs
        exact ⟨c, hIx c s A B hc (hb.mono (by omega) (fun _ _ h => h)), (hb.2 _ (by omega) hx1).trans hl, (hb.2 _ (by omega) hx0).trans hk⟩)
      ?_ ⟨hI1, hL1, hK1⟩).mono ?_
    · rintro pre x W ⟨hi, hl, hk⟩ hsz hlen hsp
      have hlt : w.heap.size + 1 < W.heap.size := (Array.getElem?_eq_some_iff.1 hl).1
      have hy := run_yield (P := P) (args := encs x) hl (by rw [hrec]; exact hps x)
      rw [hrec] at hy
      refine ⟨fn, _, assign, body, hy, roundIn_of_wpIn hfn (wpIn_mono (hround _ pre x W hi hlt hlen hsp) ?_)⟩
      rintro e0 a1 Wa he0
      cases e0 with
      | ret => exact he0.elim
      | exit id => exact he0.elim
      | goto t => exact he0.elim
      | panic ch => exact he0.elim
      | outgrown => exact he0.elim
      | normal =>
      obtain ⟨hta, hbody⟩ := he0
      have hn1 : ¬ T (w.heap.size + 1) := fun h => by have := (hT _ h).1; omega
      have hn0 : ¬ T w.heap.size := fun h => by have := (hT _ h).1; omega
      have hla := (hta.same _ hlt hn1).trans hl
      have hka := (hta.same _ (by omega) hn0).trans hk
      have hlta : w.heap.size + 1 < Wa.heap.size := (Array.getElem?_eq_some_iff.1 hla).1
      refine ⟨_, run_beginRound hla (by rw [hrec]), ?_⟩
      obtain ⟨W2, hW2⟩ : ∃ W2, Wa.putObj (w.heap.size + 1) (.loop { rec .ready none with state := .busy }) = W2 := ⟨_, rfl⟩
      have hl2 : W2.heap[w.heap.size + 1]? = some (.loop { rec .ready none with state := .busy }) := by rw [← hW2]; exact World.putObj_heap_same hlta
      have hk2 : W2.heap[w.heap.size]? = some (.deferred (some [])) := by rw [← hW2]; exact (World.putObj_heap_other (by omega)).trans hka
      have hb2 : Below w.heap.size Wa W2 := by rw [← hW2]; exact below_put Wa _ _ (by omega) (by omega)
      have hp2 : Touch (fun k => k = w.heap.size + 1) Wa W2 := by rw [← hW2]; exact ⟨by simp, fun k hk ht => World.putObj_heap_other ht⟩
      have ht2 : Touch (fun k => k < W1.heap.size ∧ ¬ Cap k) W W2 := by
        refine Touch.trans (B := Wa) ⟨hta.size, fun k hk ht => hta.same k hk (fun h => ht ⟨by have := (hT _ h).1; omega, (hT _ h).2⟩)⟩ ?_
        exact ⟨hp2.size, fun k hk ht => hp2.same k hk (fun e => ht ⟨by omega, fun hc => by have := hC _ hc; omega⟩)⟩
      refine wpIn_mono (P := P) (show body.wpIn (F.inRound (w.heap.size + 1)) (n - 1 - 1) P (tPost T I Ix (pre ++ [x]) W2) a1 (Wa.putObj (w.heap.size + 1) (.loop { rec .ready none with state := .busy })) from by rw [hW2]; exact hbody _ hb2 hp2) ?_
      have fin : ∀ (jump : Option Code) (W3 : World), Touch T W2 W3 →
          (Instr.endRound (w.heap.size + 1) jump).run P W3 = .ok (.bool jump.isNone) (W3.putObj (w.heap.size + 1) (.loop (rec (if jump.isNone then .ready else .done) jump))) ∧
          Below w.heap.size W3 (W3.putObj (w.heap.size + 1) (.loop (rec (if jump.isNone then .ready else .done) jump))) ∧
          (W3.putObj (w.heap.size + 1) (.loop (rec (if jump.isNone then .ready else .done) jump))).heap[w.heap.size + 1]? = some (.loop (rec (if jump.isNone then .ready else .done) jump)) ∧
          (W3.putObj (w.heap.size + 1) (.loop (rec (if jump.isNone then .ready else .done) jump))).heap[w.heap.size]? = some (.deferred (some [])) ∧
          Touch (fun k => k < W1.heap.size ∧ ¬ Cap k) W (W3.putObj (w.heap.size + 1) (.loop (rec (if jump.isNone then .ready else .done) jump))) := fun jump W3 hk3 => by
        have hs2 : w.heap.size + 1 < W2.heap.size := (Array.getElem?_eq_some_iff.1 hl2).1
        have hl3 := (hk3.same _ hs2 hn1).trans hl2
        have hk3' := (hk3.same _ (by omega) hn0).trans hk2
        have hs3 : w.heap.size + 1 < W3.heap.size := (Array.getElem?_eq_some_iff.1 hl3).1
        have := run_endRound (P := P) jump hl3
        rw [hrec] at this ⊢
        refine ⟨this, below_put W3 _ _ (by omega) (by omega), World.putObj_heap_same hs3, (World.putObj_heap_other (by omega)).trans hk3', ?_⟩
        refine ht2.trans (Touch.trans (B := W3) ⟨hk3.size, fun k hk ht => hk3.same k hk (fun h => ht ⟨by have := (hT _ h).1; omega, (hT _ h).2⟩)⟩ ?_)
        exact ⟨by simp, fun k hk ht => World.putObj_heap_other (fun e => ht (by subst e; exact ⟨by omega, fun hc => by have := hC _ hc; omega⟩))⟩
      rintro e a3 W3 hp
      cases e with
      | normal =>
        obtain ⟨hk3, hi3⟩ := hp
        obtain ⟨hr, hb3, hl4, hk4, ht4⟩ := fin none W3 hk3
        exact ⟨_, _, hr, .inl ⟨rfl, hI _ _ _ hi3 (.of_below hb3), hl4, hk4⟩, ht4⟩
      | ret =>
        obtain ⟨hk3, hi3⟩ := hp
        obtain ⟨hr, hb3, hl4, hk4, ht4⟩ := fin (some .ret) W3 hk3
        exact ⟨_, _, hr, .inr ⟨rfl, .ret, hIx _ _ _ _ hi3 (.of_below hb3), hl4, hk4⟩, ht4⟩
      | exit id =>
        obtain ⟨hk3, hi3⟩ := hp
        obtain ⟨hr, hb3, hl4, hk4, ht4⟩ := fin (some (.exit id)) W3 hk3
        exact ⟨_, _, hr, .inr ⟨rfl, .exit id, hIx _ _ _ _ hi3 (.of_below hb3), hl4, hk4⟩, ht4⟩
      | goto t =>
        obtain ⟨hk3, hi3⟩ := hp
        obtain ⟨hr, hb3, hl4, hk4, ht4⟩ := fin (some (.goto t)) W3 hk3
        exact ⟨_, _, hr, .inr ⟨rfl, .goto t, hIx _ _ _ _ hi3 (.of_below hb3), hl4, hk4⟩, ht4⟩
      | panic ch => exact hp.elim
      | outgrown => exact hp.elim
    · rintro e W2 ⟨⟨v, rfl⟩, (⟨xs, hS, hi, hl, hk⟩ | ⟨pre, hSp, c, hi, hl, hk⟩)⟩
      · have hs2 : w.heap.size + 1 < W2.heap.size := (Array.getElem?_eq_some_iff.1 hl).1
        exact ⟨none, _, by have := run_endLoop (P := P) hl (by rw [hrec]; simp); rw [hrec] at this; exact this, hdone _ xs _ (Nat.le_refl _) hS (hI _ _ _ hi (.of_below (below_put _ _ _ (by omega) (by omega)))) ((World.putObj_heap_other (by omega)).trans hk)⟩
      · have hs2 : w.heap.size + 1 < W2.heap.size := (Array.getElem?_eq_some_iff.1 hl).1
        exact ⟨some c, _, by have := run_endLoop (P := P) hl (by rw [hrec]; simp); rw [hrec] at this; exact this, hstop _ c pre _ (Nat.le_refl _) hSp (hIx c _ _ _ hi (.of_below (below_put _ _ _ (by omega) (by omega)))) ((World.putObj_heap_other (by omega)).trans hk)⟩
end Go.Proofs.YtnefpiohmokkiaaGreatDoor
