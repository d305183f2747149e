/- Joined texts: Law: what a region does outside a round it does inside one. -/
import Derived.Test.YtnefpiohmokkiaaGreatDoorQS4
import Derived.OrdersIn
import Derived.Sort.QuietTacIn
import Derived.Sort.BigQuietIn
/- Law: what a region does outside a round it does inside one. -/
namespace Go.Proofs.YtnefpiohmokkiaaGreatDoor
set_option linter.unusedVariables false
open Go Go.Proofs Go.RowKit

section
variable {P : Program} {ops : Array Oper} {Q : Exit → Act → World → Prop} {md : Region.Mode} {n : Nat}
theorem rowsIn_round {row : String} {args : Array Value} {w : World} {R : Value → World → Prop} (l : Nat) (h : RowsIn Fence.wide n P row args w R) : RowsIn (Fence.wide.inRound l) n P row args w R := h
theorem opIn_round (l : Nat) {o : Oper} {a : Act} {w : World} {K : Act → World → Prop} (hno : ∀ c, o.op ≠ .defer c) (h : o.wpIn Fence.wide n P a w K Q) : o.wpIn (Fence.wide.inRound l) n P a w K Q := by
  unfold Oper.wpIn at *
  refine ⟨fun f hf => h.1 f hf, ?_⟩
  have h2 := h.2
  have e : o.semAt (Fence.wide.inRound l).round a.eval = o.semAt Fence.wide.round a.eval := by
    rw [Oper.semAt_eq _ _ _ hno, Oper.semAt_eq _ _ _ hno]
  rw [e]
  generalize (o.semAt Fence.wide.round a.eval).run P w = r at h2 ⊢
  cases r with
  | ok x w' =>
    cases x with
    | value v => exact h2
    | skip => exact h2
    | defer d => exact h2
    | enter f args => exact ⟨h2.1, CallsIn.inRound l h2.2⟩
    | row row args => exact ⟨h2.1, rowsIn_round l h2.2⟩
    | round l2 f tmps assign body => exact ⟨h2.1, ⟨h2.2.1, fun c cs hr => h2.2.2 c cs (room_wide _)⟩⟩
    | _ => exact h2
  | halt x w' => exact h2
theorem wpOpIn_round (l : Nat) {i : Nat} {a : Act} {w : World} {K : Act → World → Prop} (hno : ∀ (o : Oper) c, ops[i]? = some o → o.op ≠ .defer c) (h : wpOpIn Fence.wide n P ops Q i K a w) : wpOpIn (Fence.wide.inRound l) n P ops Q i K a w := by
  unfold wpOpIn at *
  cases ho : ops[i]? with
  | none => rw [ho] at h; exact h
  | some o =>
    rw [ho] at h
    simp only at h ⊢
    split
    · rename_i hw
      rw [if_pos hw] at h
      exact opIn_round l (fun c => hno o c ho) h
    · rename_i hw
      rw [if_neg hw] at h
      exact ⟨fun f hf => h.1 f hf, h.2⟩
/-- No operation defers. -/
def noDeferB (ops : Array Oper) : Bool := ops.all fun o => match o.op with | .defer _ => false | _ => true
theorem noDefer_spec (h : noDeferB ops = true) {i : Nat} {o : Oper} (ho : ops[i]? = some o) : ∀ c, o.op ≠ .defer c := by
  intro c e
  have := Array.all_eq_true_iff_forall_mem.1 h o (Array.mem_of_getElem? ho)
  rw [e] at this
  cases this
theorem wpAnyIn_round (l : Nat) (hno : noDeferB ops = true) : ∀ (f : Nat) (listed : Array Bool) (a : Act) (w : World), wpAnyIn Fence.wide n P md ops Q f listed a w → wpAnyIn (Fence.wide.inRound l) n P md ops Q f listed a w
  | 0, _, _, _, h => h
  | f + 1, listed, a, w, h => ⟨h.1, fun i hi => wpOpIn_round l (fun o c ho => noDefer_spec hno ho c) (wpOpIn_mono (fun a w => wpAnyIn_round l hno f _ a w) (h.2 i hi))⟩
theorem region_round (l : Nat) {id : Nat} {a : Act} {w : World} (hm : P.follows .mixedOrders = true) (hno : noDeferB ops = true) (h : wpAnyIn Fence.wide n P .any ops Q ops.size (Array.replicate ops.size false) a { w with drawn := w.drawn + 1 }) : (Code.region id ops true).wpIn (Fence.wide.inRound l) n P Q a w :=
  wpIn_region_any hm (wpAnyIn_round l hno _ _ _ _ h)
/-- A region that only reads, inside a round: one walk serves every order. -/
theorem region_round_quiet (l : Nat) {id : Nat} {a : Act} {w : World} {os : List Oper} (hm : P.follows .mixedOrders = true) (hno : noDeferB os.toArray = true) (hB : Region.lexB .any os.toArray = true)
    (h : wpQuietIn Fence.wide n P os.toArray (fun w' => ∃ n, w' = w.drewN n) (fun a' => ∀ w', (∃ n, w' = w.drewN n) → Q .normal a' w') os a) : (Code.region id os.toArray true).wpIn (Fence.wide.inRound l) n P Q a w := by
  simp only [Region.lexB, Bool.and_eq_true] at hB
  refine region_round l hm hno (wpAnyIn_of_quiet (C := fun w' => ∃ n, w' = w.drewN n) (Q := fun a' => ∀ w', (∃ n, w' = w.drewN n) → Q .normal a' w') rfl (fun _ w' hw' h => h w' hw') _ _ _ _ ⟨1, rfl⟩ ?_)
  have := wpAnyQIn_lex (F := Fence.wide) (n := n) (C := fun w' => ∃ n, w' = w.drewN n) (md := .any) hB.1 os 0 (Array.replicate os.toArray.size false) a (by simp) (by simpa using hB.2) h
  simpa using this
end
end Go.Proofs.YtnefpiohmokkiaaGreatDoor
