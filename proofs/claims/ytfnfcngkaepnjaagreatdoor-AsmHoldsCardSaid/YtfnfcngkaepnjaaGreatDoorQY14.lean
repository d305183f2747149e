/- Joined texts: An instruction's name; Text. -/
import Derived.Test.YtfnfcngkaepnjaaGreatDoorQY8
import Derived.Test.YtfnfcngkaepnjaaGreatDoorQY4
import Derived.Test.YtfnfcngkaepnjaaGreatDoorQY12
import Derived.Test.YtfnfcngkaepnjaaGreatDoorQY13
import Derived.Laws.CopyOwn
/- An instruction's name; Text. -/
namespace Go.Proofs.YtfnfcngkaepnjaaGreatDoor
set_option linter.unusedVariables false
open Go Go.Proofs Go.RowKit

/-- The Ops' words. -/
def wordL : List ByteArray := [⟨#[]⟩, ⟨#[99, 111, 110, 115, 116]⟩, ⟨#[109, 111, 118, 101]⟩, ⟨#[]⟩, ⟨#[106, 117, 109, 112]⟩, ⟨#[105, 102]⟩, ⟨#[108, 111, 97, 100]⟩, ⟨#[115, 116, 111, 114, 101]⟩, ⟨#[99, 97, 108, 108]⟩, ⟨#[114, 101, 116, 117, 114, 110]⟩, ⟨#[103, 111]⟩, ⟨#[108, 111, 99, 107]⟩, ⟨#[117, 110, 108, 111, 99, 107]⟩, ⟨#[114, 108, 111, 99, 107]⟩, ⟨#[114, 117, 110, 108, 111, 99, 107]⟩, ⟨#[119, 108, 111, 99, 107]⟩, ⟨#[119, 117, 110, 108, 111, 99, 107]⟩, ⟨#[99, 111, 117, 110, 116]⟩, ⟨#[119, 97, 105, 116]⟩, ⟨#[121, 105, 101, 108, 100]⟩]
def wordN (k : Nat) : ByteArray := wordL.getD k ⟨#[]⟩
def wordV : Value := .agg (wordL.map Value.string).toArray

theorem wpList_build' {P : Program} {ops : Array Oper} {rest : List Oper} {o : Oper} {a : Act} {w : World} {Q : Exit → Act → World → Prop} (hg : o.guard = none) (t : TypeId) (parts : Array (Nat × Operand)) (ho : o.op = .build t parts) (cs : Array Value)
    (hf : P.built t (parts.map fun (i, x) => (i, a.eval x)).toList = some cs) (h : wpList P ops Q rest (a.put o.dst (.agg cs)) w) : wpList P ops Q (o :: rest) a w :=
  wpList_build hg t parts ho (by rw [hf]; rfl) (by rw [hf]; exact h)

def wordA : Array Value := (wordL.map Value.string).toArray
theorem words_any (w : World) : Calls Tryz.prog 142 #[] w fun e w' => e = .returned wordV ∧ Below w.heap.size w w' := by
  have HA := Lib.hid (show wordV = .agg wordA from rfl)
  have hi : Hid ((Tryz.prog.info? 221).map (·.size) = some wordA.size) := Lib.hid (by kernel_rfl)
  have h1 : Hid (wordA.all (·.oneCell') = true) := Lib.hid (by kernel_rfl)
  have h20 : Hid ((20 : Nat) = wordA.size) := Lib.hid (by kernel_rfl)
  go_enter Tryz.func142, Tryz.ntmps142
  go_wp2_with (first
    | (refine wpList_build' rfl 221 _ rfl wordA (by kernel_rfl) ?_; generalize wordA = WA at *)
    | (refine wpList_store_row rfl 221 _ _ rfl w.heap.size WA rfl rfl 221 (Array.replicate 20 (.string ⟨#[]⟩)) (heap_alloc_new w _) hi.out (by rw [Array.size_replicate]; exact h20.out) h1.out ?_))
  refine bodyPost_ret (v := wordV) ?_ rfl ⟨rfl, below_setRow (bel1 _) (Nat.le_refl _) _⟩
  rw [HA.out]
  exact results_cell_row rfl _ _ w.heap.size 221 WA (0, 0) _ rfl (setRow_heap _ _ _ _ _ _ (heap_alloc_new w _)) Tryz.underlying221 rfl hi.out

theorem word_index (w : World) : ∀ (k : Nat), k < 20 → (Instr.index 221 wordV (.int .i64 (k : Int))).run Tryz.prog w = .ok (.string (wordN k)) w
  | 0, _ => by kernel_rfl
  | 1, _ => by kernel_rfl
  | 2, _ => by kernel_rfl
  | 3, _ => by kernel_rfl
  | 4, _ => by kernel_rfl
  | 5, _ => by kernel_rfl
  | 6, _ => by kernel_rfl
  | 7, _ => by kernel_rfl
  | 8, _ => by kernel_rfl
  | 9, _ => by kernel_rfl
  | 10, _ => by kernel_rfl
  | 11, _ => by kernel_rfl
  | 12, _ => by kernel_rfl
  | 13, _ => by kernel_rfl
  | 14, _ => by kernel_rfl
  | 15, _ => by kernel_rfl
  | 16, _ => by kernel_rfl
  | 17, _ => by kernel_rfl
  | 18, _ => by kernel_rfl
  | 19, _ => by kernel_rfl
  | n + 20, h => absurd h (by omega)

/-- An instruction's name. -/
def insN (op m : Int) : ByteArray := if op = 3 then kindN (m - 1).toNat else wordN op.toNat

set_option maxRecDepth 100000 in
set_option maxHeartbeats 1000000 in
theorem insName_any (op a b c m : Int) (h : 1 ≤ op ∧ op ≤ 19) (h3 : op = 3 → 1 ≤ m ∧ m ≤ 12) (hm : 0 ≤ m ∧ m < 4294967296) (w : World) :
    Calls Tryz.prog 83 #[insV op a b c m] w fun e w' => e = .returned (.string (insN op m)) ∧ Below w.heap.size w w' := by
  obtain ⟨h1, h2⟩ := h
  obtain ⟨m1, m2⟩ := hm
  unfold insV
  by_cases hop : op = 3
  · subst hop
    obtain ⟨k1, k2⟩ := h3 rfl
    have hN : insN 3 m = kindN (m - 1).toNat := rfl
    rw [hN]
    go_enter Tryz.func83, Tryz.ntmps83
    go_wp2_with fail
    refine (kindName_any _ _).mono ?_
    rintro e w1 ⟨s, n, hs, rfl, hb1⟩
    go_wp2_with fail
    go_ret
    rcases hs with ⟨j, hj, e1, rfl, _⟩ | ⟨hall, _, _⟩
    · exact ⟨by rw [show (m - 1).toNat = j by omega]; rfl, belT (bel1 _) hb1⟩
    · exact absurd (show (((m - 1).toNat : Nat) : Int) + 1 = m by omega) (hall (m - 1).toNat (by omega))
  · obtain ⟨k, rfl⟩ := Int.eq_ofNat_of_zero_le (show 0 ≤ op by omega)
    have hN : insN k m = wordN k := by unfold insN; rw [if_neg hop]; simp
    rw [hN]
    have e3 : ((k : Int) == 3) = false := beq_eq_false_iff_ne.2 hop
    have hix := fun w => word_index w k (by omega)
    have b0 := Bare.new k a b c m w 29
    have c0 := b0.c0
    have CW := Lib.hid words_any
    clear hop h3
    generalize wordV = WV at hix CW
    go_enter Tryz.func83, Tryz.ntmps83
    go_wp2_with fail
    go_region_with (go_at_call 142; refine (CW.out _).mono ?_; rintro e w1 ⟨rfl, hb1⟩; have c0 := cell_bel (w := (w.alloc (.cells #[.int .i64 k, .int .i64 a, .int .i64 b, .int .i64 c, .int .u32 m] 29)).drew) c0 hb1)
    all_goals
      go_wp2
      go_ret
      exact ⟨rfl, (bel1 _).drew.trans (hb1.mono (by simp))⟩
end Go.Proofs.YtfnfcngkaepnjaaGreatDoor
