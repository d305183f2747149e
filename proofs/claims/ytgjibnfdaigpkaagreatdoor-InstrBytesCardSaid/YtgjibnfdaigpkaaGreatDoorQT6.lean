/- Joined texts: Kinds of reckoning: their iterator; Name.; Cells of the last of two or three new blocks; cells below a bound. -/
import Derived.Test.YtgjibnfdaigpkaaGreatDoorQT4
import Derived.Test.YtgjibnfdaigpkaaGreatDoorQT5
import Derived.Test.YtgjibnfdaigpkaaGreatDoorQT1
/- Kinds of reckoning: their iterator; Name. -/
namespace Go.Proofs.YtgjibnfdaigpkaaGreatDoor
set_option linter.unusedVariables false
open Go Go.Proofs Go.RowKit

/-- The kinds' names. -/
def kindL : List ByteArray := [⟨#[97, 100, 100]⟩, ⟨#[115, 117, 98]⟩, ⟨#[109, 117, 108]⟩, ⟨#[100, 105, 118]⟩, ⟨#[109, 111, 100]⟩, ⟨#[97, 110, 100]⟩, ⟨#[111, 114]⟩, ⟨#[120, 111, 114]⟩, ⟨#[115, 104, 108]⟩, ⟨#[115, 104, 114]⟩, ⟨#[108, 101, 115, 115]⟩, ⟨#[101, 113, 117, 97, 108]⟩]
def kindN (k : Nat) : ByteArray := kindL.getD k ⟨#[]⟩
def kindV : Value := .agg (kindL.map Value.string).toArray

theorem kinds_any (w : World) : Calls Tryz.prog 154 #[] w fun e w' => e = .returned kindV ∧ Below w.heap.size w w' := by
  go_enter Tryz.func154, Tryz.ntmps154
  go_wp2
  exact bodyPost_ret (v := kindV) (by simp [results, Tryz.results154, go_sem, kindV, kindL]) rfl ⟨rfl, bel1 _⟩

theorem kind_index (w : World) : ∀ (k : Nat), k < 12 → (Instr.index 215 kindV (.int .i64 (k : Int))).run Tryz.prog w = .ok (.string (kindN k)) w
  | 0, _ => by kernel_rfl
  | 1, _ => by kernel_rfl
  | 2, _ => by kernel_rfl
  | 3, _ => by kernel_rfl
  | 4, _ => by kernel_rfl
  | 5, _ => by kernel_rfl
  | 6, _ => by kernel_rfl
  | 7, _ => by kernel_rfl
  | 8, _ => by kernel_rfl
  | 9, _ => by kernel_rfl
  | 10, _ => by kernel_rfl
  | 11, _ => by kernel_rfl
  | n + 12, h => absurd h (by omega)

/-- The k-th, as it comes. -/
abbrev kindAt (k : Nat) : Array Value := #[.int .i64 (k + 1), .string (kindN k)]

attribute [local go_sem] Oper.semAt_some

set_option maxRecDepth 100000 in
set_option maxHeartbeats 4000000 in
theorem kinds_in (n : Nat) (hn : 1 ≤ n) :
    SeqB Fence.wide n Tryz.prog 153 #[] kindAt (fun _ => False) (fun _ => False) (fun xs => xs = List.range 12) (fun pre => ∃ j, 1 ≤ j ∧ j ≤ 12 ∧ pre = List.range j) 12 (fun _ => True) := by
  rintro l J Jx W - hJ hJx hY hj0
  simp only [Array.append_empty]
  refine callsIn_of_wp Tryz.func153 rfl trivial ?_ rfl
  simp only [Tryz.ntmps153, List.size_toArray, List.length_cons, List.length_nil, Nat.reduceAdd, Nat.reduceSub, Array.replicate_succ, Array.replicate_zero, List.push_toArray, List.append_toArray, List.nil_append, List.cons_append]
  gi_wp2_with (refine ⟨trivial, ?_⟩; gi_at_call 154; refine (callsIn_wide.2 (kinds_any _)).mono ?_; rintro e w2 ⟨rfl, hb0⟩; have hj1 := hJ _ _ _ hj0 (BelX.of_below hb0); have hsz0 := hb0.size)
  gi_loopw [5] (fun vi wr => ∃ k : Nat, vi = .int .i64 k ∧ k ≤ 12 ∧ W.heap.size ≤ wr.heap.size ∧ J (List.range k) wr) (fun vi _ => 12 - (intOf vi).toNat)
  case atStart => exact ⟨0, rfl, by omega, hsz0, hj1⟩
  case round =>
    obtain ⟨k, rfl, hk, hsz, hj⟩ := hrel
    by_cases hlt : k < 12
    · obtain ⟨fn, tmps, assign, body, hy, hR⟩ := hY (List.range k) k wr hj hsz (by simp; omega) ⟨k + 1, by omega, by omega, List.range_succ.symm⟩
      rw [← List.range_succ] at hR
      dsimp only [kindAt] at hy
      clear hY
      have hki := kind_index wr k hlt
      have hk1 : (k : Int) < 12 := by omega
      gi_wp2
      refine hR.mono ?_
      rintro e W' ⟨⟨rfl, hj'⟩ | ⟨rfl, hjx⟩, ht⟩
      · have hsz := Nat.le_trans hsz ht.size
        clear hR hy
        gi_wp2
        exact ⟨⟨k + 1, by go_num, by omega, hsz, hj'⟩, by simp [intOf]; omega⟩
      · gi_wp2
        refine bodyPost_ret (results_none rfl _ _ _) rfl ?_
        exact ⟨⟨_, rfl⟩, .inr ⟨_, ⟨k + 1, by omega, by omega, rfl⟩, hjx⟩⟩
    · have hk1 : ¬ (k : Int) < 12 := by omega
      have hk2 : k = 12 := by omega
      subst hk2
      generalize hxs : List.range 12 = xs at hj
      gi_wp2
      go_end0
      exact ⟨⟨_, rfl⟩, .inl hj⟩

theorem kindsOf_any (w : World) : Calls Tryz.prog 126 #[] w fun e w' => e = .returned (.func (.func 153) #[] #[]) ∧ w' = w := by
  go_enter Tryz.func126, Tryz.ntmps126
  go_wp2
  go_ret
  exact ⟨rfl, rfl⟩
end Go.Proofs.YtgjibnfdaigpkaaGreatDoor

/- Cells of the last of two or three new blocks; cells below a bound. -/
namespace Go.Proofs.YtgjibnfdaigpkaaGreatDoor
set_option linter.unusedVariables false
open Go Go.Proofs Go.RowKit

theorem cell_two (w : World) (o : Obj) (c : Array Value) (t : TypeId) (i : Nat) : ((w.alloc o).alloc (.cells c t)).cell? ⟨w.heap.size + 1, i, none⟩ = c[i]? := by
  have := cell_new (w.alloc o) c t i
  rwa [World.size_alloc] at this
theorem cell_three (w : World) (o o' : Obj) (c : Array Value) (t : TypeId) (i : Nat) : (((w.alloc o).alloc o').alloc (.cells c t)).cell? ⟨w.heap.size + 1 + 1, i, none⟩ = c[i]? := by
  have := cell_two (w.alloc o) o' c t i
  rwa [World.size_alloc] at this
theorem froz_two (w : World) (o : Obj) (c : Array Value) (t : TypeId) (i : Nat) : ((w.alloc o).alloc (.cells c t)).frozen? ⟨w.heap.size + 1, i, none⟩ = false := by
  have := World.frozen?_alloc_new (w.alloc o) c t i
  rwa [World.size_alloc] at this

theorem cell_belB {w w' : World} {B0 b o : Nat} {v : Value} (h : w.cell? ⟨b, o, none⟩ = some v) (hb : Below B0 w w') (hlt : b < B0) : w'.cell? ⟨b, o, none⟩ = some v := (hb.cell (p := ⟨b, o, none⟩) hlt).trans h
theorem froz_belB {w w' : World} {B0 b o : Nat} (hf : w.frozen? ⟨b, o, none⟩ = false) (hb : Below B0 w w') (hlt : b < B0) : w'.frozen? ⟨b, o, none⟩ = false := (hb.frozen (p := ⟨b, o, none⟩) hlt).trans hf
end Go.Proofs.YtgjibnfdaigpkaaGreatDoor
