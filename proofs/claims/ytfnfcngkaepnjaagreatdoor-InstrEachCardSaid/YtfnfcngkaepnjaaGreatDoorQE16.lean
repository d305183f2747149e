/- Joined texts: What was given up with is caught. -/
import Derived.Test.YtfnfcngkaepnjaaGreatDoorQE15
import Derived.Defers
import Derived.Recover
/- What was given up with is caught. -/
namespace Go.Proofs.YtfnfcngkaepnjaaGreatDoor
set_option linter.unusedVariables false
open Go Go.Proofs Go.RowKit

theorem Bare.touch {B : Nat} {op : Int} {s : Int × Int × Int × Int} {w w' : World} {T : Nat → Prop} (h : Bare B op s w) (ht : Touch T w w') (hn : ¬ T B) : Bare B op s w' := by
  have e := ht.same B (lt_of_cell h.c0) hn
  have hf : ∀ j, w'.frozen? ⟨B, j, none⟩ = w.frozen? ⟨B, j, none⟩ := fun j => World.frozen?_of_block e
  have hc : ∀ j, w'.cell? ⟨B, j, none⟩ = w.cell? ⟨B, j, none⟩ := fun j => World.cell?_of_block e
  exact ⟨(hc _).trans h.c0, (hc _).trans h.c1, (hc _).trans h.c2, (hc _).trans h.c3, (hc _).trans h.c4, (hf _).trans h.f1, (hf _).trans h.f2, (hf _).trans h.f3, (hf _).trans h.f4⟩

/-- An instruction's five cells, stored. -/
theorem Bare.set {B : Nat} {op : Int} {s : Int × Int × Int × Int} {w : World} (h : Bare B op s w) (op' a b c m : Int) :
    Bare B op' (a, b, c, m) (((((w.setCell ⟨B, 0, none⟩ (.int .i64 op')).setCell ⟨B, 1, none⟩ (.int .i64 a)).setCell ⟨B, 2, none⟩ (.int .i64 b)).setCell ⟨B, 3, none⟩ (.int .i64 c)).setCell ⟨B, 4, none⟩ (.int .u32 m)) := by
  have e : ∀ (v : World) (i j : Nat) (x : Value), i ≠ j → (v.setCell ⟨B, i, none⟩ x).cell? ⟨B, j, none⟩ = v.cell? ⟨B, j, none⟩ := fun v i j x h => World.cell?_setCell_other _ _ _ _ (by simp)
  obtain ⟨c0, c1, c2, c3, c4, f1, f2, f3, f4⟩ := h
  refine ⟨?_, ?_, ?_, ?_, ?_, ?_, ?_, ?_, ?_⟩
  · rw [e _ 4 0 _ (by decide), e _ 3 0 _ (by decide), e _ 2 0 _ (by decide), e _ 1 0 _ (by decide)]
    exact World.cell?_setCell_same _ _ _ c0
  · rw [e _ 4 1 _ (by decide), e _ 3 1 _ (by decide), e _ 2 1 _ (by decide)]
    exact World.cell?_setCell_same _ _ _ ((e _ 0 1 _ (by decide)).trans c1)
  · rw [e _ 4 2 _ (by decide), e _ 3 2 _ (by decide)]
    exact World.cell?_setCell_same _ _ _ ((e _ 1 2 _ (by decide)).trans ((e _ 0 2 _ (by decide)).trans c2))
  · rw [e _ 4 3 _ (by decide)]
    exact World.cell?_setCell_same _ _ _ ((e _ 2 3 _ (by decide)).trans ((e _ 1 3 _ (by decide)).trans ((e _ 0 3 _ (by decide)).trans c3)))
  · exact World.cell?_setCell_same _ _ _ ((e _ 3 4 _ (by decide)).trans ((e _ 2 4 _ (by decide)).trans ((e _ 1 4 _ (by decide)).trans ((e _ 0 4 _ (by decide)).trans c4))))
  · simp only [World.frozen?_setCell]; exact f1
  · simp only [World.frozen?_setCell]; exact f2
  · simp only [World.frozen?_setCell]; exact f3
  · simp only [World.frozen?_setCell]; exact f4
theorem touch_set5 (B : Nat) (w : World) (v0 v1 v2 v3 v4 : Value) {T : Nat → Prop} (hT : T B) : Touch T w (((((w.setCell ⟨B, 0, none⟩ v0).setCell ⟨B, 1, none⟩ v1).setCell ⟨B, 2, none⟩ v2).setCell ⟨B, 3, none⟩ v3).setCell ⟨B, 4, none⟩ v4) :=
  ((((Touch.setCell _ _ _ hT).trans (Touch.setCell _ _ _ hT)).trans (Touch.setCell _ _ _ hT)).trans (Touch.setCell _ _ _ hT)).trans (Touch.setCell _ _ _ hT)

theorem caught_idle (p : Addr) (f : Value) (w : World) :
    CallsD Tryz.prog 87 #[.pointer (some p), f] .returning w fun e u' w' => e = .returned (.tuple #[]) ∧ u' = .returning ∧ w' = w := by
  have hn : ∀ w, (binOp .neq 20 .nilIface .nilIface).run Tryz.prog w = .ok (.bool false) w := fun _ => by kernel_rfl
  refine callsD_of_wpS Tryz.func87 rfl fun c₀ cs hu => ?_
  simp only [Tryz.ntmps87, List.size_toArray, List.length_cons, List.length_nil, Nat.reduceAdd, Nat.reduceSub, Array.replicate_succ, Array.replicate_zero, List.push_toArray, List.append_toArray, List.nil_append, List.cons_append]
  apply wpS_seq
  apply wpS_region
  simp [wpOpsS, go_sem, recoverD, hu, Exit.thenS]
  refine wpS_of_wp ?_
  go_wp2
  cases c₀
  simp_all [bodyPostS, results, Tryz.results87]

set_option maxRecDepth 100000 in
/-- Caught with a number: what the closure does, then the number is stored. -/
theorem caught_yes (E : Addr) (n : Int) (fc : Nat) (cap : Array Value) (older : List PanicEntry) (w : World) (R : World → Prop)
    (eg : ∀ args w, (callFunc fc args).run Tryz.prog w = .ok (.enter fc args) w) (hcl : Calls Tryz.prog fc cap w fun e w' => e = .returned (.tuple #[]) ∧ R w') (hE : ∀ w', R w' → ∃ y, w'.cell? E = some y ∧ w'.frozen? E = false) :
    CallsD Tryz.prog 87 #[.pointer (some E), .func (.func fc) #[] cap] (.panicking ({ v := .iface 38 (.int .i64 n), recovered := false } :: older)) w fun e u' w' =>
      e = .returned (.tuple #[]) ∧ u' = .panicking ({ v := .iface 38 (.int .i64 n), recovered := true } :: older) ∧ ∃ w1, R w1 ∧ w' = w1.setCell E (.int .i64 n) := by
  have hn : ∀ w, (binOp .neq 20 (.iface 38 (.int .i64 n)) .nilIface).run Tryz.prog w = .ok (.bool true) w := fun _ => by kernel_rfl
  have ht : ∀ w, (Instr.typeAssert (.iface 38 (.int .i64 n)) 20 38 true).run Tryz.prog w = .ok (.tuple #[.int .i64 n, .bool true]) w := fun _ => by kernel_rfl
  have HC := Lib.hid hcl
  have HE := Lib.hid hE
  clear hcl hE
  refine callsD_of_wpS Tryz.func87 rfl fun c₀ cs hu => ?_
  simp only [Tryz.ntmps87, List.size_toArray, List.length_cons, List.length_nil, Nat.reduceAdd, Nat.reduceSub, Array.replicate_succ, Array.replicate_zero, List.push_toArray, List.append_toArray, List.nil_append, List.cons_append]
  apply wpS_seq
  apply wpS_region
  simp [wpOpsS, go_sem, recoverD, hu, Exit.thenS]
  refine wpS_of_wp ?_
  go_wp2_with fail
  refine HC.out.mono ?_
  rintro e w1 ⟨rfl, hR⟩
  obtain ⟨y, hy, hf⟩ := HE.out w1 hR
  go_wp2_with fail
  cases c₀
  simp_all [bodyPostS, results, Tryz.results87]
  exact ⟨w1, hR, rfl⟩

/-- The closure that clears what Read tells: two results. -/
theorem readClear_any (base B M : Nat) (op : Int) (s : Int × Int × Int × Int) (m : Int) (w : World) (hne : B ≠ M) (hbB : base ≤ B) (hbM : base ≤ M) (h : Bare B op s w) (hf0 : w.frozen? ⟨B, 0, none⟩ = false) (hM : w.cell? ⟨M, 0, none⟩ = some (.int .i64 m)) (hf : w.frozen? ⟨M, 0, none⟩ = false) :
    Calls Tryz.prog 100 #[.pointer (some ⟨B, 0, none⟩), .pointer (some ⟨M, 0, none⟩)] w fun e w' => e = .returned (.tuple #[]) ∧ Bare B 0 (0, 0, 0, 0) w' ∧ w'.cell? ⟨M, 0, none⟩ = some (.int .i64 0) ∧ Touch (fun b => b = B ∨ b = M) w w' ∧ Below base w w' ∧ (∀ b o, w'.frozen? ⟨b, o, none⟩ = w.frozen? ⟨b, o, none⟩) := by
  obtain ⟨c0, c1, c2, c3, c4, f1, f2, f3, f4⟩ := h
  go_enter Tryz.func100, Tryz.ntmps100
  have hS := Bare.set ⟨c0, c1, c2, c3, c4, f1, f2, f3, f4⟩ 0 0 0 0 0
  have hT := touch_set5 B w (.int .i64 0) (.int .i64 0) (.int .i64 0) (.int .i64 0) (.int .u32 0) (T := fun b => b = B ∨ b = M) (Or.inl rfl)
  have hM5 := cell_touch hM (touch_set5 B w (.int .i64 0) (.int .i64 0) (.int .i64 0) (.int .i64 0) (.int .u32 0) (T := fun b => b = B) rfl) (fun e => hne e.symm)
  have hBl : Below base w (((((w.setCell ⟨B, 0, none⟩ (.int .i64 0)).setCell ⟨B, 1, none⟩ (.int .i64 0)).setCell ⟨B, 2, none⟩ (.int .i64 0)).setCell ⟨B, 3, none⟩ (.int .i64 0)).setCell ⟨B, 4, none⟩ (.int .u32 0)) := ((((((Below.refl _ _).setCell (p := ⟨B, 0, none⟩) hbB _).setCell (p := ⟨B, 1, none⟩) hbB _).setCell (p := ⟨B, 2, none⟩) hbB _).setCell (p := ⟨B, 3, none⟩) hbB _).setCell (p := ⟨B, 4, none⟩) hbB _)
  have HS := Lib.hid hS
  have HT := Lib.hid hT
  have HM5 := Lib.hid hM5
  have HBl := Lib.hid hBl
  clear hS hT hM5 hBl
  go_wp2_with fail
  go_end0
  refine ⟨rfl, HS.out.far hne.symm, World.cell?_setCell_same _ _ _ HM5.out, HT.out.trans (Touch.setCell _ _ _ (Or.inr rfl)), HBl.out.setCell (p := ⟨M, 0, none⟩) hbM _, fun b o => by simp only [World.frozen?_setCell]⟩
end Go.Proofs.YtfnfcngkaepnjaaGreatDoor
