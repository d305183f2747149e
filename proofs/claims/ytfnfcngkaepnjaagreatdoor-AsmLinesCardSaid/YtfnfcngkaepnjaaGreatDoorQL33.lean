/- Joined texts: Package asm: what was given up with is caught; Parse's endings.; Package asm: the reader; its functions' rows. -/
import Derived.Test.YtfnfcngkaepnjaaGreatDoorQL32
import Derived.Test.YtfnfcngkaepnjaaGreatDoorQL13
import Derived.Test.YtfnfcngkaepnjaaGreatDoorQL31
/- Package asm: what was given up with is caught; Parse's endings. -/
namespace Go.Proofs.YtfnfcngkaepnjaaGreatDoor
set_option linter.unusedVariables false
set_option linter.unusedSimpArgs false
open Go Go.Proofs Go.RowKit Go.Sort

/-- What Parse tells lies in its results' blocks. -/
structure PaP (w0 : World) (vf : Value) (mu rw gr n e : Int) (w : World) : Prop where
  c0 : w.cell? ⟨w0.heap.size, 0, none⟩ = some vf
  c1 : w.cell? ⟨w0.heap.size, 1, none⟩ = some (.int .i64 mu)
  c2 : w.cell? ⟨w0.heap.size, 2, none⟩ = some (.int .i64 rw)
  c3 : w.cell? ⟨w0.heap.size, 3, none⟩ = some (.int .i64 gr)
  cn : w.cell? ⟨w0.heap.size + 1, 0, none⟩ = some (.int .i64 n)
  ce : w.cell? ⟨w0.heap.size + 1 + 1, 0, none⟩ = some (.int .i64 e)
  f0 : w.frozen? ⟨w0.heap.size, 0, none⟩ = false
  f1 : w.frozen? ⟨w0.heap.size, 1, none⟩ = false
  f2 : w.frozen? ⟨w0.heap.size, 2, none⟩ = false
  f3 : w.frozen? ⟨w0.heap.size, 3, none⟩ = false
  fn : w.frozen? ⟨w0.heap.size + 1, 0, none⟩ = false
  fe : w.frozen? ⟨w0.heap.size + 1 + 1, 0, none⟩ = false
  bel : Below w0.heap.size w0 w
theorem PaP.more {w0 : World} {vf : Value} {mu rw gr n e : Int} {w w' : World} (h : PaP w0 vf mu rw gr n e w) (hb : Below w.heap.size w w') : PaP w0 vf mu rw gr n e w' :=
  ⟨cell_bel h.c0 hb, cell_bel h.c1 hb, cell_bel h.c2 hb, cell_bel h.c3 hb, cell_bel h.cn hb, cell_bel h.ce hb, froz_bel h.c0 h.f0 hb, froz_bel h.c1 h.f1 hb, froz_bel h.c2 h.f2 hb, froz_bel h.c3 h.f3 hb, froz_bel h.cn h.fn hb, froz_bel h.ce h.fe hb, h.bel.trans (hb.mono h.bel.size)⟩
theorem PaP.touch {w0 : World} {vf : Value} {mu rw gr n e : Int} {w w' : World} {T : Nat → Prop} (h : PaP w0 vf mu rw gr n e w) (ht : Touch T w w') (hb : Below w0.heap.size w w') (hT : ∀ b, T b → w0.heap.size + 1 + 1 < b) : PaP w0 vf mu rw gr n e w' :=
  have n0 : ¬ T w0.heap.size := fun h => by have := hT _ h; omega
  have n1 : ¬ T (w0.heap.size + 1) := fun h => by have := hT _ h; omega
  have n2 : ¬ T (w0.heap.size + 1 + 1) := fun h => by have := hT _ h; omega
  ⟨cell_touch h.c0 ht n0, cell_touch h.c1 ht n0, cell_touch h.c2 ht n0, cell_touch h.c3 ht n0, cell_touch h.cn ht n1, cell_touch h.ce ht n2, froz_touch h.c0 h.f0 ht n0, froz_touch h.c1 h.f1 ht n0, froz_touch h.c2 h.f2 ht n0, froz_touch h.c3 h.f3 ht n0, froz_touch h.cn h.fn ht n1, froz_touch h.ce h.fe ht n2, h.bel.trans hb⟩

/-- The program's four cells, stored. -/
abbrev setP (b : Nat) (vf : Value) (mu rw gr : Int) (w : World) : World := (((w.setCell ⟨b, 0, none⟩ vf).setCell ⟨b, 1, none⟩ (.int .i64 mu)).setCell ⟨b, 2, none⟩ (.int .i64 rw)).setCell ⟨b, 3, none⟩ (.int .i64 gr)
theorem PaP.set {w0 : World} {vf : Value} {mu rw gr n e : Int} {w : World} (h : PaP w0 vf mu rw gr n e w) (vf' : Value) (mu' rw' gr' n' e' : Int) :
    PaP w0 vf' mu' rw' gr' n' e' (((setP w0.heap.size vf' mu' rw' gr' w).setCell ⟨w0.heap.size + 1, 0, none⟩ (.int .i64 n')).setCell ⟨w0.heap.size + 1 + 1, 0, none⟩ (.int .i64 e')) := by
  obtain ⟨c0, c1, c2, c3, cn, ce, f0, f1, f2, f3, fn, fe, bel⟩ := h
  have o : ∀ (v : World) (p q : Addr) (x : Value), p ≠ q → (v.setCell p x).cell? q = v.cell? q := fun v p q x h => World.cell?_setCell_other _ _ _ _ h
  refine ⟨?_, ?_, ?_, ?_, ?_, ?_, ?_, ?_, ?_, ?_, ?_, ?_, ?_⟩
  · rw [o _ _ _ _ (by simp), o _ _ _ _ (by simp), o _ _ _ _ (by simp), o _ _ _ _ (by simp), o _ _ _ _ (by simp)]
    exact World.cell?_setCell_same _ _ _ c0
  · rw [o _ _ _ _ (by simp), o _ _ _ _ (by simp), o _ _ _ _ (by simp), o _ _ _ _ (by simp)]
    exact World.cell?_setCell_same _ _ _ ((o _ _ _ _ (by simp)).trans c1)
  · rw [o _ _ _ _ (by simp), o _ _ _ _ (by simp), o _ _ _ _ (by simp)]
    exact World.cell?_setCell_same _ _ _ ((o _ _ _ _ (by simp)).trans ((o _ _ _ _ (by simp)).trans c2))
  · rw [o _ _ _ _ (by simp), o _ _ _ _ (by simp)]
    exact World.cell?_setCell_same _ _ _ ((o _ _ _ _ (by simp)).trans ((o _ _ _ _ (by simp)).trans ((o _ _ _ _ (by simp)).trans c3)))
  · rw [o _ _ _ _ (by simp)]
    exact World.cell?_setCell_same _ _ _ ((o _ _ _ _ (by simp)).trans ((o _ _ _ _ (by simp)).trans ((o _ _ _ _ (by simp)).trans ((o _ _ _ _ (by simp)).trans cn))))
  · exact World.cell?_setCell_same _ _ _ ((o _ _ _ _ (by simp)).trans ((o _ _ _ _ (by simp)).trans ((o _ _ _ _ (by simp)).trans ((o _ _ _ _ (by simp)).trans ((o _ _ _ _ (by simp)).trans ce)))))
  · simp only [World.frozen?_setCell]; exact f0
  · simp only [World.frozen?_setCell]; exact f1
  · simp only [World.frozen?_setCell]; exact f2
  · simp only [World.frozen?_setCell]; exact f3
  · simp only [World.frozen?_setCell]; exact fn
  · simp only [World.frozen?_setCell]; exact fe
  · exact (((((bel.setCell (p := ⟨w0.heap.size, 0, none⟩) (Nat.le_refl _) _).setCell (p := ⟨w0.heap.size, 1, none⟩) (Nat.le_refl _) _).setCell (p := ⟨w0.heap.size, 2, none⟩) (Nat.le_refl _) _).setCell (p := ⟨w0.heap.size, 3, none⟩) (Nat.le_refl _) _).setCell (p := ⟨w0.heap.size + 1, 0, none⟩) (by simp) _).setCell (p := ⟨w0.heap.size + 1 + 1, 0, none⟩) (by simp; omega) _

theorem paP_start (w : World) : PaP w (.slice none 0 0) 0 0 0 0 0 (((w.alloc (.cells #[.slice none 0 0, .int .i64 0, .int .i64 0, .int .i64 0] 58)).alloc (.cells #[.int .i64 0] 3)).alloc (.cells #[.int .i64 0] 38)) := by
  have e := fun j => cell_new w #[.slice none 0 0, .int .i64 0, .int .i64 0, .int .i64 0] 58 j
  have b0 := bel1 (W := w.alloc (.cells #[.slice none 0 0, .int .i64 0, .int .i64 0, .int .i64 0] 58)) (.cells #[.int .i64 0] 3)
  have b1 := belA b0 (.cells #[.int .i64 0] 38)
  have g := fun j => World.frozen?_alloc_new w #[.slice none 0 0, .int .i64 0, .int .i64 0, .int .i64 0] 58 j
  have n1 := cell_two w (.cells #[.slice none 0 0, .int .i64 0, .int .i64 0, .int .i64 0] 58) #[.int .i64 0] 3 0
  have m1 := froz_two w (.cells #[.slice none 0 0, .int .i64 0, .int .i64 0, .int .i64 0] 58) #[.int .i64 0] 3 0
  have n2 := cell_two (w.alloc (.cells #[.slice none 0 0, .int .i64 0, .int .i64 0, .int .i64 0] 58)) (.cells #[.int .i64 0] 3) #[.int .i64 0] 38 0
  have m2 := froz_two (w.alloc (.cells #[.slice none 0 0, .int .i64 0, .int .i64 0, .int .i64 0] 58)) (.cells #[.int .i64 0] 3) #[.int .i64 0] 38 0
  have bb := bel1 (W := (w.alloc (.cells #[.slice none 0 0, .int .i64 0, .int .i64 0, .int .i64 0] 58)).alloc (.cells #[.int .i64 0] 3)) (.cells #[.int .i64 0] 38)
  simp only [World.size_alloc] at n2 m2
  exact ⟨cell_bel (e 0) b1, cell_bel (e 1) b1, cell_bel (e 2) b1, cell_bel (e 3) b1, cell_bel n1 bb, n2, froz_bel (e 0) (g 0) b1, froz_bel (e 1) (g 1) b1, froz_bel (e 2) (g 2) b1, froz_bel (e 3) (g 3) b1, froz_bel n1 m1 bb, m2, belA (belA (bel1 _) _) _⟩

theorem asmClear_any (b : Nat) (w : World) (v0 v1 v2 v3 : Value) (c0 : w.cell? ⟨b, 0, none⟩ = some v0) (c1 : w.cell? ⟨b, 1, none⟩ = some v1) (c2 : w.cell? ⟨b, 2, none⟩ = some v2) (c3 : w.cell? ⟨b, 3, none⟩ = some v3)
    (f0 : w.frozen? ⟨b, 0, none⟩ = false) (f1 : w.frozen? ⟨b, 1, none⟩ = false) (f2 : w.frozen? ⟨b, 2, none⟩ = false) (f3 : w.frozen? ⟨b, 3, none⟩ = false) :
    Calls Tryz.prog 65 #[.pointer (some ⟨b, 0, none⟩)] w fun e w' => e = .returned (.tuple #[]) ∧ w' = setP b (.slice none 0 0) 0 0 0 w := by
  go_enter Tryz.func65, Tryz.ntmps65
  go_wp2
  go_end0
  exact ⟨rfl, rfl⟩

theorem asmCaught_idle (p q : Addr) (f : Value) (w : World) :
    CallsD Tryz.prog 64 #[.pointer (some p), .pointer (some q), f] .returning w fun e u' w' => e = .returned (.tuple #[]) ∧ u' = .returning ∧ w' = w := by
  have hn : ∀ w, (binOp .neq 20 .nilIface .nilIface).run Tryz.prog w = .ok (.bool false) w := fun _ => by kernel_rfl
  refine callsD_of_wpS Tryz.func64 rfl fun c₀ cs hu => ?_
  simp only [Tryz.ntmps64, List.size_toArray, List.length_cons, List.length_nil, Nat.reduceAdd, Nat.reduceSub, Array.replicate_succ, Array.replicate_zero, List.push_toArray, List.append_toArray, List.nil_append, List.cons_append]
  apply wpS_seq
  apply wpS_region
  simp [wpOpsS, go_sem, recoverD, hu, Exit.thenS]
  refine wpS_of_wp ?_
  go_wp2
  cases c₀
  simp_all [bodyPostS, results, Tryz.results64]

set_option maxRecDepth 100000 in
set_option maxHeartbeats 4000000 in
/-- Caught with a line: the program is cleared, the line and the number 210 are stored. -/
theorem asmCaught_yes (w0 : World) (vf : Value) (mu rw gr n0 e0 n : Int) (older : List PanicEntry) (w : World) (h : PaP w0 vf mu rw gr n0 e0 w) :
    CallsD Tryz.prog 64 #[.pointer (some ⟨w0.heap.size + 1, 0, none⟩), .pointer (some ⟨w0.heap.size + 1 + 1, 0, none⟩), .func (.func 65) #[] #[.pointer (some ⟨w0.heap.size, 0, none⟩)]] (.panicking ({ v := .iface 202 (.agg #[.int .i64 n]), recovered := false } :: older)) w fun e u' w' =>
      e = .returned (.tuple #[]) ∧ u' = .panicking ({ v := .iface 202 (.agg #[.int .i64 n]), recovered := true } :: older) ∧ PaP w0 (.slice none 0 0) 0 0 0 n 210 w' := by
  have hn : ∀ w, (binOp .neq 20 (.iface 202 (.agg #[.int .i64 n])) .nilIface).run Tryz.prog w = .ok (.bool true) w := fun _ => by kernel_rfl
  have ht : ∀ w, (Instr.typeAssert (.iface 202 (.agg #[.int .i64 n])) 20 202 true).run Tryz.prog w = .ok (.tuple #[.agg #[.int .i64 n], .bool true]) w := fun _ => by kernel_rfl
  have hP := h.more (bel1 (.cells #[.int .i64 n] 202))
  have H := Lib.hid (hP.set (.slice none 0 0) 0 0 0 n 210)
  obtain ⟨c0, c1, c2, c3, cn, ce, f0, f1, f2, f3, fn, fe, -⟩ := hP
  have HC := Lib.hid (asmClear_any w0.heap.size _ _ _ _ _ c0 c1 c2 c3 f0 f1 f2 f3)
  have k0 := cell_new w #[.int .i64 n] 202 0
  have hlt : w0.heap.size + 1 + 1 < w.heap.size := lt_of_cell h.ce
  have hw0 : w0.heap.size ≠ w.heap.size := by omega
  have o : ∀ (v : World) (p q : Addr) (x : Value), p ≠ q → (v.setCell p x).cell? q = v.cell? q := fun v p q x h => World.cell?_setCell_other _ _ _ _ h
  have k1 : (setP w0.heap.size (.slice none 0 0) 0 0 0 (w.alloc (.cells #[.int .i64 n] 202))).cell? ⟨w.heap.size, 0, none⟩ = some (.int .i64 n) := by
    rw [o _ _ _ _ (by simp [hw0]), o _ _ _ _ (by simp [hw0]), o _ _ _ _ (by simp [hw0]), o _ _ _ _ (by simp [hw0])]
    exact k0
  have cn' : (setP w0.heap.size (.slice none 0 0) 0 0 0 (w.alloc (.cells #[.int .i64 n] 202))).cell? ⟨w0.heap.size + 1, 0, none⟩ = some (.int .i64 n0) := by
    rw [o _ _ _ _ (by simp), o _ _ _ _ (by simp), o _ _ _ _ (by simp), o _ _ _ _ (by simp)]
    exact cn
  have ce' : (setP w0.heap.size (.slice none 0 0) 0 0 0 (w.alloc (.cells #[.int .i64 n] 202))).cell? ⟨w0.heap.size + 1 + 1, 0, none⟩ = some (.int .i64 e0) := by
    rw [o _ _ _ _ (by simp), o _ _ _ _ (by simp), o _ _ _ _ (by simp), o _ _ _ _ (by simp)]
    exact ce
  have fn' : (setP w0.heap.size (.slice none 0 0) 0 0 0 (w.alloc (.cells #[.int .i64 n] 202))).frozen? ⟨w0.heap.size + 1, 0, none⟩ = false := by simp only [World.frozen?_setCell]; exact fn
  have fe' : (setP w0.heap.size (.slice none 0 0) 0 0 0 (w.alloc (.cells #[.int .i64 n] 202))).frozen? ⟨w0.heap.size + 1 + 1, 0, none⟩ = false := by simp only [World.frozen?_setCell]; exact fe
  clear h c0 c1 c2 c3 cn ce f0 f1 f2 f3 fn fe
  refine callsD_of_wpS Tryz.func64 rfl fun c₀ cs hu => ?_
  simp only [Tryz.ntmps64, List.size_toArray, List.length_cons, List.length_nil, Nat.reduceAdd, Nat.reduceSub, Array.replicate_succ, Array.replicate_zero, List.push_toArray, List.append_toArray, List.nil_append, List.cons_append]
  apply wpS_seq
  apply wpS_region
  simp [wpOpsS, go_sem, recoverD, hu, Exit.thenS]
  refine wpS_of_wp ?_
  go_wp2_with fail
  refine HC.out.mono ?_
  rintro e w1 ⟨rfl, rfl⟩
  generalize hgw : setP w0.heap.size (.slice none 0 0) 0 0 0 (w.alloc (.cells #[.int .i64 n] 202)) = W at *
  clear hgw
  go_wp2_with fail
  cases c₀
  simp_all [bodyPostS, results, Tryz.results64]
  exact H.out

/-- What Parse tells. -/
def asmV (vf : Value) (mu rw gr n e : Int) : Value := .tuple #[.agg #[vf, .int .i64 mu, .int .i64 rw, .int .i64 gr], .int .i64 n, .int .i64 e]
abbrev asmD (w0 : World) : Deferred := { target := Target.fn (Fn.func 64) #[], args := #[.pointer (some ⟨w0.heap.size + 1, 0, none⟩), .pointer (some ⟨w0.heap.size + 1 + 1, 0, none⟩), .func (.func 65) #[] #[.pointer (some ⟨w0.heap.size, 0, none⟩)]] }

set_option maxRecDepth 100000 in
set_option maxHeartbeats 4000000 in
theorem asmParse_panics (w0 : World) (vf : Value) (mu rw gr n0 e0 : Int) (w : World) (h : PaP w0 vf mu rw gr n0 e0 w) (n : Int) (t : Array Value)
    (h2 : t[2]? = some (.pointer (some ⟨w0.heap.size, 0, none⟩))) (h3 : t[3]? = some (.pointer (some ⟨w0.heap.size + 1, 0, none⟩))) (h4 : t[4]? = some (.pointer (some ⟨w0.heap.size + 1 + 1, 0, none⟩))) (R : Ending → World → Prop) (hR : ∀ w', Below w0.heap.size w0 w' → R (.returned (asmV (.slice none 0 0) 0 0 0 n 210)) w') :
    bodyPostD Tryz.prog Tryz.f28 R (Exit.panic [{ v := .iface 202 (.agg #[.int .i64 n]), recovered := false }])
      { tmps := t, defers := [asmD w0] } w := by
  refine leaves_cons (f := 64) (args := #[.pointer (some ⟨w0.heap.size + 1, 0, none⟩), .pointer (some ⟨w0.heap.size + 1 + 1, 0, none⟩), .func (.func 65) #[] #[.pointer (some ⟨w0.heap.size, 0, none⟩)]]) (by simp) (by simp [go_sem]) ?_
  refine (asmCaught_yes w0 vf mu rw gr n0 e0 n [] w h).mono ?_
  rintro e u' w2 ⟨rfl, rfl, h'⟩
  obtain ⟨c0, c1, c2, c3, cn, ce, -, -, -, -, -, -, bel⟩ := h'
  have hB := hR _ bel
  clear h hR bel
  unfold asmV at hB
  simp [Leaves, settle, results, Tryz.results28, go_sem, h2, h3, h4, c0, c1, c2, c3, cn, ce]
  exact hB

set_option maxRecDepth 100000 in
set_option maxHeartbeats 4000000 in
theorem asmParse_returns (w0 : World) (vf : Value) (mu rw gr n e : Int) (w : World) (h : PaP w0 vf mu rw gr n e w) (t : Array Value)
    (h2 : t[2]? = some (.pointer (some ⟨w0.heap.size, 0, none⟩))) (h3 : t[3]? = some (.pointer (some ⟨w0.heap.size + 1, 0, none⟩))) (h4 : t[4]? = some (.pointer (some ⟨w0.heap.size + 1 + 1, 0, none⟩))) (R : Ending → World → Prop) (hR : R (.returned (asmV vf mu rw gr n e)) w) :
    bodyPostD Tryz.prog Tryz.f28 R Exit.ret { tmps := t, defers := [asmD w0] } w := by
  obtain ⟨c0, c1, c2, c3, cn, ce, -, -, -, -, -, -, -⟩ := h
  unfold asmV at hR
  refine leaves_cons (f := 64) (args := #[.pointer (some ⟨w0.heap.size + 1, 0, none⟩), .pointer (some ⟨w0.heap.size + 1 + 1, 0, none⟩), .func (.func 65) #[] #[.pointer (some ⟨w0.heap.size, 0, none⟩)]]) (by simp) (by simp [go_sem]) ?_
  refine (asmCaught_idle _ _ _ w).mono ?_
  rintro e u' w2 ⟨rfl, rfl, rfl⟩
  simp [Leaves, settle, results, Tryz.results28, go_sem, h2, h3, h4, c0, c1, c2, c3, cn, ce]
  exact hR
end Go.Proofs.YtfnfcngkaepnjaaGreatDoor

/- Package asm: the reader; its functions' rows. -/
namespace Go.Proofs.YtfnfcngkaepnjaaGreatDoor
set_option linter.unusedVariables false
set_option linter.unusedSimpArgs false
open Go Go.Proofs Go.RowKit Go.Sort

/-- A function that was read: where its code lies. -/
structure QFn where
  f : FnM
  a : Option Addr
  c : Nat
abbrev QFn.v (q : QFn) : Value := .slice q.a q.f.code.length q.c
abbrev encQ (q : QFn) : List Value := [.int .i64 q.f.regs, .slice q.a q.f.code.length q.c]
theorem rowFn : RowTy 56 114 2 32 (.agg #[.int .i64 0, .slice none 0 0]) encQ :=
  ⟨Tryz.underlying56, by kernel_rfl, rfl, by decide, by decide, fun _ => rfl, fun x u hu => by
    simp only [encQ, List.mem_cons, List.not_mem_nil, or_false] at hu
    rcases hu with rfl | rfl <;> rfl⟩
theorem rowIn : RowTy 25 29 5 40 (.agg #[.int .i64 0, .int .i64 0, .int .i64 0, .int .i64 0, .int .u32 0]) encN :=
  ⟨Tryz.underlying25, by kernel_rfl, rfl, by decide, by decide, fun _ => rfl, fun x u hu => by
    simp only [encN, List.mem_cons, List.not_mem_nil, or_false] at hu
    rcases hu with rfl | rfl | rfl | rfl | rfl <;> rfl⟩

/-- The functions that were read lie in rows of their own, from block B on. -/
structure RdF (B : Nat) (Q : List QFn) (vf : Value) (w : World) : Prop where
  row : OwnU 114 2 encQ B vf Q w
  code : ∀ (k : Nat) q, Q[k]? = some q → OwnU 29 5 encN B q.v q.f.code w
  apart : ∀ (i j : Nat) p q, i ≠ j → Q[i]? = some p → Q[j]? = some q → ∀ g, p.v.ownBlock = some g → q.v.ownBlock ≠ some g
theorem RdF.nil {B : Nat} {w : World} : RdF B [] (.slice none 0 0) w := ⟨OwnU.nil, fun k q h => by simp at h, fun i j p q _ h => by simp at h⟩
theorem RdF.bel {B : Nat} {Q : List QFn} {vf : Value} {w w' : World} (h : RdF B Q vf w) (hb : Below w.heap.size w w') : RdF B Q vf w' :=
  ⟨h.row.bel hb, fun k q hk => (h.code k q hk).bel hb, h.apart⟩
theorem OwnU.lt {α : Type} {e : TypeId} {size : Nat} {enc : α → List Value} {base : Nat} {v : Value} {L : List α} {w : World} (h : OwnU e size enc base v L w) (k : Nat) (hk : v.ownBlock = some k) : base ≤ k ∧ k < w.heap.size := h.own.lt k hk
theorem RdF.touch {B : Nat} {Q : List QFn} {vf : Value} {w w' : World} {T : Nat → Prop} (h : RdF B Q vf w) (ht : Touch T w w') (hT : ∀ b, T b → b < B) : RdF B Q vf w' :=
  ⟨h.row.touch ht (fun g hg hh => by have := (h.row.lt g hg).1; have := hT g hh; omega), fun k q hk => (h.code k q hk).touch ht (fun g hg hh => by have := ((h.code k q hk).lt g hg).1; have := hT g hh; omega), h.apart⟩
theorem RdF.form {B : Nat} {Q : List QFn} {vf : Value} {w : World} (h : RdF B Q vf w) : ∃ a c, vf = .slice a Q.length c := h.row.own.form

/-- What was read is a program's functions. -/
theorem RdF.arg {B : Nat} {Q : List QFn} {vf : Value} {w : World} (h : RdF B Q vf w) : ArgF w vf (Q.map QFn.f) := by
  refine ⟨Q.map fun q => (q.f.regs, q.v), ?_, ?_⟩
  · have h1 := OwnW.arg (enc := encQ) (fun _ => rfl) h.row.own
    rcases h1 with ⟨h1, h2⟩ | ⟨ad, c, h1, h2, h3, h4⟩
    · exact Or.inl ⟨h1, by rw [h2]; rfl⟩
    · refine Or.inr ⟨ad, c, by rw [List.length_map]; exact h1, by rw [List.length_map]; exact h2, h3, fun hn => ?_⟩
      obtain ⟨b, o, e, hH⟩ := h4 (by rintro rfl; exact hn rfl)
      refine ⟨b, o, e, fun k j x u hk hj => ?_⟩
      rw [List.getElem?_map, Option.map_eq_some_iff] at hk
      obtain ⟨q, hq, rfl⟩ := hk
      exact hH k j q u hq hj
  · refine ⟨by simp, fun k r f hr hf => ?_⟩
    rw [List.getElem?_map, Option.map_eq_some_iff] at hr hf
    obtain ⟨q, hq, rfl⟩ := hr
    obtain ⟨q', hq', rfl⟩ := hf
    rw [hq] at hq'
    obtain rfl := Option.some.inj hq'
    exact ⟨rfl, OwnW.arg (fun _ => rfl) (h.code k q hq).own⟩

/-- One function more. -/
theorem RdF.more {B : Nat} {Q : List QFn} {vf : Value} {w : World} (h : RdF B Q vf w) (n : Int) (ty : TypeId) (g c : Nat) (h0 : w.cell? ⟨g, 0, none⟩ = some (.int .i64 n)) (h1 : w.cell? ⟨g, 1, none⟩ = some (.slice none 0 0)) (hn : Q.length ≤ 1000000) (hB : B ≤ w.heap.size) :
    ∃ v' w', (Builtin.append_ #[56, 56] ty #[vf, .slice (some ⟨g, 0, none⟩) 1 c]).run Tryz.prog w = .ok v' w' ∧ RdF B (Q ++ [⟨⟨n, []⟩, none, 0⟩]) v' w' ∧ Below B w w' ∧ Touch (fun g => some g = vf.ownBlock) w w' := by
  obtain ⟨v', w', r1, r2, r3, r4⟩ := append_U_run rowFn ty h.row g c ⟨⟨n, []⟩, none, 0⟩ (fun j u hj => by
    match j, hj with
    | 0, hj => simp only [encQ, List.getElem?_cons_zero, Option.some.injEq] at hj; rw [← hj]; exact h0
    | 1, hj => simp only [encQ, List.getElem?_cons_succ, List.getElem?_cons_zero, Option.some.injEq] at hj; rw [← hj]; exact h1) hn hB
  have hget : ∀ (k : Nat) q, (Q ++ [(⟨⟨n, []⟩, none, 0⟩ : QFn)])[k]? = some q → Q[k]? = some q ∨ q = ⟨⟨n, []⟩, none, 0⟩ := fun k q hk => by
    rcases Nat.lt_or_ge k Q.length with hl | hl
    · rw [List.getElem?_append_left hl] at hk; exact Or.inl hk
    · rw [List.getElem?_append_right hl] at hk
      obtain ⟨h1, h2⟩ := List.getElem?_eq_some_iff.1 hk
      simp at h1
      have : k - Q.length = 0 := by omega
      simp only [this, List.getElem_cons_zero] at h2
      exact Or.inr h2.symm
  refine ⟨v', w', r1, ⟨r2, fun k q hk => ?_, fun i j p q hij hi hj g hg => ?_⟩, (Below.refl B w).grown r3 hB (fun k hk => (h.row.lt k hk).1), touch_grown r3⟩
  · rcases hget k q hk with hk | rfl
    · refine (h.code k q hk).touch (touch_grown r3) (fun g hg hh => ?_)
      exact OwnW.apart (h.code k q hk).own h.row.own (by decide) g hg hh.symm
    · exact OwnU.nil
  · rcases hget i p hi with hi | rfl
    · rcases hget j q hj with hj | rfl
      · exact h.apart i j p q hij hi hj g hg
      · intro h; cases h
    · cases hg

/-- An instruction more, of the last one: its code grows, the function's cell is stored. -/
theorem RdF.push {B : Nat} {Q : List QFn} {q : QFn} {b cap : Nat} {n : Nat} {w : World} (h : RdF B Q (.slice (some ⟨b, 0, none⟩) n cap) w) (k : Nat) (hk : Q[k]? = some q) (x : InsM) (ty : TypeId) (g c : Nat) (hx : ∀ j u, (encN x)[j]? = some u → w.cell? ⟨g, j, none⟩ = some u) (hn : q.f.code.length ≤ 1000000) (hB : B ≤ w.heap.size) :
    ∃ v' w' q', (Builtin.append_ #[25, 25] ty #[q.v, .slice (some ⟨g, 0, none⟩) 1 c]).run Tryz.prog w = .ok v' w' ∧ v' = q'.v ∧ q'.f = ⟨q.f.regs, q.f.code ++ [x]⟩ ∧ w'.cell? ⟨b, k * 2 + 1, none⟩ = some q.v ∧ w'.frozen? ⟨b, k * 2 + 1, none⟩ = false ∧ RdF B (Q.set k q') (.slice (some ⟨b, 0, none⟩) n cap) (w'.setCell ⟨b, k * 2 + 1, none⟩ v') ∧ Below B w w' ∧ B ≤ b ∧ Touch (fun g => some g = q.v.ownBlock) w w' := by
  obtain ⟨v', w', r1, r2, r3, r4⟩ := append_U_run rowIn ty (h.code k q hk) g c x hx hn hB
  obtain ⟨a', c', hv'⟩ := r2.own.form
  have hrow : OwnU 114 2 encQ B (.slice (some ⟨b, 0, none⟩) n cap) Q w' := h.row.touch (touch_grown r3) (fun g hg hh => OwnW.apart h.row.own (h.code k q hk).own (by decide) g hg hh.symm)
  have hq : (⟨⟨q.f.regs, q.f.code ++ [x]⟩, a', c'⟩ : QFn).v = v' := hv'.symm
  have hlast := OwnW.cell (enc := encQ) (fun _ => rfl) hrow.own k 1 q q.v hk rfl
  have hset := OwnU.set (enc := encQ) (size := 2) (fun _ => rfl) hrow k 1 q ⟨⟨q.f.regs, q.f.code ++ [x]⟩, a', c'⟩ v' hk (by omega) (by rw [hv']; rfl)
  have hsz : w.heap.size ≤ w'.heap.size := r3.size
  have hbv : (.slice (some ⟨b, 0, none⟩) n cap : Value).ownBlock = some b := rfl
  have hbB := (h.row.lt b rfl)
  -- what the code's block is: no function row, no other code
  have hcodes : ∀ (j : Nat) p, j ≠ k → Q[j]? = some p → OwnU 29 5 encN B p.v p.f.code w' := fun j p hj hp =>
    (h.code j p hp).touch (touch_grown r3) (fun g hg hh => h.apart j k p q hj hp hk g hg hh.symm)
  have hins : ∀ {v : Value} {L : List InsM}, OwnU 29 5 encN B v L w' → OwnU 29 5 encN B v L (w'.setCell ⟨b, k * 2 + 1, none⟩ v') := fun ho =>
    ho.touch (T := fun g => g = b) (Touch.setCell _ _ _ rfl) (fun g hg hh => OwnW.apart ho.own hrow.own (by decide) g hg (by rw [hbv, hh]))
  have hkl : k < Q.length := (List.getElem?_eq_some_iff.1 hk).1
  have hget : ∀ (j : Nat) p, (Q.set k ⟨⟨q.f.regs, q.f.code ++ [x]⟩, a', c'⟩)[j]? = some p → (j ≠ k ∧ Q[j]? = some p) ∨ (j = k ∧ p = ⟨⟨q.f.regs, q.f.code ++ [x]⟩, a', c'⟩) := fun j p hj => by
    by_cases hjk : j = k
    · subst hjk
      rw [List.getElem?_set_self hkl] at hj
      exact Or.inr ⟨rfl, (Option.some.inj hj).symm⟩
    · rw [List.getElem?_set_ne (by omega)] at hj
      exact Or.inl ⟨hjk, hj⟩
  have hne : ∀ (j : Nat) p g, j ≠ k → Q[j]? = some p → v'.ownBlock = some g → p.v.ownBlock ≠ some g := fun j p g hj hp hg hpg => by
    rcases r4 with h4 | h4
    · exact h.apart j k p q hj hp hk g hpg (by rw [← h4]; exact hg)
    · rw [h4] at hg
      have := ((h.code j p hp).lt g hpg).2
      have := Option.some.inj hg
      omega
  refine ⟨v', w', ⟨⟨q.f.regs, q.f.code ++ [x]⟩, a', c'⟩, r1, hv', rfl, hlast, hrow.froz _, ⟨hset, fun j p hj => ?_, fun i j p p' hij hi hj g hg => ?_⟩, (Below.refl B w).grown r3 hB (fun k' hk' => ((h.code k q hk).lt k' hk').1), hbB.1, touch_grown r3⟩
  · rcases hget j p hj with ⟨hjk, hp⟩ | ⟨rfl, rfl⟩
    · exact hins (hcodes j p hjk hp)
    · refine hins ?_
      rw [hq]
      exact r2
  · rcases hget i p hi with ⟨hik, hp⟩ | ⟨rfl, rfl⟩
    · rcases hget j p' hj with ⟨hjk, hp'⟩ | ⟨rfl, rfl⟩
      · exact h.apart i j p p' hij hp hp' g hg
      · rw [hq]
        intro hh
        exact hne i p g hik hp hh hg
    · rcases hget j p' hj with ⟨hjk, hp'⟩ | ⟨rfl, rfl⟩
      · rw [hq] at hg
        exact hne j p' g hjk hp' hg
      · exact absurd rfl hij
end Go.Proofs.YtfnfcngkaepnjaaGreatDoor
