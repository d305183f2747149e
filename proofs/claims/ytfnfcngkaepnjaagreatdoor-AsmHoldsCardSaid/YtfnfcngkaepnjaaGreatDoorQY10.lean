/- Joined texts: What was given up with is caught.; Read.; A cut behind a piece of code: of what it has written, only what is named is carried on. -/
import Derived.Test.YtfnfcngkaepnjaaGreatDoorQY9
import Derived.Defers
import Derived.Recover
import Derived.LoopTactic
/- What was given up with is caught. -/
namespace Go.Proofs.YtfnfcngkaepnjaaGreatDoor
set_option linter.unusedVariables false
open Go Go.Proofs Go.RowKit

theorem Bare.touch {B : Nat} {op : Int} {s : Int × Int × Int × Int} {w w' : World} {T : Nat → Prop} (h : Bare B op s w) (ht : Touch T w w') (hn : ¬ T B) : Bare B op s w' := by
  have e := ht.same B (lt_of_cell h.c0) hn
  have hf : ∀ j, w'.frozen? ⟨B, j, none⟩ = w.frozen? ⟨B, j, none⟩ := fun j => World.frozen?_of_block e
  have hc : ∀ j, w'.cell? ⟨B, j, none⟩ = w.cell? ⟨B, j, none⟩ := fun j => World.cell?_of_block e
  exact ⟨(hc _).trans h.c0, (hc _).trans h.c1, (hc _).trans h.c2, (hc _).trans h.c3, (hc _).trans h.c4, (hf _).trans h.f1, (hf _).trans h.f2, (hf _).trans h.f3, (hf _).trans h.f4⟩

/-- An instruction's five cells, stored. -/
theorem Bare.set {B : Nat} {op : Int} {s : Int × Int × Int × Int} {w : World} (h : Bare B op s w) (op' a b c m : Int) :
    Bare B op' (a, b, c, m) (((((w.setCell ⟨B, 0, none⟩ (.int .i64 op')).setCell ⟨B, 1, none⟩ (.int .i64 a)).setCell ⟨B, 2, none⟩ (.int .i64 b)).setCell ⟨B, 3, none⟩ (.int .i64 c)).setCell ⟨B, 4, none⟩ (.int .u32 m)) := by
  have e : ∀ (v : World) (i j : Nat) (x : Value), i ≠ j → (v.setCell ⟨B, i, none⟩ x).cell? ⟨B, j, none⟩ = v.cell? ⟨B, j, none⟩ := fun v i j x h => World.cell?_setCell_other _ _ _ _ (by simp)
  obtain ⟨c0, c1, c2, c3, c4, f1, f2, f3, f4⟩ := h
  refine ⟨?_, ?_, ?_, ?_, ?_, ?_, ?_, ?_, ?_⟩
  · rw [e _ 4 0 _ (by decide), e _ 3 0 _ (by decide), e _ 2 0 _ (by decide), e _ 1 0 _ (by decide)]
    exact World.cell?_setCell_same _ _ _ c0
  · rw [e _ 4 1 _ (by decide), e _ 3 1 _ (by decide), e _ 2 1 _ (by decide)]
    exact World.cell?_setCell_same _ _ _ ((e _ 0 1 _ (by decide)).trans c1)
  · rw [e _ 4 2 _ (by decide), e _ 3 2 _ (by decide)]
    exact World.cell?_setCell_same _ _ _ ((e _ 1 2 _ (by decide)).trans ((e _ 0 2 _ (by decide)).trans c2))
  · rw [e _ 4 3 _ (by decide)]
    exact World.cell?_setCell_same _ _ _ ((e _ 2 3 _ (by decide)).trans ((e _ 1 3 _ (by decide)).trans ((e _ 0 3 _ (by decide)).trans c3)))
  · exact World.cell?_setCell_same _ _ _ ((e _ 3 4 _ (by decide)).trans ((e _ 2 4 _ (by decide)).trans ((e _ 1 4 _ (by decide)).trans ((e _ 0 4 _ (by decide)).trans c4))))
  · simp only [World.frozen?_setCell]; exact f1
  · simp only [World.frozen?_setCell]; exact f2
  · simp only [World.frozen?_setCell]; exact f3
  · simp only [World.frozen?_setCell]; exact f4
theorem touch_set5 (B : Nat) (w : World) (v0 v1 v2 v3 v4 : Value) {T : Nat → Prop} (hT : T B) : Touch T w (((((w.setCell ⟨B, 0, none⟩ v0).setCell ⟨B, 1, none⟩ v1).setCell ⟨B, 2, none⟩ v2).setCell ⟨B, 3, none⟩ v3).setCell ⟨B, 4, none⟩ v4) :=
  ((((Touch.setCell _ _ _ hT).trans (Touch.setCell _ _ _ hT)).trans (Touch.setCell _ _ _ hT)).trans (Touch.setCell _ _ _ hT)).trans (Touch.setCell _ _ _ hT)

theorem caught_idle (p : Addr) (f : Value) (w : World) :
    CallsD Tryz.prog 87 #[.pointer (some p), f] .returning w fun e u' w' => e = .returned (.tuple #[]) ∧ u' = .returning ∧ w' = w := by
  have hn : ∀ w, (binOp .neq 20 .nilIface .nilIface).run Tryz.prog w = .ok (.bool false) w := fun _ => by kernel_rfl
  refine callsD_of_wpS Tryz.func87 rfl fun c₀ cs hu => ?_
  simp only [Tryz.ntmps87, List.size_toArray, List.length_cons, List.length_nil, Nat.reduceAdd, Nat.reduceSub, Array.replicate_succ, Array.replicate_zero, List.push_toArray, List.append_toArray, List.nil_append, List.cons_append]
  apply wpS_seq
  apply wpS_region
  simp [wpOpsS, go_sem, recoverD, hu, Exit.thenS]
  refine wpS_of_wp ?_
  go_wp2
  cases c₀
  simp_all [bodyPostS, results, Tryz.results87]

set_option maxRecDepth 100000 in
/-- Caught with a number: what the closure does, then the number is stored. -/
theorem caught_yes (E : Addr) (n : Int) (fc : Nat) (cap : Array Value) (older : List PanicEntry) (w : World) (R : World → Prop)
    (eg : ∀ args w, (callFunc fc args).run Tryz.prog w = .ok (.enter fc args) w) (hcl : Calls Tryz.prog fc cap w fun e w' => e = .returned (.tuple #[]) ∧ R w') (hE : ∀ w', R w' → ∃ y, w'.cell? E = some y ∧ w'.frozen? E = false) :
    CallsD Tryz.prog 87 #[.pointer (some E), .func (.func fc) #[] cap] (.panicking ({ v := .iface 38 (.int .i64 n), recovered := false } :: older)) w fun e u' w' =>
      e = .returned (.tuple #[]) ∧ u' = .panicking ({ v := .iface 38 (.int .i64 n), recovered := true } :: older) ∧ ∃ w1, R w1 ∧ w' = w1.setCell E (.int .i64 n) := by
  have hn : ∀ w, (binOp .neq 20 (.iface 38 (.int .i64 n)) .nilIface).run Tryz.prog w = .ok (.bool true) w := fun _ => by kernel_rfl
  have ht : ∀ w, (Instr.typeAssert (.iface 38 (.int .i64 n)) 20 38 true).run Tryz.prog w = .ok (.tuple #[.int .i64 n, .bool true]) w := fun _ => by kernel_rfl
  have HC := Lib.hid hcl
  have HE := Lib.hid hE
  clear hcl hE
  refine callsD_of_wpS Tryz.func87 rfl fun c₀ cs hu => ?_
  simp only [Tryz.ntmps87, List.size_toArray, List.length_cons, List.length_nil, Nat.reduceAdd, Nat.reduceSub, Array.replicate_succ, Array.replicate_zero, List.push_toArray, List.append_toArray, List.nil_append, List.cons_append]
  apply wpS_seq
  apply wpS_region
  simp [wpOpsS, go_sem, recoverD, hu, Exit.thenS]
  refine wpS_of_wp ?_
  go_wp2_with fail
  refine HC.out.mono ?_
  rintro e w1 ⟨rfl, hR⟩
  obtain ⟨y, hy, hf⟩ := HE.out w1 hR
  go_wp2_with fail
  cases c₀
  simp_all [bodyPostS, results, Tryz.results87]
  exact ⟨w1, hR, rfl⟩

/-- The closure that clears what Read tells: two results. -/
theorem readClear_any (base B M : Nat) (op : Int) (s : Int × Int × Int × Int) (m : Int) (w : World) (hne : B ≠ M) (hbB : base ≤ B) (hbM : base ≤ M) (h : Bare B op s w) (hf0 : w.frozen? ⟨B, 0, none⟩ = false) (hM : w.cell? ⟨M, 0, none⟩ = some (.int .i64 m)) (hf : w.frozen? ⟨M, 0, none⟩ = false) :
    Calls Tryz.prog 100 #[.pointer (some ⟨B, 0, none⟩), .pointer (some ⟨M, 0, none⟩)] w fun e w' => e = .returned (.tuple #[]) ∧ Bare B 0 (0, 0, 0, 0) w' ∧ w'.cell? ⟨M, 0, none⟩ = some (.int .i64 0) ∧ Touch (fun b => b = B ∨ b = M) w w' ∧ Below base w w' ∧ (∀ b o, w'.frozen? ⟨b, o, none⟩ = w.frozen? ⟨b, o, none⟩) := by
  obtain ⟨c0, c1, c2, c3, c4, f1, f2, f3, f4⟩ := h
  go_enter Tryz.func100, Tryz.ntmps100
  have hS := Bare.set ⟨c0, c1, c2, c3, c4, f1, f2, f3, f4⟩ 0 0 0 0 0
  have hT := touch_set5 B w (.int .i64 0) (.int .i64 0) (.int .i64 0) (.int .i64 0) (.int .u32 0) (T := fun b => b = B ∨ b = M) (Or.inl rfl)
  have hM5 := cell_touch hM (touch_set5 B w (.int .i64 0) (.int .i64 0) (.int .i64 0) (.int .i64 0) (.int .u32 0) (T := fun b => b = B) rfl) (fun e => hne e.symm)
  have hBl : Below base w (((((w.setCell ⟨B, 0, none⟩ (.int .i64 0)).setCell ⟨B, 1, none⟩ (.int .i64 0)).setCell ⟨B, 2, none⟩ (.int .i64 0)).setCell ⟨B, 3, none⟩ (.int .i64 0)).setCell ⟨B, 4, none⟩ (.int .u32 0)) := ((((((Below.refl _ _).setCell (p := ⟨B, 0, none⟩) hbB _).setCell (p := ⟨B, 1, none⟩) hbB _).setCell (p := ⟨B, 2, none⟩) hbB _).setCell (p := ⟨B, 3, none⟩) hbB _).setCell (p := ⟨B, 4, none⟩) hbB _)
  have HS := Lib.hid hS
  have HT := Lib.hid hT
  have HM5 := Lib.hid hM5
  have HBl := Lib.hid hBl
  clear hS hT hM5 hBl
  go_wp2_with fail
  go_end0
  refine ⟨rfl, HS.out.far hne.symm, World.cell?_setCell_same _ _ _ HM5.out, HT.out.trans (Touch.setCell _ _ _ (Or.inr rfl)), HBl.out.setCell (p := ⟨M, 0, none⟩) hbM _, fun b o => by simp only [World.frozen?_setCell]⟩
end Go.Proofs.YtfnfcngkaepnjaaGreatDoor

/- Read. -/
namespace Go.Proofs.YtfnfcngkaepnjaaGreatDoor
set_option linter.unusedVariables false
open Go Go.Proofs Go.RowKit

/-- Parts, read one behind the other. -/
def readS (l : List Nat) : List Part → Nat → Int × Int × Int × Int → Int × Int × Int × Int
  | [], _, s => s
  | p :: ps, i, s => readS l ps (i + p.wide.toNat) (putN p (leN (l.drop i) p.wide.toNat) s)
def wideF (ps : List Part) : Nat := (ps.map fun p => p.wide.toNat).sum

theorem readS_append (l : List Nat) : ∀ (ps qs : List Part) (i : Nat) (s : Int × Int × Int × Int), readS l (ps ++ qs) i s = readS l qs (i + wideF ps) (readS l ps i s)
  | [], qs, i, s => by simp [readS, wideF]
  | p :: ps, qs, i, s => by
    simp only [List.cons_append, readS, wideF, List.map_cons, List.sum_cons]
    rw [readS_append l ps qs]
    simp only [wideF, Nat.add_assoc]
theorem readS_take (l : List Nat) (ps : List Part) (k : Nat) (hk : k < ps.length) (i : Nat) (s : Int × Int × Int × Int) :
    readS l (ps.take (k + 1)) i s = putN ps[k] (leN (l.drop (i + wideF (ps.take k))) ps[k].wide.toNat) (readS l (ps.take k) i s) := by
  rw [← List.take_append_getElem hk, readS_append]
  rfl
theorem wideF_take (ps : List Part) (k : Nat) (hk : k < ps.length) : wideF (ps.take (k + 1)) = wideF (ps.take k) + ps[k].wide.toNat := by
  rw [← List.take_append_getElem hk]
  unfold wideF
  rw [List.map_append, List.sum_append]
  rfl
theorem wideF_le (ps : List Part) (k : Nat) : wideF (ps.take k) ≤ wideF ps := by
  unfold wideF
  conv => rhs; rw [← List.take_append_drop k ps]
  rw [List.map_append, List.sum_append]
  omega

/-- What Read tells. -/
def readV (op a b c m : Int) (n e : Int) : Value := .tuple #[insV op a b c m, .int .i64 n, .int .i64 e]
def readF : List Nat → Value
  | [] => readV 0 0 0 0 0 0 110
  | x :: l =>
    if 1 ≤ (x : Int) ∧ (x : Int) ≤ 19 then
      let ps := (namedL.lookup (x : Int)).getD []
      if (x :: l).length < 1 + wideF ps then readV 0 0 0 0 0 0 110 else
        let s := readS (x :: l) ps 1 (0, 0, 0, 0)
        if rightF x s.1 s.2.1 s.2.2.1 s.2.2.2 = true then readV x s.1 s.2.1 s.2.2.1 s.2.2.2 (1 + wideF ps : Nat) 0 else readV 0 0 0 0 0 0 180
    else readV 0 0 0 0 0 0 180

/-- The three results' blocks, as they stand within the call. -/
structure RdI (w0 : World) (op : Int) (s : Int × Int × Int × Int) (w : World) : Prop where
  ins : Bare w0.heap.size op s w
  f0 : w.frozen? ⟨w0.heap.size, 0, none⟩ = false
  c1 : w.cell? ⟨w0.heap.size + 1, 0, none⟩ = some (.int .i64 0)
  f1 : w.frozen? ⟨w0.heap.size + 1, 0, none⟩ = false
  c2 : w.cell? ⟨w0.heap.size + 1 + 1, 0, none⟩ = some (.int .i64 0)
  f2 : w.frozen? ⟨w0.heap.size + 1 + 1, 0, none⟩ = false
  bel : Below w0.heap.size w0 w

theorem RdI.more {w0 : World} {op : Int} {s : Int × Int × Int × Int} {w w' : World} (h : RdI w0 op s w) (hb : Below w.heap.size w w') : RdI w0 op s w' :=
  ⟨h.ins.bel hb, froz_bel h.ins.c0 h.f0 hb, cell_bel h.c1 hb, froz_bel h.c1 h.f1 hb, cell_bel h.c2 hb, froz_bel h.c2 h.f2 hb, h.bel.trans (hb.mono h.bel.size)⟩

set_option maxRecDepth 100000 in
set_option maxHeartbeats 4000000 in
theorem read_panics (w0 : World) (op : Int) (s : Int × Int × Int × Int) (w : World) (h : RdI w0 op s w) (n : Int) (t : Array Value)
    (h2 : t[2]? = some (.pointer (some ⟨w0.heap.size, 0, none⟩))) (h3 : t[3]? = some (.pointer (some ⟨w0.heap.size + 1, 0, none⟩))) (h4 : t[4]? = some (.pointer (some ⟨w0.heap.size + 1 + 1, 0, none⟩)))
    (V : Value) (hV : V = readV 0 0 0 0 0 0 n) :
    bodyPostD Tryz.prog Tryz.f40 (fun e w' => e = .returned V ∧ Below w0.heap.size w0 w') (Exit.panic [{ v := .iface 38 (.int .i64 n), recovered := false }])
      { tmps := t, defers := [{ target := Target.fn (Fn.func 87) #[], args := #[.pointer (some ⟨w0.heap.size + 1 + 1, 0, none⟩), .func (.func 100) #[] #[.pointer (some ⟨w0.heap.size, 0, none⟩), .pointer (some ⟨w0.heap.size + 1, 0, none⟩)]] }] } w := by
  refine leaves_cons (f := 87) (args := #[.pointer (some ⟨w0.heap.size + 1 + 1, 0, none⟩), .func (.func 100) #[] #[.pointer (some ⟨w0.heap.size, 0, none⟩), .pointer (some ⟨w0.heap.size + 1, 0, none⟩)]]) (by simp) (by simp [go_sem]) ?_
  refine (caught_yes ⟨w0.heap.size + 1 + 1, 0, none⟩ n 100 _ [] w (fun w' => Bare w0.heap.size 0 (0, 0, 0, 0) w' ∧ w'.cell? ⟨w0.heap.size + 1, 0, none⟩ = some (.int .i64 0) ∧ w'.cell? ⟨w0.heap.size + 1 + 1, 0, none⟩ = some (.int .i64 0) ∧ w'.frozen? ⟨w0.heap.size + 1 + 1, 0, none⟩ = false ∧ Below w0.heap.size w w')
    (enters_of Tryz.func100 (by kernel_rfl) rfl) ?_ ?_).mono ?_
  · refine (readClear_any w0.heap.size w0.heap.size (w0.heap.size + 1) op s 0 w (by omega) (by omega) (by omega) h.ins h.f0 h.c1 h.f1).mono ?_
    rintro e w' ⟨rfl, r1, r2, r3, r4, r5⟩
    exact ⟨rfl, r1, r2, cell_touch h.c2 r3 (by omega), (r5 _ _).trans h.f2, r4⟩
  · rintro w' ⟨_, _, r3, r4, _⟩
    exact ⟨_, r3, r4⟩
  rintro e u' w'' ⟨rfl, rfl, w1, ⟨r1, r2, r3, r4, r5⟩, rfl⟩
  have q := r1.far (B' := w0.heap.size + 1 + 1) (o := 0) (v := .int .i64 n) (by omega)
  have q2 := (World.cell?_setCell_other w1 ⟨w0.heap.size + 1 + 1, 0, none⟩ ⟨w0.heap.size + 1, 0, none⟩ (.int .i64 n) (by simp)).trans r2
  have q3 := World.cell?_setCell_same w1 ⟨w0.heap.size + 1 + 1, 0, none⟩ (.int .i64 n) r3
  have hB : Below w0.heap.size w0 (w1.setCell ⟨w0.heap.size + 1 + 1, 0, none⟩ (.int .i64 n)) := (h.bel.trans r5).setCell (by simp; omega) _
  obtain ⟨e0, e1, e2, e3, e4, _, _, _, _⟩ := q
  clear r1 r2 r3 r4 r5 h
  generalize w1.setCell _ _ = w2 at *
  simp [Leaves, settle, results, Tryz.results40, go_sem, h2, h3, h4, e0, e1, e2, e3, e4, q2, q3, hV, readV, insV, hB]
set_option maxRecDepth 100000 in
set_option maxHeartbeats 4000000 in
theorem read_returns (w0 : World) (op : Int) (s : Int × Int × Int × Int) (m : Int) (w : World) (hi : Bare w0.heap.size op s w) (q2 : w.cell? ⟨w0.heap.size + 1, 0, none⟩ = some (.int .i64 m)) (q3 : w.cell? ⟨w0.heap.size + 1 + 1, 0, none⟩ = some (.int .i64 0))
    (hB : Below w0.heap.size w0 w) (t : Array Value)
    (h2 : t[2]? = some (.pointer (some ⟨w0.heap.size, 0, none⟩))) (h3 : t[3]? = some (.pointer (some ⟨w0.heap.size + 1, 0, none⟩))) (h4 : t[4]? = some (.pointer (some ⟨w0.heap.size + 1 + 1, 0, none⟩)))
    (V : Value) (hV : V = readV op s.1 s.2.1 s.2.2.1 s.2.2.2 m 0) :
    bodyPostD Tryz.prog Tryz.f40 (fun e w' => e = .returned V ∧ Below w0.heap.size w0 w') Exit.ret
      { tmps := t, defers := [{ target := Target.fn (Fn.func 87) #[], args := #[.pointer (some ⟨w0.heap.size + 1 + 1, 0, none⟩), .func (.func 100) #[] #[.pointer (some ⟨w0.heap.size, 0, none⟩), .pointer (some ⟨w0.heap.size + 1, 0, none⟩)]] }] } w := by
  obtain ⟨e0, e1, e2, e3, e4, _, _, _, _⟩ := hi
  refine leaves_cons (f := 87) (args := #[.pointer (some ⟨w0.heap.size + 1 + 1, 0, none⟩), .func (.func 100) #[] #[.pointer (some ⟨w0.heap.size, 0, none⟩), .pointer (some ⟨w0.heap.size + 1, 0, none⟩)]]) (by simp) (by simp [go_sem]) ?_
  refine (caught_idle _ _ w).mono ?_
  rintro e u' w'' ⟨rfl, rfl, rfl⟩
  simp [Leaves, settle, results, Tryz.results40, go_sem, h2, h3, h4, e0, e1, e2, e3, e4, q2, q3, hV, readV, insV, hB]

theorem rdI_start (w : World) : RdI w 0 (0, 0, 0, 0) (((w.alloc (.cells #[.int .i64 0, .int .i64 0, .int .i64 0, .int .i64 0, .int .u32 0] 29)).alloc (.cells #[.int .i64 0] 3)).alloc (.cells #[.int .i64 0] 38)) := by
  have b1 := Bare.new 0 0 0 0 0 w 29
  have h2 : Below w.heap.size w (((w.alloc (.cells #[.int .i64 0, .int .i64 0, .int .i64 0, .int .i64 0, .int .u32 0] 29)).alloc (.cells #[.int .i64 0] 3)).alloc (.cells #[.int .i64 0] 38)) := belA (belA (bel1 _) _) _
  refine ⟨(b1.bel (bel1 _)).bel (bel1 _), ?_, ?_, ?_, ?_, ?_, h2⟩
  · exact froz_bel (cell_al b1.c0 _) (froz_bel b1.c0 (World.frozen?_alloc_new _ _ _ _) (bel1 _)) (bel1 _)
  · exact cell_al (cell_two w _ #[.int .i64 0] 3 0) _
  · exact froz_bel (cell_two w _ #[.int .i64 0] 3 0) (froz_two w _ _ _ _) (bel1 _)
  · exact cell_three w _ _ #[.int .i64 0] 38 0
  · have := froz_two (w.alloc (.cells #[.int .i64 0, .int .i64 0, .int .i64 0, .int .i64 0, .int .u32 0] 29)) (.cells #[.int .i64 0] 3) #[.int .i64 0] 38 0
    rwa [World.size_alloc] at this

/-- Behind one number that was read: what the reader's block told. -/
theorem number_ok (R : Nat) (l : List Nat) (i k : Nat) (hl : l.length ≤ 9223372036854775807) (hk1 : k = 1 ∨ k = 2 ∨ k = 4 ∨ k = 8) (hk : i + k ≤ l.length) (w : World) (hR : Rdr R l i w) :
    Calls Tryz.prog 101 #[.pointer (some ⟨R, 0, none⟩), .int .i64 k] w fun e w' =>
      e = .returned (.int .u64 (leN (l.drop i) k)) ∧ Rdr R l (i + k) w' ∧ Touch (fun b => b = R) w w' ∧ ∀ base, base ≤ R → base ≤ w.heap.size → Below base w w' := by
  refine (number_yes R l i k hl hk1 hk w hR).mono ?_
  rintro e w' ⟨rfl, w1, hb, rfl⟩
  have h1 := hR.bel hb
  refine ⟨rfl, ?_, (Touch.below hb).trans (Touch.setCell _ _ _ rfl), fun base hB hw => (hb.mono hw).setCell (p := ⟨R, 1, none⟩) hB _⟩
  obtain ⟨a, c, c0, hA⟩ := h1.c0
  refine ⟨⟨a, c, (World.cell?_setCell_other _ _ _ _ (by simp)).trans c0, ?_⟩, World.cell?_setCell_same _ _ _ h1.c1, (World.frozen?_setCell ..).trans h1.f1⟩
  rcases hA with hA | ⟨ad, c', e1, e2, e3, e4⟩
  · exact Or.inl hA
  · refine Or.inr ⟨ad, c', e1, e2, e3, fun hne => ?_⟩
    obtain ⟨b, o, e5, hB⟩ := e4 hne
    refine ⟨b, o, e5, hB.1, fun j hj => ?_⟩
    have hj' := hB.2 j hj
    by_cases he : (⟨b, o + j, none⟩ : Addr) = ⟨R, 1, none⟩
    · rw [he, h1.c1] at hj'; cases hj'
    · exact (World.cell?_setCell_other _ _ _ _ (fun e => he e.symm)).trans hj'
end Go.Proofs.YtfnfcngkaepnjaaGreatDoor

/- A cut behind a piece of code: of what it has written, only what is named is carried on. -/
namespace Go.Proofs.YtfnfcngkaepnjaaGreatDoor
set_option linter.unusedVariables false
open Go Go.Proofs Go.RowKit

def goesOn (I : Act → World → Prop) : Exit → Act → World → Prop
  | .normal, a, w => I a w
  | _, _, _ => False

theorem goesOn_normal {I : Act → World → Prop} {a : Act} {w : World} : goesOn I .normal a w = I a w := rfl

theorem wp_cut {P : Program} {c : Code} {Q : Exit → Act → World → Prop} {a : Act} {w : World} (I : Act → World → Prop) (h1 : c.wp P (goesOn I) a w) (h2 : ∀ a w, I a w → Q .normal a w) : c.wp P Q a w :=
  Code.wp_mono (by intro e a w h; cases e <;> first | exact h2 _ _ h | exact h.elim) h1

end Go.Proofs.YtfnfcngkaepnjaaGreatDoor
