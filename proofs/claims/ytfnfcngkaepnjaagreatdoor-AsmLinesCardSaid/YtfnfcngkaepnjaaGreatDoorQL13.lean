/- Joined texts: Parts without the one that no text has in its place: slices.DeleteFunc.; Parse: its results' blocks; its endings; plain laws of texts.; Plain laws of words: what is split at a byte is what was joined. -/
import Derived.Test.YtfnfcngkaepnjaaGreatDoorQL10
import Derived.Lib.SliceRun
import Derived.Test.YtfnfcngkaepnjaaGreatDoorQL7
import Derived.Test.YtfnfcngkaepnjaaGreatDoorQL12
import Derived.Test.YtfnfcngkaepnjaaGreatDoorQL9
import Derived.Lib.IndexBytes
import Derived.Lib.Split
/- Parts without the one that no text has in its place: slices.DeleteFunc. -/
namespace Go.Proofs.YtfnfcngkaepnjaaGreatDoor
set_option linter.unusedVariables false
open Go Go.Proofs Go.RowKit

theorem info_part : (Tryz.prog.info? 144).map (fun i => (i.zero, i.size, i.bytes)) = some (some (.agg #[.int .i64 0, .string ⟨#[]⟩, .nilFunc, .nilFunc]), 4, 40) := by kernel_rfl

theorem isKind_any (p : Part) (w : World) : Calls Tryz.prog 93 #[.agg #[.int .i64 p.wide, .string p.mark, .func (.func p.g) #[] #[], .func (.func p.p) #[] #[]]] w fun e w' => e = .returned (.bool (isKind p)) ∧ Below w.heap.size w w' := by
  have h : isKind p = (p.mark.toList == [45]) := by rw [toList_data]; rfl
  rw [h]
  go_enter Tryz.func93, Tryz.ntmps93
  go_wp2
  go_ret
  exact ⟨rfl, bel1 _⟩

set_option maxRecDepth 100000 in
set_option maxHeartbeats 1000000 in
theorem indexKind_any (ao : Option Addr) (c : Nat) (ps : List Part) (hn : ps.length ≤ 1000) (w : World) (h : PartsC w ao ps) :
    Calls Tryz.prog 152 #[.slice ao ps.length c, .func (.func 93) #[] #[]] w fun e w' =>
      ∃ r : Int, e = .returned (.int .i64 r) ∧ ((r = -1 ∧ ∀ p ∈ ps, isKind p = false) ∨ ∃ k : Nat, r = k ∧ ∃ hk : k < ps.length, isKind ps[k] = true) ∧ Below w.heap.size w w' := by
  have H := Lib.hid h
  clear h
  go_enter Tryz.func152, Tryz.ntmps152
  go_wp2
  go_loopw [8] (fun vi wr => ∃ k : Nat, vi = .int .i64 k ∧ k ≤ ps.length ∧ Hid (∀ j (hj : j < ps.length), j < k → isKind ps[j] = false) ∧ Below w.heap.size w wr) (fun vi _ => ps.length - (intOf vi).toNat)
  case atStart => exact ⟨0, rfl, by omega, Lib.hid (fun j hj h0 => absurd h0 (Nat.not_lt_zero _)), Below.refl _ _⟩
  case round =>
    obtain ⟨k, rfl, hk, hno, hB⟩ := hrel
    by_cases hlt : k < ps.length
    · obtain ⟨r, rfl, x0, x1, x2, x3⟩ := (H.out.bel hB) k hlt
      have HK := Lib.hid hlt
      generalize hpk : ps[k] = p at x0 x1 x2 x3
      have CK := Lib.hid (isKind_any p)
      cases hkd : isKind p with
      | true =>
        rw [hkd] at CK
        have HD := Lib.hid (show isKind ps[k] = true by rw [hpk]; exact hkd)
        clear hkd
        go_wp2_with ((with_reducible refine (CK.out _).mono ?_); rintro e w5 ⟨rfl, hb5⟩)
        go_ret
        exact ⟨k, rfl, Or.inr ⟨k, rfl, HK.out, HD.out⟩, hB.trans (hb5.mono hB.size)⟩
      | false =>
        rw [hkd] at CK
        have HD := Lib.hid (show isKind ps[k] = false by rw [hpk]; exact hkd)
        clear hkd
        go_wp2_with ((with_reducible refine (CK.out _).mono ?_); rintro e w5 ⟨rfl, hb5⟩)
        refine ⟨⟨k + 1, by go_num, by omega, Lib.hid (fun j hj h0 => ?_), hB.trans (hb5.mono hB.size)⟩, by simp [intOf]; omega⟩
        by_cases hjk : j = k
        · subst hjk; exact HD.out
        · exact hno.out j hj (by omega)
    · have hk2 : k = ps.length := by omega
      subst hk2
      go_wp2
      go_ret
      refine ⟨-1, rfl, Or.inl ⟨rfl, fun p hp => ?_⟩, hB⟩
      obtain ⟨j, hj, rfl⟩ := List.getElem_of_mem hp
      exact hno.out j hj hj
theorem kind_last (op : Int) : ∀ k (hk : k < ((namedL.lookup op).getD []).length), isKind ((namedL.lookup op).getD [])[k] = true → k + 1 = ((namedL.lookup op).getD []).length := by
  have h0 : (namedL.all fun q => (List.range q.2.length).all fun k => !(match q.2[k]? with | some p => isKind p | none => false) || decide (k + 1 = q.2.length)) = true := by decide +kernel
  have h : ∀ q ∈ namedL, ∀ k (hk : k < q.2.length), isKind q.2[k] = true → k + 1 = q.2.length := by
    intro q hq k hk hkd
    have h1 := List.all_eq_true.1 (List.all_eq_true.1 h0 q hq) k (List.mem_range.2 hk)
    simp only [List.getElem?_eq_getElem hk, hkd] at h1
    simpa using h1
  cases hl : namedL.lookup op with
  | none => intro k hk; simp at hk
  | some ps =>
    have : (op, ps) ∈ namedL := by
      generalize namedL = l at hl
      clear h h0
      induction l with
      | nil => simp at hl
      | cons x xs ih =>
        by_cases hx : (op == x.1) = true
        · have : op = x.1 := by simpa using hx
          simp [List.lookup, hx] at hl
          subst hl this
          exact .head _
        · simp [List.lookup, hx] at hl
          exact .tail _ (ih hl)
    exact h _ this

theorem textP_all (ps : List Part) (h : ∀ p ∈ ps, isKind p = false) : textP ps = ps := by
  unfold textP
  rw [List.filter_eq_self]
  intro p hp
  rw [h p hp]; rfl
/-- Of parts of which only the last one is the kind, the rest is left. -/
theorem textP_last (ps : List Part) (k : Nat) (hk : k < ps.length) (h : isKind ps[k] = true) (hl : ∀ k (hk : k < ps.length), isKind ps[k] = true → k + 1 = ps.length) : textP ps = ps.take k := by
  have e := hl k hk h
  have h1 := textP_take ps k hk
  rw [List.take_of_length_le (by omega), if_pos h, List.append_nil] at h1
  rw [h1]
  refine textP_all _ fun p hp => ?_
  obtain ⟨j, hj, rfl⟩ := List.getElem_of_mem hp
  rw [List.length_take] at hj
  rw [List.getElem_take]
  cases hd : isKind ps[j] with
  | false => rfl
  | true => have := hl j (by omega) hd; omega

theorem slice_partsFrom (r n c i : Nat) (hi : i ≤ n) (hc : i < c) (w : World) : (Instr.slice 139 (.slice (some ⟨r, 0, none⟩) n c) (some (.int .i64 i)) none none).run Tryz.prog w = .ok (.slice (some ⟨r, i * 4, none⟩) (n - i) (c - i)) w := by
  obtain ⟨i0, hi0, hz0, hz1, hz2⟩ := info_of info_part
  have h1 : ¬ c = i := by omega
  simp [Instr.slice, run_underlying Tryz.underlying139, Instr.sliceBounds, Instr.sliceBound, asIntOf, sizeOf, typeInfo, hi0, hz1, h1, hi, Addr.add]
  omega

theorem clear_part (r o c : Nat) (cur : Array Value) (t ty : TypeId) (w : World) (hr : w.heap[r]? = some (.cells cur t (0, 0))) (ho : o + 4 ≤ cur.size) :
    (Builtin.clear_ #[139] ty #[.slice (some ⟨r, o, none⟩) 1 c]).run Tryz.prog w = .ok (.tuple #[]) (w.setRow r (cur.toList.take o ++ [Value.int .i64 0, Value.string ⟨#[]⟩, Value.nilFunc, Value.nilFunc] ++ cur.toList.drop (o + 4)).toArray) := by
  obtain ⟨i0, hi0, hz0, hz1, hz2⟩ := info_of info_part
  have hz : ∀ w, (zeroValue 144).run Tryz.prog w = .ok (.agg #[.int .i64 0, .string ⟨#[]⟩, .nilFunc, .nilFunc]) w := fun w => by simp [zeroValue, typeInfo, hi0, hz0]
  have hzc : (Builtin.zeroCells (Value.agg #[.int .i64 0, .string ⟨#[]⟩, .nilFunc, .nilFunc]).cells 1).toList = [.int .i64 0, .string ⟨#[]⟩, .nilFunc, .nilFunc] := by kernel_rfl
  have hst := run_storeCells_at Tryz.prog r o t [.int .i64 0, .string ⟨#[]⟩, .nilFunc, .nilFunc] 0 cur w hr (by simpa using ho) (by simp [Value.oneCell'])
  simp only [Nat.add_zero, List.length_cons, List.length_nil] at hst
  simp [Builtin.clear_, run_underlying Tryz.underlying139, hz, hzc, hst]

theorem wpList_clear {w : World} {ops : Array Oper} {rest : List Oper} {o : Oper} {a : Act} {Q : Exit → Act → World → Prop} (hgd : o.guard = none) (x : Operand) (ho : o.op = .call { callee := .builtin .clear, args := #[x], argTypes := #[139] })
    (r of c : Nat) (hx : a.eval x = .slice (some ⟨r, of, none⟩) 1 c) (cur : Array Value) (t : TypeId) (hr : w.heap[r]? = some (.cells cur t (0, 0))) (hof : of + 4 ≤ cur.size)
    (h : ∀ cs, w.heap[r]? = some (.cells cur t (0, 0)) → (∀ j, j < of → cs[j]? = cur[j]?) → wpList Tryz.prog ops Q rest (a.put o.dst (.tuple #[])) (w.setRow r cs)) : wpList Tryz.prog ops Q (o :: rest) a w := by
  refine wpList_plain hgd fun K hK => ?_
  have hrun := clear_part r of c cur t o.type w hr hof
  unfold Oper.wp
  simp [execOp, ho, resolve, invoke, builtin, hx, hrun, Result.andThen]
  refine hK _ _ ?_
  have := h (cur.toList.take of ++ [Value.int .i64 0, Value.string ⟨#[]⟩, Value.nilFunc, Value.nilFunc] ++ cur.toList.drop (of + 4)).toArray hr (fun j hj => by
    rw [List.append_assoc, List.getElem?_toArray, List.getElem?_append_left (by simp; omega), List.getElem?_take_of_lt hj, Array.getElem?_toList])
  simpa using this

theorem flat_len : ∀ (ps : List Part), (ps.flatMap Part.cells).length = ps.length * 4
  | [] => rfl
  | p :: ps => by
    rw [List.flatMap_cons, List.length_append, flat_len ps, List.length_cons]
    simp [Part.cells]
    omega

/-- The parts, without the kind. -/
structure DelQ (v : Value) (ps : List Part) (n : Nat) (w : World) (e : Ending) (w' : World) : Prop where
  ret : ∃ ao cap, e = .returned (.slice ao (textP ps).length cap) ∧ PartsC w' ao (textP ps) ∧ (textP ps).length ≤ cap
  bel : Below n w w'
  far : ∀ b, (∀ c l, v ≠ .slice (some ⟨b, 0, none⟩) l c) → b < w.heap.size → w'.heap[b]? = w.heap[b]?

set_option maxRecDepth 100000 in
set_option maxHeartbeats 2000000 in
theorem deleteKind_any (n : Nat) (v : Value) (ps : List Part) (hn : ps.length ≤ 4) (hl : ∀ k (hk : k < ps.length), isKind ps[k] = true → k + 1 = ps.length) (w : World) (hnw : n ≤ w.heap.size) (h : Parts n w v ps) :
    Calls Tryz.prog 92 #[v, .func (.func 93) #[] #[]] w (DelQ v ps n w) := by
  have hP := Lib.hid h
  obtain ⟨ao, rfl, hat⟩ := h.cells
  have CI := Lib.hid (indexKind_any ao ps.length ps (by omega) w hat)
  have HA := Lib.hid (show PartsC w ao ps from hat)
  have HL := Lib.hid hl
  clear hat hl h
  go_enter Tryz.func92, Tryz.ntmps92
  go_wp2_with fail
  refine CI.out.mono ?_
  rintro e w1 ⟨x, rfl, hx, hb1⟩
  rcases hx with ⟨rfl, hall⟩ | ⟨k, rfl, hk, hkd⟩
  · have HT := Lib.hid (textP_all ps hall)
    clear hall
    go_wp2_with fail
    go_ret
    exact ⟨⟨ao, ps.length, by rw [HT.out]; rfl, by rw [HT.out]; exact HA.out.bel hb1, by rw [HT.out]; exact Nat.le_refl _⟩, hb1.mono hnw, fun b _ hb => hb1.block b hb⟩
  · have hlast := HL.out k hk hkd
    have HT := Lib.hid (textP_last ps k hk hkd HL.out)
    obtain ⟨r, rfl, hr0⟩ := HA.out k hk
    clear hr0
    obtain ⟨t, hr, hnr⟩ : ∃ t, w1.heap[r]? = some (.cells (ps.flatMap Part.cells).toArray t) ∧ n ≤ r := by
      rcases hP.out with ⟨h, _⟩ | ⟨r', t, h1, h2, h3⟩
      · cases h
      · cases h1
        exact ⟨t, (hb1.block r (lt_of_heap h2)).trans h2, h3⟩
    have hcur : (ps.flatMap Part.cells).toArray.size = ps.length * 4 := by rw [List.size_toArray]; exact flat_len ps
    have hsl := slice_partsFrom r ps.length ps.length k (by omega) hk
    have hlen : ps.length = k + 1 := hlast.symm
    rw [hlen, show k + 1 - k = 1 by omega] at hsl
    have HLN := Lib.hid hlen
    have HR := Lib.hid hr
    have HC := Lib.hid hcur
    rw [hlen]
    clear hlen hlast hkd hcur hr
    have e1 : ((k : Int) == -1) = false := beq_eq_false_iff_ne.2 (by omega)
    go_wp2_with fail
    refine wp_loop_rounds 1 ?_
    rw [rounds_succ]
    go_wp2_with (refine wpList_clear rfl _ rfl r (k * 4) 1 rfl _ t HR.out (by rw [HC.out, HLN.out]; omega) ?_; intro cs hr1 hcs)
    go_ret
    have hlt : (textP ps).length = k := by rw [HT.out, List.length_take, HLN.out]; omega
    refine ⟨⟨some ⟨r, 0, none⟩, k + 1, by rw [hlt]; rfl, ?_, by omega⟩, below_setRow (hb1.mono hnw) hnr _, fun b hne hb => ?_⟩
    · rw [HT.out]
      intro j hj
      rw [List.length_take] at hj
      obtain ⟨r', e, x0, x1, x2, x3⟩ := (HA.out.bel hb1) j (by omega)
      cases e
      have hcell : ∀ i, i < k * 4 → (w1.setRow r cs).cell? ⟨r, i, none⟩ = w1.cell? ⟨r, i, none⟩ := fun i hi => (cell_setRow_same _ _ _ _ _ _ _ HR.out).trans ((hcs i hi).trans (cell_of_row w1 r i _ _ _ HR.out).symm)
      rw [List.getElem_take]
      exact ⟨r, rfl, (hcell _ (by omega)).trans x0, (hcell _ (by omega)).trans x1, (hcell _ (by omega)).trans x2, (hcell _ (by omega)).trans x3⟩
    · rw [setRow_other _ _ _ _ (fun e => hne _ _ (by rw [e])), hb1.block b hb]
end Go.Proofs.YtfnfcngkaepnjaaGreatDoor

/- Parse: its results' blocks; its endings; plain laws of texts. -/
namespace Go.Proofs.YtfnfcngkaepnjaaGreatDoor
set_option linter.unusedVariables false
open Go Go.Proofs Go.RowKit

structure PaI (w0 : World) (op : Int) (s : Int × Int × Int × Int) (w : World) : Prop where
  ins : Bare w0.heap.size op s w
  f0 : w.frozen? ⟨w0.heap.size, 0, none⟩ = false
  c1 : w.cell? ⟨w0.heap.size + 1, 0, none⟩ = some (.int .i64 0)
  f1 : w.frozen? ⟨w0.heap.size + 1, 0, none⟩ = false
  bel : Below w0.heap.size w0 w

theorem PaI.more {w0 : World} {op : Int} {s : Int × Int × Int × Int} {w w' : World} (h : PaI w0 op s w) (hb : Below w.heap.size w w') : PaI w0 op s w' :=
  ⟨h.ins.bel hb, froz_bel h.ins.c0 h.f0 hb, cell_bel h.c1 hb, froz_bel h.c1 h.f1 hb, h.bel.trans (hb.mono h.bel.size)⟩
theorem PaI.touch {w0 : World} {op : Int} {s : Int × Int × Int × Int} {w w' : World} {T : Nat → Prop} (h : PaI w0 op s w) (ht : Touch T w w') (hb : Below w0.heap.size w w') (hT : ∀ b, T b → w0.heap.size + 1 < b) : PaI w0 op s w' :=
  have n0 : ¬ T w0.heap.size := fun h => by have := hT _ h; omega
  have n1 : ¬ T (w0.heap.size + 1) := fun h => by have := hT _ h; omega
  ⟨h.ins.touch ht n0, froz_touch h.ins.c0 h.f0 ht n0, cell_touch h.c1 ht n1, froz_touch h.c1 h.f1 ht n1, h.bel.trans hb⟩
theorem PaI.put {w0 : World} {op op' : Int} {s s' : Int × Int × Int × Int} {w : World} {o : Nat} {v : Value} (h : PaI w0 op s w) (hb : Bare w0.heap.size op' s' (w.setCell ⟨w0.heap.size, o, none⟩ v)) : PaI w0 op' s' (w.setCell ⟨w0.heap.size, o, none⟩ v) :=
  ⟨hb, (World.frozen?_setCell ..).trans h.f0, (World.cell?_setCell_other _ _ _ _ (by simp)).trans h.c1, (World.frozen?_setCell ..).trans h.f1, h.bel.setCell (by simp) _⟩
/-- Behind a store of the whole instruction. -/
theorem PaI.set {w0 : World} {op : Int} {s : Int × Int × Int × Int} {w : World} (h : PaI w0 op s w) (op' a b c m : Int) :
    PaI w0 op' (a, b, c, m) (((((w.setCell ⟨w0.heap.size, 0, none⟩ (.int .i64 op')).setCell ⟨w0.heap.size, 1, none⟩ (.int .i64 a)).setCell ⟨w0.heap.size, 2, none⟩ (.int .i64 b)).setCell ⟨w0.heap.size, 3, none⟩ (.int .i64 c)).setCell ⟨w0.heap.size, 4, none⟩ (.int .u32 m)) := by
  have ht := touch_set5 w0.heap.size w (.int .i64 op') (.int .i64 a) (.int .i64 b) (.int .i64 c) (.int .u32 m) (T := fun b => b = w0.heap.size) rfl
  refine ⟨h.ins.set op' a b c m, by simp only [World.frozen?_setCell]; exact h.f0, cell_touch h.c1 ht (by omega), froz_touch h.c1 h.f1 ht (by omega), ?_⟩
  exact ((((h.bel.setCell (p := ⟨w0.heap.size, 0, none⟩) (Nat.le_refl _) _).setCell (p := ⟨w0.heap.size, 1, none⟩) (Nat.le_refl _) _).setCell (p := ⟨w0.heap.size, 2, none⟩) (Nat.le_refl _) _).setCell (p := ⟨w0.heap.size, 3, none⟩) (Nat.le_refl _) _).setCell (p := ⟨w0.heap.size, 4, none⟩) (Nat.le_refl _) _

theorem paI_start (w : World) : PaI w 0 (0, 0, 0, 0) ((w.alloc (.cells #[.int .i64 0, .int .i64 0, .int .i64 0, .int .i64 0, .int .u32 0] 29)).alloc (.cells #[.int .i64 0] 38)) := by
  have b1 := Bare.new 0 0 0 0 0 w 29
  refine ⟨b1.bel (bel1 _), froz_bel b1.c0 (World.frozen?_alloc_new _ _ _ _) (bel1 _), cell_two w _ #[.int .i64 0] 38 0, froz_two w _ _ _ _, belA (bel1 _) _⟩

/-- The closure that clears what Parse tells. -/
theorem parseClear_any (B : Nat) (op : Int) (s : Int × Int × Int × Int) (w : World) (h : Bare B op s w) (hf0 : w.frozen? ⟨B, 0, none⟩ = false) :
    Calls Tryz.prog 88 #[.pointer (some ⟨B, 0, none⟩)] w fun e w' => e = .returned (.tuple #[]) ∧ w' = (((((w.setCell ⟨B, 0, none⟩ (.int .i64 0)).setCell ⟨B, 1, none⟩ (.int .i64 0)).setCell ⟨B, 2, none⟩ (.int .i64 0)).setCell ⟨B, 3, none⟩ (.int .i64 0)).setCell ⟨B, 4, none⟩ (.int .u32 0)) := by
  obtain ⟨c0, c1, c2, c3, c4, f1, f2, f3, f4⟩ := h
  go_enter Tryz.func88, Tryz.ntmps88
  go_wp2
  go_end0
  exact ⟨rfl, rfl⟩

/-- What Parse tells. -/
def parseV (op a b c m e : Int) : Value := .tuple #[insV op a b c m, .int .i64 e]

set_option maxRecDepth 100000 in
set_option maxHeartbeats 4000000 in
theorem parse_panics (w0 : World) (op : Int) (s : Int × Int × Int × Int) (w : World) (h : PaI w0 op s w) (n : Int) (t : Array Value)
    (h2 : t[2]? = some (.pointer (some ⟨w0.heap.size, 0, none⟩))) (h3 : t[3]? = some (.pointer (some ⟨w0.heap.size + 1, 0, none⟩))) (R : Ending → World → Prop) (hR : ∀ w', Below w0.heap.size w0 w' → R (.returned (parseV 0 0 0 0 0 n)) w') :
    bodyPostD Tryz.prog Tryz.f38 R (Exit.panic [{ v := .iface 38 (.int .i64 n), recovered := false }])
      { tmps := t, defers := [{ target := Target.fn (Fn.func 87) #[], args := #[.pointer (some ⟨w0.heap.size + 1, 0, none⟩), .func (.func 88) #[] #[.pointer (some ⟨w0.heap.size, 0, none⟩)]] }] } w := by
  refine leaves_cons (f := 87) (args := #[.pointer (some ⟨w0.heap.size + 1, 0, none⟩), .func (.func 88) #[] #[.pointer (some ⟨w0.heap.size, 0, none⟩)]]) (by simp) (by simp [go_sem]) ?_
  refine (caught_yes ⟨w0.heap.size + 1, 0, none⟩ n 88 _ [] w (fun w' => PaI w0 0 (0, 0, 0, 0) w')
    (enters_of Tryz.func88 (by kernel_rfl) rfl) ?_ ?_).mono ?_
  · refine (parseClear_any w0.heap.size op s w h.ins h.f0).mono ?_
    rintro e w' ⟨rfl, rfl⟩
    exact ⟨rfl, h.set 0 0 0 0 0⟩
  · exact fun w' h' => ⟨_, h'.c1, h'.f1⟩
  rintro e u' w'' ⟨rfl, rfl, w1, h', rfl⟩
  obtain ⟨e0, e1, e2, e3, e4, _, _, _, _⟩ := h'.ins.far (B' := w0.heap.size + 1) (o := 0) (v := .int .i64 n) (by omega)
  have q3 := World.cell?_setCell_same w1 ⟨w0.heap.size + 1, 0, none⟩ (.int .i64 n) h'.c1
  have hB := hR _ (h'.bel.setCell (p := ⟨w0.heap.size + 1, 0, none⟩) (by simp) (.int .i64 n))
  clear h' h
  generalize w1.setCell _ _ = w2 at *
  unfold parseV insV at hB
  simp [Leaves, settle, results, Tryz.results38, go_sem, h2, h3, e0, e1, e2, e3, e4, q3]
  exact hB

set_option maxRecDepth 100000 in
set_option maxHeartbeats 4000000 in
theorem parse_returns (w0 : World) (op : Int) (s : Int × Int × Int × Int) (w : World) (h : PaI w0 op s w) (t : Array Value)
    (h2 : t[2]? = some (.pointer (some ⟨w0.heap.size, 0, none⟩))) (h3 : t[3]? = some (.pointer (some ⟨w0.heap.size + 1, 0, none⟩))) (R : Ending → World → Prop) (hR : R (.returned (parseV op s.1 s.2.1 s.2.2.1 s.2.2.2 0)) w) :
    bodyPostD Tryz.prog Tryz.f38 R Exit.ret
      { tmps := t, defers := [{ target := Target.fn (Fn.func 87) #[], args := #[.pointer (some ⟨w0.heap.size + 1, 0, none⟩), .func (.func 88) #[] #[.pointer (some ⟨w0.heap.size, 0, none⟩)]] }] } w := by
  obtain ⟨e0, e1, e2, e3, e4, _, _, _, _⟩ := h.ins
  have q3 := h.c1
  clear h
  unfold parseV insV at hR
  refine leaves_cons (f := 87) (args := #[.pointer (some ⟨w0.heap.size + 1, 0, none⟩), .func (.func 88) #[] #[.pointer (some ⟨w0.heap.size, 0, none⟩)]]) (by simp) (by simp [go_sem]) ?_
  refine (caught_idle _ _ w).mono ?_
  rintro e u' w'' ⟨rfl, rfl, rfl⟩
  simp [Leaves, settle, results, Tryz.results38, go_sem, h2, h3, e0, e1, e2, e3, e4, q3]
  exact hR
end Go.Proofs.YtfnfcngkaepnjaaGreatDoor

/- Plain laws of words: what is split at a byte is what was joined. -/
namespace Go.Proofs.YtfnfcngkaepnjaaGreatDoor
set_option linter.unusedVariables false
open Go Go.Proofs Go.RowKit

theorem index_behind (c : UInt8) : ∀ (l r : List UInt8), c ∉ l → Lib.indexByte (l ++ c :: r) c = l.length := by
  intro l
  induction l with
  | nil => intro r _; simp [Lib.indexByte]
  | cons b l ih =>
    intro r h
    have hb : (b == c) = false := by
      have : b ≠ c := fun e => h (by simp [e])
      simpa using this
    have := ih r (fun hx => h (by simp [hx]))
    simp only [List.cons_append, Lib.indexByte, hb, this]
    simp
theorem index_not (c : UInt8) : ∀ (l : List UInt8), c ∉ l → Lib.indexByte l c = -1 := by
  intro l
  induction l with
  | nil => intro _; rfl
  | cons b l ih =>
    intro h
    have hb : (b == c) = false := by
      have : b ≠ c := fun e => h (by simp [e])
      simpa using this
    have := ih (fun hx => h (by simp [hx]))
    simp only [Lib.indexByte, hb, this]
    simp

theorem join_two (x y : List UInt8) (r : List (List UInt8)) (c : UInt8) : Lib.join (x :: y :: r) [c] = x ++ c :: Lib.join (y :: r) [c] := by
  simp [Lib.join, List.intercalate]

theorem split_join (c : UInt8) : ∀ (L : List (List UInt8)), L ≠ [] → (∀ x ∈ L, c ∉ x) → Lib.splitK [c] 0 (Lib.count (Lib.join L [c]) [c]) (Lib.join L [c]) = L
  | [], h, _ => absurd rfl h
  | [x], _, h => by
    rw [Lib.join_one]
    have hi : Lib.index x [c] = -1 := by rw [Lib.index_one]; exact index_not c x (h x (.head _))
    rw [Lib.count_miss hi]
    rfl
  | x :: y :: r, _, h => by
    have ih := split_join c (y :: r) (by simp) (fun z hz => h z (.tail _ hz))
    rw [join_two]
    have hi : Lib.index (x ++ c :: Lib.join (y :: r) [c]) [c] = (x.length : Nat) := by rw [Lib.index_one]; exact index_behind c x _ (h x (.head _))
    have hd : (x ++ c :: Lib.join (y :: r) [c]).drop (x.length + 1) = Lib.join (y :: r) [c] := by
      rw [← List.drop_drop]
      simp
    have hc := Lib.count_hit (s := x ++ c :: Lib.join (y :: r) [c]) (sub := [c]) (i := x.length) (by simp) hi
    rw [show x.length + [c].length = x.length + 1 from rfl, hd] at hc
    rw [hc, Nat.add_comm]
    unfold Lib.splitK
    rw [hi]
    have e1 : ((x.length : Int) == -1) = false := beq_eq_false_iff_ne.2 (by omega)
    simp only [e1, Int.toNat_natCast, Nat.add_zero, List.length_cons, List.length_nil, Nat.zero_add, hd, ih]
    simp

/-- The same, of strings. -/
theorem splitB_join (c : UInt8) (L : List ByteArray) (hL : L ≠ []) (h : ∀ x ∈ L, c ∉ x.data.toList) (s : ByteArray) (hs : s.data.toList = joinS L c) : Lib.splitB ⟨#[c]⟩ 0 (Lib.countB s ⟨#[c]⟩) s = L := by
  have h1 := Lib.splitB_data ⟨#[c]⟩ 0 (Lib.countB s ⟨#[c]⟩) s
  have h2 : Lib.countB s ⟨#[c]⟩ = Lib.count (joinS L c) [c] := by rw [← hs]; try rfl
  rw [hs, h2] at h1
  have h3 := split_join c (L.map (·.data.toList)) (by simpa using hL) (by
    intro x hx
    obtain ⟨y, hy, rfl⟩ := List.mem_map.1 hx
    exact h y hy)
  rw [show (⟨#[c]⟩ : ByteArray).data.toList = [c] from rfl] at h1
  have h4 := h1.trans h3
  rw [h2]
  have inj : ∀ (A B : List ByteArray), A.map (·.data.toList) = B.map (·.data.toList) → A = B := by
    intro A
    induction A with
    | nil => intro B hB; cases B with | nil => rfl | cons b B => simp at hB
    | cons a A ih =>
      intro B hB
      cases B with
      | nil => simp at hB
      | cons b B =>
        simp only [List.map_cons, List.cons.injEq] at hB
        have e : a = b := by
          apply ByteArray.ext
          exact Array.toList_inj.1 hB.1
        rw [e, ih B hB.2]
  exact inj _ _ h4

theorem splitB_length (c : UInt8) : ∀ (n : Nat) (s : ByteArray), s.size ≤ n → (Lib.splitB ⟨#[c]⟩ 0 (Lib.countB s ⟨#[c]⟩) s).length = Lib.countB s ⟨#[c]⟩ + 1 := by
  intro n
  induction n with
  | zero =>
    intro s hs
    have h0 : s.data.toList = [] := by
      have := Lib.size_eq s
      exact List.eq_nil_of_length_eq_zero (by omega)
    have hi : Lib.indexB s ⟨#[c]⟩ = -1 := by
      show Lib.index s.data.toList [c] = -1
      rw [h0]; rfl
    rw [Lib.countB_miss _ _ hi]; rfl
  | succ n ih =>
    intro s hs
    have hge := Lib.indexByte_ge s.data.toList c
    rcases Decidable.em (Lib.indexByte s.data.toList c = -1) with hm | hm
    · have hi : Lib.indexB s ⟨#[c]⟩ = -1 := by
        show Lib.index s.data.toList [c] = -1
        rw [Lib.index_one]; exact hm
      rw [Lib.countB_miss _ _ hi]; rfl
    · obtain ⟨i, hi⟩ : ∃ i : Nat, Lib.indexByte s.data.toList c = i := ⟨(Lib.indexByte s.data.toList c).toNat, by omega⟩
      have hi' : Lib.indexB s ⟨#[c]⟩ = (i : Nat) := by
        show Lib.index s.data.toList [c] = _
        rw [Lib.index_one]; exact hi
      have hlt : i < s.size := by
        have := (Lib.indexByte_some hi).1
        have := (List.getElem?_eq_some_iff.1 this).1
        rw [← Lib.size_eq] at this
        exact this
      have hc := Lib.countB_hit s ⟨#[c]⟩ i (by show 1 ≤ 1; omega) hi'
      rw [hc, Nat.add_comm 1, Lib.splitB_hit _ _ _ _ i hi', List.length_cons]
      have h1 : (⟨#[c]⟩ : ByteArray).size = 1 := rfl
      rw [ih _ (by rw [ByteArray.size_extract, h1]; omega)]
end Go.Proofs.YtfnfcngkaepnjaaGreatDoor
