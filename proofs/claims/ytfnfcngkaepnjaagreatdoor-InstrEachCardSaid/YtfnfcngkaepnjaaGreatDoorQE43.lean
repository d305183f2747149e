/- Joined texts: Iterators of package instr: every. -/
import Derived.Test.YtfnfcngkaepnjaaGreatDoorQE42
import Derived.Test.YtfnfcngkaepnjaaGreatDoorQE6
import Derived.Test.YtfnfcngkaepnjaaGreatDoorQE5
/- Iterators of package instr: every. -/
namespace Go.Proofs.YtfnfcngkaepnjaaGreatDoor
set_option linter.unusedVariables false
set_option linter.unusedSimpArgs false
open Go Go.Proofs Go.RowKit

/-- An item, as it comes. -/
abbrev itAt (x : It) : Array Value := #[.int .i64 x.at_, .agg #[.int .i64 x.op, .int .i64 x.a, .int .i64 x.b, .int .i64 x.c, .int .u32 x.m]]
/-- A slice of bytes in one block. -/
structure TapB (w : World) (B : Nat) (v : Value) (l : List Nat) : Prop where
  arg : ArgB w v l
  blk : ∀ b o n c, v = .slice (some ⟨b, o, none⟩) n c → b = B
theorem TapB.bel {w w' : World} {B : Nat} {v : Value} {l : List Nat} (h : TapB w B v l) (hb : Below w.heap.size w w') : TapB w' B v l := ⟨h.arg.bel hb, h.blk⟩
theorem TapB.touch {w w' : World} {B : Nat} {v : Value} {l : List Nat} {T : Nat → Prop} (h : TapB w B v l) (ht : Touch T w w') (hn : ¬ T B) : TapB w' B v l := by
  refine ⟨?_, h.blk⟩
  rcases h.arg with h0 | ⟨ad, c, h1, h2, h3, h4⟩
  · exact Or.inl h0
  · refine Or.inr ⟨ad, c, h1, h2, h3, fun hl => ?_⟩
    obtain ⟨b, o, rfl, hB⟩ := h4 hl
    have := h.blk b o _ _ h1
    subst this
    exact ⟨b, o, rfl, hB.touch ht hn⟩

/-- A slice from a place on. -/
theorem slice_arg {w : World} {v : Value} {l : List Nat} (h : ArgB w v l) (i : Nat) (hi : i ≤ l.length) : ∃ v', (∀ W, (Instr.slice 22 v (some (.int .i64 i)) none none).run Tryz.prog W = .ok v' W) ∧ ArgB w v' (l.drop i) := by
  obtain ⟨i0, hi0, hz0, hz1, hz2⟩ := info_of info_octet
  rcases h with ⟨rfl, rfl⟩ | ⟨ad, c, rfl, h1, h2, h3⟩
  · have : i = 0 := by simpa using hi
    subst this
    refine ⟨.slice none 0 0, fun W => by kernel_rfl, Or.inl ⟨rfl, rfl⟩⟩
  · by_cases hc : i < c
    · refine ⟨.slice (some (ad.add i)) (l.length - i) (c - i), fun W => ?_, Or.inr ⟨_, c - i, by rw [List.length_drop], by rw [List.length_drop]; omega, by omega, fun hl => ?_⟩⟩
      · have h4 : ¬ c = i := by omega
        have h5 : (i : Int) ≤ (l.length : Int) := by omega
        simp [Instr.slice, run_underlying Tryz.underlying22, Instr.sliceBounds, Instr.sliceBound, asIntOf, sizeOf, typeInfo, hi0, hz1, h4, hi, Addr.add]
      · have hne : l ≠ [] := fun e => hl (by rw [e]; simp)
        obtain ⟨b, o, rfl, hB⟩ := h3 hne
        exact ⟨b, o + i, by simp [Addr.add], hB.drop i⟩
    · have hci : c = i := by omega
      have hln : l.length = i := by omega
      refine ⟨.slice (some ad) 0 0, fun W => ?_, Or.inr ⟨ad, 0, by rw [List.length_drop, hln, Nat.sub_self], by rw [List.length_drop]; omega, by omega, fun hl => absurd (List.drop_eq_nil_of_le (by omega)) hl⟩⟩
      subst hci
      have h5 : (c : Int) ≤ (l.length : Int) := by omega
      simp [Instr.slice, run_underlying Tryz.underlying22, Instr.sliceBounds, Instr.sliceBound, asIntOf, sizeOf, typeInfo, hi0, hz1, hln, Addr.add]

theorem readO_of {l : List Nat} (hl : ∀ x ∈ l, x < 256) (i : Nat) {op a b c m n : Int} (h : readF l = readV op a b c m n 0) : ∃ k : Nat, n = k ∧ readO l i = some ⟨i, op, a, b, c, m, k⟩ := by
  obtain ⟨_, _, kk, hn, _, _⟩ := read_back l hl _ _ _ _ _ _ h
  refine ⟨kk, hn, ?_⟩
  have hx : ∃ x : It, x.at_ = i ∧ Begins l x := ⟨⟨i, op, a, b, c, m, kk⟩, rfl, by unfold Begins; rw [h, hn]⟩
  have h1 : readO l i = some (Classical.choose hx) := by unfold readO; rw [dif_pos hx]
  obtain ⟨h2, h3⟩ := Classical.choose_spec hx
  rw [h1]
  generalize Classical.choose hx = x at h2 h3
  unfold Begins at h3
  rw [h] at h3
  obtain ⟨⟨e1, e2, e3, e4, e5⟩, e6, _⟩ := readV_inj h3
  obtain ⟨a1, a2, a3, a4, a5, a6, a7⟩ := x
  simp only at h2 e1 e2 e3 e4 e5 e6
  subst h2 e1 e2 e3 e4 e5
  have : a7 = kk := by omega
  rw [this]
theorem readO_not {l : List Nat} (i : Nat) {op a b c m n e : Int} (h : readF l = readV op a b c m n e) (he : e ≠ 0) : readO l i = none := by
  cases hr : readO l i with
  | none => rfl
  | some x =>
    obtain ⟨_, h3⟩ := readO_some hr
    unfold Begins at h3
    rw [h] at h3
    exact absurd (readV_inj h3).2.2 he

theorem round_any {n : Nat} {P : Program} {l : Nat} {f : FuncId} {tmps : Array Value} {assign body : Code} {w : World} {R : Ending → World → Prop} (l2 m : Nat) (h : RoundIn Fence.wide n P l f tmps assign body w R) : RoundIn (Fence.wide.inRound l2) m P l f tmps assign body w R :=
  ⟨h.1, fun c cs hr => h.2 c cs (room_wide _)⟩

attribute [local go_sem] Oper.semAt_some

/-- Where every stands. -/
structure EvI (W : World) (Bc Bb : Nat) (v : Value) (l : List Nat) (J : List It → World → Prop) (done : List It) (i : Nat) (B4 : Nat) (op a b c m n e : Int) (wr : World) : Prop where
  std : Stand l done i
  hj : J done wr
  size : W.heap.size ≤ B4
  cell : wr.cell? ⟨Bc, 0, none⟩ = some v
  tap : TapB wr Bb v l
  ins : Bare B4 op (a, b, c, m) wr
  f0 : wr.frozen? ⟨B4, 0, none⟩ = false
  rd : readF (l.drop i) = readV op a b c m n e

set_option maxRecDepth 100000 in
set_option maxHeartbeats 2000000 in
theorem every_in (n Bc Bb : Nat) (hn : 1 ≤ n) (v : Value) (l : List Nat) (hl : l.length ≤ 1000000) :
    SeqB Fence.wide n Tryz.prog 108 #[.pointer (some ⟨Bc, 0, none⟩)] itAt (fun k => k = Bc ∨ k = Bb) (fun _ => False)
      (fun xs => xs = itemsAt l 0) (fun pre => ∃ j, 1 ≤ j ∧ j ≤ (itemsAt l 0).length ∧ pre = (itemsAt l 0).take j) (itemsAt l 0).length
      (fun W => W.cell? ⟨Bc, 0, none⟩ = some v ∧ TapB W Bb v l ∧ Bb < W.heap.size) := by
  rintro lp J Jx W ⟨c0, hv, hBb⟩ hJ hJx hY hj0
  have hlt := hv.arg.lt
  have CR := Lib.hid fun w (hv : TapB w Bb v l) => insRead_any l (by omega) v w hv.arg
  obtain ⟨op, a, b, c, m, k, e, hF⟩ := readF_ex l
  have HRD := Lib.hid hF
  rw [hF] at CR
  unfold readV insV at CR
  have HY := Lib.hid hY
  have HJ := Lib.hid hJ
  have HJX := Lib.hid hJx
  clear hF hY hJ hJx
  simp only [List.append_toArray, List.cons_append, List.nil_append]
  refine callsIn_of_wp Tryz.func108 rfl trivial ?_ rfl
  simp only [Tryz.ntmps108, List.size_toArray, List.length_cons, List.length_nil, Nat.reduceAdd, Nat.reduceSub, Array.replicate_succ, Array.replicate_zero, List.push_toArray, List.append_toArray, List.nil_append, List.cons_append]
  gi_wp2_with (refine ⟨trivial, ?_⟩; gi_at_call 40; refine (callsIn_wide.2 (CR.out _ hv)).mono ?_; rintro e w2 ⟨rfl, hb2⟩)
  have hB2 : Below W.heap.size W (w2.alloc (.cells #[.int .i64 op, .int .i64 a, .int .i64 b, .int .i64 c, .int .u32 m] 29)) := belA hb2 _
  have hE : EvI W Bc Bb v l J [] 0 w2.heap.size op a b c m k e (w2.alloc (.cells #[.int .i64 op, .int .i64 a, .int .i64 b, .int .i64 c, .int .u32 m] 29)) :=
    ⟨stand_start l, HJ.out _ _ _ hj0 (BelX.of_below hB2), hb2.size, cell_bel c0 hB2, hv.bel hB2, Bare.new .., World.frozen?_alloc_new _ _ _ _, HRD.out⟩
  clear hB2 hb2 c0 hv hj0 CR
  gi_loopw [3, 4, 5, 6] (fun va vp vn ve wr => ∃ (done : List It) (i B4 : Nat) (op a b c m k e : Int), va = .int .i64 i ∧ vp = .pointer (some ⟨B4, 0, none⟩) ∧ vn = .int .i64 k ∧ ve = .int .i64 e ∧ Hid (EvI W Bc Bb v l J done i B4 op a b c m k e wr))
    (fun va _ _ _ _ => l.length - (intOf va).toNat)
  case atStart => exact ⟨[], 0, _, op, a, b, c, m, k, e, rfl, rfl, rfl, rfl, Lib.hid hE⟩
  case round =>
    clear hE HRD
    obtain ⟨done, i, B4, op, a, b, c, m, k, e, rfl, rfl, rfl, rfl, HE⟩ := hrel
    by_cases he : e = 0
    · subst he
      obtain ⟨n', hk, hro⟩ := readO_of (fun x hx => hlt x (List.mem_of_mem_drop hx)) i HE.out.rd
      subst hk
      have hst := HE.out.std.next hlt hro
      obtain ⟨hs1, _, _, hs4⟩ := hst
      have hpre := hs1.pre
      have hsp : ∃ j, 1 ≤ j ∧ j ≤ (itemsAt l 0).length ∧ done ++ [(⟨i, op, a, b, c, m, n'⟩ : It)] = (itemsAt l 0).take j := ⟨_, by simp, hpre.2, hpre.1⟩
      have hlen : done.length < (itemsAt l 0).length := by have := hpre.2; rw [List.length_append] at this; simp at this; omega
      obtain ⟨fn, tmps, assign, body, hy, hR⟩ := HY.out done ⟨i, op, a, b, c, m, n'⟩ wr HE.out.hj (Nat.le_trans HE.out.size (Nat.le_of_lt (lt_of_cell HE.out.ins.c0))) hlen hsp
      have HSP := Lib.hid hsp
      dsimp only [itAt] at hy
      have HS := Lib.hid hs1
      have hi : i + n' ≤ l.length := hs1.1
      have hn1 : 1 ≤ n' := hs4
      obtain ⟨x0, x1, x2, x3, x4, _, _, _, _⟩ := HE.out.ins
      dsimp only at x1 x2 x3 x4
      clear hs1 hpre hro hsp hlen
      gi_wp2
      refine hR.mono ?_
      rintro e W' ⟨⟨rfl, hj'⟩ | ⟨rfl, hjx⟩, ht⟩
      · have n0 : ¬ (Bc < W.heap.size ∧ ¬ (Bc = Bc ∨ Bc = Bb)) := fun h => h.2 (Or.inl rfl)
        have n1 : ¬ (Bb < W.heap.size ∧ ¬ (Bb = Bc ∨ Bb = Bb)) := fun h => h.2 (Or.inr rfl)
        have n4 : ¬ (B4 < W.heap.size ∧ ¬ (B4 = Bc ∨ B4 = Bb)) := fun h => by have := HE.out.size; omega
        have c0 := cell_touch HE.out.cell ht n0
        have hv := HE.out.tap.touch ht n1
        have hX := HE.out.ins.touch ht n4
        have hsz : W.heap.size ≤ W'.heap.size := Nat.le_trans HE.out.size (Nat.le_of_lt (lt_of_cell hX.c0))
        have hBc : Bc < W'.heap.size := lt_of_cell c0
        clear HE n0 n1 n4 ht hy hR x0 x1 x2 x3 x4
        obtain ⟨x0, x1, x2, x3, x4, _, _, _, _⟩ := hX
        dsimp only at x1 x2 x3 x4
        obtain ⟨v', hsl, hv'⟩ := slice_arg hv.arg (i + n') hi
        rw [Int.natCast_add] at hsl
        have hw1 : IntKind.i64.wrap ((i : Int) + (n' : Int)) = (i : Int) + n' := by rw [IntKind.wrap_i64]; omega
        have hbA := bel1 (W := W') (.cells #[.int .i64 op, .int .i64 a, .int .i64 b, .int .i64 c, .int .u32 m] 29)
        have c1 := cell_bel c0 hbA
        obtain ⟨op2, a2, b2, c2, m2, k2, e2, hF2⟩ := readF_ex (l.drop (i + n'))
        have CR := Lib.hid fun w (hv : ArgB w v' (l.drop (i + n'))) => insRead_any (l.drop (i + n')) (by rw [List.length_drop]; omega) v' w hv
        rw [hF2] at CR
        unfold readV insV at CR
        have HF2 := Lib.hid hF2
        have HV := Lib.hid (hv'.bel hbA)
        have HBA := Lib.hid hbA
        have hN := Lib.hid (Bare.new op a b c m W' 29)
        have hNf := Lib.hid (World.frozen?_alloc_new W' #[.int .i64 op, .int .i64 a, .int .i64 b, .int .i64 c, .int .u32 m] 29 0)
        have HC := Lib.hid c1
        have HT := Lib.hid (hv.bel hbA)
        clear hF2 hv' hbA c0 hv
        gi_wp2_with (refine ⟨trivial, ?_⟩; gi_at_call 40; refine (callsIn_wide.2 (CR.out _ HV.out)).mono ?_; rintro e w3 ⟨rfl, hb3⟩; obtain ⟨z0, z1, z2, z3, z4, zf1, zf2, zf3, zf4⟩ := hN.out.bel hb3; dsimp only at z1 z2 z3 z4; have zf0 := froz_bel hN.out.c0 hNf.out hb3; have HZ := Lib.hid (hN.out.bel hb3); have HB3 := Lib.hid (belT HBA.out hb3); have HC3 := Lib.hid (cell_bel HC.out hb3); have HT3 := Lib.hid (HT.out.bel hb3))
        have ht5 := touch_set5 W'.heap.size w3 (.int .i64 op2) (.int .i64 a2) (.int .i64 b2) (.int .i64 c2) (.int .u32 m2) (T := fun b => b = W'.heap.size) rfl
        have hbF := ((((HB3.out.setCell (p := ⟨W'.heap.size, 0, none⟩) (Nat.le_refl _) (.int .i64 op2)).setCell (p := ⟨W'.heap.size, 1, none⟩) (Nat.le_refl _) (.int .i64 a2)).setCell (p := ⟨W'.heap.size, 2, none⟩) (Nat.le_refl _) (.int .i64 b2)).setCell (p := ⟨W'.heap.size, 3, none⟩) (Nat.le_refl _) (.int .i64 c2)).setCell (p := ⟨W'.heap.size, 4, none⟩) (Nat.le_refl _) (.int .u32 m2)
        refine ⟨⟨done ++ [⟨i, op, a, b, c, m, n'⟩], i + n', W'.heap.size, op2, a2, b2, c2, m2, k2, e2, by rw [Int.natCast_add], rfl, rfl, rfl, Lib.hid ⟨HS.out, HJ.out _ _ _ hj' (BelX.of_below (hbF.mono hsz)), hsz, cell_touch HC3.out ht5 (by omega), HT3.out.touch ht5 (by omega), HZ.out.set op2 a2 b2 c2 m2, ?_, HF2.out⟩⟩, ?_⟩
        · simp only [World.frozen?_setCell]
          exact zf0
        · simp only [intOf]
          omega
      · gi_wp2
        go_end0
        exact ⟨⟨_, rfl⟩, .inr ⟨_, HSP.out, hjx⟩⟩
    · have e1 : (e == 0) = false := beq_eq_false_iff_ne.2 he
      have hro := readO_not (l := l.drop i) i HE.out.rd he
      have HF := Lib.hid (HE.out.std.last hro)
      clear he hro
      gi_wp2
      refine ⟨fun _ h => (by cases h), ?_⟩
      gi_wp2
      go_end0
      exact ⟨⟨_, rfl⟩, .inl ⟨_, HF.out.symm ▸ rfl, HE.out.hj⟩⟩
end Go.Proofs.YtfnfcngkaepnjaaGreatDoor
