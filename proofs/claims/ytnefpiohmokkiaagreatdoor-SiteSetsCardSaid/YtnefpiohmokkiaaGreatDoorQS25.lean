/- Joined texts: A set's pairs in order: All, slices.All, their iterators. -/
import Derived.Test.YtnefpiohmokkiaaGreatDoorQS22
/- A set's pairs in order: All, slices.All, their iterators. -/
namespace Go.Proofs.YtnefpiohmokkiaaGreatDoor
set_option linter.unusedVariables false
set_option linter.unusedSimpArgs false
open Go Go.Proofs Go.RowKit Go.Sort

/-- A place and a pair, as they come. -/
abbrev ixAt (x : PaM × Nat) : Array Value := #[.int .i64 (x.2 : Nat), x.1.v]
/-- Pairs in one block. -/
structure TapP (w : World) (B : Nat) (v : Value) (l : List PaM) : Prop where
  arg : ArgW 4 encPa w v l
  blk : l ≠ [] → ∀ b o n c, v = .slice (some ⟨b, o, none⟩) n c → b = B
theorem TapP.bel {w w' : World} {B : Nat} {v : Value} {l : List PaM} (h : TapP w B v l) (hb : Below w.heap.size w w') : TapP w' B v l := ⟨h.arg.bel hb, h.blk⟩
theorem TapP.touch {w w' : World} {B : Nat} {v : Value} {l : List PaM} {T : Nat → Prop} (h : TapP w B v l) (ht : Touch T w w') (hn : ¬ T B) : TapP w' B v l := by
  refine ⟨?_, h.blk⟩
  rcases h.arg with h0 | ⟨ad, c, h1, h2, h3, h4⟩
  · exact Or.inl h0
  · refine Or.inr ⟨ad, c, h1, h2, h3, fun hl => ?_⟩
    obtain ⟨b, o, rfl, hB⟩ := h4 hl
    have := h.blk hl b o _ _ h1
    subst this
    exact ⟨b, o, rfl, hB.touch ht hn⟩
theorem ArgW.setCell {w : World} {v u : Value} {l : List PaM} {b o : Nat} (h : ArgW 4 encPa w v l) (hn : ∀ k, v.ownBlock = some k → k ≠ b) : ArgW 4 encPa (w.setCell ⟨b, o, none⟩ u) v l := by
  rcases h with h0 | ⟨ad, c, h1, h2, h3, h4⟩
  · exact Or.inl h0
  · refine Or.inr ⟨ad, c, h1, h2, h3, fun hl => ?_⟩
    obtain ⟨b', o', rfl, hB⟩ := h4 hl
    exact ⟨b', o', rfl, hB.touch (Touch.setCell (T := fun k => k = b) w ⟨b, o, none⟩ u rfl) (fun e => hn b' (by rw [h1]; rfl) e)⟩
theorem tap_of {w : World} {v : Value} {l : List PaM} (h : ArgW 4 encPa w v l) (h0 : 0 < w.heap.size) : ∃ B, B < w.heap.size ∧ TapP w B v l := by
  by_cases hl : l = []
  · exact ⟨0, h0, h, fun h1 => absurd hl h1⟩
  · obtain ⟨p, hp⟩ : ∃ p, l[0]? = some p := ⟨l[0]'(List.length_pos_iff.2 hl), List.getElem?_eq_getElem _⟩
    obtain ⟨b, o, c, rfl, _, c0, _⟩ := pair_at h hp
    exact ⟨b, lt_of_cell c0, h, fun _ b' o' n c hv => by
      simp only [Value.slice.injEq, Option.some.injEq, Addr.mk.injEq] at hv
      exact hv.1.1.symm⟩
/-- Pairs by their places. -/
def ixP (l : List PaM) : List (PaM × Nat) := l.zipIdx
theorem ixP_length (l : List PaM) : (ixP l).length = l.length := by simp [ixP]
theorem ixP_take {l : List PaM} {k : Nat} {p : PaM} (h : l[k]? = some p) : (ixP l).take k ++ [(p, k)] = (ixP l).take (k + 1) := by
  have hk := (List.getElem?_eq_some_iff.1 h).1
  have h1 : (ixP l)[k]? = some (p, k) := by
    unfold ixP
    rw [List.getElem?_zipIdx, h]
    simp
  obtain ⟨h2, h3⟩ := List.getElem?_eq_some_iff.1 h1
  rw [← h3, List.take_append_getElem h2]

theorem cell_belXP {n : Nat} {X : Nat → Prop} {A B : World} {b o : Nat} {v : Value} (h : A.cell? ⟨b, o, none⟩ = some v) (hb : BelX n X A B) (hlt : b < n) (hx : ¬ X b) : B.cell? ⟨b, o, none⟩ = some v := by
  have e := hb.2 b hlt hx
  simp only [World.cell?] at h ⊢
  rw [e]
  exact h
theorem round_anyP {n : Nat} {P : Program} {l : Nat} {f : FuncId} {tmps : Array Value} {assign body : Code} {w : World} {R : Ending → World → Prop} (l2 m : Nat) (h : RoundIn Fence.wide n P l f tmps assign body w R) : RoundIn (Fence.wide.inRound l2) m P l f tmps assign body w R :=
  ⟨h.1, fun c cs hr => h.2 c cs (room_wide _)⟩

/-- slices.All. -/
theorem slAll_any (a : Option Addr) (n c : Nat) (w : World) : Calls Tryz.prog 40 #[.slice a n c] w fun e w' =>
    e = .returned (.func (.func 85) #[] #[.pointer (some ⟨w.heap.size, 0, none⟩)]) ∧ w' = w.alloc (.cells #[.slice a n c] 22) := by
  go_enter Tryz.func40, Tryz.ntmps40
  go_wp2
  go_ret
  exact ⟨rfl, rfl⟩

attribute [local go_sem] Oper.semAt_some

set_option maxRecDepth 100000 in
set_option maxHeartbeats 2000000 in
/-- slices.All's iterator. -/
theorem slAll_in (n Bo Bb : Nat) (hn : 1 ≤ n) (v : Value) (l : List PaM) (hl : l.length ≤ 1000) :
    SeqB Fence.wide n Tryz.prog 85 #[.pointer (some ⟨Bo, 0, none⟩)] ixAt (fun k => k = Bo ∨ k = Bb) (fun _ => False)
      (fun xs => xs = ixP l) (fun pre => ∃ k, k < l.length ∧ pre = (ixP l).take (k + 1)) l.length (fun W => W.cell? ⟨Bo, 0, none⟩ = some v ∧ TapP W Bb v l) := by
  rintro lp J Jx W ⟨c0, hT⟩ hJ hJx hY hj0
  obtain ⟨av, cv, rfl⟩ := hT.arg.form
  have HY := Lib.hid hY
  have HJ := Lib.hid hJ
  have HT := Lib.hid hT
  clear hY hJ hJx hT
  simp only [List.append_toArray, List.cons_append, List.nil_append]
  refine callsIn_of_wp Tryz.func85 rfl trivial ?_ rfl
  simp only [Tryz.ntmps85, List.size_toArray, List.length_cons, List.length_nil, Nat.reduceAdd, Nat.reduceSub, Array.replicate_succ, Array.replicate_zero, List.push_toArray, List.append_toArray, List.nil_append, List.cons_append]
  gi_wp2
  gi_loopw [7] (fun vi wr => ∃ k : Nat, vi = .int .i64 k ∧ k ≤ l.length ∧ Hid (TapP wr Bb (.slice av l.length cv) l) ∧ W.heap.size ≤ wr.heap.size ∧ Hid (J ((ixP l).take k) wr)) (fun vi _ => l.length - (intOf vi).toNat)
  case atStart => exact ⟨0, rfl, by omega, HT, Nat.le_refl _, Lib.hid hj0⟩
  case round =>
    clear hj0 c0 HT
    obtain ⟨k, rfl, hk, HT, hsz, HJr⟩ := hrel
    by_cases hlt : k < l.length
    · obtain ⟨p, hp⟩ : ∃ p, l[k]? = some p := ⟨l[k], List.getElem?_eq_getElem hlt⟩
      obtain ⟨b, o, c', hv, -, x0, x1, x2, x3⟩ := pair_at HT.out.arg hp
      simp only [Value.slice.injEq, true_and] at hv
      obtain ⟨rfl, rfl⟩ := hv
      have HTK := Lib.hid (ixP_take hp)
      have hb1 := bel1 (W := wr) (.cells #[.int .i64 p.a, .int .i64 p.b, .int .i64 p.c, .int .i64 p.d] 32)
      have hJ1 := HJ.out _ _ _ HJr.out (BelX.of_below (hb1.mono hsz))
      have HT1 := Lib.hid (HT.out.bel hb1)
      have hs1 : W.heap.size ≤ (wr.alloc (.cells #[.int .i64 p.a, .int .i64 p.b, .int .i64 p.c, .int .i64 p.d] 32)).heap.size := Nat.le_trans hsz hb1.size
      have k0 := cell_new wr #[.int .i64 p.a, .int .i64 p.b, .int .i64 p.c, .int .i64 p.d] 32 0
      have k1 := cell_new wr #[.int .i64 p.a, .int .i64 p.b, .int .i64 p.c, .int .i64 p.d] 32 1
      have k2 := cell_new wr #[.int .i64 p.a, .int .i64 p.b, .int .i64 p.c, .int .i64 p.d] 32 2
      have k3 := cell_new wr #[.int .i64 p.a, .int .i64 p.b, .int .i64 p.c, .int .i64 p.d] 32 3
      obtain ⟨fn, tmps, assign, body, hy, hR⟩ := HY.out ((ixP l).take k) (p, k) _ hJ1 hs1 (by rw [List.length_take, ixP_length]; omega) ⟨k, hlt, HTK.out⟩
      rw [HTK.out] at hR
      dsimp only [ixAt] at hy
      clear hJ1 hb1 hp HJr HT
      gi_wp2
      clear x0 x1 x2 x3 k0 k1 k2 k3 hy
      generalize wr.alloc _ = V at HT1 hs1 hR ⊢
      refine hR.mono ?_
      rintro e W' ⟨⟨rfl, hj'⟩ | ⟨rfl, hjx⟩, ht⟩
      · have HT2 := Lib.hid (HT1.out.touch ht (fun h => h.2 (Or.inr rfl)))
        have hs2 : W.heap.size ≤ W'.heap.size := Nat.le_trans hs1 ht.size
        have HJ2 := Lib.hid hj'
        clear hj' ht hR HT1 hs1
        gi_wp2
        exact ⟨⟨k + 1, by go_num, by omega, HT2, hs2, HJ2⟩, by simp [intOf]; omega⟩
      · gi_wp2
        refine bodyPost_ret (results_none rfl _ _ _) rfl ?_
        exact ⟨⟨_, rfl⟩, .inr ⟨_, ⟨k, hlt, rfl⟩, hjx⟩⟩
    · have hk2 : k = l.length := by omega
      subst hk2
      have HJ2 := Lib.hid (show J (ixP l) wr by have := HJr.out; rwa [List.take_of_length_le (by rw [ixP_length]; omega)] at this)
      clear HJr
      gi_wp2
      go_end0
      exact ⟨⟨_, rfl⟩, .inl ⟨_, rfl, HJ2.out⟩⟩

set_option maxRecDepth 100000 in
set_option maxHeartbeats 2000000 in
/-- All's iterator. -/
theorem all_in (n Bo Bb : Nat) (hn : 9 ≤ n) (v : Value) (l : List PaM) (hl : l.length ≤ 1000) :
    SeqB Fence.wide n Tryz.prog 39 #[.pointer (some ⟨Bo, 0, none⟩)] ixAt (fun k => k = Bo ∨ k = Bb) (fun _ => False)
      (fun xs => xs = ixP l) (fun pre => ∃ k, k < l.length ∧ pre = (ixP l).take (k + 1)) l.length (fun W => W.cell? ⟨Bo, 0, none⟩ = some v ∧ TapP W Bb v l ∧ Bb < W.heap.size) := by
  rintro lp J Jx W ⟨ci, hv, hBb⟩ hJ hJx hY hj0
  obtain ⟨ao, cp, rfl⟩ := hv.arg.form
  simp only [List.append_toArray, List.cons_append, List.nil_append]
  refine callsIn_of_wp_marks Tryz.func39 rfl trivial ?_ rfl
  simp only [Tryz.ntmps39, List.size_toArray, List.length_cons, List.length_nil, Nat.reduceAdd, Nat.reduceSub, Array.replicate_succ, Array.replicate_zero, List.push_toArray, List.append_toArray, List.nil_append, List.cons_append]
  refine wpIn_wide.2 ?_
  have hlo : Bo < W.heap.size := lt_of_cell ci
  have ci := cell_al ci (.cells #[.func (.yield lp) #[] #[]] 92)
  have cy := cell_new W #[.func (.yield lp) #[] #[]] 92 0
  have hv1 := hv.bel (bel1 (.cells #[.func (.yield lp) #[] #[]] 92))
  go_wp2
  refine wp_scope_straight ?_
  go_wp2
  refine wp_label ?_
  go_wp2_with (go_at_call 40; refine (slAll_any ao l.length cp _).mono ?_; rintro e w1 ⟨rfl, rfl⟩)
  refine (wpIn_wide (n := n)).1 ?_
  have cy := cell_al cy (.cells #[.slice ao l.length cp] 22)
  have e0 := cell_two W (.cells #[.func (.yield lp) #[] #[]] 92) #[.slice ao l.length cp] 22 0
  have hv2 := hv1.bel (bel1 (.cells #[.slice ao l.length cp] 22))
  have hBU : Below W.heap.size W ((W.alloc (.cells #[.func (.yield lp) #[] #[]] 92)).alloc (.cells #[.slice ao l.length cp] 22)) := belA (bel1 _) _
  have hsU : ((W.alloc (.cells #[.func (.yield lp) #[] #[]] 92)).alloc (.cells #[.slice ao l.length cp] 22)).heap.size = W.heap.size + 2 := by simp
  refine wpIn_rangeT rfl (by omega) (gf := 85) (lb := #[.pointer (some ⟨W.heap.size + 1, 0, none⟩)]) (by simp [go_sem]) trivial (enters_of Tryz.func85 (by kernel_rfl) rfl)
    (slAll_in (n - 1) (W.heap.size + 1) Bb (by omega) (.slice ao l.length cp) l hl) (fun W' hb => ⟨cell_bel e0 hb, hv2.bel hb⟩) (fun _ => rfl)
    (fun k => k < W.heap.size ∧ ¬ (k = Bo ∨ k = Bb)) (fun k h => ⟨by omega, fun h' => by omega⟩) (fun k h => by omega) (fun k h => h.elim)
    (fun pre W' => J pre W' ∧ W'.cell? ⟨W.heap.size, 0, none⟩ = some (.func (.yield lp) #[] #[]) ∧ W.heap.size ≤ W'.heap.size) (fun c pre W' => c = .exit 0 ∧ Jx pre W') ?hI ?hIx ?h0 ?hround ?hdone ?hstop
  case hI =>
    rintro s A B ⟨hj, hc, hz⟩ hb
    exact ⟨hJ _ _ _ hj (hb.mono (by omega) (fun k hk hx => hx)), cell_belXP hc hb (by omega) (fun h => h), Nat.le_trans hz hb.1.size⟩
  case hIx =>
    rintro c s A B ⟨rfl, hj⟩ hb
    exact ⟨rfl, hJx _ _ _ hj (hb.mono (by omega) (fun k hk hx => hx))⟩
  case h0 => exact ⟨hJ _ _ _ hj0 (BelX.of_below hBU), cy, hBU.size⟩
  case hround =>
    rintro l2 pre ⟨p, k⟩ W2 ⟨hj, hc, hz⟩ hlt hlen hsp
    gi_wp2
    refine ⟨Touch.below (bel1 _), fun W3 hb3 ht3 => ?_⟩
    have hbx : Below (W.heap.size + 2) W2 W3 := ((bel1 (W := W2) (.cells #[.int .i64 p.a, .int .i64 p.b, .int .i64 p.c, .int .i64 p.d] 32)).mono (by omega)).trans (hb3.mono (by omega))
    have hj3 := hJ _ _ _ hj (BelX.of_below (hbx.mono (by omega)))
    have hc3 := cell_belB hc hbx (by omega)
    have hz3 : W.heap.size ≤ W3.heap.size := Nat.le_trans hz hbx.size
    have x0 : W3.cell? ⟨W2.heap.size, 0, none⟩ = some (.int .i64 p.a) := cell_touch (cell_new W2 #[.int .i64 p.a, .int .i64 p.b, .int .i64 p.c, .int .i64 p.d] 32 0) ht3 (by omega)
    have x1 : W3.cell? ⟨W2.heap.size, 1, none⟩ = some (.int .i64 p.b) := cell_touch (cell_new W2 #[.int .i64 p.a, .int .i64 p.b, .int .i64 p.c, .int .i64 p.d] 32 1) ht3 (by omega)
    have x2 : W3.cell? ⟨W2.heap.size, 2, none⟩ = some (.int .i64 p.c) := cell_touch (cell_new W2 #[.int .i64 p.a, .int .i64 p.b, .int .i64 p.c, .int .i64 p.d] 32 2) ht3 (by omega)
    have x3 : W3.cell? ⟨W2.heap.size, 3, none⟩ = some (.int .i64 p.d) := cell_touch (cell_new W2 #[.int .i64 p.a, .int .i64 p.b, .int .i64 p.c, .int .i64 p.d] 32 3) ht3 (by omega)
    obtain ⟨fn, tmps, assign, body, hy, hR⟩ := hY pre (p, k) W3 hj3 hz3 hlen hsp
    dsimp only [ixAt] at hy
    clear hY
    gi_wp2
    refine ⟨fun h => (by cases h), ?_⟩
    refine (round_anyP l2 (n - 1 - 1 - 1) hR).mono ?_
    rintro e W4 ⟨⟨rfl, hj4⟩ | ⟨rfl, hj4⟩, ht4⟩
    · have hc4 := cell_touch hc3 ht4 (by omega)
      gi_wp2
      exact ⟨ht4, hj4, hc4, Nat.le_trans hz3 ht4.size⟩
    · gi_wp2
      exact ⟨ht4, rfl, hj4⟩
  case hdone =>
    rintro D xs W' hD hS ⟨hj, _, hz⟩ hK
    go_wp2
    rw [Exit.noGoto_normal]
    refine ⟨by simp, .inl ⟨_, _, rfl, run_takeDeferred hK, ?_⟩⟩
    exact ⟨_, results_none rfl _ _ _, ⟨_, rfl⟩, .inl ⟨xs, hS, hJ _ _ _ hj (.of_below (below_put _ _ _ (by omega) (by omega)))⟩⟩
  case hstop =>
    rintro D c pre W' hD hSp ⟨rfl, hj⟩ hK
    have hDs : D < W'.heap.size := (Array.getElem?_eq_some_iff.1 hK).1
    refine wpIn_wide.2 ?_
    go_wp2
    rw [Exit.noGoto_normal]
    refine ⟨by simp, .inl ⟨_, _, rfl, run_takeDeferred hK, ?_⟩⟩
    exact ⟨_, results_none rfl _ _ _, ⟨_, rfl⟩, .inr ⟨pre, hSp, hJx _ _ _ hj (.of_below (below_put _ _ _ (by omega) (by omega)))⟩⟩

/-- What All tells of a set. -/
def AllQ (L : List (PaM × Int)) (w : World) (e : Ending) (w' : World) : Prop := ∃ v xs Bo Bb, e = .returned (.func (.func 39) #[] #[.pointer (some ⟨Bo, 0, none⟩)]) ∧ xs.Perm (L.map (·.1)) ∧ w'.cell? ⟨Bo, 0, none⟩ = some v ∧ TapP w' Bb v (riseP xs) ∧ Bb < w'.heap.size ∧ Below w.heap.size w w'

set_option maxRecDepth 100000 in
set_option maxHeartbeats 1000000 in
theorem siAll_any (B M : Nat) (L : List (PaM × Int)) (hL : L.length ≤ 1000) (w : World) (h : SetB B M L w) : Calls Tryz.prog 14 #[.pointer (some ⟨B, 0, none⟩)] w (AllQ L w) := by
  have hb1 := bel1 (W := w) (.cells #[.slice none 0 0] 22)
  have hS1 := h.bel hb1
  have CR := Lib.hid (rising_any M L hL (w.alloc (.cells #[.slice none 0 0] 22)) hS1.mp)
  have CN := Lib.hid (siNone_no B M (w.alloc (.cells #[.slice none 0 0] 22)) hS1.c0)
  have HC := Lib.hid hS1.c0
  have HB1 := Lib.hid hb1
  have HQ := Lib.hid (cell_new w #[.slice none 0 0] 22 0)
  have HF := Lib.hid (World.frozen?_alloc_new w #[.slice none 0 0] 22 0)
  clear h hb1 hS1
  go_enter Tryz.func14, Tryz.ntmps14
  go_wp2_with fail
  refine CN.out.mono ?_
  rintro e w1 ⟨rfl, rfl⟩
  have hc0 := HC.out
  go_wp2_with fail
  refine CR.out.mono ?_
  rintro e w2 ⟨v, xs, rfl, hp, hA, hob, hb⟩
  have q0 := cell_bel HQ.out hb
  have f0 := froz_bel HQ.out HF.out hb
  have HA := Lib.hid hA
  have HP := Lib.hid hp
  have HB2 := Lib.hid (belT HB1.out hb)
  obtain ⟨av, cv, rfl⟩ := hA.form
  have HOB := Lib.hid hob
  clear hA hp hb hc0 hob
  go_wp2
  go_ret
  have hset := HB2.out.setCell (p := ⟨w.heap.size, 0, none⟩) (Nat.le_refl _) (.slice av (riseP xs).length cv)
  have hlw : w.heap.size < w2.heap.size := lt_of_cell q0
  have hc' : (w2.setCell ⟨w.heap.size, 0, none⟩ (.slice av (riseP xs).length cv)).cell? ⟨w.heap.size, 0, none⟩ = some (.slice av (riseP xs).length cv) := World.cell?_setCell_same _ _ _ q0
  have hA' := HA.out.setCell (b := w.heap.size) (o := 0) (u := .slice av (riseP xs).length cv) (fun k hk => by have := HOB.out k hk; simp at this; omega)
  obtain ⟨Bb, hBb, hT⟩ := tap_of hA' (by simp; omega)
  exact ⟨_, xs, _, Bb, rfl, HP.out, hc', hT, hBb, hset⟩
end Go.Proofs.YtnefpiohmokkiaaGreatDoor
