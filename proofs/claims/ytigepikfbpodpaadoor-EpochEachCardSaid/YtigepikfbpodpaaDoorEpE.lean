/- Iterators of package epoch: every, Each. -/
import Derived.Test.YtigepikfbpodpaaDoorEpB
import Derived.Test.YtigepikfbpodpaaDoorTwo

import Derived.Test.YtigepikfbpodpaaDoorRng
namespace Go.Proofs.YtigepikfbpodpaaDoor
set_option linter.unusedVariables false
open Go Go.Proofs Go.RowKit

/-- What follows the k-th. -/
theorem next_k (x d : Int) (k m : Nat) (h0 : 0 ≤ x) (h1 : x < 18446744073709551616) (hd : 1 ≤ d ∧ d ≤ 281474976710655) (hm : x % 281474976710656 + m = d) (hk : k ≤ m) :
    nextF (x + k) d = if k < m then (x + k + 1, 0) else (0, 130) := by
  have e : (x + k) % 281474976710656 = x % 281474976710656 + k := by omega
  unfold nextF
  rw [if_neg (by omega), e]
  by_cases h : k < m
  · rw [if_pos h, if_neg (by omega)]
  · rw [if_neg h, if_pos (by omega)]

theorem each_lt (x d : Int) (k m : Nat) (h0 : 0 ≤ x) (h1 : x < 18446744073709551616) (hd : 1 ≤ d ∧ d ≤ 281474976710655) (hm : x % 281474976710656 + m = d) (hk : k ≤ m) : x + k < 18446744073709551616 := by omega

/-- The k-th, as it comes. -/
abbrev epAt (x : Int) (k : Nat) : Array Value := #[.int .i64 k, .int .u64 (x + k)]

theorem cell_belX {n : Nat} {X : Nat → Prop} {A B : World} {b o : Nat} {v : Value} (h : A.cell? ⟨b, o, none⟩ = some v) (hb : BelX n X A B) (hn : b < n) (hx : ¬ X b) : B.cell? ⟨b, o, none⟩ = some v := by
  have e := hb.2 b hn hx
  simp only [World.cell?] at h ⊢
  rw [e]
  exact h
theorem froz_touch {T : Nat → Prop} {W W' : World} {b o : Nat} {v : Value} (h : W.cell? ⟨b, o, none⟩ = some v) (hf : W.frozen? ⟨b, o, none⟩ = false) (ht : Touch T W W') (hn : ¬ T b) : W'.frozen? ⟨b, o, none⟩ = false := by
  have e := ht.same b (lt_of_cell h) hn
  simp only [World.frozen?] at hf ⊢
  rw [e]
  exact hf

attribute [local go_sem] Oper.semAt_some

set_option maxRecDepth 100000 in
set_option maxHeartbeats 1000000 in
/-- every's closure. -/
theorem every_in (n Be Bd : Nat) (hne : Be ≠ Bd) (hn : 1 ≤ n) (x d : Int) (m : Nat) (h0 : 0 ≤ x) (h1 : x < 18446744073709551616) (hd : 1 ≤ d ∧ d ≤ 281474976710655) (hm : x % 281474976710656 + m = d) :
    SeqB Fence.wide n Tryd.prog 43 #[.pointer (some ⟨Be, 0, none⟩), .pointer (some ⟨Bd, 0, none⟩)] (epAt x) (fun k => k = Be ∨ k = Bd) (fun k => k = Be)
      (fun xs => xs = List.range (m + 1)) (fun pre => ∃ j, 1 ≤ j ∧ j ≤ m + 1 ∧ pre = List.range j) (m + 1)
      (fun W => W.cell? ⟨Be, 0, none⟩ = some (.int .u64 x) ∧ W.frozen? ⟨Be, 0, none⟩ = false ∧ W.cell? ⟨Bd, 0, none⟩ = some (.int .u64 d)) := by
  rintro l J Jx W ⟨c0, cf, c1⟩ hJ hJx hY hj0
  simp only [List.append_toArray, List.cons_append, List.nil_append]
  refine callsIn_of_wp Tryd.func43 rfl trivial ?_ rfl
  simp only [Tryd.ntmps43, List.size_toArray, List.length_cons, List.length_nil, Nat.reduceAdd, Nat.reduceSub, Array.replicate_succ, Array.replicate_zero, List.push_toArray, List.append_toArray, List.nil_append, List.cons_append]
  gi_wp2
  gi_loopw [4] (fun vi wr => ∃ k : Nat, vi = .int .i64 k ∧ k ≤ m ∧ wr.cell? ⟨Be, 0, none⟩ = some (.int .u64 (x + k)) ∧ wr.frozen? ⟨Be, 0, none⟩ = false ∧ wr.cell? ⟨Bd, 0, none⟩ = some (.int .u64 d) ∧ W.heap.size ≤ wr.heap.size ∧ J (List.range k) wr)
    (fun vi _ => m + 1 - (intOf vi).toNat)
  case atStart => exact ⟨0, rfl, by omega, by simpa using c0, cf, c1, Nat.le_refl _, hj0⟩
  case round =>
    obtain ⟨k, rfl, hk, e0, ef, e1, hsz, hj⟩ := hrel
    have hmm : m < 281474976710656 := by omega
    have hx := each_lt x d k m h0 h1 hd hm hk
    have hnx := next_k x d k m h0 h1 hd hm hk
    have CN := Lib.hid fun w => next_any (x + k) d w (by omega) hx (by omega) (by omega)
    rw [hnx] at CN
    obtain ⟨fn, tmps, assign, body, hy, hR⟩ := hY (List.range k) k wr hj hsz (by simp; omega) ⟨k + 1, by omega, by omega, List.range_succ.symm⟩
    rw [← List.range_succ] at hR
    dsimp only [epAt] at hy
    clear hnx hY
    gi_wp2
    refine hR.mono ?_
    rintro e W' ⟨⟨rfl, hj'⟩ | ⟨rfl, hjx⟩, ht⟩
    · have n0 : ¬ (Be < W.heap.size ∧ ¬ (Be = Be ∨ Be = Bd)) := fun h => h.2 (Or.inl rfl)
      have n1 : ¬ (Bd < W.heap.size ∧ ¬ (Bd = Be ∨ Bd = Bd)) := fun h => h.2 (Or.inr rfl)
      have ef := froz_touch e0 ef ht n0
      have e0 := cell_touch e0 ht n0
      have e1 := cell_touch e1 ht n1
      have hsz := Nat.le_trans hsz ht.size
      clear hR hy n0 n1
      by_cases hlt : k < m
      · rw [if_pos hlt] at CN
        gi_wp2_with (refine ⟨trivial, ?_⟩; gi_at_call 8; refine (callsIn_wide.2 (CN.out _)).mono ?_; rintro e w2 ⟨rfl, hb2⟩; have ef2 := froz_bel e0 ef hb2; have e02 := cell_bel e0 hb2; have e12 := cell_bel e1 hb2)
        have hb3 : BelX W.heap.size (fun k => k = Be) W' (w2.setCell ⟨Be, 0, none⟩ (.int .u64 (x + k + 1))) := (BelX.of_below (hb2.mono hsz)).trans (BelX.setCell w2 ⟨Be, 0, none⟩ _ rfl)
        have hj3 := hJ _ _ _ hj' hb3
        refine ⟨⟨k + 1, by go_num, by omega, ?_, ?_, ?_, ?_, hj3⟩, by simp [intOf]; omega⟩
        · rw [World.cell?_setCell_same _ _ _ e02]
          congr 2
          omega
        · rw [World.frozen?_setCell]
          exact ef2
        · exact (World.cell?_setCell_other _ _ _ _ (by first | (simp; done) | (simp; omega))).trans e12
        · exact Nat.le_trans hsz (Nat.le_trans hb2.size (KeepsWalks.setCell w2 ⟨Be, 0, none⟩ _).size)
      · rw [if_neg hlt] at CN
        gi_wp2_with (refine ⟨trivial, ?_⟩; gi_at_call 8; refine (callsIn_wide.2 (CN.out _)).mono ?_; rintro e w2 ⟨rfl, hb2⟩; have ef2 := froz_bel e0 ef hb2; have e02 := cell_bel e0 hb2; have e12 := cell_bel e1 hb2)
        refine bodyPost_ret (results_none rfl _ _ _) rfl ?_
        have hkm : k = m := by omega
        subst hkm
        exact ⟨⟨_, rfl⟩, .inl ⟨_, rfl, hJ _ _ _ hj' (BelX.of_below (hb2.mono hsz))⟩⟩
    · gi_wp2
      go_end0
      exact ⟨⟨_, rfl⟩, .inr ⟨_, ⟨k + 1, by omega, by omega, rfl⟩, hjx⟩⟩

theorem every_any (x d : Int) (w : World) : Calls Tryd.prog 33 #[.int .u64 x, .int .u64 d] w fun e w' =>
    e = .returned (.func (.func 43) #[] #[.pointer (some ⟨w.heap.size, 0, none⟩), .pointer (some ⟨w.heap.size + 1, 0, none⟩)]) ∧ w' = (w.alloc (.cells #[.int .u64 x] 23)).alloc (.cells #[.int .u64 d] 22) := by
  go_enter Tryd.func33, Tryd.ntmps33
  go_wp2
  go_ret
  exact ⟨rfl, rfl⟩

theorem round_any {n : Nat} {P : Program} {l : Nat} {f : FuncId} {tmps : Array Value} {assign body : Code} {w : World} {R : Ending → World → Prop} (l2 m : Nat) (h : RoundIn Fence.wide n P l f tmps assign body w R) : RoundIn (Fence.wide.inRound l2) m P l f tmps assign body w R :=
  ⟨h.1, fun c cs hr => h.2 c cs (room_wide _)⟩
set_option maxRecDepth 100000 in
set_option maxHeartbeats 1000000 in
/-- Each's closure, where there is something. -/
theorem each_yes (n Bi Be Bd : Nat) (hn : 9 ≤ n) (x d : Int) (m : Nat) (h0 : 0 ≤ x) (h1 : x < 18446744073709551616) (hd : 1 ≤ d ∧ d ≤ 281474976710655) (hm : x % 281474976710656 + m = d) :
    SeqB Fence.wide n Tryd.prog 32 #[.pointer (some ⟨Bi, 0, none⟩), .pointer (some ⟨Be, 0, none⟩), .pointer (some ⟨Bd, 0, none⟩)] (epAt x) (fun k => k = Bi ∨ k = Be ∨ k = Bd) (fun _ => False)
      (fun xs => xs = List.range (m + 1)) (fun pre => ∃ j, 1 ≤ j ∧ j ≤ m + 1 ∧ pre = List.range j) (m + 1)
      (fun W => W.cell? ⟨Bi, 0, none⟩ = some (.bool true) ∧ W.cell? ⟨Be, 0, none⟩ = some (.int .u64 x) ∧ W.cell? ⟨Bd, 0, none⟩ = some (.int .u64 d)) := by
  rintro l J Jx W ⟨ci, ce, cd⟩ hJ hJx hY hj0
  simp only [List.append_toArray, List.cons_append, List.nil_append]
  refine callsIn_of_wp_marks Tryd.func32 rfl trivial ?_ rfl
  simp only [Tryd.ntmps32, List.size_toArray, List.length_cons, List.length_nil, Nat.reduceAdd, Nat.reduceSub, Array.replicate_succ, Array.replicate_zero, List.push_toArray, List.append_toArray, List.nil_append, List.cons_append]
  refine wpIn_wide.2 ?_
  have ci := cell_al ci (.cells #[.func (.yield l) #[] #[]] 75)
  have ce := cell_al ce (.cells #[.func (.yield l) #[] #[]] 75)
  have cd := cell_al cd (.cells #[.func (.yield l) #[] #[]] 75)
  have cy := cell_new W #[.func (.yield l) #[] #[]] 75 0
  go_wp2
  refine wp_scope_straight ?_
  go_wp2
  refine wp_label ?_
  go_wp2_with (go_at_call 33; refine (every_any x d _).mono ?_; rintro e w1 ⟨rfl, rfl⟩)
  refine (wpIn_wide (n := n)).1 ?_
  have cy := cell_al (cell_al cy (.cells #[.int .u64 x] 23)) (.cells #[.int .u64 d] 22)
  have e0 := cell_al (cell_two W (.cells #[.func (.yield l) #[] #[]] 75) #[.int .u64 x] 23 0) (.cells #[.int .u64 d] 22)
  have ef := froz_bel (cell_two W (.cells #[.func (.yield l) #[] #[]] 75) #[.int .u64 x] 23 0) (froz_two W (.cells #[.func (.yield l) #[] #[]] 75) #[.int .u64 x] 23 0) (bel1 (.cells #[.int .u64 d] 22))
  have e1 := cell_three W (.cells #[.func (.yield l) #[] #[]] 75) (.cells #[.int .u64 x] 23) #[.int .u64 d] 22 0
  have hBU : Below W.heap.size W (((W.alloc (.cells #[.func (.yield l) #[] #[]] 75)).alloc (.cells #[.int .u64 x] 23)).alloc (.cells #[.int .u64 d] 22)) := belA (belA (bel1 _) _) _
  have hsU : (((W.alloc (.cells #[.func (.yield l) #[] #[]] 75)).alloc (.cells #[.int .u64 x] 23)).alloc (.cells #[.int .u64 d] 22)).heap.size = W.heap.size + 3 := by simp
  refine wpIn_rangeT rfl (by omega) (gf := 43) (lb := #[.pointer (some ⟨W.heap.size + 1, 0, none⟩), .pointer (some ⟨W.heap.size + 1 + 1, 0, none⟩)]) (by simp [go_sem]) trivial (enters_of Tryd.func43 (by kernel_rfl) rfl)
    (every_in (n - 1) (W.heap.size + 1) (W.heap.size + 1 + 1) (by omega) (by omega) x d m h0 h1 hd hm) (fun W' hb => ⟨cell_bel e0 hb, froz_bel e0 ef hb, cell_bel e1 hb⟩) (fun _ => rfl)
    (fun k => k < W.heap.size ∧ ¬ (k = Bi ∨ k = Be ∨ k = Bd)) (fun k h => ⟨by omega, fun h' => by omega⟩) (fun k h => by omega) (fun k h => by omega)
    (fun pre W' => J pre W' ∧ W'.cell? ⟨W.heap.size, 0, none⟩ = some (.func (.yield l) #[] #[]) ∧ W.heap.size ≤ W'.heap.size) (fun c pre W' => c = .exit 0 ∧ Jx pre W') ?hI ?hIx ?h0 ?hround ?hdone ?hstop
  case hI =>
    rintro s A B ⟨hj, hc, hz⟩ hb
    exact ⟨hJ _ _ _ hj (hb.mono (by omega) (fun k hk hx => by omega)), cell_belX hc hb (by omega) (by omega), Nat.le_trans hz hb.1.size⟩
  case hIx =>
    rintro c s A B ⟨rfl, hj⟩ hb
    exact ⟨rfl, hJx _ _ _ hj (hb.mono (by omega) (fun k hk hx => by omega))⟩
  case h0 => exact ⟨hJ _ _ _ hj0 (BelX.of_below hBU), cy, hBU.size⟩
  case hround =>
    rintro l2 pre k W2 ⟨hj, hc, hz⟩ hlt hlen hsp
    gi_wp2
    refine ⟨Touch.refl _ _, fun W3 hb3 ht3 => ?_⟩
    have hj3 := hJ _ _ _ hj (BelX.of_below (hb3.mono (by omega)))
    have hc3 := cell_belB hc hb3 (by omega)
    have hz3 : W.heap.size ≤ W3.heap.size := Nat.le_trans hz ht3.size
    obtain ⟨fn, tmps, assign, body, hy, hR⟩ := hY pre k W3 hj3 hz3 hlen hsp
    dsimp only [epAt] at hy
    clear hY
    gi_wp2
    refine ⟨fun h => (by cases h), ?_⟩
    refine (round_any l2 (n - 1 - 1 - 1) hR).mono ?_
    rintro e W4 ⟨⟨rfl, hj4⟩ | ⟨rfl, hj4⟩, ht4⟩
    · have hc4 := cell_touch hc3 ht4 (by omega)
      gi_wp2
      exact ⟨ht4, hj4, hc4, Nat.le_trans hz3 ht4.size⟩
    · gi_wp2
      exact ⟨ht4, rfl, hj4⟩
  case hdone =>
    rintro D xs W' hD hS ⟨hj, _, hz⟩ hK
    go_wp2
    rw [Exit.noGoto_normal]
    refine ⟨by simp, .inl ⟨_, _, rfl, run_takeDeferred hK, ?_⟩⟩
    exact ⟨_, results_none rfl _ _ _, ⟨_, rfl⟩, .inl ⟨xs, hS, hJ _ _ _ hj (.of_below (below_put _ _ _ (by omega) (by omega)))⟩⟩
  case hstop =>
    rintro D c pre W' hD hSp ⟨rfl, hj⟩ hK
    have hDs : D < W'.heap.size := (Array.getElem?_eq_some_iff.1 hK).1
    refine wpIn_wide.2 ?_
    go_wp2
    rw [Exit.noGoto_normal]
    refine ⟨by simp, .inl ⟨_, _, rfl, run_takeDeferred hK, ?_⟩⟩
    exact ⟨_, results_none rfl _ _ _, ⟨_, rfl⟩, .inr ⟨pre, hSp, hJx _ _ _ hj (.of_below (below_put _ _ _ (by omega) (by omega)))⟩⟩
end Go.Proofs.YtigepikfbpodpaaDoor
