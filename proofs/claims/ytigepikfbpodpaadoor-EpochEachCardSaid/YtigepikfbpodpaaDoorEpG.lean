/- Walk of the statement EpochEach. -/
import Derived.Test.YtigepikfbpodpaaDoorEpD
import Derived.Test.YtigepikfbpodpaaDoorEpF
import Derived.Test.YtigepikfbpodpaaDoorEpR
namespace Go.Proofs.YtigepikfbpodpaaDoor
set_option linter.unusedVariables false
open Go Go.Proofs Go.RowKit

attribute [local go_sem] Oper.semAt_some

set_option maxRecDepth 100000 in
set_option maxHeartbeats 4000000 in
theorem each_small (x far many : Int) (w : World) (hE : Env w) (h0 : 0 ≤ x) (h1 : x < 18446744073709551616) (hf : far < -1 ∨ 300 < far) (hfm : -9223372036854775808 ≤ far ∧ far ≤ 9223372036854775807) :
    Calls Tryd.prog 7 #[.int .u64 x, .int .i64 far, .int .i64 many] w fun e w' => e = .returned (.bool true) ∧ Below w.heap.size w w' := by
  have hB : Below w.heap.size w (((w.alloc (.cells #[.int .u64 x] 23)).alloc (.cells #[.int .i64 many] 3)).alloc (.cells #[.bool false] 4)) := belA (belA (bel1 _) _) _
  have r0 := cell_three w (.cells #[.int .u64 x] 23) (.cells #[.int .i64 many] 3) #[.bool false] 4 0
  have rf : (((w.alloc (.cells #[.int .u64 x] 23)).alloc (.cells #[.int .i64 many] 3)).alloc (.cells #[.bool false] 4)).frozen? ⟨w.heap.size + 1 + 1, 0, none⟩ = false := by
    have := froz_two (w.alloc (.cells #[.int .u64 x] 23)) (.cells #[.int .i64 many] 3) #[.bool false] 4 0
    rwa [World.size_alloc] at this
  go_enter Tryd.func7, Tryd.ntmps7
  rcases hf with hf | hf
  all_goals (
    go_wp2_with (go_at_call 11; refine (works_any _ (hE.on hB)).mono ?_; rintro e w5 ⟨rfl, hb5⟩; have rf5 := froz_bel r0 rf hb5; have r5 := cell_bel r0 hb5; have hB5 := belT hB hb5)
    have c5 : (w5.setCell ⟨w.heap.size + 1 + 1, 0, none⟩ (.bool true)).cell? ⟨w.heap.size + 1 + 1, 0, none⟩ = some (.bool true) := World.cell?_setCell_same _ _ _ r5
    have hB6 := hB5.setCell (p := ⟨w.heap.size + 1 + 1, 0, none⟩) (by simp; omega) (.bool true)
    exact bodyPost_ret (v := .bool true) (by simp [results, Tryd.results7, go_sem, c5]) rfl ⟨rfl, hB6⟩)

theorem range_last (pre : List Nat) (k j : Nat) (h : pre ++ [k] = List.range j) : pre.length = k ∧ k + 1 = j := by
  have h1 : pre.length + 1 = j := by have := congrArg List.length h; simpa using this
  have h2 : (pre ++ [k])[pre.length]? = some k := by simp
  rw [h] at h2
  rw [List.getElem?_range (by omega)] at h2
  have := Option.some.inj h2
  omega
theorem froz_belX {n : Nat} {X : Nat → Prop} {A B : World} {b o : Nat} (h : A.frozen? ⟨b, o, none⟩ = false) (hb : BelX n X A B) (hn : b < n) (hx : ¬ X b) : B.frozen? ⟨b, o, none⟩ = false := by
  have e := hb.2 b hn hx
  simp only [World.frozen?] at h ⊢
  rw [e]
  exact h

set_option maxRecDepth 100000 in
set_option maxHeartbeats 4000000 in
theorem each_b (x far many : Int) (w : World) (hE : Env w) (h0 : 0 ≤ x) (h1 : x < 18446744073709551616) (hf : 0 ≤ far ∧ far ≤ 300) (hd : 1 ≤ x % 281474976710656 + far ∧ x % 281474976710656 + far ≤ 281474976710655) (hmm : -9223372036854775808 ≤ many ∧ many ≤ 9223372036854775807) :
    Calls Tryd.prog 7 #[.int .u64 x, .int .i64 far, .int .i64 many] w fun e w' => e = .returned (.bool true) ∧ Below w.heap.size w w' := by
  obtain ⟨K, hKf⟩ : ∃ K : Nat, (K : Int) = far + 1 := ⟨(far + 1).toNat, by omega⟩
  obtain ⟨d, hdd⟩ : ∃ d, d = x % 281474976710656 + far := ⟨_, rfl⟩
  have hK : (okB d (max 1 (x % 281474976710656)) 281474976710655 = true ∧ x % 281474976710656 + K = d + 1) ∨ (okB d (max 1 (x % 281474976710656)) 281474976710655 = false ∧ K = 0) := by
    refine Or.inl ⟨?_, by omega⟩
    simp [okB]
    omega
  have CE := Lib.hid fun w => Each_any x d w h0 h1 (by omega) (by omega)
  have hx0 := cell_al (cell_al (cell_al (cell_new w #[.int .u64 x] 23 0) (.cells #[.int .i64 many] 3)) (.cells #[.bool false] 4)) (.cells #[.int .i64 (far + 1)] 3)
  have hm0 := cell_al (cell_al (cell_two w (.cells #[.int .u64 x] 23) #[.int .i64 many] 3 0) (.cells #[.bool false] 4)) (.cells #[.int .i64 (far + 1)] 3)
  have hr0 := cell_al (cell_three w (.cells #[.int .u64 x] 23) (.cells #[.int .i64 many] 3) #[.bool false] 4 0) (.cells #[.int .i64 (far + 1)] 3)
  have hrf : ((((w.alloc (.cells #[.int .u64 x] 23)).alloc (.cells #[.int .i64 many] 3)).alloc (.cells #[.bool false] 4)).alloc (.cells #[.int .i64 (far + 1)] 3)).frozen? ⟨w.heap.size + 1 + 1, 0, none⟩ = false := by
    have := froz_two (w.alloc (.cells #[.int .u64 x] 23)) (.cells #[.int .i64 many] 3) #[.bool false] 4 0
    rw [World.size_alloc] at this
    exact froz_bel (cell_three w (.cells #[.int .u64 x] 23) (.cells #[.int .i64 many] 3) #[.bool false] 4 0) this (bel1 _)
  have hq0 : ((((w.alloc (.cells #[.int .u64 x] 23)).alloc (.cells #[.int .i64 many] 3)).alloc (.cells #[.bool false] 4)).alloc (.cells #[.int .i64 (far + 1)] 3)).cell? ⟨w.heap.size + 1 + 1 + 1, 0, none⟩ = some (.int .i64 (far + 1)) := by
    have := cell_three (w.alloc (.cells #[.int .u64 x] 23)) (.cells #[.int .i64 many] 3) (.cells #[.bool false] 4) #[.int .i64 (far + 1)] 3 0
    rwa [World.size_alloc] at this
  have hB : Below w.heap.size w ((((w.alloc (.cells #[.int .u64 x] 23)).alloc (.cells #[.int .i64 many] 3)).alloc (.cells #[.bool false] 4)).alloc (.cells #[.int .i64 (far + 1)] 3)) := belA (belA (belA (bel1 _) _) _) _
  refine (callsIn_wide (n := 20)).1 ?_
  refine callsIn_of_wp_marks Tryd.func7 rfl trivial ?_ rfl
  simp only [Tryd.ntmps7, List.size_toArray, List.length_cons, List.length_nil, Nat.reduceAdd, Nat.reduceSub, Array.replicate_succ, Array.replicate_zero, List.push_toArray, List.append_toArray, List.nil_append, List.cons_append]
  refine wpIn_wide.2 ?_
  have hx4 : x % 281474976710656 < 281474976710656 := by omega
  go_wp2_with (go_at_call 19; refine (rParts_any x _ h0 h1).mono ?_; rintro e wp ⟨rfl, hwp⟩; subst hwp)
  rw [show max 0 far = far by omega, ← hdd]
  refine (CE.out _).mono ?_
  rintro e w1 ⟨Bi, Be, Bd, rfl, hBi, hBe, hBd, ci, ce, cd, hb1⟩
  have hx0 := cell_bel hx0 hb1
  have hm0 := cell_bel hm0 hb1
  have hrf := froz_bel hr0 hrf hb1
  have hr0 := cell_bel hr0 hb1
  have hq0 := cell_bel hq0 hb1
  have hq0 : w1.cell? ⟨w.heap.size + 1 + 1 + 1, 0, none⟩ = some (.int .i64 (K : Int)) := by rw [hKf]; exact hq0
  have hB := belT hB hb1
  have hlq := lt_of_cell hq0
  have hli := lt_of_cell ci
  have hle := lt_of_cell ce
  have hld := lt_of_cell cd
  simp only [World.size_alloc] at hBi hBe hBd
  clear hb1 CE
  have hfn : ∀ (p q r : Addr) (w : World), (binOp .eql 44 (.func (.func 32) #[] #[.pointer (some p), .pointer (some q), .pointer (some r)]) .nilFunc).run Tryd.prog w = .ok (.bool false) w := fun _ _ _ _ => by kernel_rfl
  go_wp2
  refine wp_loop_rounds 3 ?_
  rw [rounds_succ]
  go_wp2
  have t0 := cell_al (cell_new w1 #[.int .i64 0] 3 0) (.cells #[.int .i64 0] 3)
  have n0 := cell_two w1 (.cells #[.int .i64 0] 3) #[.int .i64 0] 3 0
  have nf := froz_two w1 (.cells #[.int .i64 0] 3) #[.int .i64 0] 3 0
  have hbU : Below w1.heap.size w1 ((w1.alloc (.cells #[.int .i64 0] 3)).alloc (.cells #[.int .i64 0] 3)) := belA (bel1 _) _
  have hsU : ((w1.alloc (.cells #[.int .i64 0] 3)).alloc (.cells #[.int .i64 0] 3)).heap.size = w1.heap.size + 2 := by simp
  have hx0 := cell_bel hx0 hbU
  have hm0 := cell_bel hm0 hbU
  have hrf := froz_bel hr0 hrf hbU
  have hr0 := cell_bel hr0 hbU
  have hq0 := cell_bel hq0 hbU
  have ci := cell_bel ci hbU
  have ce := cell_bel ce hbU
  have cd := cell_bel cd hbU
  have hB := belT hB hbU
  clear hbU hfn
  generalize (w1.alloc (.cells #[.int .i64 0] 3)).alloc (.cells #[.int .i64 0] 3) = U at t0 n0 nf hsU hx0 hm0 hrf hr0 hq0 ci ce cd hB ⊢
  have HsU := Lib.hid hsU
  clear hsU
  refine (wpIn_wide (n := 20)).1 ?_
  refine wpIn_rangeT rfl (by have := HsU.out; omega) (gf := 32) (lb := #[.pointer (some ⟨Bi, 0, none⟩), .pointer (some ⟨Be, 0, none⟩), .pointer (some ⟨Bd, 0, none⟩)]) (by simp [go_sem]) trivial (enters_of Tryd.func32 (by kernel_rfl) rfl)
    (each_K (20 - 1) Bi Be Bd (by have := HsU.out; omega) x d K h0 h1 hK) (fun W' hb => ⟨cell_bel ci hb, cell_bel ce hb, cell_bel cd hb⟩) (fun _ => rfl)
    (fun k => k = w1.heap.size + 1) (fun k h => ⟨by have := HsU.out; omega, fun h' => by omega⟩) (fun k h => by have := HsU.out; omega) (fun k h => h.elim)
    (fun pre W' => BelX U.heap.size (fun k => k = w1.heap.size + 1) U W' ∧ W'.cell? ⟨w1.heap.size + 1, 0, none⟩ = some (.int .i64 (pre.length : Nat)) ∧ W'.frozen? ⟨w1.heap.size + 1, 0, none⟩ = false ∧ (pre ≠ [] → (pre.length : Int) < many))
    (fun c pre W' => c = .exit 2 ∧ BelX U.heap.size (fun k => k = w1.heap.size + 1) U W' ∧ W'.cell? ⟨w1.heap.size + 1, 0, none⟩ = some (.int .i64 (pre.length : Nat)) ∧ many ≤ pre.length ∧ (pre.length = 1 ∨ (pre.length : Int) - 1 < many)) ?hI ?hIx ?hs ?hround ?hdone ?hstop
  case hI =>
    rintro s A B ⟨ha, hn, hf, hl⟩ hb
    exact ⟨ha.trans (hb.mono (Nat.le_refl _) (fun _ _ h => h.elim)), cell_belX hn hb (by have := HsU.out; omega) (fun h => h), froz_belX hf hb (by have := HsU.out; omega) (fun h => h), hl⟩
  case hIx =>
    rintro c s A B ⟨rfl, ha, hn, hl⟩ hb
    exact ⟨rfl, ha.trans (hb.mono (Nat.le_refl _) (fun _ _ h => h.elim)), cell_belX hn hb (by have := HsU.out; omega) (fun h => h), hl⟩
  case hs => exact ⟨BelX.refl _ _ _, n0, nf, fun h => absurd rfl h⟩
  case hround =>
    rintro l2 pre k W2 ⟨hbx, hn, hnf, hlt⟩ hsz2 hlen ⟨j, hj1, hj2, hjr⟩
    obtain ⟨rfl, rfl⟩ := range_last pre k j hjr
    clear hjr
    gi_wp2
    refine ⟨Touch.refl _ _, fun W3 hb3 ht3 => ?_⟩
    have hbx3 : BelX U.heap.size (fun k => k = w1.heap.size + 1) U W3 := hbx.trans (BelX.of_below hb3)
    have n3 := cell_belB hn hb3 (by have := HsU.out; omega)
    have nf3 := froz_belB hnf hb3 (by have := HsU.out; omega)
    have x3 := cell_belX hx0 hbx3 (by have := HsU.out; omega) (by have := HsU.out; omega)
    have m3 := cell_belX hm0 hbx3 (by have := HsU.out; omega) (by have := HsU.out; omega)
    have q3 := cell_belX hq0 hbx3 (by have := HsU.out; omega) (by have := HsU.out; omega)
    have t3 := cell_belX t0 hbx3 (by have := HsU.out; omega) (by have := HsU.out; omega)
    have hxk : x + (pre.length : Int) < 18446744073709551616 := by rcases hK with ⟨_, hK⟩ | ⟨_, hK⟩ <;> omega
    have hk2 : ¬ (K : Int) ≤ pre.length := by omega
    have hset := hbx3.trans (BelX.setCell W3 ⟨w1.heap.size + 1, 0, none⟩ (.int .i64 ((pre.length : Int) + 1)) rfl)
    have hcs : (W3.setCell ⟨w1.heap.size + 1, 0, none⟩ (.int .i64 ((pre.length : Int) + 1))).cell? ⟨w1.heap.size + 1, 0, none⟩ = some (.int .i64 ((pre ++ [pre.length]).length : Nat)) := by
      rw [World.cell?_setCell_same _ _ _ n3, List.length_append]
      rfl
    have hts := (World.cell?_setCell_other W3 ⟨w1.heap.size + 1, 0, none⟩ ⟨w1.heap.size, 0, none⟩ (.int .i64 ((pre.length : Int) + 1)) (by simp)).trans t3
    have hms := (World.cell?_setCell_other W3 ⟨w1.heap.size + 1, 0, none⟩ ⟨w.heap.size + 1, 0, none⟩ (.int .i64 ((pre.length : Int) + 1)) (by first | (simp; done) | (simp; omega))).trans m3
    have hlp : ((pre ++ [pre.length]).length : Int) = pre.length + 1 := by simp
    have hlpre := Lib.hid hlp
    clear hlp
    by_cases hm : many ≤ (pre.length : Int) + 1
    · gi_wp2
      refine ⟨Touch.setCell _ _ _ rfl, rfl, hset, hcs, by rw [hlpre.out]; exact hm, ?_⟩
      by_cases hp : pre = []
      · left; simp [hp]
      · right; have := hlt hp; rw [hlpre.out]; omega
    · gi_wp2
      exact ⟨Touch.setCell _ _ _ rfl, hset, hcs, by rw [World.frozen?_setCell]; exact nf3, fun _ => by rw [hlpre.out]; omega⟩
  case hdone =>
    rintro D xs W' hD rfl ⟨hbx, hn, hnf, hlt⟩ hKD
    have hmk : min (K : Int) (max 1 many) = K := by
      by_cases hz : K = 0
      · subst hz; omega
      · have := hlt (by intro h; have := congrArg List.length h; simp at this; omega)
        simp at this
        omega
    rw [List.length_range] at hn
    clear hlt
    obtain ⟨j, hj⟩ : ∃ j, j = K := ⟨_, rfl⟩
    rw [← hj] at hn
    have hmn : min (K : Int) (max 1 many) = j := by rw [hj]; exact hmk
    clear hj hmk
    have hlD : D < W'.heap.size := (Array.getElem?_eq_some_iff.1 hKD).1
    have x5 := cell_belX hx0 hbx (by have := HsU.out; omega) (by omega)
    have m5 := cell_belX hm0 hbx (by have := HsU.out; omega) (by omega)
    have q5 := cell_belX hq0 hbx (by have := HsU.out; omega) (by omega)
    have r5 := cell_belX hr0 hbx (by have := HsU.out; omega) (by omega)
    have rf5 := froz_belX hrf hbx (by have := HsU.out; omega) (by omega)
    have t5 := cell_belX t0 hbx (by have := HsU.out; omega) (by omega)
    have ci5 := cell_belX ci hbx (by have := HsU.out; omega) (by omega)
    have ce5 := cell_belX ce hbx (by have := HsU.out; omega) (by omega)
    have cd5 := cell_belX cd hbx (by have := HsU.out; omega) (by omega)
    have hB5 : Below w.heap.size w W' := hB.trans ((hbx.mono (Y := fun _ => False) (by have := HsU.out; omega) (fun k hk hx => by omega)).below (fun _ _ h => h))
    go_wp2
    rw [rounds_succ]
    go_wp2
    have t6 := cell_al (cell_new W' #[.int .i64 1] 3 0) (.cells #[.int .i64 0] 3)
    have n6 := cell_two W' (.cells #[.int .i64 1] 3) #[.int .i64 0] 3 0
    have nf6 := froz_two W' (.cells #[.int .i64 1] 3) #[.int .i64 0] 3 0
    have hbU6 : Below W'.heap.size W' ((W'.alloc (.cells #[.int .i64 1] 3)).alloc (.cells #[.int .i64 0] 3)) := belA (bel1 _) _
    have HsU6 := Lib.hid (show ((W'.alloc (.cells #[.int .i64 1] 3)).alloc (.cells #[.int .i64 0] 3)).heap.size = W'.heap.size + 2 by simp)
    have x6 := cell_bel x5 hbU6
    have rf6 := froz_bel r5 rf5 hbU6
    have r6 := cell_bel r5 hbU6
    have q6 := cell_bel q5 hbU6
    have ci6 := cell_bel ci5 hbU6
    have ce6 := cell_bel ce5 hbU6
    have cd6 := cell_bel cd5 hbU6
    have hB6 := belT hB5 hbU6
    have hK6 := (hbU6.block D hlD).trans hKD
    have hlq6 := lt_of_cell q5
    have hlr6 := lt_of_cell r5
    have hlx6 := lt_of_cell x5
    have hli6 := lt_of_cell ci5
    have hle6 := lt_of_cell ce5
    have hld6 := lt_of_cell cd5
    clear hbU6 hbx hn hKD x5 rf5 r5 q5 ci5 ce5 cd5 t5 m5 t0 n0 nf hx0 hm0 hrf hr0 hq0 ci ce cd hB hmn
    generalize (W'.alloc (.cells #[.int .i64 1] 3)).alloc (.cells #[.int .i64 0] 3) = U6 at t6 n6 nf6 HsU6 x6 rf6 r6 q6 ci6 ce6 cd6 hB6 hK6 ⊢
    refine (wpIn_wide (n := 20)).1 ?_
    refine wpIn_rangeT rfl (by have := HsU6.out; omega) (gf := 32) (lb := #[.pointer (some ⟨Bi, 0, none⟩), .pointer (some ⟨Be, 0, none⟩), .pointer (some ⟨Bd, 0, none⟩)]) (by simp [go_sem]) trivial (enters_of Tryd.func32 (by kernel_rfl) rfl)
      (each_K (20 - 1) Bi Be Bd (by omega) x d K h0 h1 hK) (fun W' hb => ⟨cell_bel ci6 hb, cell_bel ce6 hb, cell_bel cd6 hb⟩) (fun _ => rfl)
      (fun k => k = W'.heap.size + 1) (fun k h => ⟨by have := HsU6.out; omega, fun h' => by have := HsU6.out; omega⟩) (fun k h => by have := HsU6.out; omega) (fun k h => h.elim)
      (fun pre Wr => BelX U6.heap.size (fun k => k = W'.heap.size + 1) U6 Wr ∧ Wr.cell? ⟨W'.heap.size + 1, 0, none⟩ = some (.int .i64 (pre.length : Nat)) ∧ Wr.frozen? ⟨W'.heap.size + 1, 0, none⟩ = false)
      (fun _ _ _ => False) ?hI2 ?hIx2 ?hs2 ?hround2 ?hdone2 ?hstop2
    case hI2 =>
      rintro s A B ⟨ha, hn, hf⟩ hb
      exact ⟨ha.trans (hb.mono (Nat.le_refl _) (fun _ _ h => h.elim)), cell_belX hn hb (by have := HsU6.out; omega) (fun h => h), froz_belX hf hb (by have := HsU6.out; omega) (fun h => h)⟩
    case hIx2 => exact fun _ _ _ _ h _ => h
    case hs2 => exact ⟨BelX.refl _ _ _, n6, nf6⟩
    case hround2 =>
      rintro l2 pre k W2 ⟨hbx, hn, hnf⟩ hsz2 hlen ⟨j, hj1, hj2, hjr⟩
      obtain ⟨rfl, rfl⟩ := range_last pre k j hjr
      clear hjr
      gi_wp2
      refine ⟨Touch.refl _ _, fun W3 hb3 ht3 => ?_⟩
      have hbx3 : BelX U6.heap.size (fun k => k = W'.heap.size + 1) U6 W3 := hbx.trans (BelX.of_below hb3)
      have n3 := cell_belB hn hb3 (by have := HsU6.out; omega)
      have nf3 := froz_belB hnf hb3 (by have := HsU6.out; omega)
      have x3 := cell_belX x6 hbx3 (by have := HsU6.out; omega) (by omega)
      have q3 := cell_belX q6 hbx3 (by have := HsU6.out; omega) (by omega)
      have t3 := cell_belX t6 hbx3 (by have := HsU6.out; omega) (by omega)
      have hxk : x + (pre.length : Int) < 18446744073709551616 := by rcases hK with ⟨_, hK⟩ | ⟨_, hK⟩ <;> omega
      have hk2 : ¬ (K : Int) ≤ pre.length := by omega
      have hset := hbx3.trans (BelX.setCell W3 ⟨W'.heap.size + 1, 0, none⟩ (.int .i64 ((pre.length : Int) + 1)) rfl)
      have hcs : (W3.setCell ⟨W'.heap.size + 1, 0, none⟩ (.int .i64 ((pre.length : Int) + 1))).cell? ⟨W'.heap.size + 1, 0, none⟩ = some (.int .i64 ((pre ++ [pre.length]).length : Nat)) := by
        rw [World.cell?_setCell_same _ _ _ n3, List.length_append]
        rfl
      have hts := (World.cell?_setCell_other W3 ⟨W'.heap.size + 1, 0, none⟩ ⟨W'.heap.size, 0, none⟩ (.int .i64 ((pre.length : Int) + 1)) (by simp)).trans t3
      gi_wp2
      exact ⟨Touch.setCell _ _ _ rfl, hset, hcs, by rw [World.frozen?_setCell]; exact nf3⟩
    case hstop2 => exact fun _ _ _ _ _ _ h _ => h.elim
    case hdone2 =>
      rintro D2 xs W7 hD2 rfl ⟨hbx, hn, hnf⟩ hKD2
      have hs7 := HsU6.out
      rw [List.length_range] at hn
      have r7 := cell_belX r6 hbx (by omega) (by omega)
      have rf7 := froz_belX rf6 hbx (by omega) (by omega)
      have q7 := cell_belX q6 hbx (by omega) (by omega)
      have t7 := cell_belX t6 hbx (by omega) (by omega)
      have hK7 := (hbx.2 D (by omega) (by omega)).trans hK6
      have hB7 : Below w.heap.size w W7 := hB6.trans ((hbx.mono (Y := fun _ => False) (by omega) (fun k hk hx => by omega)).below (fun _ _ h => h))
      have hD7 : D2 < W7.heap.size := (Array.getElem?_eq_some_iff.1 hKD2).1
      have hrD : w.heap.size + 1 + 1 < W'.heap.size := by omega
      have hDa : D < W7.heap.size := (Array.getElem?_eq_some_iff.1 hK7).1
      have hDD : D < D2 := by omega
      have hDr : w.heap.size + 1 + 1 < D := by have := HsU.out; omega
      clear hs7 hbx x6 rf6 r6 q6 ci6 ce6 cd6 hB6 hK6 t6 n6 nf6
      go_wp2
      rw [rounds_succ]
      go_wp2_with (go_at_call 11; refine (works_any _ (hE.on (belT hB7 (bel1 _)))).mono ?_; rintro e w8 ⟨rfl, hb8⟩; have r8 := cell_bel (cell_al r7 _) hb8; have rf8 := froz_bel (cell_al r7 _) (froz_bel r7 rf7 (bel1 _)) hb8; have hB8 := belT (belA hB7 _) hb8; have hKa := (hb8.block D (by simp; omega)).trans (((bel1 _).block D (by omega)).trans hK7); have hKb := (hb8.block D2 (by simp; omega)).trans (((bel1 _).block D2 (by omega)).trans hKD2))
      have hB9 := hB8.setCell (p := ⟨w.heap.size + 1 + 1, 0, none⟩) (by simp; omega) (.bool true)
      have hKc := (Below.heap_setCell w8 ⟨w.heap.size + 1 + 1, 0, none⟩ (.bool true) D (by simp; omega)).trans hKa
      have hKd := (Below.heap_setCell w8 ⟨w.heap.size + 1 + 1, 0, none⟩ (.bool true) D2 (by simp; omega)).trans hKb
      have c5 : (w8.setCell ⟨w.heap.size + 1 + 1, 0, none⟩ (.bool true)).cell? ⟨w.heap.size + 1 + 1, 0, none⟩ = some (.bool true) := World.cell?_setCell_same _ _ _ r8
      have hKe := (World.putObj_heap_other (o := .deferred none) (w := w8.setCell ⟨w.heap.size + 1 + 1, 0, none⟩ (.bool true)) (r := D2) (k := D) (by omega)).trans hKc
      have hc6 := cell_kept c5 (grownBy_putObj' _ D2 (.deferred none)) (fun r e => by cases e; exact ⟨_, hKd, rfl⟩)
      have hc7 := cell_kept hc6 (grownBy_putObj' _ D (.deferred none)) (fun r e => by cases e; exact ⟨_, hKe, rfl⟩)
      refine ⟨by simp, .inl ⟨_, _, rfl, run_takeDeferred hKd, ?_⟩⟩
      refine ⟨by simp, .inl ⟨_, _, rfl, run_takeDeferred hKe, ?_⟩⟩
      have hBa := hB9.trans (below_put _ D2 (.deferred none) (by omega) hB9.size)
      exact ⟨.bool true, by simp [results, Tryd.results7, go_sem, hc7], rfl, hBa.trans (below_put _ D (.deferred none) (by omega) hBa.size)⟩
  case hstop =>
    rintro D c pre W' hD ⟨j, hj1, hj2, rfl⟩ ⟨rfl, hbx, hn, hm1, hm2⟩ hKD
    rw [List.length_range] at hn hm1 hm2
    have hmn : min (K : Int) (max 1 many) = j := by omega
    clear hm1 hm2 hj1 hj2
    have hlD : D < W'.heap.size := (Array.getElem?_eq_some_iff.1 hKD).1
    have x5 := cell_belX hx0 hbx (by have := HsU.out; omega) (by omega)
    have m5 := cell_belX hm0 hbx (by have := HsU.out; omega) (by omega)
    have q5 := cell_belX hq0 hbx (by have := HsU.out; omega) (by omega)
    have r5 := cell_belX hr0 hbx (by have := HsU.out; omega) (by omega)
    have rf5 := froz_belX hrf hbx (by have := HsU.out; omega) (by omega)
    have t5 := cell_belX t0 hbx (by have := HsU.out; omega) (by omega)
    have ci5 := cell_belX ci hbx (by have := HsU.out; omega) (by omega)
    have ce5 := cell_belX ce hbx (by have := HsU.out; omega) (by omega)
    have cd5 := cell_belX cd hbx (by have := HsU.out; omega) (by omega)
    have hB5 : Below w.heap.size w W' := hB.trans ((hbx.mono (Y := fun _ => False) (by have := HsU.out; omega) (fun k hk hx => by omega)).below (fun _ _ h => h))
    refine wpIn_wide.2 ?_
    go_wp2
    rw [rounds_succ]
    go_wp2
    have t6 := cell_al (cell_new W' #[.int .i64 1] 3 0) (.cells #[.int .i64 0] 3)
    have n6 := cell_two W' (.cells #[.int .i64 1] 3) #[.int .i64 0] 3 0
    have nf6 := froz_two W' (.cells #[.int .i64 1] 3) #[.int .i64 0] 3 0
    have hbU6 : Below W'.heap.size W' ((W'.alloc (.cells #[.int .i64 1] 3)).alloc (.cells #[.int .i64 0] 3)) := belA (bel1 _) _
    have HsU6 := Lib.hid (show ((W'.alloc (.cells #[.int .i64 1] 3)).alloc (.cells #[.int .i64 0] 3)).heap.size = W'.heap.size + 2 by simp)
    have x6 := cell_bel x5 hbU6
    have rf6 := froz_bel r5 rf5 hbU6
    have r6 := cell_bel r5 hbU6
    have q6 := cell_bel q5 hbU6
    have ci6 := cell_bel ci5 hbU6
    have ce6 := cell_bel ce5 hbU6
    have cd6 := cell_bel cd5 hbU6
    have hB6 := belT hB5 hbU6
    have hK6 := (hbU6.block D hlD).trans hKD
    have hlq6 := lt_of_cell q5
    have hlr6 := lt_of_cell r5
    have hlx6 := lt_of_cell x5
    have hli6 := lt_of_cell ci5
    have hle6 := lt_of_cell ce5
    have hld6 := lt_of_cell cd5
    clear hbU6 hbx hn hKD x5 rf5 r5 q5 ci5 ce5 cd5 t5 m5 t0 n0 nf hx0 hm0 hrf hr0 hq0 ci ce cd hB hmn
    generalize (W'.alloc (.cells #[.int .i64 1] 3)).alloc (.cells #[.int .i64 0] 3) = U6 at t6 n6 nf6 HsU6 x6 rf6 r6 q6 ci6 ce6 cd6 hB6 hK6 ⊢
    refine (wpIn_wide (n := 20)).1 ?_
    refine wpIn_rangeT rfl (by have := HsU6.out; omega) (gf := 32) (lb := #[.pointer (some ⟨Bi, 0, none⟩), .pointer (some ⟨Be, 0, none⟩), .pointer (some ⟨Bd, 0, none⟩)]) (by simp [go_sem]) trivial (enters_of Tryd.func32 (by kernel_rfl) rfl)
      (each_K (20 - 1) Bi Be Bd (by omega) x d K h0 h1 hK) (fun W' hb => ⟨cell_bel ci6 hb, cell_bel ce6 hb, cell_bel cd6 hb⟩) (fun _ => rfl)
      (fun k => k = W'.heap.size + 1) (fun k h => ⟨by have := HsU6.out; omega, fun h' => by have := HsU6.out; omega⟩) (fun k h => by have := HsU6.out; omega) (fun k h => h.elim)
      (fun pre Wr => BelX U6.heap.size (fun k => k = W'.heap.size + 1) U6 Wr ∧ Wr.cell? ⟨W'.heap.size + 1, 0, none⟩ = some (.int .i64 (pre.length : Nat)) ∧ Wr.frozen? ⟨W'.heap.size + 1, 0, none⟩ = false)
      (fun _ _ _ => False) ?hI2 ?hIx2 ?hs2 ?hround2 ?hdone2 ?hstop2
    case hI2 =>
      rintro s A B ⟨ha, hn, hf⟩ hb
      exact ⟨ha.trans (hb.mono (Nat.le_refl _) (fun _ _ h => h.elim)), cell_belX hn hb (by have := HsU6.out; omega) (fun h => h), froz_belX hf hb (by have := HsU6.out; omega) (fun h => h)⟩
    case hIx2 => exact fun _ _ _ _ h _ => h
    case hs2 => exact ⟨BelX.refl _ _ _, n6, nf6⟩
    case hround2 =>
      rintro l2 pre k W2 ⟨hbx, hn, hnf⟩ hsz2 hlen ⟨j, hj1, hj2, hjr⟩
      obtain ⟨rfl, rfl⟩ := range_last pre k j hjr
      clear hjr
      gi_wp2
      refine ⟨Touch.refl _ _, fun W3 hb3 ht3 => ?_⟩
      have hbx3 : BelX U6.heap.size (fun k => k = W'.heap.size + 1) U6 W3 := hbx.trans (BelX.of_below hb3)
      have n3 := cell_belB hn hb3 (by have := HsU6.out; omega)
      have nf3 := froz_belB hnf hb3 (by have := HsU6.out; omega)
      have x3 := cell_belX x6 hbx3 (by have := HsU6.out; omega) (by omega)
      have q3 := cell_belX q6 hbx3 (by have := HsU6.out; omega) (by omega)
      have t3 := cell_belX t6 hbx3 (by have := HsU6.out; omega) (by omega)
      have hxk : x + (pre.length : Int) < 18446744073709551616 := by rcases hK with ⟨_, hK⟩ | ⟨_, hK⟩ <;> omega
      have hk2 : ¬ (K : Int) ≤ pre.length := by omega
      have hset := hbx3.trans (BelX.setCell W3 ⟨W'.heap.size + 1, 0, none⟩ (.int .i64 ((pre.length : Int) + 1)) rfl)
      have hcs : (W3.setCell ⟨W'.heap.size + 1, 0, none⟩ (.int .i64 ((pre.length : Int) + 1))).cell? ⟨W'.heap.size + 1, 0, none⟩ = some (.int .i64 ((pre ++ [pre.length]).length : Nat)) := by
        rw [World.cell?_setCell_same _ _ _ n3, List.length_append]
        rfl
      have hts := (World.cell?_setCell_other W3 ⟨W'.heap.size + 1, 0, none⟩ ⟨W'.heap.size, 0, none⟩ (.int .i64 ((pre.length : Int) + 1)) (by simp)).trans t3
      gi_wp2
      exact ⟨Touch.setCell _ _ _ rfl, hset, hcs, by rw [World.frozen?_setCell]; exact nf3⟩
    case hstop2 => exact fun _ _ _ _ _ _ h _ => h.elim
    case hdone2 =>
      rintro D2 xs W7 hD2 rfl ⟨hbx, hn, hnf⟩ hKD2
      have hs7 := HsU6.out
      rw [List.length_range] at hn
      have r7 := cell_belX r6 hbx (by omega) (by omega)
      have rf7 := froz_belX rf6 hbx (by omega) (by omega)
      have q7 := cell_belX q6 hbx (by omega) (by omega)
      have t7 := cell_belX t6 hbx (by omega) (by omega)
      have hK7 := (hbx.2 D (by omega) (by omega)).trans hK6
      have hB7 : Below w.heap.size w W7 := hB6.trans ((hbx.mono (Y := fun _ => False) (by omega) (fun k hk hx => by omega)).below (fun _ _ h => h))
      have hD7 : D2 < W7.heap.size := (Array.getElem?_eq_some_iff.1 hKD2).1
      have hrD : w.heap.size + 1 + 1 < W'.heap.size := by omega
      have hDa : D < W7.heap.size := (Array.getElem?_eq_some_iff.1 hK7).1
      have hDD : D < D2 := by omega
      have hDr : w.heap.size + 1 + 1 < D := by have := HsU.out; omega
      clear hs7 hbx x6 rf6 r6 q6 ci6 ce6 cd6 hB6 hK6 t6 n6 nf6
      go_wp2
      rw [rounds_succ]
      go_wp2_with (go_at_call 11; refine (works_any _ (hE.on (belT hB7 (bel1 _)))).mono ?_; rintro e w8 ⟨rfl, hb8⟩; have r8 := cell_bel (cell_al r7 _) hb8; have rf8 := froz_bel (cell_al r7 _) (froz_bel r7 rf7 (bel1 _)) hb8; have hB8 := belT (belA hB7 _) hb8; have hKa := (hb8.block D (by simp; omega)).trans (((bel1 _).block D (by omega)).trans hK7); have hKb := (hb8.block D2 (by simp; omega)).trans (((bel1 _).block D2 (by omega)).trans hKD2))
      have hB9 := hB8.setCell (p := ⟨w.heap.size + 1 + 1, 0, none⟩) (by simp; omega) (.bool true)
      have hKc := (Below.heap_setCell w8 ⟨w.heap.size + 1 + 1, 0, none⟩ (.bool true) D (by simp; omega)).trans hKa
      have hKd := (Below.heap_setCell w8 ⟨w.heap.size + 1 + 1, 0, none⟩ (.bool true) D2 (by simp; omega)).trans hKb
      have c5 : (w8.setCell ⟨w.heap.size + 1 + 1, 0, none⟩ (.bool true)).cell? ⟨w.heap.size + 1 + 1, 0, none⟩ = some (.bool true) := World.cell?_setCell_same _ _ _ r8
      have hKe := (World.putObj_heap_other (o := .deferred none) (w := w8.setCell ⟨w.heap.size + 1 + 1, 0, none⟩ (.bool true)) (r := D2) (k := D) (by omega)).trans hKc
      have hc6 := cell_kept c5 (grownBy_putObj' _ D2 (.deferred none)) (fun r e => by cases e; exact ⟨_, hKd, rfl⟩)
      have hc7 := cell_kept hc6 (grownBy_putObj' _ D (.deferred none)) (fun r e => by cases e; exact ⟨_, hKe, rfl⟩)
      refine ⟨by simp, .inl ⟨_, _, rfl, run_takeDeferred hKd, ?_⟩⟩
      refine ⟨by simp, .inl ⟨_, _, rfl, run_takeDeferred hKe, ?_⟩⟩
      have hBa := hB9.trans (below_put _ D2 (.deferred none) (by omega) hB9.size)
      exact ⟨.bool true, by simp [results, Tryd.results7, go_sem, hc7], rfl, hBa.trans (below_put _ D (.deferred none) (by omega) hBa.size)⟩
set_option maxRecDepth 100000 in
set_option maxHeartbeats 4000000 in
theorem each_c1 (x far many : Int) (w : World) (hE : Env w) (h0 : 0 ≤ x) (h1 : x < 18446744073709551616) (hf : 0 ≤ far ∧ far ≤ 300) (hd : x % 281474976710656 + far < 1) (hmm : -9223372036854775808 ≤ many ∧ many ≤ 9223372036854775807) :
    Calls Tryd.prog 7 #[.int .u64 x, .int .i64 far, .int .i64 many] w fun e w' => e = .returned (.bool true) ∧ Below w.heap.size w w' := by
  obtain ⟨K, hKf⟩ : ∃ K : Nat, (K : Int) = 0 := ⟨0, rfl⟩
  obtain ⟨d, hdd⟩ : ∃ d, d = x % 281474976710656 + far := ⟨_, rfl⟩
  have hK : (okB d (max 1 (x % 281474976710656)) 281474976710655 = true ∧ x % 281474976710656 + K = d + 1) ∨ (okB d (max 1 (x % 281474976710656)) 281474976710655 = false ∧ K = 0) := by
    refine Or.inr ⟨?_, by omega⟩
    simp [okB]
    omega
  have CE := Lib.hid fun w => Each_any x d w h0 h1 (by omega) (by omega)
  have hx0 := cell_al (cell_al (cell_al (cell_new w #[.int .u64 x] 23 0) (.cells #[.int .i64 many] 3)) (.cells #[.bool false] 4)) (.cells #[.int .i64 0] 3)
  have hm0 := cell_al (cell_al (cell_two w (.cells #[.int .u64 x] 23) #[.int .i64 many] 3 0) (.cells #[.bool false] 4)) (.cells #[.int .i64 0] 3)
  have hr0 := cell_al (cell_three w (.cells #[.int .u64 x] 23) (.cells #[.int .i64 many] 3) #[.bool false] 4 0) (.cells #[.int .i64 0] 3)
  have hrf : ((((w.alloc (.cells #[.int .u64 x] 23)).alloc (.cells #[.int .i64 many] 3)).alloc (.cells #[.bool false] 4)).alloc (.cells #[.int .i64 0] 3)).frozen? ⟨w.heap.size + 1 + 1, 0, none⟩ = false := by
    have := froz_two (w.alloc (.cells #[.int .u64 x] 23)) (.cells #[.int .i64 many] 3) #[.bool false] 4 0
    rw [World.size_alloc] at this
    exact froz_bel (cell_three w (.cells #[.int .u64 x] 23) (.cells #[.int .i64 many] 3) #[.bool false] 4 0) this (bel1 _)
  have hq0 : ((((w.alloc (.cells #[.int .u64 x] 23)).alloc (.cells #[.int .i64 many] 3)).alloc (.cells #[.bool false] 4)).alloc (.cells #[.int .i64 0] 3)).cell? ⟨w.heap.size + 1 + 1 + 1, 0, none⟩ = some (.int .i64 0) := by
    have := cell_three (w.alloc (.cells #[.int .u64 x] 23)) (.cells #[.int .i64 many] 3) (.cells #[.bool false] 4) #[.int .i64 0] 3 0
    rwa [World.size_alloc] at this
  have hB : Below w.heap.size w ((((w.alloc (.cells #[.int .u64 x] 23)).alloc (.cells #[.int .i64 many] 3)).alloc (.cells #[.bool false] 4)).alloc (.cells #[.int .i64 0] 3)) := belA (belA (belA (bel1 _) _) _) _
  refine (callsIn_wide (n := 20)).1 ?_
  refine callsIn_of_wp_marks Tryd.func7 rfl trivial ?_ rfl
  simp only [Tryd.ntmps7, List.size_toArray, List.length_cons, List.length_nil, Nat.reduceAdd, Nat.reduceSub, Array.replicate_succ, Array.replicate_zero, List.push_toArray, List.append_toArray, List.nil_append, List.cons_append]
  refine wpIn_wide.2 ?_
  have hx4 : x % 281474976710656 < 281474976710656 := by omega
  go_wp2_with (go_at_call 19; refine (rParts_any x _ h0 h1).mono ?_; rintro e wp ⟨rfl, hwp⟩; subst hwp)
  rw [show max 0 far = far by omega, ← hdd]
  refine (CE.out _).mono ?_
  rintro e w1 ⟨Bi, Be, Bd, rfl, hBi, hBe, hBd, ci, ce, cd, hb1⟩
  have hx0 := cell_bel hx0 hb1
  have hm0 := cell_bel hm0 hb1
  have hrf := froz_bel hr0 hrf hb1
  have hr0 := cell_bel hr0 hb1
  have hq0 := cell_bel hq0 hb1
  have hq0 : w1.cell? ⟨w.heap.size + 1 + 1 + 1, 0, none⟩ = some (.int .i64 (K : Int)) := by rw [hKf]; exact hq0
  have hB := belT hB hb1
  have hlq := lt_of_cell hq0
  have hli := lt_of_cell ci
  have hle := lt_of_cell ce
  have hld := lt_of_cell cd
  simp only [World.size_alloc] at hBi hBe hBd
  clear hb1 CE
  have hfn : ∀ (p q r : Addr) (w : World), (binOp .eql 44 (.func (.func 32) #[] #[.pointer (some p), .pointer (some q), .pointer (some r)]) .nilFunc).run Tryd.prog w = .ok (.bool false) w := fun _ _ _ _ => by kernel_rfl
  go_wp2
  refine wp_loop_rounds 3 ?_
  rw [rounds_succ]
  go_wp2
  have t0 := cell_al (cell_new w1 #[.int .i64 0] 3 0) (.cells #[.int .i64 0] 3)
  have n0 := cell_two w1 (.cells #[.int .i64 0] 3) #[.int .i64 0] 3 0
  have nf := froz_two w1 (.cells #[.int .i64 0] 3) #[.int .i64 0] 3 0
  have hbU : Below w1.heap.size w1 ((w1.alloc (.cells #[.int .i64 0] 3)).alloc (.cells #[.int .i64 0] 3)) := belA (bel1 _) _
  have hsU : ((w1.alloc (.cells #[.int .i64 0] 3)).alloc (.cells #[.int .i64 0] 3)).heap.size = w1.heap.size + 2 := by simp
  have hx0 := cell_bel hx0 hbU
  have hm0 := cell_bel hm0 hbU
  have hrf := froz_bel hr0 hrf hbU
  have hr0 := cell_bel hr0 hbU
  have hq0 := cell_bel hq0 hbU
  have ci := cell_bel ci hbU
  have ce := cell_bel ce hbU
  have cd := cell_bel cd hbU
  have hB := belT hB hbU
  clear hbU hfn
  generalize (w1.alloc (.cells #[.int .i64 0] 3)).alloc (.cells #[.int .i64 0] 3) = U at t0 n0 nf hsU hx0 hm0 hrf hr0 hq0 ci ce cd hB ⊢
  have HsU := Lib.hid hsU
  clear hsU
  refine (wpIn_wide (n := 20)).1 ?_
  refine wpIn_rangeT rfl (by have := HsU.out; omega) (gf := 32) (lb := #[.pointer (some ⟨Bi, 0, none⟩), .pointer (some ⟨Be, 0, none⟩), .pointer (some ⟨Bd, 0, none⟩)]) (by simp [go_sem]) trivial (enters_of Tryd.func32 (by kernel_rfl) rfl)
    (each_K (20 - 1) Bi Be Bd (by have := HsU.out; omega) x d K h0 h1 hK) (fun W' hb => ⟨cell_bel ci hb, cell_bel ce hb, cell_bel cd hb⟩) (fun _ => rfl)
    (fun k => k = w1.heap.size + 1) (fun k h => ⟨by have := HsU.out; omega, fun h' => by omega⟩) (fun k h => by have := HsU.out; omega) (fun k h => h.elim)
    (fun pre W' => BelX U.heap.size (fun k => k = w1.heap.size + 1) U W' ∧ W'.cell? ⟨w1.heap.size + 1, 0, none⟩ = some (.int .i64 (pre.length : Nat)) ∧ W'.frozen? ⟨w1.heap.size + 1, 0, none⟩ = false ∧ (pre ≠ [] → (pre.length : Int) < many))
    (fun c pre W' => c = .exit 2 ∧ BelX U.heap.size (fun k => k = w1.heap.size + 1) U W' ∧ W'.cell? ⟨w1.heap.size + 1, 0, none⟩ = some (.int .i64 (pre.length : Nat)) ∧ many ≤ pre.length ∧ (pre.length = 1 ∨ (pre.length : Int) - 1 < many)) ?hI ?hIx ?hs ?hround ?hdone ?hstop
  case hI =>
    rintro s A B ⟨ha, hn, hf, hl⟩ hb
    exact ⟨ha.trans (hb.mono (Nat.le_refl _) (fun _ _ h => h.elim)), cell_belX hn hb (by have := HsU.out; omega) (fun h => h), froz_belX hf hb (by have := HsU.out; omega) (fun h => h), hl⟩
  case hIx =>
    rintro c s A B ⟨rfl, ha, hn, hl⟩ hb
    exact ⟨rfl, ha.trans (hb.mono (Nat.le_refl _) (fun _ _ h => h.elim)), cell_belX hn hb (by have := HsU.out; omega) (fun h => h), hl⟩
  case hs => exact ⟨BelX.refl _ _ _, n0, nf, fun h => absurd rfl h⟩
  case hround =>
    rintro l2 pre k W2 _ _ _ ⟨j, hj1, hj2, _⟩
    exfalso
    omega
  case hdone =>
    rintro D xs W' hD rfl ⟨hbx, hn, hnf, hlt⟩ hKD
    have hmk : min (K : Int) (max 1 many) = K := by
      by_cases hz : K = 0
      · subst hz; omega
      · have := hlt (by intro h; have := congrArg List.length h; simp at this; omega)
        simp at this
        omega
    rw [List.length_range] at hn
    clear hlt
    obtain ⟨j, hj⟩ : ∃ j, j = K := ⟨_, rfl⟩
    rw [← hj] at hn
    have hmn : min (K : Int) (max 1 many) = j := by rw [hj]; exact hmk
    clear hj hmk
    have hlD : D < W'.heap.size := (Array.getElem?_eq_some_iff.1 hKD).1
    have x5 := cell_belX hx0 hbx (by have := HsU.out; omega) (by omega)
    have m5 := cell_belX hm0 hbx (by have := HsU.out; omega) (by omega)
    have q5 := cell_belX hq0 hbx (by have := HsU.out; omega) (by omega)
    have r5 := cell_belX hr0 hbx (by have := HsU.out; omega) (by omega)
    have rf5 := froz_belX hrf hbx (by have := HsU.out; omega) (by omega)
    have t5 := cell_belX t0 hbx (by have := HsU.out; omega) (by omega)
    have ci5 := cell_belX ci hbx (by have := HsU.out; omega) (by omega)
    have ce5 := cell_belX ce hbx (by have := HsU.out; omega) (by omega)
    have cd5 := cell_belX cd hbx (by have := HsU.out; omega) (by omega)
    have hB5 : Below w.heap.size w W' := hB.trans ((hbx.mono (Y := fun _ => False) (by have := HsU.out; omega) (fun k hk hx => by omega)).below (fun _ _ h => h))
    go_wp2
    rw [rounds_succ]
    go_wp2
    have t6 := cell_al (cell_new W' #[.int .i64 1] 3 0) (.cells #[.int .i64 0] 3)
    have n6 := cell_two W' (.cells #[.int .i64 1] 3) #[.int .i64 0] 3 0
    have nf6 := froz_two W' (.cells #[.int .i64 1] 3) #[.int .i64 0] 3 0
    have hbU6 : Below W'.heap.size W' ((W'.alloc (.cells #[.int .i64 1] 3)).alloc (.cells #[.int .i64 0] 3)) := belA (bel1 _) _
    have HsU6 := Lib.hid (show ((W'.alloc (.cells #[.int .i64 1] 3)).alloc (.cells #[.int .i64 0] 3)).heap.size = W'.heap.size + 2 by simp)
    have x6 := cell_bel x5 hbU6
    have rf6 := froz_bel r5 rf5 hbU6
    have r6 := cell_bel r5 hbU6
    have q6 := cell_bel q5 hbU6
    have ci6 := cell_bel ci5 hbU6
    have ce6 := cell_bel ce5 hbU6
    have cd6 := cell_bel cd5 hbU6
    have hB6 := belT hB5 hbU6
    have hK6 := (hbU6.block D hlD).trans hKD
    have hlq6 := lt_of_cell q5
    have hlr6 := lt_of_cell r5
    have hlx6 := lt_of_cell x5
    have hli6 := lt_of_cell ci5
    have hle6 := lt_of_cell ce5
    have hld6 := lt_of_cell cd5
    clear hbU6 hbx hn hKD x5 rf5 r5 q5 ci5 ce5 cd5 t5 m5 t0 n0 nf hx0 hm0 hrf hr0 hq0 ci ce cd hB hmn
    generalize (W'.alloc (.cells #[.int .i64 1] 3)).alloc (.cells #[.int .i64 0] 3) = U6 at t6 n6 nf6 HsU6 x6 rf6 r6 q6 ci6 ce6 cd6 hB6 hK6 ⊢
    refine (wpIn_wide (n := 20)).1 ?_
    refine wpIn_rangeT rfl (by have := HsU6.out; omega) (gf := 32) (lb := #[.pointer (some ⟨Bi, 0, none⟩), .pointer (some ⟨Be, 0, none⟩), .pointer (some ⟨Bd, 0, none⟩)]) (by simp [go_sem]) trivial (enters_of Tryd.func32 (by kernel_rfl) rfl)
      (each_K (20 - 1) Bi Be Bd (by omega) x d K h0 h1 hK) (fun W' hb => ⟨cell_bel ci6 hb, cell_bel ce6 hb, cell_bel cd6 hb⟩) (fun _ => rfl)
      (fun k => k = W'.heap.size + 1) (fun k h => ⟨by have := HsU6.out; omega, fun h' => by have := HsU6.out; omega⟩) (fun k h => by have := HsU6.out; omega) (fun k h => h.elim)
      (fun pre Wr => BelX U6.heap.size (fun k => k = W'.heap.size + 1) U6 Wr ∧ Wr.cell? ⟨W'.heap.size + 1, 0, none⟩ = some (.int .i64 (pre.length : Nat)) ∧ Wr.frozen? ⟨W'.heap.size + 1, 0, none⟩ = false)
      (fun _ _ _ => False) ?hI2 ?hIx2 ?hs2 ?hround2 ?hdone2 ?hstop2
    case hI2 =>
      rintro s A B ⟨ha, hn, hf⟩ hb
      exact ⟨ha.trans (hb.mono (Nat.le_refl _) (fun _ _ h => h.elim)), cell_belX hn hb (by have := HsU6.out; omega) (fun h => h), froz_belX hf hb (by have := HsU6.out; omega) (fun h => h)⟩
    case hIx2 => exact fun _ _ _ _ h _ => h
    case hs2 => exact ⟨BelX.refl _ _ _, n6, nf6⟩
    case hround2 =>
      rintro l2 pre k W2 _ _ _ ⟨j, hj1, hj2, _⟩
      exfalso
      omega
    case hstop2 => exact fun _ _ _ _ _ _ h _ => h.elim
    case hdone2 =>
      rintro D2 xs W7 hD2 rfl ⟨hbx, hn, hnf⟩ hKD2
      have hs7 := HsU6.out
      rw [List.length_range] at hn
      have r7 := cell_belX r6 hbx (by omega) (by omega)
      have rf7 := froz_belX rf6 hbx (by omega) (by omega)
      have q7 := cell_belX q6 hbx (by omega) (by omega)
      have t7 := cell_belX t6 hbx (by omega) (by omega)
      have hK7 := (hbx.2 D (by omega) (by omega)).trans hK6
      have hB7 : Below w.heap.size w W7 := hB6.trans ((hbx.mono (Y := fun _ => False) (by omega) (fun k hk hx => by omega)).below (fun _ _ h => h))
      have hD7 : D2 < W7.heap.size := (Array.getElem?_eq_some_iff.1 hKD2).1
      have hrD : w.heap.size + 1 + 1 < W'.heap.size := by omega
      have hDa : D < W7.heap.size := (Array.getElem?_eq_some_iff.1 hK7).1
      have hDD : D < D2 := by omega
      have hDr : w.heap.size + 1 + 1 < D := by have := HsU.out; omega
      clear hs7 hbx x6 rf6 r6 q6 ci6 ce6 cd6 hB6 hK6 t6 n6 nf6
      go_wp2
      rw [rounds_succ]
      go_wp2_with (go_at_call 11; refine (works_any _ (hE.on (belT hB7 (bel1 _)))).mono ?_; rintro e w8 ⟨rfl, hb8⟩; have r8 := cell_bel (cell_al r7 _) hb8; have rf8 := froz_bel (cell_al r7 _) (froz_bel r7 rf7 (bel1 _)) hb8; have hB8 := belT (belA hB7 _) hb8; have hKa := (hb8.block D (by simp; omega)).trans (((bel1 _).block D (by omega)).trans hK7); have hKb := (hb8.block D2 (by simp; omega)).trans (((bel1 _).block D2 (by omega)).trans hKD2))
      have hB9 := hB8.setCell (p := ⟨w.heap.size + 1 + 1, 0, none⟩) (by simp; omega) (.bool true)
      have hKc := (Below.heap_setCell w8 ⟨w.heap.size + 1 + 1, 0, none⟩ (.bool true) D (by simp; omega)).trans hKa
      have hKd := (Below.heap_setCell w8 ⟨w.heap.size + 1 + 1, 0, none⟩ (.bool true) D2 (by simp; omega)).trans hKb
      have c5 : (w8.setCell ⟨w.heap.size + 1 + 1, 0, none⟩ (.bool true)).cell? ⟨w.heap.size + 1 + 1, 0, none⟩ = some (.bool true) := World.cell?_setCell_same _ _ _ r8
      have hKe := (World.putObj_heap_other (o := .deferred none) (w := w8.setCell ⟨w.heap.size + 1 + 1, 0, none⟩ (.bool true)) (r := D2) (k := D) (by omega)).trans hKc
      have hc6 := cell_kept c5 (grownBy_putObj' _ D2 (.deferred none)) (fun r e => by cases e; exact ⟨_, hKd, rfl⟩)
      have hc7 := cell_kept hc6 (grownBy_putObj' _ D (.deferred none)) (fun r e => by cases e; exact ⟨_, hKe, rfl⟩)
      refine ⟨by simp, .inl ⟨_, _, rfl, run_takeDeferred hKd, ?_⟩⟩
      refine ⟨by simp, .inl ⟨_, _, rfl, run_takeDeferred hKe, ?_⟩⟩
      have hBa := hB9.trans (below_put _ D2 (.deferred none) (by omega) hB9.size)
      exact ⟨.bool true, by simp [results, Tryd.results7, go_sem, hc7], rfl, hBa.trans (below_put _ D (.deferred none) (by omega) hBa.size)⟩
  case hstop =>
    rintro D c pre W' hD ⟨j, hj1, hj2, _⟩ _ hKD
    exfalso
    omega
set_option maxRecDepth 100000 in
set_option maxHeartbeats 4000000 in
theorem each_c2 (x far many : Int) (w : World) (hE : Env w) (h0 : 0 ≤ x) (h1 : x < 18446744073709551616) (hf : 0 ≤ far ∧ far ≤ 300) (hd : 281474976710655 < x % 281474976710656 + far) (hmm : -9223372036854775808 ≤ many ∧ many ≤ 9223372036854775807) :
    Calls Tryd.prog 7 #[.int .u64 x, .int .i64 far, .int .i64 many] w fun e w' => e = .returned (.bool true) ∧ Below w.heap.size w w' := by
  obtain ⟨K, hKf⟩ : ∃ K : Nat, (K : Int) = 0 := ⟨0, rfl⟩
  obtain ⟨d, hdd⟩ : ∃ d, d = x % 281474976710656 + far := ⟨_, rfl⟩
  have hK : (okB d (max 1 (x % 281474976710656)) 281474976710655 = true ∧ x % 281474976710656 + K = d + 1) ∨ (okB d (max 1 (x % 281474976710656)) 281474976710655 = false ∧ K = 0) := by
    refine Or.inr ⟨?_, by omega⟩
    simp [okB]
    omega
  have CE := Lib.hid fun w => Each_any x d w h0 h1 (by omega) (by omega)
  have hx0 := cell_al (cell_al (cell_al (cell_new w #[.int .u64 x] 23 0) (.cells #[.int .i64 many] 3)) (.cells #[.bool false] 4)) (.cells #[.int .i64 0] 3)
  have hm0 := cell_al (cell_al (cell_two w (.cells #[.int .u64 x] 23) #[.int .i64 many] 3 0) (.cells #[.bool false] 4)) (.cells #[.int .i64 0] 3)
  have hr0 := cell_al (cell_three w (.cells #[.int .u64 x] 23) (.cells #[.int .i64 many] 3) #[.bool false] 4 0) (.cells #[.int .i64 0] 3)
  have hrf : ((((w.alloc (.cells #[.int .u64 x] 23)).alloc (.cells #[.int .i64 many] 3)).alloc (.cells #[.bool false] 4)).alloc (.cells #[.int .i64 0] 3)).frozen? ⟨w.heap.size + 1 + 1, 0, none⟩ = false := by
    have := froz_two (w.alloc (.cells #[.int .u64 x] 23)) (.cells #[.int .i64 many] 3) #[.bool false] 4 0
    rw [World.size_alloc] at this
    exact froz_bel (cell_three w (.cells #[.int .u64 x] 23) (.cells #[.int .i64 many] 3) #[.bool false] 4 0) this (bel1 _)
  have hq0 : ((((w.alloc (.cells #[.int .u64 x] 23)).alloc (.cells #[.int .i64 many] 3)).alloc (.cells #[.bool false] 4)).alloc (.cells #[.int .i64 0] 3)).cell? ⟨w.heap.size + 1 + 1 + 1, 0, none⟩ = some (.int .i64 0) := by
    have := cell_three (w.alloc (.cells #[.int .u64 x] 23)) (.cells #[.int .i64 many] 3) (.cells #[.bool false] 4) #[.int .i64 0] 3 0
    rwa [World.size_alloc] at this
  have hB : Below w.heap.size w ((((w.alloc (.cells #[.int .u64 x] 23)).alloc (.cells #[.int .i64 many] 3)).alloc (.cells #[.bool false] 4)).alloc (.cells #[.int .i64 0] 3)) := belA (belA (belA (bel1 _) _) _) _
  refine (callsIn_wide (n := 20)).1 ?_
  refine callsIn_of_wp_marks Tryd.func7 rfl trivial ?_ rfl
  simp only [Tryd.ntmps7, List.size_toArray, List.length_cons, List.length_nil, Nat.reduceAdd, Nat.reduceSub, Array.replicate_succ, Array.replicate_zero, List.push_toArray, List.append_toArray, List.nil_append, List.cons_append]
  refine wpIn_wide.2 ?_
  have hx4 : x % 281474976710656 < 281474976710656 := by omega
  go_wp2_with (go_at_call 19; refine (rParts_any x _ h0 h1).mono ?_; rintro e wp ⟨rfl, hwp⟩; subst hwp)
  rw [show max 0 far = far by omega, ← hdd]
  refine (CE.out _).mono ?_
  rintro e w1 ⟨Bi, Be, Bd, rfl, hBi, hBe, hBd, ci, ce, cd, hb1⟩
  have hx0 := cell_bel hx0 hb1
  have hm0 := cell_bel hm0 hb1
  have hrf := froz_bel hr0 hrf hb1
  have hr0 := cell_bel hr0 hb1
  have hq0 := cell_bel hq0 hb1
  have hq0 : w1.cell? ⟨w.heap.size + 1 + 1 + 1, 0, none⟩ = some (.int .i64 (K : Int)) := by rw [hKf]; exact hq0
  have hB := belT hB hb1
  have hlq := lt_of_cell hq0
  have hli := lt_of_cell ci
  have hle := lt_of_cell ce
  have hld := lt_of_cell cd
  simp only [World.size_alloc] at hBi hBe hBd
  clear hb1 CE
  have hfn : ∀ (p q r : Addr) (w : World), (binOp .eql 44 (.func (.func 32) #[] #[.pointer (some p), .pointer (some q), .pointer (some r)]) .nilFunc).run Tryd.prog w = .ok (.bool false) w := fun _ _ _ _ => by kernel_rfl
  go_wp2
  refine wp_loop_rounds 3 ?_
  rw [rounds_succ]
  go_wp2
  have t0 := cell_al (cell_new w1 #[.int .i64 0] 3 0) (.cells #[.int .i64 0] 3)
  have n0 := cell_two w1 (.cells #[.int .i64 0] 3) #[.int .i64 0] 3 0
  have nf := froz_two w1 (.cells #[.int .i64 0] 3) #[.int .i64 0] 3 0
  have hbU : Below w1.heap.size w1 ((w1.alloc (.cells #[.int .i64 0] 3)).alloc (.cells #[.int .i64 0] 3)) := belA (bel1 _) _
  have hsU : ((w1.alloc (.cells #[.int .i64 0] 3)).alloc (.cells #[.int .i64 0] 3)).heap.size = w1.heap.size + 2 := by simp
  have hx0 := cell_bel hx0 hbU
  have hm0 := cell_bel hm0 hbU
  have hrf := froz_bel hr0 hrf hbU
  have hr0 := cell_bel hr0 hbU
  have hq0 := cell_bel hq0 hbU
  have ci := cell_bel ci hbU
  have ce := cell_bel ce hbU
  have cd := cell_bel cd hbU
  have hB := belT hB hbU
  clear hbU hfn
  generalize (w1.alloc (.cells #[.int .i64 0] 3)).alloc (.cells #[.int .i64 0] 3) = U at t0 n0 nf hsU hx0 hm0 hrf hr0 hq0 ci ce cd hB ⊢
  have HsU := Lib.hid hsU
  clear hsU
  refine (wpIn_wide (n := 20)).1 ?_
  refine wpIn_rangeT rfl (by have := HsU.out; omega) (gf := 32) (lb := #[.pointer (some ⟨Bi, 0, none⟩), .pointer (some ⟨Be, 0, none⟩), .pointer (some ⟨Bd, 0, none⟩)]) (by simp [go_sem]) trivial (enters_of Tryd.func32 (by kernel_rfl) rfl)
    (each_K (20 - 1) Bi Be Bd (by have := HsU.out; omega) x d K h0 h1 hK) (fun W' hb => ⟨cell_bel ci hb, cell_bel ce hb, cell_bel cd hb⟩) (fun _ => rfl)
    (fun k => k = w1.heap.size + 1) (fun k h => ⟨by have := HsU.out; omega, fun h' => by omega⟩) (fun k h => by have := HsU.out; omega) (fun k h => h.elim)
    (fun pre W' => BelX U.heap.size (fun k => k = w1.heap.size + 1) U W' ∧ W'.cell? ⟨w1.heap.size + 1, 0, none⟩ = some (.int .i64 (pre.length : Nat)) ∧ W'.frozen? ⟨w1.heap.size + 1, 0, none⟩ = false ∧ (pre ≠ [] → (pre.length : Int) < many))
    (fun c pre W' => c = .exit 2 ∧ BelX U.heap.size (fun k => k = w1.heap.size + 1) U W' ∧ W'.cell? ⟨w1.heap.size + 1, 0, none⟩ = some (.int .i64 (pre.length : Nat)) ∧ many ≤ pre.length ∧ (pre.length = 1 ∨ (pre.length : Int) - 1 < many)) ?hI ?hIx ?hs ?hround ?hdone ?hstop
  case hI =>
    rintro s A B ⟨ha, hn, hf, hl⟩ hb
    exact ⟨ha.trans (hb.mono (Nat.le_refl _) (fun _ _ h => h.elim)), cell_belX hn hb (by have := HsU.out; omega) (fun h => h), froz_belX hf hb (by have := HsU.out; omega) (fun h => h), hl⟩
  case hIx =>
    rintro c s A B ⟨rfl, ha, hn, hl⟩ hb
    exact ⟨rfl, ha.trans (hb.mono (Nat.le_refl _) (fun _ _ h => h.elim)), cell_belX hn hb (by have := HsU.out; omega) (fun h => h), hl⟩
  case hs => exact ⟨BelX.refl _ _ _, n0, nf, fun h => absurd rfl h⟩
  case hround =>
    rintro l2 pre k W2 _ _ _ ⟨j, hj1, hj2, _⟩
    exfalso
    omega
  case hdone =>
    rintro D xs W' hD rfl ⟨hbx, hn, hnf, hlt⟩ hKD
    have hmk : min (K : Int) (max 1 many) = K := by
      by_cases hz : K = 0
      · subst hz; omega
      · have := hlt (by intro h; have := congrArg List.length h; simp at this; omega)
        simp at this
        omega
    rw [List.length_range] at hn
    clear hlt
    obtain ⟨j, hj⟩ : ∃ j, j = K := ⟨_, rfl⟩
    rw [← hj] at hn
    have hmn : min (K : Int) (max 1 many) = j := by rw [hj]; exact hmk
    clear hj hmk
    have hlD : D < W'.heap.size := (Array.getElem?_eq_some_iff.1 hKD).1
    have x5 := cell_belX hx0 hbx (by have := HsU.out; omega) (by omega)
    have m5 := cell_belX hm0 hbx (by have := HsU.out; omega) (by omega)
    have q5 := cell_belX hq0 hbx (by have := HsU.out; omega) (by omega)
    have r5 := cell_belX hr0 hbx (by have := HsU.out; omega) (by omega)
    have rf5 := froz_belX hrf hbx (by have := HsU.out; omega) (by omega)
    have t5 := cell_belX t0 hbx (by have := HsU.out; omega) (by omega)
    have ci5 := cell_belX ci hbx (by have := HsU.out; omega) (by omega)
    have ce5 := cell_belX ce hbx (by have := HsU.out; omega) (by omega)
    have cd5 := cell_belX cd hbx (by have := HsU.out; omega) (by omega)
    have hB5 : Below w.heap.size w W' := hB.trans ((hbx.mono (Y := fun _ => False) (by have := HsU.out; omega) (fun k hk hx => by omega)).below (fun _ _ h => h))
    go_wp2
    rw [rounds_succ]
    go_wp2
    have t6 := cell_al (cell_new W' #[.int .i64 1] 3 0) (.cells #[.int .i64 0] 3)
    have n6 := cell_two W' (.cells #[.int .i64 1] 3) #[.int .i64 0] 3 0
    have nf6 := froz_two W' (.cells #[.int .i64 1] 3) #[.int .i64 0] 3 0
    have hbU6 : Below W'.heap.size W' ((W'.alloc (.cells #[.int .i64 1] 3)).alloc (.cells #[.int .i64 0] 3)) := belA (bel1 _) _
    have HsU6 := Lib.hid (show ((W'.alloc (.cells #[.int .i64 1] 3)).alloc (.cells #[.int .i64 0] 3)).heap.size = W'.heap.size + 2 by simp)
    have x6 := cell_bel x5 hbU6
    have rf6 := froz_bel r5 rf5 hbU6
    have r6 := cell_bel r5 hbU6
    have q6 := cell_bel q5 hbU6
    have ci6 := cell_bel ci5 hbU6
    have ce6 := cell_bel ce5 hbU6
    have cd6 := cell_bel cd5 hbU6
    have hB6 := belT hB5 hbU6
    have hK6 := (hbU6.block D hlD).trans hKD
    have hlq6 := lt_of_cell q5
    have hlr6 := lt_of_cell r5
    have hlx6 := lt_of_cell x5
    have hli6 := lt_of_cell ci5
    have hle6 := lt_of_cell ce5
    have hld6 := lt_of_cell cd5
    clear hbU6 hbx hn hKD x5 rf5 r5 q5 ci5 ce5 cd5 t5 m5 t0 n0 nf hx0 hm0 hrf hr0 hq0 ci ce cd hB hmn
    generalize (W'.alloc (.cells #[.int .i64 1] 3)).alloc (.cells #[.int .i64 0] 3) = U6 at t6 n6 nf6 HsU6 x6 rf6 r6 q6 ci6 ce6 cd6 hB6 hK6 ⊢
    refine (wpIn_wide (n := 20)).1 ?_
    refine wpIn_rangeT rfl (by have := HsU6.out; omega) (gf := 32) (lb := #[.pointer (some ⟨Bi, 0, none⟩), .pointer (some ⟨Be, 0, none⟩), .pointer (some ⟨Bd, 0, none⟩)]) (by simp [go_sem]) trivial (enters_of Tryd.func32 (by kernel_rfl) rfl)
      (each_K (20 - 1) Bi Be Bd (by omega) x d K h0 h1 hK) (fun W' hb => ⟨cell_bel ci6 hb, cell_bel ce6 hb, cell_bel cd6 hb⟩) (fun _ => rfl)
      (fun k => k = W'.heap.size + 1) (fun k h => ⟨by have := HsU6.out; omega, fun h' => by have := HsU6.out; omega⟩) (fun k h => by have := HsU6.out; omega) (fun k h => h.elim)
      (fun pre Wr => BelX U6.heap.size (fun k => k = W'.heap.size + 1) U6 Wr ∧ Wr.cell? ⟨W'.heap.size + 1, 0, none⟩ = some (.int .i64 (pre.length : Nat)) ∧ Wr.frozen? ⟨W'.heap.size + 1, 0, none⟩ = false)
      (fun _ _ _ => False) ?hI2 ?hIx2 ?hs2 ?hround2 ?hdone2 ?hstop2
    case hI2 =>
      rintro s A B ⟨ha, hn, hf⟩ hb
      exact ⟨ha.trans (hb.mono (Nat.le_refl _) (fun _ _ h => h.elim)), cell_belX hn hb (by have := HsU6.out; omega) (fun h => h), froz_belX hf hb (by have := HsU6.out; omega) (fun h => h)⟩
    case hIx2 => exact fun _ _ _ _ h _ => h
    case hs2 => exact ⟨BelX.refl _ _ _, n6, nf6⟩
    case hround2 =>
      rintro l2 pre k W2 _ _ _ ⟨j, hj1, hj2, _⟩
      exfalso
      omega
    case hstop2 => exact fun _ _ _ _ _ _ h _ => h.elim
    case hdone2 =>
      rintro D2 xs W7 hD2 rfl ⟨hbx, hn, hnf⟩ hKD2
      have hs7 := HsU6.out
      rw [List.length_range] at hn
      have r7 := cell_belX r6 hbx (by omega) (by omega)
      have rf7 := froz_belX rf6 hbx (by omega) (by omega)
      have q7 := cell_belX q6 hbx (by omega) (by omega)
      have t7 := cell_belX t6 hbx (by omega) (by omega)
      have hK7 := (hbx.2 D (by omega) (by omega)).trans hK6
      have hB7 : Below w.heap.size w W7 := hB6.trans ((hbx.mono (Y := fun _ => False) (by omega) (fun k hk hx => by omega)).below (fun _ _ h => h))
      have hD7 : D2 < W7.heap.size := (Array.getElem?_eq_some_iff.1 hKD2).1
      have hrD : w.heap.size + 1 + 1 < W'.heap.size := by omega
      have hDa : D < W7.heap.size := (Array.getElem?_eq_some_iff.1 hK7).1
      have hDD : D < D2 := by omega
      have hDr : w.heap.size + 1 + 1 < D := by have := HsU.out; omega
      clear hs7 hbx x6 rf6 r6 q6 ci6 ce6 cd6 hB6 hK6 t6 n6 nf6
      go_wp2
      rw [rounds_succ]
      go_wp2_with (go_at_call 11; refine (works_any _ (hE.on (belT hB7 (bel1 _)))).mono ?_; rintro e w8 ⟨rfl, hb8⟩; have r8 := cell_bel (cell_al r7 _) hb8; have rf8 := froz_bel (cell_al r7 _) (froz_bel r7 rf7 (bel1 _)) hb8; have hB8 := belT (belA hB7 _) hb8; have hKa := (hb8.block D (by simp; omega)).trans (((bel1 _).block D (by omega)).trans hK7); have hKb := (hb8.block D2 (by simp; omega)).trans (((bel1 _).block D2 (by omega)).trans hKD2))
      have hB9 := hB8.setCell (p := ⟨w.heap.size + 1 + 1, 0, none⟩) (by simp; omega) (.bool true)
      have hKc := (Below.heap_setCell w8 ⟨w.heap.size + 1 + 1, 0, none⟩ (.bool true) D (by simp; omega)).trans hKa
      have hKd := (Below.heap_setCell w8 ⟨w.heap.size + 1 + 1, 0, none⟩ (.bool true) D2 (by simp; omega)).trans hKb
      have c5 : (w8.setCell ⟨w.heap.size + 1 + 1, 0, none⟩ (.bool true)).cell? ⟨w.heap.size + 1 + 1, 0, none⟩ = some (.bool true) := World.cell?_setCell_same _ _ _ r8
      have hKe := (World.putObj_heap_other (o := .deferred none) (w := w8.setCell ⟨w.heap.size + 1 + 1, 0, none⟩ (.bool true)) (r := D2) (k := D) (by omega)).trans hKc
      have hc6 := cell_kept c5 (grownBy_putObj' _ D2 (.deferred none)) (fun r e => by cases e; exact ⟨_, hKd, rfl⟩)
      have hc7 := cell_kept hc6 (grownBy_putObj' _ D (.deferred none)) (fun r e => by cases e; exact ⟨_, hKe, rfl⟩)
      refine ⟨by simp, .inl ⟨_, _, rfl, run_takeDeferred hKd, ?_⟩⟩
      refine ⟨by simp, .inl ⟨_, _, rfl, run_takeDeferred hKe, ?_⟩⟩
      have hBa := hB9.trans (below_put _ D2 (.deferred none) (by omega) hB9.size)
      exact ⟨.bool true, by simp [results, Tryd.results7, go_sem, hc7], rfl, hBa.trans (below_put _ D (.deferred none) (by omega) hBa.size)⟩
  case hstop =>
    rintro D c pre W' hD ⟨j, hj1, hj2, _⟩ _ hKD
    exfalso
    omega
set_option maxRecDepth 100000 in
set_option maxHeartbeats 4000000 in
theorem each_a (x far many : Int) (w : World) (hE : Env w) (h0 : 0 ≤ x) (h1 : x < 18446744073709551616) (hf : far = -1) (hmm : -9223372036854775808 ≤ many ∧ many ≤ 9223372036854775807) :
    Calls Tryd.prog 7 #[.int .u64 x, .int .i64 far, .int .i64 many] w fun e w' => e = .returned (.bool true) ∧ Below w.heap.size w w' := by
  obtain ⟨K, hKf⟩ : ∃ K : Nat, (K : Int) = 0 := ⟨0, rfl⟩
  obtain ⟨d, hdd⟩ : ∃ d : Int, d = 0 := ⟨_, rfl⟩
  have hd0 : d = 0 := hdd
  have hK : (okB d (max 1 (x % 281474976710656)) 281474976710655 = true ∧ x % 281474976710656 + K = d + 1) ∨ (okB d (max 1 (x % 281474976710656)) 281474976710655 = false ∧ K = 0) := by
    refine Or.inr ⟨?_, by omega⟩
    simp [okB]
    omega
  have CE := Lib.hid fun w => (by
    have h := Each_any x d w h0 h1 (by omega) (by omega)
    rw [show (#[Value.int .u64 x, Value.int .u64 d] : Array Value) = #[Value.int .u64 x, Value.int .u64 0] by rw [hdd]] at h
    exact h)
  have hx0 := cell_al (cell_al (cell_al (cell_new w #[.int .u64 x] 23 0) (.cells #[.int .i64 many] 3)) (.cells #[.bool false] 4)) (.cells #[.int .i64 0] 3)
  have hm0 := cell_al (cell_al (cell_two w (.cells #[.int .u64 x] 23) #[.int .i64 many] 3 0) (.cells #[.bool false] 4)) (.cells #[.int .i64 0] 3)
  have hr0 := cell_al (cell_three w (.cells #[.int .u64 x] 23) (.cells #[.int .i64 many] 3) #[.bool false] 4 0) (.cells #[.int .i64 0] 3)
  have hrf : ((((w.alloc (.cells #[.int .u64 x] 23)).alloc (.cells #[.int .i64 many] 3)).alloc (.cells #[.bool false] 4)).alloc (.cells #[.int .i64 0] 3)).frozen? ⟨w.heap.size + 1 + 1, 0, none⟩ = false := by
    have := froz_two (w.alloc (.cells #[.int .u64 x] 23)) (.cells #[.int .i64 many] 3) #[.bool false] 4 0
    rw [World.size_alloc] at this
    exact froz_bel (cell_three w (.cells #[.int .u64 x] 23) (.cells #[.int .i64 many] 3) #[.bool false] 4 0) this (bel1 _)
  have hq0 : ((((w.alloc (.cells #[.int .u64 x] 23)).alloc (.cells #[.int .i64 many] 3)).alloc (.cells #[.bool false] 4)).alloc (.cells #[.int .i64 0] 3)).cell? ⟨w.heap.size + 1 + 1 + 1, 0, none⟩ = some (.int .i64 0) := by
    have := cell_three (w.alloc (.cells #[.int .u64 x] 23)) (.cells #[.int .i64 many] 3) (.cells #[.bool false] 4) #[.int .i64 0] 3 0
    rwa [World.size_alloc] at this
  have hB : Below w.heap.size w ((((w.alloc (.cells #[.int .u64 x] 23)).alloc (.cells #[.int .i64 many] 3)).alloc (.cells #[.bool false] 4)).alloc (.cells #[.int .i64 0] 3)) := belA (belA (belA (bel1 _) _) _) _
  refine (callsIn_wide (n := 20)).1 ?_
  refine callsIn_of_wp_marks Tryd.func7 rfl trivial ?_ rfl
  simp only [Tryd.ntmps7, List.size_toArray, List.length_cons, List.length_nil, Nat.reduceAdd, Nat.reduceSub, Array.replicate_succ, Array.replicate_zero, List.push_toArray, List.append_toArray, List.nil_append, List.cons_append]
  refine wpIn_wide.2 ?_
  have hx4 : x % 281474976710656 < 281474976710656 := by omega
  go_wp2_with (go_at_call 19; refine (rParts_any x _ h0 h1).mono ?_; rintro e wp ⟨rfl, hwp⟩; subst hwp)
  refine (CE.out _).mono ?_
  rintro e w1 ⟨Bi, Be, Bd, rfl, hBi, hBe, hBd, ci, ce, cd, hb1⟩
  have hx0 := cell_bel hx0 hb1
  have hm0 := cell_bel hm0 hb1
  have hrf := froz_bel hr0 hrf hb1
  have hr0 := cell_bel hr0 hb1
  have hq0 := cell_bel hq0 hb1
  have hq0 : w1.cell? ⟨w.heap.size + 1 + 1 + 1, 0, none⟩ = some (.int .i64 (K : Int)) := by rw [hKf]; exact hq0
  have hB := belT hB hb1
  have hlq := lt_of_cell hq0
  have hli := lt_of_cell ci
  have hle := lt_of_cell ce
  have hld := lt_of_cell cd
  simp only [World.size_alloc] at hBi hBe hBd
  clear hb1 CE
  have hfn : ∀ (p q r : Addr) (w : World), (binOp .eql 44 (.func (.func 32) #[] #[.pointer (some p), .pointer (some q), .pointer (some r)]) .nilFunc).run Tryd.prog w = .ok (.bool false) w := fun _ _ _ _ => by kernel_rfl
  go_wp2
  refine wp_loop_rounds 3 ?_
  rw [rounds_succ]
  go_wp2
  have t0 := cell_al (cell_new w1 #[.int .i64 0] 3 0) (.cells #[.int .i64 0] 3)
  have n0 := cell_two w1 (.cells #[.int .i64 0] 3) #[.int .i64 0] 3 0
  have nf := froz_two w1 (.cells #[.int .i64 0] 3) #[.int .i64 0] 3 0
  have hbU : Below w1.heap.size w1 ((w1.alloc (.cells #[.int .i64 0] 3)).alloc (.cells #[.int .i64 0] 3)) := belA (bel1 _) _
  have hsU : ((w1.alloc (.cells #[.int .i64 0] 3)).alloc (.cells #[.int .i64 0] 3)).heap.size = w1.heap.size + 2 := by simp
  have hx0 := cell_bel hx0 hbU
  have hm0 := cell_bel hm0 hbU
  have hrf := froz_bel hr0 hrf hbU
  have hr0 := cell_bel hr0 hbU
  have hq0 := cell_bel hq0 hbU
  have ci := cell_bel ci hbU
  have ce := cell_bel ce hbU
  have cd := cell_bel cd hbU
  have hB := belT hB hbU
  clear hbU hfn
  generalize (w1.alloc (.cells #[.int .i64 0] 3)).alloc (.cells #[.int .i64 0] 3) = U at t0 n0 nf hsU hx0 hm0 hrf hr0 hq0 ci ce cd hB ⊢
  have HsU := Lib.hid hsU
  clear hsU
  refine (wpIn_wide (n := 20)).1 ?_
  refine wpIn_rangeT rfl (by have := HsU.out; omega) (gf := 32) (lb := #[.pointer (some ⟨Bi, 0, none⟩), .pointer (some ⟨Be, 0, none⟩), .pointer (some ⟨Bd, 0, none⟩)]) (by simp [go_sem]) trivial (enters_of Tryd.func32 (by kernel_rfl) rfl)
    (each_K (20 - 1) Bi Be Bd (by have := HsU.out; omega) x d K h0 h1 hK) (fun W' hb => ⟨cell_bel ci hb, cell_bel ce hb, cell_bel cd hb⟩) (fun _ => rfl)
    (fun k => k = w1.heap.size + 1) (fun k h => ⟨by have := HsU.out; omega, fun h' => by omega⟩) (fun k h => by have := HsU.out; omega) (fun k h => h.elim)
    (fun pre W' => BelX U.heap.size (fun k => k = w1.heap.size + 1) U W' ∧ W'.cell? ⟨w1.heap.size + 1, 0, none⟩ = some (.int .i64 (pre.length : Nat)) ∧ W'.frozen? ⟨w1.heap.size + 1, 0, none⟩ = false ∧ (pre ≠ [] → (pre.length : Int) < many))
    (fun c pre W' => c = .exit 2 ∧ BelX U.heap.size (fun k => k = w1.heap.size + 1) U W' ∧ W'.cell? ⟨w1.heap.size + 1, 0, none⟩ = some (.int .i64 (pre.length : Nat)) ∧ many ≤ pre.length ∧ (pre.length = 1 ∨ (pre.length : Int) - 1 < many)) ?hI ?hIx ?hs ?hround ?hdone ?hstop
  case hI =>
    rintro s A B ⟨ha, hn, hf, hl⟩ hb
    exact ⟨ha.trans (hb.mono (Nat.le_refl _) (fun _ _ h => h.elim)), cell_belX hn hb (by have := HsU.out; omega) (fun h => h), froz_belX hf hb (by have := HsU.out; omega) (fun h => h), hl⟩
  case hIx =>
    rintro c s A B ⟨rfl, ha, hn, hl⟩ hb
    exact ⟨rfl, ha.trans (hb.mono (Nat.le_refl _) (fun _ _ h => h.elim)), cell_belX hn hb (by have := HsU.out; omega) (fun h => h), hl⟩
  case hs => exact ⟨BelX.refl _ _ _, n0, nf, fun h => absurd rfl h⟩
  case hround =>
    rintro l2 pre k W2 _ _ _ ⟨j, hj1, hj2, _⟩
    exfalso
    omega
  case hdone =>
    rintro D xs W' hD rfl ⟨hbx, hn, hnf, hlt⟩ hKD
    have hmk : min (K : Int) (max 1 many) = K := by
      by_cases hz : K = 0
      · subst hz; omega
      · have := hlt (by intro h; have := congrArg List.length h; simp at this; omega)
        simp at this
        omega
    rw [List.length_range] at hn
    clear hlt
    obtain ⟨j, hj⟩ : ∃ j, j = K := ⟨_, rfl⟩
    rw [← hj] at hn
    have hmn : min (K : Int) (max 1 many) = j := by rw [hj]; exact hmk
    clear hj hmk
    have hlD : D < W'.heap.size := (Array.getElem?_eq_some_iff.1 hKD).1
    have x5 := cell_belX hx0 hbx (by have := HsU.out; omega) (by omega)
    have m5 := cell_belX hm0 hbx (by have := HsU.out; omega) (by omega)
    have q5 := cell_belX hq0 hbx (by have := HsU.out; omega) (by omega)
    have r5 := cell_belX hr0 hbx (by have := HsU.out; omega) (by omega)
    have rf5 := froz_belX hrf hbx (by have := HsU.out; omega) (by omega)
    have t5 := cell_belX t0 hbx (by have := HsU.out; omega) (by omega)
    have ci5 := cell_belX ci hbx (by have := HsU.out; omega) (by omega)
    have ce5 := cell_belX ce hbx (by have := HsU.out; omega) (by omega)
    have cd5 := cell_belX cd hbx (by have := HsU.out; omega) (by omega)
    have hB5 : Below w.heap.size w W' := hB.trans ((hbx.mono (Y := fun _ => False) (by have := HsU.out; omega) (fun k hk hx => by omega)).below (fun _ _ h => h))
    go_wp2
    rw [rounds_succ]
    go_wp2
    have t6 := cell_al (cell_new W' #[.int .i64 1] 3 0) (.cells #[.int .i64 0] 3)
    have n6 := cell_two W' (.cells #[.int .i64 1] 3) #[.int .i64 0] 3 0
    have nf6 := froz_two W' (.cells #[.int .i64 1] 3) #[.int .i64 0] 3 0
    have hbU6 : Below W'.heap.size W' ((W'.alloc (.cells #[.int .i64 1] 3)).alloc (.cells #[.int .i64 0] 3)) := belA (bel1 _) _
    have HsU6 := Lib.hid (show ((W'.alloc (.cells #[.int .i64 1] 3)).alloc (.cells #[.int .i64 0] 3)).heap.size = W'.heap.size + 2 by simp)
    have x6 := cell_bel x5 hbU6
    have rf6 := froz_bel r5 rf5 hbU6
    have r6 := cell_bel r5 hbU6
    have q6 := cell_bel q5 hbU6
    have ci6 := cell_bel ci5 hbU6
    have ce6 := cell_bel ce5 hbU6
    have cd6 := cell_bel cd5 hbU6
    have hB6 := belT hB5 hbU6
    have hK6 := (hbU6.block D hlD).trans hKD
    have hlq6 := lt_of_cell q5
    have hlr6 := lt_of_cell r5
    have hlx6 := lt_of_cell x5
    have hli6 := lt_of_cell ci5
    have hle6 := lt_of_cell ce5
    have hld6 := lt_of_cell cd5
    clear hbU6 hbx hn hKD x5 rf5 r5 q5 ci5 ce5 cd5 t5 m5 t0 n0 nf hx0 hm0 hrf hr0 hq0 ci ce cd hB hmn
    generalize (W'.alloc (.cells #[.int .i64 1] 3)).alloc (.cells #[.int .i64 0] 3) = U6 at t6 n6 nf6 HsU6 x6 rf6 r6 q6 ci6 ce6 cd6 hB6 hK6 ⊢
    refine (wpIn_wide (n := 20)).1 ?_
    refine wpIn_rangeT rfl (by have := HsU6.out; omega) (gf := 32) (lb := #[.pointer (some ⟨Bi, 0, none⟩), .pointer (some ⟨Be, 0, none⟩), .pointer (some ⟨Bd, 0, none⟩)]) (by simp [go_sem]) trivial (enters_of Tryd.func32 (by kernel_rfl) rfl)
      (each_K (20 - 1) Bi Be Bd (by omega) x d K h0 h1 hK) (fun W' hb => ⟨cell_bel ci6 hb, cell_bel ce6 hb, cell_bel cd6 hb⟩) (fun _ => rfl)
      (fun k => k = W'.heap.size + 1) (fun k h => ⟨by have := HsU6.out; omega, fun h' => by have := HsU6.out; omega⟩) (fun k h => by have := HsU6.out; omega) (fun k h => h.elim)
      (fun pre Wr => BelX U6.heap.size (fun k => k = W'.heap.size + 1) U6 Wr ∧ Wr.cell? ⟨W'.heap.size + 1, 0, none⟩ = some (.int .i64 (pre.length : Nat)) ∧ Wr.frozen? ⟨W'.heap.size + 1, 0, none⟩ = false)
      (fun _ _ _ => False) ?hI2 ?hIx2 ?hs2 ?hround2 ?hdone2 ?hstop2
    case hI2 =>
      rintro s A B ⟨ha, hn, hf⟩ hb
      exact ⟨ha.trans (hb.mono (Nat.le_refl _) (fun _ _ h => h.elim)), cell_belX hn hb (by have := HsU6.out; omega) (fun h => h), froz_belX hf hb (by have := HsU6.out; omega) (fun h => h)⟩
    case hIx2 => exact fun _ _ _ _ h _ => h
    case hs2 => exact ⟨BelX.refl _ _ _, n6, nf6⟩
    case hround2 =>
      rintro l2 pre k W2 _ _ _ ⟨j, hj1, hj2, _⟩
      exfalso
      omega
    case hstop2 => exact fun _ _ _ _ _ _ h _ => h.elim
    case hdone2 =>
      rintro D2 xs W7 hD2 rfl ⟨hbx, hn, hnf⟩ hKD2
      have hs7 := HsU6.out
      rw [List.length_range] at hn
      have r7 := cell_belX r6 hbx (by omega) (by omega)
      have rf7 := froz_belX rf6 hbx (by omega) (by omega)
      have q7 := cell_belX q6 hbx (by omega) (by omega)
      have t7 := cell_belX t6 hbx (by omega) (by omega)
      have hK7 := (hbx.2 D (by omega) (by omega)).trans hK6
      have hB7 : Below w.heap.size w W7 := hB6.trans ((hbx.mono (Y := fun _ => False) (by omega) (fun k hk hx => by omega)).below (fun _ _ h => h))
      have hD7 : D2 < W7.heap.size := (Array.getElem?_eq_some_iff.1 hKD2).1
      have hrD : w.heap.size + 1 + 1 < W'.heap.size := by omega
      have hDa : D < W7.heap.size := (Array.getElem?_eq_some_iff.1 hK7).1
      have hDD : D < D2 := by omega
      have hDr : w.heap.size + 1 + 1 < D := by have := HsU.out; omega
      clear hs7 hbx x6 rf6 r6 q6 ci6 ce6 cd6 hB6 hK6 t6 n6 nf6
      go_wp2
      rw [rounds_succ]
      go_wp2_with (go_at_call 11; refine (works_any _ (hE.on (belT hB7 (bel1 _)))).mono ?_; rintro e w8 ⟨rfl, hb8⟩; have r8 := cell_bel (cell_al r7 _) hb8; have rf8 := froz_bel (cell_al r7 _) (froz_bel r7 rf7 (bel1 _)) hb8; have hB8 := belT (belA hB7 _) hb8; have hKa := (hb8.block D (by simp; omega)).trans (((bel1 _).block D (by omega)).trans hK7); have hKb := (hb8.block D2 (by simp; omega)).trans (((bel1 _).block D2 (by omega)).trans hKD2))
      have hB9 := hB8.setCell (p := ⟨w.heap.size + 1 + 1, 0, none⟩) (by simp; omega) (.bool true)
      have hKc := (Below.heap_setCell w8 ⟨w.heap.size + 1 + 1, 0, none⟩ (.bool true) D (by simp; omega)).trans hKa
      have hKd := (Below.heap_setCell w8 ⟨w.heap.size + 1 + 1, 0, none⟩ (.bool true) D2 (by simp; omega)).trans hKb
      have c5 : (w8.setCell ⟨w.heap.size + 1 + 1, 0, none⟩ (.bool true)).cell? ⟨w.heap.size + 1 + 1, 0, none⟩ = some (.bool true) := World.cell?_setCell_same _ _ _ r8
      have hKe := (World.putObj_heap_other (o := .deferred none) (w := w8.setCell ⟨w.heap.size + 1 + 1, 0, none⟩ (.bool true)) (r := D2) (k := D) (by omega)).trans hKc
      have hc6 := cell_kept c5 (grownBy_putObj' _ D2 (.deferred none)) (fun r e => by cases e; exact ⟨_, hKd, rfl⟩)
      have hc7 := cell_kept hc6 (grownBy_putObj' _ D (.deferred none)) (fun r e => by cases e; exact ⟨_, hKe, rfl⟩)
      refine ⟨by simp, .inl ⟨_, _, rfl, run_takeDeferred hKd, ?_⟩⟩
      refine ⟨by simp, .inl ⟨_, _, rfl, run_takeDeferred hKe, ?_⟩⟩
      have hBa := hB9.trans (below_put _ D2 (.deferred none) (by omega) hB9.size)
      exact ⟨.bool true, by simp [results, Tryd.results7, go_sem, hc7], rfl, hBa.trans (below_put _ D (.deferred none) (by omega) hBa.size)⟩
  case hstop =>
    rintro D c pre W' hD ⟨j, hj1, hj2, _⟩ _ hKD
    exfalso
    omega

theorem epochEach_walk (x far many : Int) (w : World) (hE : Env w) (h0 : 0 ≤ x) (h1 : x < 18446744073709551616) (f0 : -9223372036854775808 ≤ far) (f1 : far ≤ 9223372036854775807) (m0 : -9223372036854775808 ≤ many) (m1 : many ≤ 9223372036854775807) :
    Calls Tryd.prog 7 #[.int .u64 x, .int .i64 far, .int .i64 many] w fun e w' => e = .returned (.bool true) ∧ Below w.heap.size w w' := by
  by_cases h : far < -1 ∨ 300 < far
  · exact each_small x far many w hE h0 h1 h ⟨f0, f1⟩
  · by_cases ha : far = -1
    · exact each_a x far many w hE h0 h1 ha ⟨m0, m1⟩
    · have hf : 0 ≤ far ∧ far ≤ 300 := by omega
      by_cases h2 : x % 281474976710656 + far < 1
      · exact each_c1 x far many w hE h0 h1 hf h2 ⟨m0, m1⟩
      · by_cases h3 : 281474976710655 < x % 281474976710656 + far
        · exact each_c2 x far many w hE h0 h1 hf h3 ⟨m0, m1⟩
        · exact each_b x far many w hE h0 h1 hf ⟨by omega, by omega⟩ ⟨m0, m1⟩
end Go.Proofs.YtigepikfbpodpaaDoor
