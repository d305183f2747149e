/- Joined texts: Package asm: Print.; Package asm: every and Lines: their iterators. -/
import Derived.Test.YtfnfcngkaepnjaaGreatDoorQL29
import Derived.Test.YtfnfcngkaepnjaaGreatDoorQL3
import Derived.Test.YtfnfcngkaepnjaaGreatDoorQL26
/- Package asm: Print. -/
namespace Go.Proofs.YtfnfcngkaepnjaaGreatDoor
set_option linter.unusedVariables false
set_option linter.unusedSimpArgs false
open Go Go.Proofs Go.RowKit

theorem lineF_len (word : ByteArray) (n : Int) (h0 : -9223372036854775808 ≤ n) (h1 : n ≤ 9223372036854775807) : (lineF word n).size ≤ word.size + 22 := by
  have := Lib.itoa_length_le n h0 h1
  unfold lineF
  rw [ByteArray.size_append, ByteArray.size_append]
  have h3 : (⟨(Lib.itoa n).toArray⟩ : ByteArray).size = (Lib.itoa n).length := by simp [ByteArray.size]
  have h4 : (⟨#[32]⟩ : ByteArray).size = 1 := rfl
  omega
theorem joinedF_len (L : List ByteArray) (n : Nat) (h : ∀ s ∈ L, s.size ≤ n) : (joinedF L).length ≤ L.length * (n + 1) := by
  induction L with
  | nil => simp [joinedF]
  | cons x L ih =>
    have h1 := ih (fun s hs => h s (List.mem_cons_of_mem _ hs))
    have h2 := h x (by simp)
    unfold joinedF at h1 ⊢
    have h3 : (x :: L).length * (n + 1) = L.length * (n + 1) + (n + 1) := by rw [List.length_cons, Nat.succ_mul]
    rw [h3, List.flatMap_cons, List.length_append, List.length_append, ← Lib.size_eq]
    simp only [List.length_cons, List.length_nil]
    omega
/-- Lines of a right program are small. -/
theorem lines_small {P : ProgM} (hP : P.Fits) (hR : rightP P = true) : (linesF P).length ≤ 20000 ∧ ∀ s ∈ linesF P, s.size ≤ 300 := by
  obtain ⟨hn, haf⟩ := right_fits hR
  obtain ⟨⟨⟨hl1, hl32⟩, hmu, hrw, hgr⟩, hN2⟩ := (numbersF_iff P).1 hn
  constructor
  · have h1 := fnLines_len P.funcs P.funcs.length (fun f hf => (hN2 f hf).2.2) (by omega)
    rw [List.take_length] at h1
    unfold linesF headLines
    rw [List.length_append]
    simp only [List.length_cons, List.length_nil]
    omega
  · intro s hs
    unfold linesF headLines at hs
    rcases List.mem_append.1 hs with hs | hs
    · simp only [List.mem_cons, List.not_mem_nil, or_false] at hs
      have e1 : wMu.size = 7 := rfl
      have e2 : wRw.size = 7 := rfl
      have e3 : wGr.size = 6 := rfl
      rcases hs with rfl | rfl | rfl
      · have := lineF_len wMu P.mu (by omega) (by omega); omega
      · have := lineF_len wRw P.rw (by omega) (by omega); omega
      · have := lineF_len wGr P.gr (by omega) (by omega); omega
    · obtain ⟨f, hf, hs⟩ := List.mem_flatMap.1 hs
      have hN := hN2 f hf
      unfold fnLines at hs
      rcases List.mem_cons.1 hs with rfl | hs
      · have e4 : wFn.size = 4 := rfl
        have := lineF_len wFn f.regs (by omega) (by omega); omega
      · obtain ⟨x, hx, rfl⟩ := List.mem_map.1 hs
        obtain ⟨k, hk, rfl⟩ := List.getElem_of_mem hf
        obtain ⟨j, hj, rfl⟩ := List.getElem_of_mem hx
        have h2 := haf k j _ _ (List.getElem?_eq_getElem hk) (List.getElem?_eq_getElem hj)
        unfold fineF fitsF at h2
        simp only [Bool.and_eq_true] at h2
        have h3 := textF_len (hP.imm _ (List.getElem_mem hk) _ (List.getElem_mem hj)) h2.1.1
        unfold insTx
        simp only [ByteArray.size, List.size_toArray]
        omega
theorem joined_small {P : ProgM} (hP : P.Fits) (hR : rightP P = true) : (joinedF (linesF P)).length ≤ 10000000 := by
  obtain ⟨h1, h2⟩ := lines_small hP hR
  have := joinedF_len _ 300 h2
  have : (linesF P).length * 301 ≤ 20000 * 301 := Nat.mul_le_mul_right _ h1
  omega

/-- A program's text. -/
noncomputable def printS (P : ProgM) : ByteArray := if rightP P = true then ⟨(joinedF (linesF P)).toArray⟩ else ⟨#[]⟩

set_option maxRecDepth 100000 in
set_option maxHeartbeats 2000000 in
theorem asmPrint_any (P : ProgM) (hP : P.Fits) (hl0 : P.funcs.length ≤ 100000) (v : Value) (w : World) (hE : Env w) (h : ArgP w v P) :
    Calls Tryz.prog 25 #[v] w fun e w' => e = .returned (.tuple #[.string (printS P), .int .i64 (checkP P)]) ∧ Below w.heap.size w w' := by
  have CC := Lib.hid fun v W h => pgCheck_any P hP hl0 v W h
  obtain ⟨vf, rfl, hF⟩ := h
  have HPG := Lib.hid (PrgB.new w 58 hF)
  have HB := Lib.hid (bel1 (W := w) (.cells #[vf, .int .i64 P.mu, .int .i64 P.rw, .int .i64 P.gr] 58))
  obtain ⟨c0, c1, c2, c3, -⟩ := HPG.out
  unfold printS
  unfold checkP at CC ⊢
  cases hR : rightP P with
  | false =>
    rw [hR, if_neg (by decide)] at CC
    rw [if_neg (by decide), if_neg (by decide)]
    clear hR
    go_enter Tryz.func25, Tryz.ntmps25
    go_wp2_with fail
    refine (CC.out _ _ HPG.out.arg).mono ?_
    rintro e w1 ⟨rfl, hb1⟩
    go_wp2_with fail
    go_ret2
    exact ⟨rfl, belT HB.out hb1⟩
  | true =>
    rw [hR, if_pos rfl] at CC
    rw [if_pos rfl, if_pos rfl]
    have CA := Lib.hid fun v W hE h => asmAll_any P hP hR v W hE h
    have hsm := joined_small hP hR
    have hln := (lines_small hP hR).1
    have hne : linesF P ≠ [] := by unfold linesF headLines; simp
    have CJ := Lib.hid fun v W h => asmJoined_any (linesF P) hne (by omega) (by omega) v W h
    clear hR hsm hln hne
    generalize linesF P = L at CA CJ ⊢
    go_enter Tryz.func25, Tryz.ntmps25
    go_wp2_with fail
    refine (CC.out _ _ HPG.out.arg).mono ?_
    rintro e w1 ⟨rfl, hb1⟩
    clear c0 c1 c2 c3
    have HPG1 := Lib.hid (HPG.out.bel hb1)
    have HB1 := Lib.hid (belT HB.out hb1)
    obtain ⟨c0, c1, c2, c3, -⟩ := HPG1.out
    go_wp2_with fail
    refine (CA.out _ _ (hE.on HB1.out) HPG1.out.arg).mono ?_
    rintro e w2 ⟨v', rfl, ho, hb2⟩
    obtain ⟨a2, d2, h9⟩ := ho.form
    subst h9
    have HO := Lib.hid (ho.arg rowS.len)
    clear ho c0 c1 c2 c3
    go_wp2_with fail
    refine (CJ.out _ _ HO.out).mono ?_
    rintro e w3 ⟨rfl, hb3⟩
    go_wp2_with fail
    go_ret2
    exact ⟨rfl, belT (belT HB1.out hb2) hb3⟩
end Go.Proofs.YtfnfcngkaepnjaaGreatDoor

/- Package asm: every and Lines: their iterators. -/
namespace Go.Proofs.YtfnfcngkaepnjaaGreatDoor
set_option linter.unusedVariables false
set_option linter.unusedSimpArgs false
open Go Go.Proofs Go.RowKit Go.Sort

/-- The first k lines, each with its number. -/
def numT (L : List ByteArray) (k : Nat) : List (Nat × ByteArray) := (List.range k).map fun j => (j, L.getD j ⟨#[]⟩)
abbrev lnAt (x : Nat × ByteArray) : Array Value := #[.int .i64 x.1, .string x.2]
theorem numT_succ (L : List ByteArray) (k : Nat) (s : ByteArray) (h : L[k]? = some s) : numT L (k + 1) = numT L k ++ [(k, s)] := by
  unfold numT
  rw [List.range_succ, List.map_append]
  simp [List.getD_eq_getElem?_getD, h]
theorem numT_length (L : List ByteArray) (k : Nat) : (numT L k).length = k := by simp [numT]
/-- The last one of a beginning. -/
theorem numT_last {L : List ByteArray} {j : Nat} {pre : List (Nat × ByteArray)} {x : Nat × ByteArray} (hj : j ≤ L.length) (h : pre ++ [x] = numT L j) : j = pre.length + 1 ∧ x.1 = pre.length ∧ L[pre.length]? = some x.2 := by
  have hl := congrArg List.length h
  rw [numT_length, List.length_append] at hl
  have hj1 : j = pre.length + 1 := by simpa using hl.symm
  subst hj1
  obtain ⟨s, hs⟩ : ∃ s, L[pre.length]? = some s := ⟨L[pre.length]'(by omega), List.getElem?_eq_getElem _⟩
  rw [numT_succ L _ s hs] at h
  have h2 := (List.append_inj' h rfl).2
  simp only [List.cons.injEq, and_true] at h2
  subst h2
  exact ⟨rfl, rfl, hs⟩

/-- Lines that lie in a block that is known. -/
structure TapW (w : World) (B : Nat) (v : Value) (L : List ByteArray) : Prop where
  arg : ArgW 1 encS w v L
  blk : ∀ b o n c, v = .slice (some ⟨b, o, none⟩) n c → b = B
theorem TapW.bel {w w' : World} {B : Nat} {v : Value} {L : List ByteArray} (h : TapW w B v L) (hb : Below w.heap.size w w') : TapW w' B v L := ⟨h.arg.bel hb, h.blk⟩
theorem TapW.touch {w w' : World} {B : Nat} {v : Value} {L : List ByteArray} {T : Nat → Prop} (h : TapW w B v L) (ht : Touch T w w') (hn : ¬ T B) : TapW w' B v L := by
  refine ⟨?_, h.blk⟩
  rcases h.arg with h0 | ⟨ad, c, h1, h2, h3, h4⟩
  · exact Or.inl h0
  · refine Or.inr ⟨ad, c, h1, h2, h3, fun hl => ?_⟩
    obtain ⟨b, o, rfl, hB⟩ := h4 hl
    have := h.blk b o _ _ h1
    subst this
    exact ⟨b, o, rfl, hB.touch ht hn⟩
theorem asmEvery_any (ao : Option Addr) (n c : Nat) (w : World) : Calls Tryz.prog 82 #[.slice ao n c] w fun e w' =>
    e = .returned (.func (.func 140) #[] #[.pointer (some ⟨w.heap.size, 0, none⟩)]) ∧ w' = w.alloc (.cells #[.slice ao n c] 67) := by
  go_enter Tryz.func82, Tryz.ntmps82
  go_wp2
  go_ret
  exact ⟨rfl, rfl⟩

theorem round_wide {n : Nat} {P : Program} {l : Nat} {f : FuncId} {tmps : Array Value} {assign body : Code} {w : World} {R : Ending → World → Prop} (l2 m : Nat) (h : RoundIn Fence.wide n P l f tmps assign body w R) : RoundIn (Fence.wide.inRound l2) m P l f tmps assign body w R :=
  ⟨h.1, fun c cs hr => h.2 c cs (room_wide _)⟩
attribute [local go_sem] Oper.semAt_some

set_option maxRecDepth 100000 in
set_option maxHeartbeats 2000000 in
theorem asmEvery_in (n Bc Bb : Nat) (hn : 1 ≤ n) (v : Value) (L : List ByteArray) (hl : L.length ≤ 1000000) :
    SeqB Fence.wide n Tryz.prog 140 #[.pointer (some ⟨Bc, 0, none⟩)] lnAt (fun k => k = Bc ∨ k = Bb) (fun _ => False)
      (fun xs => xs = numT L L.length) (fun pre => ∃ j, 1 ≤ j ∧ j ≤ L.length ∧ pre = numT L j) L.length
      (fun W => W.cell? ⟨Bc, 0, none⟩ = some v ∧ TapW W Bb v L ∧ Bb < W.heap.size) := by
  rintro lp J Jx W ⟨c0, hv, hBb⟩ hJ hJx hY hj0
  obtain ⟨av, cv, rfl⟩ := hv.arg.form
  have HY := Lib.hid hY
  have HJ := Lib.hid hJ
  have HV := Lib.hid hv
  clear hY hJ hJx hv
  simp only [List.append_toArray, List.cons_append, List.nil_append]
  refine callsIn_of_wp Tryz.func140 rfl trivial ?_ rfl
  simp only [Tryz.ntmps140, List.size_toArray, List.length_cons, List.length_nil, Nat.reduceAdd, Nat.reduceSub, Array.replicate_succ, Array.replicate_zero, List.push_toArray, List.append_toArray, List.nil_append, List.cons_append]
  gi_wp2
  gi_loopw [7] (fun vi wr => ∃ k : Nat, vi = .int .i64 k ∧ k ≤ L.length ∧ Hid (TapW wr Bb (.slice av L.length cv) L) ∧ W.heap.size ≤ wr.heap.size ∧ Hid (J (numT L k) wr)) (fun vi _ => L.length - (intOf vi).toNat)
  case atStart => exact ⟨0, rfl, by omega, HV, Nat.le_refl _, Lib.hid hj0⟩
  case round =>
    clear hj0 c0 HV
    obtain ⟨k, rfl, hk, HT, hsz, HJr⟩ := hrel
    by_cases hlt : k < L.length
    · obtain ⟨s, hs⟩ : ∃ s, L[k]? = some s := ⟨L[k], List.getElem?_eq_getElem hlt⟩
      obtain ⟨b, o, c', hv, -, hH⟩ := HT.out.arg.at_ hs
      simp only [Value.slice.injEq, true_and] at hv
      obtain ⟨rfl, rfl⟩ := hv
      have x0 := hH k 0 _ _ hs rfl
      simp only [Nat.add_zero, Nat.mul_one] at x0
      have HNs := Lib.hid (numT_succ L k s hs)
      obtain ⟨fn, tmps, assign, body, hy, hR⟩ := HY.out (numT L k) (k, s) wr HJr.out hsz (by rw [numT_length]; exact hlt) ⟨k + 1, by omega, hlt, HNs.out.symm⟩
      dsimp only [lnAt] at hy
      rw [← HNs.out] at hR
      clear hH hs
      gi_wp2
      refine hR.mono ?_
      rintro e W' ⟨⟨rfl, hj'⟩ | ⟨rfl, hjx⟩, ht⟩
      · have HT2 := Lib.hid (HT.out.touch ht (fun h => h.2 (Or.inr rfl)))
        have hsz2 : W.heap.size ≤ W'.heap.size := Nat.le_trans hsz ht.size
        have HJ2 := Lib.hid hj'
        clear hj' ht hR hy x0 HT HJr
        gi_wp2
        exact ⟨⟨k + 1, by go_num, by omega, HT2, hsz2, HJ2⟩, by simp [intOf]; omega⟩
      · gi_wp2
        refine bodyPost_ret (results_none rfl _ _ _) rfl ?_
        exact ⟨⟨_, rfl⟩, .inr ⟨_, ⟨k + 1, by omega, hlt, rfl⟩, hjx⟩⟩
    · have hk2 : k = L.length := by omega
      subst hk2
      gi_wp2
      go_end0
      exact ⟨⟨_, rfl⟩, .inl ⟨_, rfl, HJr.out⟩⟩

set_option maxRecDepth 100000 in
set_option maxHeartbeats 2000000 in
/-- Lines' closure. -/
theorem asmLines_in (n Bo Bb : Nat) (hn : 9 ≤ n) (v : Value) (L : List ByteArray) (hl : L.length ≤ 1000000) :
    SeqB Fence.wide n Tryz.prog 81 #[.pointer (some ⟨Bo, 0, none⟩)] lnAt (fun k => k = Bo ∨ k = Bb) (fun _ => False)
      (fun xs => xs = numT L L.length) (fun pre => ∃ j, 1 ≤ j ∧ j ≤ L.length ∧ pre = numT L j) L.length
      (fun W => W.cell? ⟨Bo, 0, none⟩ = some v ∧ TapW W Bb v L ∧ Bb < W.heap.size) := by
  rintro lp J Jx W ⟨ci, hv, hBb⟩ hJ hJx hY hj0
  obtain ⟨ao, cp, rfl⟩ := hv.arg.form
  simp only [List.append_toArray, List.cons_append, List.nil_append]
  refine callsIn_of_wp_marks Tryz.func81 rfl trivial ?_ rfl
  simp only [Tryz.ntmps81, List.size_toArray, List.length_cons, List.length_nil, Nat.reduceAdd, Nat.reduceSub, Array.replicate_succ, Array.replicate_zero, List.push_toArray, List.append_toArray, List.nil_append, List.cons_append]
  refine wpIn_wide.2 ?_
  have ci := cell_al ci (.cells #[.func (.yield lp) #[] #[]] 137)
  have cy := cell_new W #[.func (.yield lp) #[] #[]] 137 0
  have hv1 := hv.bel (bel1 (.cells #[.func (.yield lp) #[] #[]] 137))
  have hlo : Bo < W.heap.size := by have := lt_of_cell ‹W.cell? ⟨Bo, 0, none⟩ = some (.slice ao L.length cp)›; exact this
  go_wp2
  refine wp_scope_straight ?_
  go_wp2
  refine wp_label ?_
  go_wp2_with (go_at_call 82; refine (asmEvery_any ao L.length cp _).mono ?_; rintro e w1 ⟨rfl, rfl⟩)
  refine (wpIn_wide (n := n)).1 ?_
  have cy := cell_al cy (.cells #[.slice ao L.length cp] 67)
  have e0 := cell_two W (.cells #[.func (.yield lp) #[] #[]] 137) #[.slice ao L.length cp] 67 0
  have hv2 := hv1.bel (bel1 (.cells #[.slice ao L.length cp] 67))
  have hBU : Below W.heap.size W ((W.alloc (.cells #[.func (.yield lp) #[] #[]] 137)).alloc (.cells #[.slice ao L.length cp] 67)) := belA (bel1 _) _
  have hsU : ((W.alloc (.cells #[.func (.yield lp) #[] #[]] 137)).alloc (.cells #[.slice ao L.length cp] 67)).heap.size = W.heap.size + 2 := by simp
  refine wpIn_rangeT rfl (by omega) (gf := 140) (lb := #[.pointer (some ⟨W.heap.size + 1, 0, none⟩)]) (by simp [go_sem]) trivial (enters_of Tryz.func140 (by kernel_rfl) rfl)
    (asmEvery_in (n - 1) (W.heap.size + 1) Bb (by omega) (.slice ao L.length cp) L hl) (fun W' hb => ⟨cell_bel e0 hb, hv2.bel hb, Nat.lt_of_lt_of_le (by omega) hb.size⟩) (fun _ => rfl)
    (fun k => k < W.heap.size ∧ ¬ (k = Bo ∨ k = Bb)) (fun k h => ⟨by omega, fun h' => by omega⟩) (fun k h => by omega) (fun k h => h.elim)
    (fun pre W' => J pre W' ∧ W'.cell? ⟨W.heap.size, 0, none⟩ = some (.func (.yield lp) #[] #[]) ∧ W.heap.size ≤ W'.heap.size) (fun c pre W' => c = .exit 0 ∧ Jx pre W') ?hI ?hIx ?h0 ?hround ?hdone ?hstop
  case hI =>
    rintro s A B ⟨hj, hc, hz⟩ hb
    exact ⟨hJ _ _ _ hj (hb.mono (by omega) (fun k hk hx => hx)), cell_belX hc hb (by omega) (fun h => h), Nat.le_trans hz hb.1.size⟩
  case hIx =>
    rintro c s A B ⟨rfl, hj⟩ hb
    exact ⟨rfl, hJx _ _ _ hj (hb.mono (by omega) (fun k hk hx => hx))⟩
  case h0 => exact ⟨hJ _ _ _ hj0 (BelX.of_below hBU), cy, hBU.size⟩
  case hround =>
    rintro l2 pre x W2 ⟨hj, hc, hz⟩ hlt hlen hsp
    gi_wp2
    refine ⟨Touch.refl _ _, fun W3 hb3 ht3 => ?_⟩
    have hbx : Below (W.heap.size + 2) W2 W3 := hb3.mono (by omega)
    have hj3 := hJ _ _ _ hj (BelX.of_below (hbx.mono (by omega)))
    have hc3 := cell_belB hc hbx (by omega)
    have hz3 : W.heap.size ≤ W3.heap.size := Nat.le_trans hz hbx.size
    obtain ⟨fn, tmps, assign, body, hy, hR⟩ := hY pre x W3 hj3 hz3 hlen hsp
    dsimp only [lnAt] at hy
    clear hY
    gi_wp2
    refine ⟨fun h => (by cases h), ?_⟩
    refine (round_wide l2 (n - 1 - 1 - 1) hR).mono ?_
    rintro e W4 ⟨⟨rfl, hj4⟩ | ⟨rfl, hj4⟩, ht4⟩
    · have hc4 := cell_touch hc3 ht4 (by omega)
      gi_wp2
      exact ⟨ht4, hj4, hc4, Nat.le_trans hz3 ht4.size⟩
    · gi_wp2
      exact ⟨ht4, rfl, hj4⟩
  case hdone =>
    rintro D xs W' hD hS ⟨hj, _, hz⟩ hK
    go_wp2
    rw [Exit.noGoto_normal]
    refine ⟨by simp, .inl ⟨_, _, rfl, run_takeDeferred hK, ?_⟩⟩
    exact ⟨_, results_none rfl _ _ _, ⟨_, rfl⟩, .inl ⟨xs, hS, hJ _ _ _ hj (.of_below (below_put _ _ _ (by omega) (by omega)))⟩⟩
  case hstop =>
    rintro D c pre W' hD hSp ⟨rfl, hj⟩ hK
    have hDs : D < W'.heap.size := (Array.getElem?_eq_some_iff.1 hK).1
    refine wpIn_wide.2 ?_
    go_wp2
    rw [Exit.noGoto_normal]
    refine ⟨by simp, .inl ⟨_, _, rfl, run_takeDeferred hK, ?_⟩⟩
    exact ⟨_, results_none rfl _ _ _, ⟨_, rfl⟩, .inr ⟨pre, hSp, hJx _ _ _ hj (.of_below (below_put _ _ _ (by omega) (by omega)))⟩⟩

/-- The lines that Lines goes over. -/
noncomputable def lnsP (P : ProgM) : List ByteArray := if rightP P = true then linesF P else []
/-- What Lines tells. -/
def LinesQ (P : ProgM) (w : World) (e : Ending) (w' : World) : Prop := ∃ v Bo Bb, e = .returned (.func (.func 81) #[] #[.pointer (some ⟨Bo, 0, none⟩)]) ∧ w'.cell? ⟨Bo, 0, none⟩ = some v ∧ TapW w' Bb v (lnsP P) ∧ w.heap.size ≤ Bo ∧ w.heap.size ≤ Bb ∧ Bb < w'.heap.size ∧ Below w.heap.size w w'

set_option maxRecDepth 100000 in
set_option maxHeartbeats 2000000 in
theorem asmLines_any (P : ProgM) (hP : P.Fits) (hl0 : P.funcs.length ≤ 100000) (v : Value) (w : World) (hE : Env w) (h : ArgP w v P) : Calls Tryz.prog 36 #[v] w (LinesQ P w) := by
  have CC := Lib.hid fun v W h => pgCheck_any P hP hl0 v W h
  obtain ⟨vf, rfl, hF⟩ := h
  have hb1 := bel1 (W := w.alloc (.cells #[vf, .int .i64 P.mu, .int .i64 P.rw, .int .i64 P.gr] 58)) (.cells #[.slice none 0 0] 67)
  have HPG := Lib.hid ((PrgB.new w 58 hF).bel hb1)
  have c0 := cell_two w (.cells #[vf, .int .i64 P.mu, .int .i64 P.rw, .int .i64 P.gr] 58) #[.slice none 0 0] 67 0
  have f0 := froz_two w (.cells #[vf, .int .i64 P.mu, .int .i64 P.rw, .int .i64 P.gr] 58) #[.slice none 0 0] 67 0
  have HC0 := Lib.hid c0
  have HF0 := Lib.hid f0
  have HB := Lib.hid (belA (bel1 (W := w) (.cells #[vf, .int .i64 P.mu, .int .i64 P.rw, .int .i64 P.gr] 58)) (.cells #[.slice none 0 0] 67))
  have HE := Lib.hid hE
  unfold checkP at CC
  clear hb1 c0 f0 hF hE
  cases hR : rightP P with
  | false =>
    rw [hR, if_neg (by decide)] at CC
    have HLn := Lib.hid (show lnsP P = [] by unfold lnsP; rw [hR]; rfl)
    clear hR
    go_enter Tryz.func36, Tryz.ntmps36
    go_wp2_with fail
    generalize World.alloc (World.alloc _ _) _ = V at HPG HC0 HF0 HB ⊢
    obtain ⟨a0, a1, a2, a3, -⟩ := HPG.out
    go_wp2_with fail
    refine (CC.out _ V HPG.out.arg).mono ?_
    rintro e w1 ⟨rfl, hb1⟩
    go_wp2_with fail
    go_ret
    have hc := cell_bel HC0.out hb1
    exact ⟨_, w.heap.size + 1, w.heap.size + 1, rfl, hc, ⟨Or.inl ⟨rfl, HLn.out⟩, fun b o n c h => by cases h⟩, by omega, by omega, lt_of_cell hc, belT HB.out hb1⟩
  | true =>
    rw [hR, if_pos rfl] at CC
    have HLn := Lib.hid (show lnsP P = linesF P by unfold lnsP; rw [hR]; rfl)
    have CA := Lib.hid fun v W hE h => asmAll_any P hP hR v W hE h
    clear hR
    go_enter Tryz.func36, Tryz.ntmps36
    go_wp2_with fail
    generalize World.alloc (World.alloc _ _) _ = V at HPG HC0 HF0 HB ⊢
    obtain ⟨a0, a1, a2, a3, -⟩ := HPG.out
    go_wp2_with fail
    refine (CC.out _ V HPG.out.arg).mono ?_
    rintro e w1 ⟨rfl, hb1⟩
    have HPG := Lib.hid (HPG.out.bel hb1)
    have HB1 := Lib.hid (belT HB.out hb1)
    have HF0 := Lib.hid (froz_bel HC0.out HF0.out hb1)
    have HC0 := Lib.hid (cell_bel HC0.out hb1)
    clear hb1 a0 a1 a2 a3
    obtain ⟨a0, a1, a2, a3, -⟩ := HPG.out
    go_wp2_with fail
    refine (CA.out _ w1 (HE.out.on HB1.out) HPG.out.arg).mono ?_
    rintro e w2 ⟨v', rfl, ho, hb2⟩
    obtain ⟨al, cl, rfl⟩ := ho.form
    have c2 := cell_bel HC0.out hb2
    have f2 := froz_bel HC0.out HF0.out hb2
    have HB2 := Lib.hid (belT HB1.out hb2)
    have HO := Lib.hid ho
    have HZ := Lib.hid (show w1.heap.size ≤ w2.heap.size from hb2.size)
    clear hb2 a0 a1 a2 a3 ho
    go_wp2_with fail
    go_ret
    obtain ⟨g, cap, hv, hg1, -, -, hg4⟩ := HO.out.slice (by unfold linesF headLines; simp)
    simp only [Value.slice.injEq, true_and] at hv
    obtain ⟨rfl, rfl⟩ := hv
    have hlt := lt_of_cell HC0.out
    have hT : TapW w2 g (.slice (some ⟨g, 0, none⟩) (linesF P).length cl) (linesF P) := ⟨HO.out.arg rowS.len, fun b o n c hv => by simp only [Value.slice.injEq, Option.some.injEq, Addr.mk.injEq] at hv; exact hv.1.1.symm⟩
    have hT2 := hT.touch (T := fun b => b = w.heap.size + 1) (Touch.setCell w2 ⟨w.heap.size + 1, 0, none⟩ (.slice (some ⟨g, 0, none⟩) (linesF P).length cl) rfl) (by omega)
    rw [← HLn.out] at hT2
    refine ⟨_, w.heap.size + 1, g, rfl, World.cell?_setCell_same _ _ _ c2, ?_, by omega, by omega, by simpa using hg4, HB2.out.setCell (p := ⟨w.heap.size + 1, 0, none⟩) (by simp) _⟩
    rw [← HLn.out]
    exact hT2
end Go.Proofs.YtfnfcngkaepnjaaGreatDoor
