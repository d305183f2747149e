/- Joined texts: Package asm: the reader's line, of an instruction.; Package asm: lines' meaning, plain; the line of a place. -/
import Derived.Test.YtfnfcngkaepnjaaGreatDoorQL36
/- Package asm: the reader's line, of an instruction. -/
namespace Go.Proofs.YtfnfcngkaepnjaaGreatDoor
set_option linter.unusedVariables false
set_option linter.unusedSimpArgs false
open Go Go.Proofs Go.RowKit Go.Sort

theorem map_set {α β : Type} (f : α → β) (l : List α) (k : Nat) (x : α) : (l.set k x).map f = (l.map f).set k (f x) := by
  induction l generalizing k with
  | nil => rfl
  | cons y l ih => cases k <;> simp [ih]
theorem pushF_map {Q : List QFn} {F : List FnM} (h : Q.map QFn.f = F) {n : Nat} (hl : Q.length = n + 1) {q q' : QFn} (hq : Q[n]? = some q) {x : InsM} (hq' : q'.f = ⟨q.f.regs, q.f.code ++ [x]⟩) : (Q.set n q').map QFn.f = pushF F x := by
  subst h
  unfold pushF
  rw [List.length_map, hl, Nat.add_sub_cancel, List.getElem?_map, hq, Option.map_some, map_set, hq']

set_option maxRecDepth 100000 in
set_option maxHeartbeats 4000000 in
theorem line_ins (B R k : Nat) (hk : 3 ≤ k) (hk2 : k ≤ 1000000) (s : ByteArray) (hs : s.size < 4294967281) (hp : isFn s = false) (Q : List QFn) (hQl : Q.length ≤ 1000000) (hQc : ∀ q ∈ Q, q.f.code.length ≤ 1000000) (vf : Value) (P : ProgM) (w : World) (hE : EnvM w) (hQ : Q.map QFn.f = P.funcs) (h : RdB B R Q vf P.mu P.rw P.gr w) :
    Calls Tryz.prog 67 #[.pointer (some ⟨R, 0, none⟩), .int .i64 k, .string s] w (LineQ B R k s P w) := by
  have hst : stepO k s P = if P.funcs.length = 0 then none else (insO s).map fun x => { P with funcs := pushF P.funcs x } := by
    match k, hk with
    | k + 3, _ => unfold stepO; simp only [hp, if_false, Bool.false_eq_true]
  have hQP : P.funcs.length = Q.length := by rw [← hQ, List.length_map]
  have HST := Lib.hid hst
  have HQ := Lib.hid hQ
  have HS := Lib.hid hs
  have H := Lib.hid h
  have HE := Lib.hid hE
  have HQL := Lib.hid hQl
  have HQC := Lib.hid hQc
  have HQP := Lib.hid hQP
  have hpre := Tryz.strings_HasPrefix s ⟨#[102, 117, 110, 99, 32]⟩
  rw [show Lib.hasPrefix s.data.toList (⟨#[102, 117, 110, 99, 32]⟩ : ByteArray).data.toList = false from hp] at hpre
  have HP := Lib.hid hpre
  have hk3 : decide ((k : Int) < 3) = false := decide_eq_false (by omega)
  clear h hE hs hQ hp hst hpre hQl hk hk2 hQc hQP
  go_enter Tryz.func67, Tryz.ntmps67
  go_wp2_with fail
  have hbs := bel1 (W := w) (.cells #[.string s] 9)
  have s0 := cell_new w #[.string s] 9 0
  refine (heads_any _).mono ?_
  rintro e w1 ⟨rfl, hb1⟩
  have s1 : (w1.alloc (.cells headsC 197)).cell? ⟨w.heap.size, 0, none⟩ = some (.string s) := cell_al (cell_bel s0 hb1) _
  have hB1 := belA (belT hbs hb1) (.cells headsC 197)
  obtain ⟨av, cv, rfl⟩ := H.out.fns.form
  have c0 : (w1.alloc (.cells headsC 197)).cell? ⟨R, 0, none⟩ = some (.slice av Q.length cv) := cell_bel H.out.c0 hB1
  have HB := Lib.hid hB1
  clear hbs s0 hb1 hB1
  unfold headsV
  go_wp2_with fail
  refine (HP.out _).mono ?_
  rintro e w2 ⟨rfl, rfl⟩
  by_cases hn0 : Q.length = 0
  · have e0 : decide (0 < Q.length) = false := decide_eq_false (by omega)
    have HN := Lib.hid hn0
    clear hn0
    go_wp2_with (go_at_call 68; refine (asmMust_no _ _).mono ?_; rintro e w3 ⟨rfl, rfl⟩)
    refine ⟨rfl, ?_, HB.out.mono (Nat.le_of_lt (lt_of_cell H.out.c0))⟩
    rw [HST.out, HQP.out, if_pos HN.out]
  have hnn : P.funcs.length ≠ 0 := by rw [HQP.out]; exact hn0
  have HST := Lib.hid (show stepO k s P = (insO s).map fun x => { P with funcs := pushF P.funcs x } by rw [HST.out, if_neg hnn])
  have e0 : decide (0 < Q.length) = true := decide_eq_true (by omega)
  obtain ⟨n, hn⟩ : ∃ n, Q.length = n + 1 := ⟨Q.length - 1, by omega⟩
  have HNl := Lib.hid hn
  have HNI := Lib.hid (show (Q.length : Int) = (n : Int) + 1 by omega)
  have hnb : (n : Int) ≤ 1000000 := by have := HQL.out; omega
  obtain ⟨bF, cap, hv, -, -, -, -⟩ := H.out.fns.row.own.slice (by omega)
  simp only [Value.slice.injEq, true_and] at hv
  obtain ⟨rfl, rfl⟩ := hv
  clear hn0 hnn hn
  go_wp2_with (go_at_call 68; refine (asmMust_yes _ _).mono ?_; rintro e w3 ⟨rfl, rfl⟩)
  refine (asmReadIns_any k w.heap.size s HS.out _ (HE.out.on HB.out) s1).mono ?_
  rintro e w3 ⟨hi, hb3⟩
  have hB3 := belT HB.out hb3
  rcases hi with ⟨op, a, b, c, m, hi, rfl⟩ | ⟨hi, rfl⟩
  rotate_left
  · have HN := Lib.hid (insO_no hi)
    clear hi
    go_wp2_with fail
    refine ⟨rfl, ?_, hB3.mono (Nat.le_of_lt (lt_of_cell H.out.c0))⟩
    rw [HST.out, HN.out]
    rfl
  have HN := Lib.hid (show insO s = some ⟨op, a, b, c, m⟩ from insO_yes (x := ⟨op, a, b, c, m⟩) hi)
  have hB4 := belA hB3 (.cells #[.int .i64 op, .int .i64 a, .int .i64 b, .int .i64 c, .int .u32 m] 29)
  have HWL := Lib.hid hB3.size
  have HR4 := Lib.hid (H.out.bel hB4)
  have c0 := HR4.out.c0
  have HI := Lib.hid (Bare.new op a b c m w3 29)
  have HB4 := Lib.hid hB4
  have q0 : (0 : Int) ≤ (Q.length : Int) - 1 := by have := HNI.out; omega
  have q1 : (Q.length : Int) - 1 < (Q.length : Int) := by omega
  have q2 : ((Q.length : Int) - 1).toNat = n := by have := HNI.out; omega
  have q3 : IntKind.i64.wrap ((Q.length : Int) - 1) = (Q.length : Int) - 1 := by rw [IntKind.wrap_i64]; have := HQL.out; omega
  clear hi hB3 hb3 hB4 s1 hnb HB
  go_wp2_with fail
  go_quiet (fail)
  clear q0 q1 q2 q3 c0
  obtain ⟨q, hq⟩ : ∃ q, Q[n]? = some q := ⟨Q[n]'(by have := HNl.out; omega), List.getElem?_eq_getElem _⟩
  have hbd := bel_drewN (w3.alloc (.cells #[.int .i64 op, .int .i64 a, .int .i64 b, .int .i64 c, .int .u32 m] 29)) nq
  have hbe := hbd.drew
  have HR5 := Lib.hid (HR4.out.bel hbe)
  have HB5 := Lib.hid (belT HB4.out hbe)
  have k1 := OwnW.cell (enc := encQ) (fun _ => rfl) HR5.out.fns.row.own n 1 q q.v hq rfl
  obtain ⟨i0, i1, i2, i3, i4, -, -, -, -⟩ := HI.out.bel hbe
  have HLT := Lib.hid (show ∀ g, q.v.ownBlock = some g → g < w.heap.size from fun g hg => ((H.out.fns.code n q hq).lt g hg).2)
  have hwl : w.heap.size ≤ w3.heap.size := HWL.out
  clear hbd hbe HI HR4 HB4
  go_wp2_with fail
  refine wp_region_R (S := fun W => W.cell? ⟨bF, n * 2 + 1, none⟩ = some q.v ∧ W.cell? ⟨w3.heap.size, 0, none⟩ = some (.int .i64 op) ∧ W.cell? ⟨w3.heap.size, 1, none⟩ = some (.int .i64 a) ∧ W.cell? ⟨w3.heap.size, 2, none⟩ = some (.int .i64 b) ∧ W.cell? ⟨w3.heap.size, 3, none⟩ = some (.int .i64 c) ∧ W.cell? ⟨w3.heap.size, 4, none⟩ = some (.int .u32 m)) 8 (by kernel_rfl) (by simp) ⟨k1, i0, i1, i2, i3, i4⟩ (fun hHeld => ?_)
  clear k1 i0 i1 i2 i3 i4
  generalize (World.drewN _ _).drew = V0 at HR5 HB5 hHeld ⊢
  refine anyR_take (i := 0) (v := ?_) rfl (by kernel_rfl) (by kernel_rfl) (by kernel_rfl) (fun _ _ _ h => h) (Or.inl ⟨by rfl, ?_⟩) (by assumption) ?_
  rotate_left
  · (intro w hSw; (try dsimp only at hSw); go_simp)
    all_goals with_reducible rfl
  try simp only [Act.put, List.getElem_toArray, List.getElem_cons_succ, List.getElem_cons_zero, List.setIfInBounds_toArray, List.set_cons_zero, List.set_cons_succ]
  refine anyR_take (i := 1) (v := ?_) rfl (by kernel_rfl) (by kernel_rfl) (by kernel_rfl) (fun _ _ _ h => h) (Or.inl ⟨by rfl, ?_⟩) (by assumption) ?_
  rotate_left
  · (intro w hSw; (try dsimp only at hSw); go_simp)
    all_goals with_reducible rfl
  try simp only [Act.put, List.getElem_toArray, List.getElem_cons_succ, List.getElem_cons_zero, List.setIfInBounds_toArray, List.set_cons_zero, List.set_cons_succ]
  refine anyR_take (i := 2) (v := ?_) rfl (by kernel_rfl) (by kernel_rfl) (by kernel_rfl) (fun _ _ _ h => h) (Or.inl ⟨by rfl, ?_⟩) (by assumption) ?_
  rotate_left
  · (intro w hSw; (try dsimp only at hSw); go_simp)
    all_goals with_reducible rfl
  try simp only [Act.put, List.getElem_toArray, List.getElem_cons_succ, List.getElem_cons_zero, List.setIfInBounds_toArray, List.set_cons_zero, List.set_cons_succ]
  refine anyR_take (i := 3) (v := ?_) rfl (by kernel_rfl) (by kernel_rfl) (by kernel_rfl) (fun _ _ _ h => h) (Or.inl ⟨by rfl, ?_⟩) (by assumption) ?_
  rotate_left
  · (intro w hSw; (try dsimp only at hSw); go_simp)
    all_goals with_reducible rfl
  try simp only [Act.put, List.getElem_toArray, List.getElem_cons_succ, List.getElem_cons_zero, List.setIfInBounds_toArray, List.set_cons_zero, List.set_cons_succ]
  refine anyR_take (i := 4) (v := ?_) rfl (by kernel_rfl) (by kernel_rfl) (by kernel_rfl) (fun _ _ _ h => h) (Or.inl ⟨by rfl, ?_⟩) (by assumption) ?_
  rotate_left
  · (intro w hSw; (try dsimp only at hSw); go_simp)
    all_goals with_reducible rfl
  try simp only [Act.put, List.getElem_toArray, List.getElem_cons_succ, List.getElem_cons_zero, List.setIfInBounds_toArray, List.set_cons_zero, List.set_cons_succ]
  refine anyR_take (i := 5) (v := ?_) rfl (by kernel_rfl) (by kernel_rfl) (by kernel_rfl) (fun _ _ _ h => h) (Or.inl ⟨by rfl, ?_⟩) (by assumption) ?_
  rotate_left
  · (intro w hSw; (try dsimp only at hSw); go_simp)
    all_goals with_reducible rfl
  try simp only [Act.put, List.getElem_toArray, List.getElem_cons_succ, List.getElem_cons_zero, List.setIfInBounds_toArray, List.set_cons_zero, List.set_cons_succ]
  refine anyR_ready (rs := [6]) (by kernel_rfl) (by simp) (by decide) ?_
  refine AllReadyR.cons rfl (fun K hK => ?_) AllReadyR.nil
  go_simp
  have hB6 := belA HB5.out (.cells #[.int .i64 op, .int .i64 a, .int .i64 b, .int .i64 c, .int .u32 m] 29)
  have hx6 : ∀ j u, (encN ⟨op, a, b, c, m⟩)[j]? = some u → (V0.alloc (.cells #[.int .i64 op, .int .i64 a, .int .i64 b, .int .i64 c, .int .u32 m] 29)).cell? ⟨V0.heap.size, j, none⟩ = some u := fun j u hj => (cell_new V0 _ _ j).trans (by simpa using hj)
  have HR6 := Lib.hid (HR5.out.bel (bel1 (.cells #[.int .i64 op, .int .i64 a, .int .i64 b, .int .i64 c, .int .u32 m] 29)))
  refine hK.out _ _ ?_ (fun hHeld => ?_)
  · obtain ⟨h0, h1, h2, h3, h4, h5⟩ := hHeld
    exact ⟨cell_al h0 _, cell_al h1 _, cell_al h2 _, cell_al h3 _, cell_al h4 _, cell_al h5 _⟩
  clear hK K
  try simp only [Act.put, List.getElem_toArray, List.getElem_cons_succ, List.getElem_cons_zero, List.setIfInBounds_toArray, List.set_cons_zero, List.set_cons_succ]
  refine anyR_ready (rs := [7]) (by kernel_rfl) (by simp) (by decide) ?_
  refine AllReadyR.cons rfl (fun K hK => ?_) AllReadyR.nil
  obtain ⟨v', w7, q', r1, hv7, hq7, k7, f7, hF7, hb7, hBF, ht7⟩ := HR6.out.fns.push n hq ⟨op, a, b, c, m⟩ 25 V0.heap.size 1 hx6 (HQC.out q (List.mem_of_getElem? hq)) HR6.out.hB
  refine step_append_run rfl _ _ rfl rfl rfl r1 ?_
  refine hK.out _ _ ?_ (fun hHeld => ?_)
  · obtain ⟨h0, h1, h2, h3, h4, h5⟩ := hHeld
    have hn7 : ¬ some w3.heap.size = q.v.ownBlock := fun hh => by have := HLT.out _ hh.symm; omega
    exact ⟨k7, cell_touch h1 ht7 hn7, cell_touch h2 ht7 hn7, cell_touch h3 ht7 hn7, cell_touch h4 ht7 hn7, cell_touch h5 ht7 hn7⟩
  clear hK K
  try simp only [Act.put, List.getElem_toArray, List.getElem_cons_succ, List.getElem_cons_zero, List.setIfInBounds_toArray, List.set_cons_zero, List.set_cons_succ]
  have HF7 := Lib.hid hF7
  have HB6 := Lib.hid hB6
  have HB7 := Lib.hid hb7
  have HQ7 := Lib.hid hq7
  have HQN := Lib.hid hq
  subst hv7
  clear r1 hF7 hb7 ht7 hx6 hB6 hHeld hq7 hq
  refine anyR_end (by kernel_rfl) ?_
  refine wpAny_ready (rs := [8]) (by kernel_rfl) (by simp) ?_
  refine AllReady.cons rfl (fun K hK => ?_) AllReady.nil
  go_simp
  refine hK _ _ ?_
  clear hK K
  try simp only [Act.put, List.getElem_toArray, List.getElem_cons_succ, List.getElem_cons_zero, List.setIfInBounds_toArray, List.set_cons_zero, List.set_cons_succ]
  refine wpAny_ready (rs := [9]) (by kernel_rfl) (by simp) ?_
  refine AllReady.cons rfl (fun K hK => ?_) AllReady.nil
  go_simp
  refine hK _ _ ?_
  clear hK K
  try simp only [Act.put, List.getElem_toArray, List.getElem_cons_succ, List.getElem_cons_zero, List.setIfInBounds_toArray, List.set_cons_zero, List.set_cons_succ]
  refine wpAny_ready (rs := [10]) (by kernel_rfl) (by simp) ?_
  refine AllReady.cons rfl (fun K hK => ?_) AllReady.nil
  go_simp
  refine hK _ _ ?_
  clear hK K
  try simp only [Act.put, List.getElem_toArray, List.getElem_cons_succ, List.getElem_cons_zero, List.setIfInBounds_toArray, List.set_cons_zero, List.set_cons_succ]
  refine wpAny_done (by kernel_rfl) ?_ _
  go_wp2_with fail
  go_end0
  have hBs := HB7.out.setCell (p := ⟨bF, n * 2 + 1, none⟩) hBF q'.v
  refine ⟨?_, (HB6.out.mono (Nat.le_of_lt (lt_of_cell H.out.c0))).trans (hBs.mono (Nat.le_of_lt H.out.hR))⟩
  rw [HST.out, HN.out]
  exact ⟨rfl, _, _, pushF_map HQ.out HNl.out HQN.out HQ7.out, HR6.out.grew hBs HF7.out⟩
end Go.Proofs.YtfnfcngkaepnjaaGreatDoor

/- Package asm: lines' meaning, plain; the line of a place. -/
namespace Go.Proofs.YtfnfcngkaepnjaaGreatDoor
set_option linter.unusedVariables false
set_option linter.unusedSimpArgs false
open Go Go.Proofs Go.RowKit Go.Sort

/-- What lines do, from line k on: a program, or the line at which it is given up. -/
noncomputable def linesO (k : Nat) : List ByteArray → ProgM → Except Nat ProgM
  | [], P => .ok P
  | s :: L, P => match stepO k s P with | some P' => linesO (k + 1) L P' | none => .error k
def zeroP : ProgM := ⟨[], 0, 0, 0⟩

/-- How big what was read is; its words are words. -/
structure Small (n : Nat) (P : ProgM) : Prop where
  len : P.funcs.length ≤ n
  code : ∀ f ∈ P.funcs, f.code.length ≤ n
  fits : P.Fits
theorem small_zero : Small 0 zeroP := ⟨by simp [zeroP], fun f h => by simp [zeroP] at h, ⟨fun f h => by simp [zeroP] at h⟩⟩
theorem insO_fits {s : ByteArray} {x : InsM} (h : insO s = some x) : 0 ≤ x.m ∧ x.m < 4294967296 := by
  unfold insO at h
  split at h
  · rename_i hex
    have h2 := hex.choose_spec
    rw [Option.some.inj h] at h2
    exact h2.imm
  · cases h
theorem pushF_mem {F : List FnM} {x : InsM} {f : FnM} (h : f ∈ pushF F x) : f ∈ F ∨ ∃ g ∈ F, f = ⟨g.regs, g.code ++ [x]⟩ := by
  unfold pushF at h
  split at h
  · rename_i g hg
    rcases List.mem_or_eq_of_mem_set h with h | h
    · exact Or.inl h
    · exact Or.inr ⟨g, List.mem_of_getElem? hg, h⟩
  · exact Or.inl h
theorem pushF_length (F : List FnM) (x : InsM) : (pushF F x).length = F.length := by
  unfold pushF
  split <;> simp
theorem stepO_small {k n : Nat} {s : ByteArray} {P P' : ProgM} (h : Small n P) (hs : stepO k s P = some P') : Small (n + 1) P' := by
  have hmore : ∀ f ∈ P.funcs, f.code.length ≤ n + 1 := fun f hf => Nat.le_succ_of_le (h.code f hf)
  match k, hs with
  | 0, hs =>
    simp only [stepO, Option.map_eq_some_iff] at hs
    obtain ⟨m, _, rfl⟩ := hs
    exact ⟨Nat.le_succ_of_le h.len, hmore, ⟨h.fits.imm⟩⟩
  | 1, hs =>
    simp only [stepO, Option.map_eq_some_iff] at hs
    obtain ⟨m, _, rfl⟩ := hs
    exact ⟨Nat.le_succ_of_le h.len, hmore, ⟨h.fits.imm⟩⟩
  | 2, hs =>
    simp only [stepO, Option.map_eq_some_iff] at hs
    obtain ⟨m, _, rfl⟩ := hs
    exact ⟨Nat.le_succ_of_le h.len, hmore, ⟨h.fits.imm⟩⟩
  | k + 3, hs =>
    simp only [stepO] at hs
    split at hs
    · rw [Option.map_eq_some_iff] at hs
      obtain ⟨m, _, rfl⟩ := hs
      refine ⟨by simp; exact h.len, fun f hf => ?_, ⟨fun f hf => ?_⟩⟩
      · rcases List.mem_append.1 hf with hf | hf
        · exact hmore f hf
        · simp at hf; subst hf; simp
      · rcases List.mem_append.1 hf with hf | hf
        · exact h.fits.imm f hf
        · simp at hf; subst hf; intro x hx; simp at hx
    · split at hs
      · cases hs
      · rw [Option.map_eq_some_iff] at hs
        obtain ⟨x, hx, rfl⟩ := hs
        refine ⟨by rw [pushF_length]; exact Nat.le_succ_of_le h.len, fun f hf => ?_, ⟨fun f hf => ?_⟩⟩
        · rcases pushF_mem hf with hf | ⟨g, hg, rfl⟩
          · exact hmore f hf
          · simp; exact h.code g hg
        · rcases pushF_mem hf with hf | ⟨g, hg, rfl⟩
          · exact h.fits.imm f hf
          · intro y hy
            rcases List.mem_append.1 hy with hy | hy
            · exact h.fits.imm g hg y hy
            · simp at hy; subst hy; exact insO_fits hx

/-- The line of a place. -/
def placeF (F : List FnM) (f pc : Nat) : Nat := 3 + ((F.take f).map fun fn => 1 + fn.code.length).sum + 1 + pc
theorem place_take (F : List FnM) (k : Nat) (f : FnM) (h : F[k]? = some f) : ((F.take (k + 1)).map fun fn => 1 + fn.code.length).sum = ((F.take k).map fun fn => 1 + fn.code.length).sum + (1 + f.code.length) := by
  obtain ⟨h1, h2⟩ := List.getElem?_eq_some_iff.1 h
  rw [← List.take_append_getElem h1, List.map_append, List.sum_append, h2]
  simp
theorem place_le {F : List FnM} {n : Nat} (h : ∀ f ∈ F, f.code.length ≤ n) (k : Nat) : ((F.take k).map fun fn => 1 + fn.code.length).sum ≤ (n + 1) * F.length := by
  have : ∀ G : List FnM, (∀ f ∈ G, f.code.length ≤ n) → (G.map fun fn => 1 + fn.code.length).sum ≤ (n + 1) * G.length := by
    intro G
    induction G with
    | nil => simp
    | cons g G ih =>
      intro hG
      have h1 := hG g (by simp)
      have h2 := ih (fun f hf => hG f (by simp [hf]))
      simp only [List.map_cons, List.sum_cons, List.length_cons, Nat.mul_succ]
      omega
  refine Nat.le_trans (this _ (fun f hf => h f (List.mem_of_mem_take hf))) (Nat.mul_le_mul_left _ ?_)
  rw [List.length_take]
  omega

theorem slice_fn (ad : Addr) (n c k : Nat) (hk : k ≤ n) (hc : n ≤ c) (w : World) : (Instr.slice 56 (.slice (some ad) n c) none (some (.int .i64 k)) none).run Tryz.prog w = .ok (.slice (some ad) k c) w := by
  obtain ⟨i0, hi0, hz0, hz1, hz2⟩ := info_of rowFn.hi
  have h2 : k ≤ c := by omega
  simp [Instr.slice, run_underlying Tryz.underlying56, Instr.sliceBounds, Instr.sliceBound, asIntOf, sizeOf, typeInfo, hi0, h2, Addr.add]

set_option maxRecDepth 100000 in
set_option maxHeartbeats 2000000 in
theorem asmPlace_any (P : ProgM) (f pc : Nat) (hf : f < P.funcs.length) (hl : P.funcs.length ≤ 100000) (hc : ∀ fn ∈ P.funcs, fn.code.length ≤ 1000000) (hpc : pc ≤ 1000000) (v : Value) (w : World) (h : ArgP w v P) :
    Calls Tryz.prog 70 #[v, .agg #[.int .i64 f, .int .i64 pc]] w fun e w' => e = .returned (.int .i64 (placeF P.funcs f pc)) ∧ Below w.heap.size w w' := by
  obtain ⟨vf, rfl, hF⟩ := h
  obtain ⟨F, mu, rw0, gr⟩ := P
  dsimp only at hf hl hc hF ⊢
  obtain ⟨b, o, c, -, rfl, hcc, -, -, -⟩ := hF.at_ (List.getElem?_eq_getElem hf)
  have HPL := Lib.hid (show ∀ k, ((F.take k).map fun fn => 1 + fn.code.length).sum ≤ 100000100000 from fun k => by have h1 := place_le hc k; omega)
  have HL := Lib.hid hl
  have HSL := Lib.hid (fun W => slice_fn ⟨b, o, none⟩ F.length c f (Nat.le_of_lt hf) hcc W)
  have HF := Lib.hid hF
  have hb1 := bel1 (W := w) (.cells #[.slice (some ⟨b, o, none⟩) F.length c, .int .i64 mu, .int .i64 rw0, .int .i64 gr] 58)
  have HB2 := Lib.hid (belA hb1 (.cells #[.int .i64 f, .int .i64 pc] 43))
  have q0 := cell_al (cell_new w #[.slice (some ⟨b, o, none⟩) F.length c, .int .i64 mu, .int .i64 rw0, .int .i64 gr] 58 0) (.cells #[.int .i64 f, .int .i64 pc] 43)
  have q1 := cell_two w (.cells #[.slice (some ⟨b, o, none⟩) F.length c, .int .i64 mu, .int .i64 rw0, .int .i64 gr] 58) #[.int .i64 f, .int .i64 pc] 43 0
  have q2 := cell_two w (.cells #[.slice (some ⟨b, o, none⟩) F.length c, .int .i64 mu, .int .i64 rw0, .int .i64 gr] 58) #[.int .i64 f, .int .i64 pc] 43 1
  have HC := Lib.hid hc
  have hsl := HSL.out
  clear hF hb1 hc hcc hl
  go_enter Tryz.func70, Tryz.ntmps70
  go_wp2_with fail
  refine (heads_any _).mono ?_
  rintro e w2 ⟨rfl, hb2⟩
  have q0 := cell_bel q0 hb2
  have q1 := cell_bel q1 hb2
  have Q2 := Lib.hid (cell_bel q2 hb2)
  have HB3 := Lib.hid (belT HB2.out hb2)
  clear hb2 HB2 q2
  go_wp2_with fail
  clear hsl q0 q1
  generalize hS : (fun k : Nat => ((F.take k).map fun fn => 1 + fn.code.length).sum) = S at HPL
  have HS0 := Lib.hid (show S 0 = 0 by rw [← hS]; simp)
  have HSt := Lib.hid (show ∀ k x, F[k]? = some x → S (k + 1) = S k + (1 + x.code.length) from fun k x hx => by rw [← hS]; exact place_take F k x hx)
  have HSf := Lib.hid (show placeF F f pc = 3 + S f + 1 + pc by rw [← hS]; rfl)
  have HPL := Lib.hid (show ∀ k, S k ≤ 100000100000 from fun k => by have := HPL.out k; rw [← hS]; exact this)
  clear hS
  go_loopw [5, 16] (fun vn vi wr => ∃ k : Nat, vi = .int .i64 k ∧ vn = .int .i64 (3 + (S k : Int)) ∧ k ≤ f ∧ Hid (Below w2.heap.size w2 wr)) (fun _ vi _ => f - (intOf vi).toNat)
  case atStart => exact ⟨0, rfl, by rw [HS0.out]; rfl, by omega, Lib.hid (Below.refl _ _)⟩
  case round =>
    obtain ⟨k, rfl, rfl, hk, HBr⟩ := hrel
    have s1 := HPL.out k
    have s2 := HPL.out (k + 1)
    have s3 := HL.out
    by_cases hlt : k < f
    · obtain ⟨x, hx⟩ : ∃ x, F[k]? = some x := ⟨F[k]'(by omega), List.getElem?_eq_getElem _⟩
      obtain ⟨b', o', c', vc, hv, -, x0, x1, hcd⟩ := (HF.out.bel (belT HB3.out HBr.out)).at_ hx
      simp only [Value.slice.injEq, Option.some.injEq, Addr.mk.injEq, true_and, and_true] at hv
      obtain ⟨⟨rfl, rfl⟩, rfl⟩ := hv
      obtain ⟨ac, cc, rfl⟩ := hcd.form
      have hst := HSt.out k x hx
      have HST := Lib.hid hst
      have HBn := Lib.hid (belA HBr.out (.cells #[.int .i64 x.regs, .slice ac x.code.length cc] 114))
      have hck := HC.out x (List.mem_of_getElem? hx)
      have m1 : IntKind.i64.wrap (1 + (x.code.length : Int)) = 1 + (x.code.length : Int) := by rw [IntKind.wrap_i64]; omega
      have m2 : IntKind.i64.wrap (3 + (S k : Int) + (1 + (x.code.length : Int))) = 3 + (S k : Int) + (1 + (x.code.length : Int)) := by rw [IntKind.wrap_i64]; omega
      clear hcd hx hst s1 s2
      go_wp2_with fail
      exact ⟨⟨k + 1, by go_num, by rw [HST.out]; congr 1; omega, by omega, HBn⟩, by simp [intOf]; omega⟩
    · have hk2 : k = f := by omega
      subst hk2
      have q2 := cell_bel Q2.out HBr.out
      have m1 : IntKind.i64.wrap (3 + (S k : Int) + 1) = 3 + (S k : Int) + 1 := by rw [IntKind.wrap_i64]; omega
      have m2 : IntKind.i64.wrap (3 + (S k : Int) + 1 + (pc : Int)) = 3 + (S k : Int) + 1 + (pc : Int) := by rw [IntKind.wrap_i64]; omega
      clear s1 s2 s3
      go_wp2_with fail
      go_ret
      exact ⟨by rw [HSf.out]; congr 3, belT HB3.out HBr.out⟩
end Go.Proofs.YtfnfcngkaepnjaaGreatDoor
