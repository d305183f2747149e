/- Joined texts: Package asm: the reader's line, that begins a function; an instruction's.; Package asm: the reader's line, of an instruction. -/
import Derived.Test.YtfnfcngkaepnjaaGreatDoorQZ33
/- Package asm: the reader's line, that begins a function; an instruction's. -/
namespace Go.Proofs.YtfnfcngkaepnjaaGreatDoor
set_option linter.unusedVariables false
set_option linter.unusedSimpArgs false
open Go Go.Proofs Go.RowKit Go.Sort

theorem step_append_run {t : TypeId} {v u v' : Value} {w w' : World} {ops : Array Oper} {o : Oper} {a : Act} {K : Act → World → Prop} {Q : Exit → Act → World → Prop} {E : Prop} (hgd : o.guard = none) (s x : Operand)
    (ho : o.op = .call { callee := .builtin .append, args := #[s, x], argTypes := #[t, t] })
    (hs : a.eval s = v) (hx : a.eval x = u) (hr : (Builtin.append_ #[t, t] o.type #[v, u]).run Tryz.prog w = .ok v' w') (h : K (a.put o.dst v') w') : if Region.wanted o (yielded ops a.tmps) = true then Oper.wp Tryz.prog o a w K Q else E := by
  have hw : Region.wanted o (yielded ops a.tmps) = true := by simp [Region.wanted, hgd]
  rw [if_pos hw]
  unfold Oper.wp
  simp [execOp, ho, resolve, invoke, builtin, hs, hx, hr, Result.andThen]
  exact h

theorem cell_below {B b o : Nat} {w w' : World} (hb : Below B w w') (hlt : b < B) : w'.cell? ⟨b, o, none⟩ = w.cell? ⟨b, o, none⟩ := hb.cell (p := ⟨b, o, none⟩) hlt
theorem froz_below {B b o : Nat} {w w' : World} (hb : Below B w w') (hlt : b < B) : w'.frozen? ⟨b, o, none⟩ = w.frozen? ⟨b, o, none⟩ := hb.frozen (p := ⟨b, o, none⟩) hlt
/-- Other functions, and a new value of theirs in the reader's block. -/
theorem RdB.put {B R : Nat} {Q Q' : List QFn} {vf v' : Value} {mu rw gr : Int} {w w' : World} (h : RdB B R Q vf mu rw gr w) (hb : Below B w w') (hF : RdF B Q' v' w') : RdB B R Q' v' mu rw gr (w'.setCell ⟨R, 0, none⟩ v') := by
  have hc : ∀ o, w'.cell? ⟨R, o, none⟩ = w.cell? ⟨R, o, none⟩ := fun o => cell_below hb h.hR
  have hf : ∀ o, w'.frozen? ⟨R, o, none⟩ = w.frozen? ⟨R, o, none⟩ := fun o => froz_below hb h.hR
  exact ⟨World.cell?_setCell_same _ _ _ ((hc 0).trans h.c0), (World.cell?_setCell_other _ _ _ _ (by simp)).trans ((hc 1).trans h.c1), (World.cell?_setCell_other _ _ _ _ (by simp)).trans ((hc 2).trans h.c2), (World.cell?_setCell_other _ _ _ _ (by simp)).trans ((hc 3).trans h.c3), (World.frozen?_setCell ..).trans ((hf 0).trans h.f0), (World.frozen?_setCell ..).trans ((hf 1).trans h.f1), (World.frozen?_setCell ..).trans ((hf 2).trans h.f2), (World.frozen?_setCell ..).trans ((hf 3).trans h.f3), hF.touch (T := fun b => b = R) (Touch.setCell _ _ _ rfl) (fun b hb => by have := h.hR; omega), h.hR, by have := h.hB; have := hb.size; simp; omega⟩
/-- The functions' block may have been stored into. -/
theorem RdB.grew {B R : Nat} {Q Q' : List QFn} {vf : Value} {mu rw gr : Int} {w w' : World} (h : RdB B R Q vf mu rw gr w) (hb : Below B w w') (hF : RdF B Q' vf w') : RdB B R Q' vf mu rw gr w' := by
  have hc : ∀ o, w'.cell? ⟨R, o, none⟩ = w.cell? ⟨R, o, none⟩ := fun o => cell_below hb h.hR
  have hf : ∀ o, w'.frozen? ⟨R, o, none⟩ = w.frozen? ⟨R, o, none⟩ := fun o => froz_below hb h.hR
  exact ⟨(hc 0).trans h.c0, (hc 1).trans h.c1, (hc 2).trans h.c2, (hc 3).trans h.c3, (hf 0).trans h.f0, (hf 1).trans h.f1, (hf 2).trans h.f2, (hf 3).trans h.f3, hF, h.hR, Nat.le_trans h.hB hb.size⟩

set_option maxRecDepth 100000 in
set_option maxHeartbeats 4000000 in
theorem line_func (B R k : Nat) (hk : 3 ≤ k) (hk2 : k ≤ 1000000) (s : ByteArray) (hs : s.size ≤ 281474976710656) (hp : isFn s = true) (Q : List QFn) (hQl : Q.length ≤ 1000000) (vf : Value) (P : ProgM) (w : World) (hE : Env w) (hQ : Q.map QFn.f = P.funcs) (h : RdB B R Q vf P.mu P.rw P.gr w) :
    Calls Tryz.prog 67 #[.pointer (some ⟨R, 0, none⟩), .int .i64 k, .string s] w (LineQ B R k s P w) := by
  have hst : stepO k s P = (numO wFn s).map fun n => { P with funcs := P.funcs ++ [⟨n, []⟩] } := by
    match k, hk with
    | k + 3, _ => unfold stepO; simp only [hp, if_true]
  have HST := Lib.hid hst
  have HQ := Lib.hid hQ
  have HS := Lib.hid hs
  have H := Lib.hid h
  have HE := Lib.hid hE
  have HQL := Lib.hid hQl
  have hpre := Tryz.strings_HasPrefix s ⟨#[102, 117, 110, 99, 32]⟩
  rw [show Lib.hasPrefix s.data.toList (⟨#[102, 117, 110, 99, 32]⟩ : ByteArray).data.toList = true from hp] at hpre
  have HP := Lib.hid hpre
  have hk3 : decide ((k : Int) < 3) = false := decide_eq_false (by omega)
  clear h hE hs hQ hp hst hpre hQl hk hk2
  go_enter Tryz.func67, Tryz.ntmps67
  go_wp2_with fail
  have hbs := bel1 (W := w) (.cells #[.string s] 9)
  have s0 := cell_new w #[.string s] 9 0
  refine (heads_any _).mono ?_
  rintro e w1 ⟨rfl, hb1⟩
  have s1 : (w1.alloc (.cells headsC 197)).cell? ⟨w.heap.size, 0, none⟩ = some (.string s) := cell_al (cell_bel s0 hb1) _
  have hB1 := belA (belT hbs hb1) (.cells headsC 197)
  have c0 : (w1.alloc (.cells headsC 197)).cell? ⟨R, 0, none⟩ = some vf := cell_bel H.out.c0 hB1
  have HB := Lib.hid hB1
  clear hbs s0 hb1 hB1
  unfold headsV
  go_wp2_with fail
  refine (HP.out _).mono ?_
  rintro e w2 ⟨rfl, rfl⟩
  go_wp2_with fail
  refine wp_region_R (S := fun W => W.cell? ⟨R, 0, none⟩ = some vf ∧ W.cell? ⟨w.heap.size, 0, none⟩ = some (.string s)) 12 (by kernel_rfl) (by simp) ⟨c0, s1⟩ (fun hHeld => ?_)
  have HB := Lib.hid HB.out.drew
  clear c0 s1
  generalize (w1.alloc _).drew = V0 at HB hHeld ⊢
  refine anyR_take (i := 0) (v := ?_) rfl (by kernel_rfl) (by kernel_rfl) (by kernel_rfl) (fun _ _ _ h => h) (Or.inl ⟨by rfl, ?_⟩) (by assumption) ?_
  rotate_left
  · (intro w hSw; (try dsimp only at hSw); go_simp)
    all_goals with_reducible rfl
  try simp only [Act.put, List.getElem_toArray, List.getElem_cons_succ, List.getElem_cons_zero, List.setIfInBounds_toArray, List.set_cons_zero, List.set_cons_succ]
  refine anyR_take (i := 1) (v := ?_) rfl (by kernel_rfl) (by kernel_rfl) (by kernel_rfl) (fun _ _ _ h => h) (Or.inl ⟨by rfl, ?_⟩) (by assumption) ?_
  rotate_left
  · (intro w hSw; (try dsimp only at hSw); go_simp)
    all_goals with_reducible rfl
  try simp only [Act.put, List.getElem_toArray, List.getElem_cons_succ, List.getElem_cons_zero, List.setIfInBounds_toArray, List.set_cons_zero, List.set_cons_succ]
  refine anyR_take (i := 2) (v := ?_) rfl (by kernel_rfl) (by kernel_rfl) (by kernel_rfl) (fun _ _ _ h => h) (Or.inl ⟨by rfl, ?_⟩) (by assumption) ?_
  rotate_left
  · (intro w hSw; (try dsimp only at hSw); go_simp)
    all_goals with_reducible rfl
  try simp only [Act.put, List.getElem_toArray, List.getElem_cons_succ, List.getElem_cons_zero, List.setIfInBounds_toArray, List.set_cons_zero, List.set_cons_succ]
  refine anyR_take (i := 3) (v := ?_) rfl (by kernel_rfl) (by kernel_rfl) (by kernel_rfl) (fun _ _ _ h => h) (Or.inl ⟨by rfl, ?_⟩) (by assumption) ?_
  rotate_left
  · (intro w hSw; (try dsimp only at hSw); go_simp)
    all_goals with_reducible rfl
  try simp only [Act.put, List.getElem_toArray, List.getElem_cons_succ, List.getElem_cons_zero, List.setIfInBounds_toArray, List.set_cons_zero, List.set_cons_succ]
  refine anyR_take (i := 4) (v := ?_) rfl (by kernel_rfl) (by kernel_rfl) (by kernel_rfl) (fun _ _ _ h => h) (Or.inl ⟨by rfl, ?_⟩) (by assumption) ?_
  rotate_left
  · (intro w hSw; (try dsimp only at hSw); go_simp)
    all_goals with_reducible rfl
  try simp only [Act.put, List.getElem_toArray, List.getElem_cons_succ, List.getElem_cons_zero, List.setIfInBounds_toArray, List.set_cons_zero, List.set_cons_succ]
  refine anyR_take (i := 5) (v := ?_) rfl (by kernel_rfl) (by kernel_rfl) (by kernel_rfl) (fun _ _ _ h => h) (Or.inl ⟨by rfl, ?_⟩) (by assumption) ?_
  rotate_left
  · (intro w hSw; (try dsimp only at hSw); go_simp)
    all_goals with_reducible rfl
  try simp only [Act.put, List.getElem_toArray, List.getElem_cons_succ, List.getElem_cons_zero, List.setIfInBounds_toArray, List.set_cons_zero, List.set_cons_succ]
  refine anyR_take (i := 6) (v := ?_) rfl (by kernel_rfl) (by kernel_rfl) (by kernel_rfl) (fun _ _ _ h => h) (Or.inl ⟨by rfl, ?_⟩) (by assumption) ?_
  rotate_left
  · (intro w hSw; (try dsimp only at hSw); go_simp)
    all_goals with_reducible rfl
  try simp only [Act.put, List.getElem_toArray, List.getElem_cons_succ, List.getElem_cons_zero, List.setIfInBounds_toArray, List.set_cons_zero, List.set_cons_succ]
  refine anyR_take (i := 7) (v := ?_) rfl (by kernel_rfl) (by kernel_rfl) (by kernel_rfl) (fun _ _ _ h => h) (Or.inl ⟨by rfl, ?_⟩) (by assumption) ?_
  rotate_left
  · (intro w hSw; (try dsimp only at hSw); go_simp)
    all_goals with_reducible rfl
  try simp only [Act.put, List.getElem_toArray, List.getElem_cons_succ, List.getElem_cons_zero, List.setIfInBounds_toArray, List.set_cons_zero, List.set_cons_succ]
  refine anyR_ready (rs := [8]) (by kernel_rfl) (by simp) (by decide) ?_
  refine AllReadyR.cons rfl (fun K hK => ?_) AllReadyR.nil
  go_simp
  refine (asmNumber_any k wFn s (by decide) HS.out _ (HE.out.on HB.out)).mono ?_
  rintro e w3 ⟨hn, hb3⟩
  have hB3 := belT HB.out hb3
  rcases hn with ⟨n, hn, rfl⟩ | ⟨⟨n, hn⟩, rfl⟩
  · have HN := Lib.hid (numO_yes hn)
    refine hK.out _ _ ?_ (fun hHeld => ?_)
    · exact ⟨cell_bel hHeld.1 hb3, cell_bel hHeld.2 hb3⟩
    clear hK K hn
    try simp only [Act.put, List.getElem_toArray, List.getElem_cons_succ, List.getElem_cons_zero, List.setIfInBounds_toArray, List.set_cons_zero, List.set_cons_succ]
    refine anyR_take (i := 9) (v := ?_) rfl (by kernel_rfl) (by kernel_rfl) (by kernel_rfl) (fun _ _ _ h => h) (Or.inl ⟨by rfl, ?_⟩) (by assumption) ?_
    rotate_left
    · (intro w hSw; (try dsimp only at hSw); go_simp)
      all_goals with_reducible rfl
    try simp only [Act.put, List.getElem_toArray, List.getElem_cons_succ, List.getElem_cons_zero, List.setIfInBounds_toArray, List.set_cons_zero, List.set_cons_succ]
    refine anyR_ready (rs := [10]) (by kernel_rfl) (by simp) (by decide) ?_
    refine AllReadyR.cons rfl (fun K hK => ?_) AllReadyR.nil
    go_simp
    have hB4 := belA hB3 (.cells #[.int .i64 n, .slice none 0 0] 114)
    have n0 := cell_new w3 #[.int .i64 n, .slice none 0 0] 114 0
    have n1 := cell_new w3 #[.int .i64 n, .slice none 0 0] 114 1
    refine hK.out _ _ ?_ (fun hHeld => ?_)
    · exact ⟨cell_al hHeld.1 _, cell_al hHeld.2 _⟩
    clear hK K
    try simp only [Act.put, List.getElem_toArray, List.getElem_cons_succ, List.getElem_cons_zero, List.setIfInBounds_toArray, List.set_cons_zero, List.set_cons_succ]
    have HR4 := Lib.hid (H.out.bel hB4)
    have HB4 := Lib.hid hB4
    clear hB3 hb3 hB4
    refine anyR_ready (rs := [11]) (by kernel_rfl) (by simp) (by decide) ?_
    refine AllReadyR.cons rfl (fun K hK => ?_) AllReadyR.nil
    obtain ⟨v', w5, r1, hF, hb5, ht5⟩ := HR4.out.fns.more n 56 w3.heap.size 1 n0 n1 HQL.out HR4.out.hB
    refine step_append_run rfl _ _ rfl rfl rfl r1 ?_
    have hs5 := cell_touch hHeld.2 ht5 (fun hh => by have := (H.out.fns.row.lt _ hh.symm).2; omega)
    have hc5 := (cell_below hb5 H.out.hR).trans hHeld.1
    have hf5 := (froz_below hb5 H.out.hR).trans HR4.out.f0
    refine hK.out _ _ ?_ (fun hHeld => ?_)
    · exact ⟨hc5, hs5⟩
    clear hK K
    try simp only [Act.put, List.getElem_toArray, List.getElem_cons_succ, List.getElem_cons_zero, List.setIfInBounds_toArray, List.set_cons_zero, List.set_cons_succ]
    have HF := Lib.hid hF
    have HB5 := Lib.hid hb5
    obtain ⟨av, nv, cv, rfl⟩ : ∃ a n c, v' = .slice a n c := (by obtain ⟨a, c, h⟩ := hF.form; exact ⟨a, _, c, h⟩)
    clear hs5 r1 hF hb5 ht5 n0 n1 hHeld
    refine anyR_end (by kernel_rfl) ?_
    refine wpAny_ready (rs := [12]) (by kernel_rfl) (by simp) ?_
    refine AllReady.cons rfl (fun K hK => ?_) AllReady.nil
    go_simp
    refine hK _ _ ?_
    clear hK K
    try simp only [Act.put, List.getElem_toArray, List.getElem_cons_succ, List.getElem_cons_zero, List.setIfInBounds_toArray, List.set_cons_zero, List.set_cons_succ]
    refine wpAny_ready (rs := [13]) (by kernel_rfl) (by simp) ?_
    refine AllReady.cons rfl (fun K hK => ?_) AllReady.nil
    go_simp
    refine hK _ _ ?_
    clear hK K
    try simp only [Act.put, List.getElem_toArray, List.getElem_cons_succ, List.getElem_cons_zero, List.setIfInBounds_toArray, List.set_cons_zero, List.set_cons_succ]
    refine wpAny_ready (rs := [14]) (by kernel_rfl) (by simp) ?_
    refine AllReady.cons rfl (fun K hK => ?_) AllReady.nil
    go_simp
    refine hK _ _ ?_
    clear hK K
    try simp only [Act.put, List.getElem_toArray, List.getElem_cons_succ, List.getElem_cons_zero, List.setIfInBounds_toArray, List.set_cons_zero, List.set_cons_succ]
    refine wpAny_ready (rs := [15]) (by kernel_rfl) (by simp) ?_
    refine AllReady.cons rfl (fun K hK => ?_) AllReady.nil
    go_simp
    refine hK _ _ ?_
    clear hK K
    try simp only [Act.put, List.getElem_toArray, List.getElem_cons_succ, List.getElem_cons_zero, List.setIfInBounds_toArray, List.set_cons_zero, List.set_cons_succ]
    refine wpAny_done (by kernel_rfl) ?_ _
    go_wp2_with fail
    go_end0
    refine ⟨?_, ((HB4.out.mono (Nat.le_of_lt (lt_of_cell H.out.c0))).trans (HB5.out.mono (Nat.le_of_lt H.out.hR))).setCell (p := ⟨R, 0, none⟩) (Nat.le_refl _) _⟩
    rw [HST.out, HN.out]
    exact ⟨rfl, Q ++ [⟨⟨n, []⟩, none, 0⟩], _, by rw [List.map_append, HQ.out]; rfl, HR4.out.put HB5.out HF.out⟩
  · have HN := Lib.hid (numO_no hn)
    refine ⟨rfl, ?_, hB3.mono (Nat.le_of_lt (lt_of_cell H.out.c0))⟩
    rw [HST.out, HN.out]
    rfl
end Go.Proofs.YtfnfcngkaepnjaaGreatDoor

/- Package asm: the reader's line, of an instruction. -/
namespace Go.Proofs.YtfnfcngkaepnjaaGreatDoor
set_option linter.unusedVariables false
set_option linter.unusedSimpArgs false
open Go Go.Proofs Go.RowKit Go.Sort

theorem map_set {α β : Type} (f : α → β) (l : List α) (k : Nat) (x : α) : (l.set k x).map f = (l.map f).set k (f x) := by
  induction l generalizing k with
  | nil => rfl
  | cons y l ih => cases k <;> simp [ih]
theorem pushF_map {Q : List QFn} {F : List FnM} (h : Q.map QFn.f = F) {n : Nat} (hl : Q.length = n + 1) {q q' : QFn} (hq : Q[n]? = some q) {x : InsM} (hq' : q'.f = ⟨q.f.regs, q.f.code ++ [x]⟩) : (Q.set n q').map QFn.f = pushF F x := by
  subst h
  unfold pushF
  rw [List.length_map, hl, Nat.add_sub_cancel, List.getElem?_map, hq, Option.map_some, map_set, hq']

set_option maxRecDepth 100000 in
set_option maxHeartbeats 4000000 in
theorem line_ins (B R k : Nat) (hk : 3 ≤ k) (hk2 : k ≤ 1000000) (s : ByteArray) (hs : s.size < 4294967281) (hp : isFn s = false) (Q : List QFn) (hQl : Q.length ≤ 1000000) (hQc : ∀ q ∈ Q, q.f.code.length ≤ 1000000) (vf : Value) (P : ProgM) (w : World) (hE : EnvM w) (hQ : Q.map QFn.f = P.funcs) (h : RdB B R Q vf P.mu P.rw P.gr w) :
    Calls Tryz.prog 67 #[.pointer (some ⟨R, 0, none⟩), .int .i64 k, .string s] w (LineQ B R k s P w) := by
  have hst : stepO k s P = if P.funcs.length = 0 then none else (insO s).map fun x => { P with funcs := pushF P.funcs x } := by
    match k, hk with
    | k + 3, _ => unfold stepO; simp only [hp, if_false, Bool.false_eq_true]
  have hQP : P.funcs.length = Q.length := by rw [← hQ, List.length_map]
  have HST := Lib.hid hst
  have HQ := Lib.hid hQ
  have HS := Lib.hid hs
  have H := Lib.hid h
  have HE := Lib.hid hE
  have HQL := Lib.hid hQl
  have HQC := Lib.hid hQc
  have HQP := Lib.hid hQP
  have hpre := Tryz.strings_HasPrefix s ⟨#[102, 117, 110, 99, 32]⟩
  rw [show Lib.hasPrefix s.data.toList (⟨#[102, 117, 110, 99, 32]⟩ : ByteArray).data.toList = false from hp] at hpre
  have HP := Lib.hid hpre
  have hk3 : decide ((k : Int) < 3) = false := decide_eq_false (by omega)
  clear h hE hs hQ hp hst hpre hQl hk hk2 hQc hQP
  go_enter Tryz.func67, Tryz.ntmps67
  go_wp2_with fail
  have hbs := bel1 (W := w) (.cells #[.string s] 9)
  have s0 := cell_new w #[.string s] 9 0
  refine (heads_any _).mono ?_
  rintro e w1 ⟨rfl, hb1⟩
  have s1 : (w1.alloc (.cells headsC 197)).cell? ⟨w.heap.size, 0, none⟩ = some (.string s) := cell_al (cell_bel s0 hb1) _
  have hB1 := belA (belT hbs hb1) (.cells headsC 197)
  obtain ⟨av, cv, rfl⟩ := H.out.fns.form
  have c0 : (w1.alloc (.cells headsC 197)).cell? ⟨R, 0, none⟩ = some (.slice av Q.length cv) := cell_bel H.out.c0 hB1
  have HB := Lib.hid hB1
  clear hbs s0 hb1 hB1
  unfold headsV
  go_wp2_with fail
  refine (HP.out _).mono ?_
  rintro e w2 ⟨rfl, rfl⟩
  by_cases hn0 : Q.length = 0
  · have e0 : decide (0 < Q.length) = false := decide_eq_false (by omega)
    have HN := Lib.hid hn0
    clear hn0
    go_wp2_with (go_at_call 68; refine (asmMust_no _ _).mono ?_; rintro e w3 ⟨rfl, rfl⟩)
    refine ⟨rfl, ?_, HB.out.mono (Nat.le_of_lt (lt_of_cell H.out.c0))⟩
    rw [HST.out, HQP.out, if_pos HN.out]
  have hnn : P.funcs.length ≠ 0 := by rw [HQP.out]; exact hn0
  have HST := Lib.hid (show stepO k s P = (insO s).map fun x => { P with funcs := pushF P.funcs x } by rw [HST.out, if_neg hnn])
  have e0 : decide (0 < Q.length) = true := decide_eq_true (by omega)
  obtain ⟨n, hn⟩ : ∃ n, Q.length = n + 1 := ⟨Q.length - 1, by omega⟩
  have HNl := Lib.hid hn
  have HNI := Lib.hid (show (Q.length : Int) = (n : Int) + 1 by omega)
  have hnb : (n : Int) ≤ 1000000 := by have := HQL.out; omega
  obtain ⟨bF, cap, hv, -, -, -, -⟩ := H.out.fns.row.own.slice (by omega)
  simp only [Value.slice.injEq, true_and] at hv
  obtain ⟨rfl, rfl⟩ := hv
  clear hn0 hnn hn
  go_wp2_with (go_at_call 68; refine (asmMust_yes _ _).mono ?_; rintro e w3 ⟨rfl, rfl⟩)
  refine (asmReadIns_any k w.heap.size s HS.out _ (HE.out.on HB.out) s1).mono ?_
  rintro e w3 ⟨hi, hb3⟩
  have hB3 := belT HB.out hb3
  rcases hi with ⟨op, a, b, c, m, hi, rfl⟩ | ⟨hi, rfl⟩
  rotate_left
  · have HN := Lib.hid (insO_no hi)
    clear hi
    go_wp2_with fail
    refine ⟨rfl, ?_, hB3.mono (Nat.le_of_lt (lt_of_cell H.out.c0))⟩
    rw [HST.out, HN.out]
    rfl
  have HN := Lib.hid (show insO s = some ⟨op, a, b, c, m⟩ from insO_yes (x := ⟨op, a, b, c, m⟩) hi)
  have hB4 := belA hB3 (.cells #[.int .i64 op, .int .i64 a, .int .i64 b, .int .i64 c, .int .u32 m] 29)
  have HWL := Lib.hid hB3.size
  have HR4 := Lib.hid (H.out.bel hB4)
  have c0 := HR4.out.c0
  have HI := Lib.hid (Bare.new op a b c m w3 29)
  have HB4 := Lib.hid hB4
  have q0 : (0 : Int) ≤ (Q.length : Int) - 1 := by have := HNI.out; omega
  have q1 : (Q.length : Int) - 1 < (Q.length : Int) := by omega
  have q2 : ((Q.length : Int) - 1).toNat = n := by have := HNI.out; omega
  have q3 : IntKind.i64.wrap ((Q.length : Int) - 1) = (Q.length : Int) - 1 := by rw [IntKind.wrap_i64]; have := HQL.out; omega
  clear hi hB3 hb3 hB4 s1 hnb HB
  go_wp2_with fail
  go_quiet (fail)
  clear q0 q1 q2 q3 c0
  obtain ⟨q, hq⟩ : ∃ q, Q[n]? = some q := ⟨Q[n]'(by have := HNl.out; omega), List.getElem?_eq_getElem _⟩
  have hbd := bel_drewN (w3.alloc (.cells #[.int .i64 op, .int .i64 a, .int .i64 b, .int .i64 c, .int .u32 m] 29)) nq
  have hbe := hbd.drew
  have HR5 := Lib.hid (HR4.out.bel hbe)
  have HB5 := Lib.hid (belT HB4.out hbe)
  have k1 := OwnW.cell (enc := encQ) (fun _ => rfl) HR5.out.fns.row.own n 1 q q.v hq rfl
  obtain ⟨i0, i1, i2, i3, i4, -, -, -, -⟩ := HI.out.bel hbe
  have HLT := Lib.hid (show ∀ g, q.v.ownBlock = some g → g < w.heap.size from fun g hg => ((H.out.fns.code n q hq).lt g hg).2)
  have hwl : w.heap.size ≤ w3.heap.size := HWL.out
  clear hbd hbe HI HR4 HB4
  go_wp2_with fail
  refine wp_region_R (S := fun W => W.cell? ⟨bF, n * 2 + 1, none⟩ = some q.v ∧ W.cell? ⟨w3.heap.size, 0, none⟩ = some (.int .i64 op) ∧ W.cell? ⟨w3.heap.size, 1, none⟩ = some (.int .i64 a) ∧ W.cell? ⟨w3.heap.size, 2, none⟩ = some (.int .i64 b) ∧ W.cell? ⟨w3.heap.size, 3, none⟩ = some (.int .i64 c) ∧ W.cell? ⟨w3.heap.size, 4, none⟩ = some (.int .u32 m)) 8 (by kernel_rfl) (by simp) ⟨k1, i0, i1, i2, i3, i4⟩ (fun hHeld => ?_)
  clear k1 i0 i1 i2 i3 i4
  generalize (World.drewN _ _).drew = V0 at HR5 HB5 hHeld ⊢
  refine anyR_take (i := 0) (v := ?_) rfl (by kernel_rfl) (by kernel_rfl) (by kernel_rfl) (fun _ _ _ h => h) (Or.inl ⟨by rfl, ?_⟩) (by assumption) ?_
  rotate_left
  · (intro w hSw; (try dsimp only at hSw); go_simp)
    all_goals with_reducible rfl
  try simp only [Act.put, List.getElem_toArray, List.getElem_cons_succ, List.getElem_cons_zero, List.setIfInBounds_toArray, List.set_cons_zero, List.set_cons_succ]
  refine anyR_take (i := 1) (v := ?_) rfl (by kernel_rfl) (by kernel_rfl) (by kernel_rfl) (fun _ _ _ h => h) (Or.inl ⟨by rfl, ?_⟩) (by assumption) ?_
  rotate_left
  · (intro w hSw; (try dsimp only at hSw); go_simp)
    all_goals with_reducible rfl
  try simp only [Act.put, List.getElem_toArray, List.getElem_cons_succ, List.getElem_cons_zero, List.setIfInBounds_toArray, List.set_cons_zero, List.set_cons_succ]
  refine anyR_take (i := 2) (v := ?_) rfl (by kernel_rfl) (by kernel_rfl) (by kernel_rfl) (fun _ _ _ h => h) (Or.inl ⟨by rfl, ?_⟩) (by assumption) ?_
  rotate_left
  · (intro w hSw; (try dsimp only at hSw); go_simp)
    all_goals with_reducible rfl
  try simp only [Act.put, List.getElem_toArray, List.getElem_cons_succ, List.getElem_cons_zero, List.setIfInBounds_toArray, List.set_cons_zero, List.set_cons_succ]
  refine anyR_take (i := 3) (v := ?_) rfl (by kernel_rfl) (by kernel_rfl) (by kernel_rfl) (fun _ _ _ h => h) (Or.inl ⟨by rfl, ?_⟩) (by assumption) ?_
  rotate_left
  · (intro w hSw; (try dsimp only at hSw); go_simp)
    all_goals with_reducible rfl
  try simp only [Act.put, List.getElem_toArray, List.getElem_cons_succ, List.getElem_cons_zero, List.setIfInBounds_toArray, List.set_cons_zero, List.set_cons_succ]
  refine anyR_take (i := 4) (v := ?_) rfl (by kernel_rfl) (by kernel_rfl) (by kernel_rfl) (fun _ _ _ h => h) (Or.inl ⟨by rfl, ?_⟩) (by assumption) ?_
  rotate_left
  · (intro w hSw; (try dsimp only at hSw); go_simp)
    all_goals with_reducible rfl
  try simp only [Act.put, List.getElem_toArray, List.getElem_cons_succ, List.getElem_cons_zero, List.setIfInBounds_toArray, List.set_cons_zero, List.set_cons_succ]
  refine anyR_take (i := 5) (v := ?_) rfl (by kernel_rfl) (by kernel_rfl) (by kernel_rfl) (fun _ _ _ h => h) (Or.inl ⟨by rfl, ?_⟩) (by assumption) ?_
  rotate_left
  · (intro w hSw; (try dsimp only at hSw); go_simp)
    all_goals with_reducible rfl
  try simp only [Act.put, List.getElem_toArray, List.getElem_cons_succ, List.getElem_cons_zero, List.setIfInBounds_toArray, List.set_cons_zero, List.set_cons_succ]
  refine anyR_ready (rs := [6]) (by kernel_rfl) (by simp) (by decide) ?_
  refine AllReadyR.cons rfl (fun K hK => ?_) AllReadyR.nil
  go_simp
  have hB6 := belA HB5.out (.cells #[.int .i64 op, .int .i64 a, .int .i64 b, .int .i64 c, .int .u32 m] 29)
  have hx6 : ∀ j u, (encN ⟨op, a, b, c, m⟩)[j]? = some u → (V0.alloc (.cells #[.int .i64 op, .int .i64 a, .int .i64 b, .int .i64 c, .int .u32 m] 29)).cell? ⟨V0.heap.size, j, none⟩ = some u := fun j u hj => (cell_new V0 _ _ j).trans (by simpa using hj)
  have HR6 := Lib.hid (HR5.out.bel (bel1 (.cells #[.int .i64 op, .int .i64 a, .int .i64 b, .int .i64 c, .int .u32 m] 29)))
  refine hK.out _ _ ?_ (fun hHeld => ?_)
  · obtain ⟨h0, h1, h2, h3, h4, h5⟩ := hHeld
    exact ⟨cell_al h0 _, cell_al h1 _, cell_al h2 _, cell_al h3 _, cell_al h4 _, cell_al h5 _⟩
  clear hK K
  try simp only [Act.put, List.getElem_toArray, List.getElem_cons_succ, List.getElem_cons_zero, List.setIfInBounds_toArray, List.set_cons_zero, List.set_cons_succ]
  refine anyR_ready (rs := [7]) (by kernel_rfl) (by simp) (by decide) ?_
  refine AllReadyR.cons rfl (fun K hK => ?_) AllReadyR.nil
  obtain ⟨v', w7, q', r1, hv7, hq7, k7, f7, hF7, hb7, hBF, ht7⟩ := HR6.out.fns.push n hq ⟨op, a, b, c, m⟩ 25 V0.heap.size 1 hx6 (HQC.out q (List.mem_of_getElem? hq)) HR6.out.hB
  refine step_append_run rfl _ _ rfl rfl rfl r1 ?_
  refine hK.out _ _ ?_ (fun hHeld => ?_)
  · obtain ⟨h0, h1, h2, h3, h4, h5⟩ := hHeld
    have hn7 : ¬ some w3.heap.size = q.v.ownBlock := fun hh => by have := HLT.out _ hh.symm; omega
    exact ⟨k7, cell_touch h1 ht7 hn7, cell_touch h2 ht7 hn7, cell_touch h3 ht7 hn7, cell_touch h4 ht7 hn7, cell_touch h5 ht7 hn7⟩
  clear hK K
  try simp only [Act.put, List.getElem_toArray, List.getElem_cons_succ, List.getElem_cons_zero, List.setIfInBounds_toArray, List.set_cons_zero, List.set_cons_succ]
  have HF7 := Lib.hid hF7
  have HB6 := Lib.hid hB6
  have HB7 := Lib.hid hb7
  have HQ7 := Lib.hid hq7
  have HQN := Lib.hid hq
  subst hv7
  clear r1 hF7 hb7 ht7 hx6 hB6 hHeld hq7 hq
  refine anyR_end (by kernel_rfl) ?_
  refine wpAny_ready (rs := [8]) (by kernel_rfl) (by simp) ?_
  refine AllReady.cons rfl (fun K hK => ?_) AllReady.nil
  go_simp
  refine hK _ _ ?_
  clear hK K
  try simp only [Act.put, List.getElem_toArray, List.getElem_cons_succ, List.getElem_cons_zero, List.setIfInBounds_toArray, List.set_cons_zero, List.set_cons_succ]
  refine wpAny_ready (rs := [9]) (by kernel_rfl) (by simp) ?_
  refine AllReady.cons rfl (fun K hK => ?_) AllReady.nil
  go_simp
  refine hK _ _ ?_
  clear hK K
  try simp only [Act.put, List.getElem_toArray, List.getElem_cons_succ, List.getElem_cons_zero, List.setIfInBounds_toArray, List.set_cons_zero, List.set_cons_succ]
  refine wpAny_ready (rs := [10]) (by kernel_rfl) (by simp) ?_
  refine AllReady.cons rfl (fun K hK => ?_) AllReady.nil
  go_simp
  refine hK _ _ ?_
  clear hK K
  try simp only [Act.put, List.getElem_toArray, List.getElem_cons_succ, List.getElem_cons_zero, List.setIfInBounds_toArray, List.set_cons_zero, List.set_cons_succ]
  refine wpAny_done (by kernel_rfl) ?_ _
  go_wp2_with fail
  go_end0
  have hBs := HB7.out.setCell (p := ⟨bF, n * 2 + 1, none⟩) hBF q'.v
  refine ⟨?_, (HB6.out.mono (Nat.le_of_lt (lt_of_cell H.out.c0))).trans (hBs.mono (Nat.le_of_lt H.out.hR))⟩
  rw [HST.out, HN.out]
  exact ⟨rfl, _, _, pushF_map HQ.out HNl.out HQN.out HQ7.out, HR6.out.grew hBs HF7.out⟩
end Go.Proofs.YtfnfcngkaepnjaaGreatDoor
