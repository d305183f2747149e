/- Joined texts: Package asm: the reader's line, that begins a function; an instruction's. -/
import Derived.Test.YtfnfcngkaepnjaaGreatDoorQL35
/- Package asm: the reader's line, that begins a function; an instruction's. -/
namespace Go.Proofs.YtfnfcngkaepnjaaGreatDoor
set_option linter.unusedVariables false
set_option linter.unusedSimpArgs false
open Go Go.Proofs Go.RowKit Go.Sort

theorem step_append_run {t : TypeId} {v u v' : Value} {w w' : World} {ops : Array Oper} {o : Oper} {a : Act} {K : Act → World → Prop} {Q : Exit → Act → World → Prop} {E : Prop} (hgd : o.guard = none) (s x : Operand)
    (ho : o.op = .call { callee := .builtin .append, args := #[s, x], argTypes := #[t, t] })
    (hs : a.eval s = v) (hx : a.eval x = u) (hr : (Builtin.append_ #[t, t] o.type #[v, u]).run Tryz.prog w = .ok v' w') (h : K (a.put o.dst v') w') : if Region.wanted o (yielded ops a.tmps) = true then Oper.wp Tryz.prog o a w K Q else E := by
  have hw : Region.wanted o (yielded ops a.tmps) = true := by simp [Region.wanted, hgd]
  rw [if_pos hw]
  unfold Oper.wp
  simp [execOp, ho, resolve, invoke, builtin, hs, hx, hr, Result.andThen]
  exact h

theorem cell_below {B b o : Nat} {w w' : World} (hb : Below B w w') (hlt : b < B) : w'.cell? ⟨b, o, none⟩ = w.cell? ⟨b, o, none⟩ := hb.cell (p := ⟨b, o, none⟩) hlt
theorem froz_below {B b o : Nat} {w w' : World} (hb : Below B w w') (hlt : b < B) : w'.frozen? ⟨b, o, none⟩ = w.frozen? ⟨b, o, none⟩ := hb.frozen (p := ⟨b, o, none⟩) hlt
/-- Other functions, and a new value of theirs in the reader's block. -/
theorem RdB.put {B R : Nat} {Q Q' : List QFn} {vf v' : Value} {mu rw gr : Int} {w w' : World} (h : RdB B R Q vf mu rw gr w) (hb : Below B w w') (hF : RdF B Q' v' w') : RdB B R Q' v' mu rw gr (w'.setCell ⟨R, 0, none⟩ v') := by
  have hc : ∀ o, w'.cell? ⟨R, o, none⟩ = w.cell? ⟨R, o, none⟩ := fun o => cell_below hb h.hR
  have hf : ∀ o, w'.frozen? ⟨R, o, none⟩ = w.frozen? ⟨R, o, none⟩ := fun o => froz_below hb h.hR
  exact ⟨World.cell?_setCell_same _ _ _ ((hc 0).trans h.c0), (World.cell?_setCell_other _ _ _ _ (by simp)).trans ((hc 1).trans h.c1), (World.cell?_setCell_other _ _ _ _ (by simp)).trans ((hc 2).trans h.c2), (World.cell?_setCell_other _ _ _ _ (by simp)).trans ((hc 3).trans h.c3), (World.frozen?_setCell ..).trans ((hf 0).trans h.f0), (World.frozen?_setCell ..).trans ((hf 1).trans h.f1), (World.frozen?_setCell ..).trans ((hf 2).trans h.f2), (World.frozen?_setCell ..).trans ((hf 3).trans h.f3), hF.touch (T := fun b => b = R) (Touch.setCell _ _ _ rfl) (fun b hb => by have := h.hR; omega), h.hR, by have := h.hB; have := hb.size; simp; omega⟩
/-- The functions' block may have been stored into. -/
theorem RdB.grew {B R : Nat} {Q Q' : List QFn} {vf : Value} {mu rw gr : Int} {w w' : World} (h : RdB B R Q vf mu rw gr w) (hb : Below B w w') (hF : RdF B Q' vf w') : RdB B R Q' vf mu rw gr w' := by
  have hc : ∀ o, w'.cell? ⟨R, o, none⟩ = w.cell? ⟨R, o, none⟩ := fun o => cell_below hb h.hR
  have hf : ∀ o, w'.frozen? ⟨R, o, none⟩ = w.frozen? ⟨R, o, none⟩ := fun o => froz_below hb h.hR
  exact ⟨(hc 0).trans h.c0, (hc 1).trans h.c1, (hc 2).trans h.c2, (hc 3).trans h.c3, (hf 0).trans h.f0, (hf 1).trans h.f1, (hf 2).trans h.f2, (hf 3).trans h.f3, hF, h.hR, Nat.le_trans h.hB hb.size⟩

set_option maxRecDepth 100000 in
set_option maxHeartbeats 4000000 in
theorem line_func (B R k : Nat) (hk : 3 ≤ k) (hk2 : k ≤ 1000000) (s : ByteArray) (hs : s.size ≤ 281474976710656) (hp : isFn s = true) (Q : List QFn) (hQl : Q.length ≤ 1000000) (vf : Value) (P : ProgM) (w : World) (hE : Env w) (hQ : Q.map QFn.f = P.funcs) (h : RdB B R Q vf P.mu P.rw P.gr w) :
    Calls Tryz.prog 67 #[.pointer (some ⟨R, 0, none⟩), .int .i64 k, .string s] w (LineQ B R k s P w) := by
  have hst : stepO k s P = (numO wFn s).map fun n => { P with funcs := P.funcs ++ [⟨n, []⟩] } := by
    match k, hk with
    | k + 3, _ => unfold stepO; simp only [hp, if_true]
  have HST := Lib.hid hst
  have HQ := Lib.hid hQ
  have HS := Lib.hid hs
  have H := Lib.hid h
  have HE := Lib.hid hE
  have HQL := Lib.hid hQl
  have hpre := Tryz.strings_HasPrefix s ⟨#[102, 117, 110, 99, 32]⟩
  rw [show Lib.hasPrefix s.data.toList (⟨#[102, 117, 110, 99, 32]⟩ : ByteArray).data.toList = true from hp] at hpre
  have HP := Lib.hid hpre
  have hk3 : decide ((k : Int) < 3) = false := decide_eq_false (by omega)
  clear h hE hs hQ hp hst hpre hQl hk hk2
  go_enter Tryz.func67, Tryz.ntmps67
  go_wp2_with fail
  have hbs := bel1 (W := w) (.cells #[.string s] 9)
  have s0 := cell_new w #[.string s] 9 0
  refine (heads_any _).mono ?_
  rintro e w1 ⟨rfl, hb1⟩
  have s1 : (w1.alloc (.cells headsC 197)).cell? ⟨w.heap.size, 0, none⟩ = some (.string s) := cell_al (cell_bel s0 hb1) _
  have hB1 := belA (belT hbs hb1) (.cells headsC 197)
  have c0 : (w1.alloc (.cells headsC 197)).cell? ⟨R, 0, none⟩ = some vf := cell_bel H.out.c0 hB1
  have HB := Lib.hid hB1
  clear hbs s0 hb1 hB1
  unfold headsV
  go_wp2_with fail
  refine (HP.out _).mono ?_
  rintro e w2 ⟨rfl, rfl⟩
  go_wp2_with fail
  refine wp_region_R (S := fun W => W.cell? ⟨R, 0, none⟩ = some vf ∧ W.cell? ⟨w.heap.size, 0, none⟩ = some (.string s)) 12 (by kernel_rfl) (by simp) ⟨c0, s1⟩ (fun hHeld => ?_)
  have HB := Lib.hid HB.out.drew
  clear c0 s1
  generalize (w1.alloc _).drew = V0 at HB hHeld ⊢
  refine anyR_take (i := 0) (v := ?_) rfl (by kernel_rfl) (by kernel_rfl) (by kernel_rfl) (fun _ _ _ h => h) (Or.inl ⟨by rfl, ?_⟩) (by assumption) ?_
  rotate_left
  · (intro w hSw; (try dsimp only at hSw); go_simp)
    all_goals with_reducible rfl
  try simp only [Act.put, List.getElem_toArray, List.getElem_cons_succ, List.getElem_cons_zero, List.setIfInBounds_toArray, List.set_cons_zero, List.set_cons_succ]
  refine anyR_take (i := 1) (v := ?_) rfl (by kernel_rfl) (by kernel_rfl) (by kernel_rfl) (fun _ _ _ h => h) (Or.inl ⟨by rfl, ?_⟩) (by assumption) ?_
  rotate_left
  · (intro w hSw; (try dsimp only at hSw); go_simp)
    all_goals with_reducible rfl
  try simp only [Act.put, List.getElem_toArray, List.getElem_cons_succ, List.getElem_cons_zero, List.setIfInBounds_toArray, List.set_cons_zero, List.set_cons_succ]
  refine anyR_take (i := 2) (v := ?_) rfl (by kernel_rfl) (by kernel_rfl) (by kernel_rfl) (fun _ _ _ h => h) (Or.inl ⟨by rfl, ?_⟩) (by assumption) ?_
  rotate_left
  · (intro w hSw; (try dsimp only at hSw); go_simp)
    all_goals with_reducible rfl
  try simp only [Act.put, List.getElem_toArray, List.getElem_cons_succ, List.getElem_cons_zero, List.setIfInBounds_toArray, List.set_cons_zero, List.set_cons_succ]
  refine anyR_take (i := 3) (v := ?_) rfl (by kernel_rfl) (by kernel_rfl) (by kernel_rfl) (fun _ _ _ h => h) (Or.inl ⟨by rfl, ?_⟩) (by assumption) ?_
  rotate_left
  · (intro w hSw; (try dsimp only at hSw); go_simp)
    all_goals with_reducible rfl
  try simp only [Act.put, List.getElem_toArray, List.getElem_cons_succ, List.getElem_cons_zero, List.setIfInBounds_toArray, List.set_cons_zero, List.set_cons_succ]
  refine anyR_take (i := 4) (v := ?_) rfl (by kernel_rfl) (by kernel_rfl) (by kernel_rfl) (fun _ _ _ h => h) (Or.inl ⟨by rfl, ?_⟩) (by assumption) ?_
  rotate_left
  · (intro w hSw; (try dsimp only at hSw); go_simp)
    all_goals with_reducible rfl
  try simp only [Act.put, List.getElem_toArray, List.getElem_cons_succ, List.getElem_cons_zero, List.setIfInBounds_toArray, List.set_cons_zero, List.set_cons_succ]
  refine anyR_take (i := 5) (v := ?_) rfl (by kernel_rfl) (by kernel_rfl) (by kernel_rfl) (fun _ _ _ h => h) (Or.inl ⟨by rfl, ?_⟩) (by assumption) ?_
  rotate_left
  · (intro w hSw; (try dsimp only at hSw); go_simp)
    all_goals with_reducible rfl
  try simp only [Act.put, List.getElem_toArray, List.getElem_cons_succ, List.getElem_cons_zero, List.setIfInBounds_toArray, List.set_cons_zero, List.set_cons_succ]
  refine anyR_take (i := 6) (v := ?_) rfl (by kernel_rfl) (by kernel_rfl) (by kernel_rfl) (fun _ _ _ h => h) (Or.inl ⟨by rfl, ?_⟩) (by assumption) ?_
  rotate_left
  · (intro w hSw; (try dsimp only at hSw); go_simp)
    all_goals with_reducible rfl
  try simp only [Act.put, List.getElem_toArray, List.getElem_cons_succ, List.getElem_cons_zero, List.setIfInBounds_toArray, List.set_cons_zero, List.set_cons_succ]
  refine anyR_take (i := 7) (v := ?_) rfl (by kernel_rfl) (by kernel_rfl) (by kernel_rfl) (fun _ _ _ h => h) (Or.inl ⟨by rfl, ?_⟩) (by assumption) ?_
  rotate_left
  · (intro w hSw; (try dsimp only at hSw); go_simp)
    all_goals with_reducible rfl
  try simp only [Act.put, List.getElem_toArray, List.getElem_cons_succ, List.getElem_cons_zero, List.setIfInBounds_toArray, List.set_cons_zero, List.set_cons_succ]
  refine anyR_ready (rs := [8]) (by kernel_rfl) (by simp) (by decide) ?_
  refine AllReadyR.cons rfl (fun K hK => ?_) AllReadyR.nil
  go_simp
  refine (asmNumber_any k wFn s (by decide) HS.out _ (HE.out.on HB.out)).mono ?_
  rintro e w3 ⟨hn, hb3⟩
  have hB3 := belT HB.out hb3
  rcases hn with ⟨n, hn, rfl⟩ | ⟨⟨n, hn⟩, rfl⟩
  · have HN := Lib.hid (numO_yes hn)
    refine hK.out _ _ ?_ (fun hHeld => ?_)
    · exact ⟨cell_bel hHeld.1 hb3, cell_bel hHeld.2 hb3⟩
    clear hK K hn
    try simp only [Act.put, List.getElem_toArray, List.getElem_cons_succ, List.getElem_cons_zero, List.setIfInBounds_toArray, List.set_cons_zero, List.set_cons_succ]
    refine anyR_take (i := 9) (v := ?_) rfl (by kernel_rfl) (by kernel_rfl) (by kernel_rfl) (fun _ _ _ h => h) (Or.inl ⟨by rfl, ?_⟩) (by assumption) ?_
    rotate_left
    · (intro w hSw; (try dsimp only at hSw); go_simp)
      all_goals with_reducible rfl
    try simp only [Act.put, List.getElem_toArray, List.getElem_cons_succ, List.getElem_cons_zero, List.setIfInBounds_toArray, List.set_cons_zero, List.set_cons_succ]
    refine anyR_ready (rs := [10]) (by kernel_rfl) (by simp) (by decide) ?_
    refine AllReadyR.cons rfl (fun K hK => ?_) AllReadyR.nil
    go_simp
    have hB4 := belA hB3 (.cells #[.int .i64 n, .slice none 0 0] 114)
    have n0 := cell_new w3 #[.int .i64 n, .slice none 0 0] 114 0
    have n1 := cell_new w3 #[.int .i64 n, .slice none 0 0] 114 1
    refine hK.out _ _ ?_ (fun hHeld => ?_)
    · exact ⟨cell_al hHeld.1 _, cell_al hHeld.2 _⟩
    clear hK K
    try simp only [Act.put, List.getElem_toArray, List.getElem_cons_succ, List.getElem_cons_zero, List.setIfInBounds_toArray, List.set_cons_zero, List.set_cons_succ]
    have HR4 := Lib.hid (H.out.bel hB4)
    have HB4 := Lib.hid hB4
    clear hB3 hb3 hB4
    refine anyR_ready (rs := [11]) (by kernel_rfl) (by simp) (by decide) ?_
    refine AllReadyR.cons rfl (fun K hK => ?_) AllReadyR.nil
    obtain ⟨v', w5, r1, hF, hb5, ht5⟩ := HR4.out.fns.more n 56 w3.heap.size 1 n0 n1 HQL.out HR4.out.hB
    refine step_append_run rfl _ _ rfl rfl rfl r1 ?_
    have hs5 := cell_touch hHeld.2 ht5 (fun hh => by have := (H.out.fns.row.lt _ hh.symm).2; omega)
    have hc5 := (cell_below hb5 H.out.hR).trans hHeld.1
    have hf5 := (froz_below hb5 H.out.hR).trans HR4.out.f0
    refine hK.out _ _ ?_ (fun hHeld => ?_)
    · exact ⟨hc5, hs5⟩
    clear hK K
    try simp only [Act.put, List.getElem_toArray, List.getElem_cons_succ, List.getElem_cons_zero, List.setIfInBounds_toArray, List.set_cons_zero, List.set_cons_succ]
    have HF := Lib.hid hF
    have HB5 := Lib.hid hb5
    obtain ⟨av, nv, cv, rfl⟩ : ∃ a n c, v' = .slice a n c := (by obtain ⟨a, c, h⟩ := hF.form; exact ⟨a, _, c, h⟩)
    clear hs5 r1 hF hb5 ht5 n0 n1 hHeld
    refine anyR_end (by kernel_rfl) ?_
    refine wpAny_ready (rs := [12]) (by kernel_rfl) (by simp) ?_
    refine AllReady.cons rfl (fun K hK => ?_) AllReady.nil
    go_simp
    refine hK _ _ ?_
    clear hK K
    try simp only [Act.put, List.getElem_toArray, List.getElem_cons_succ, List.getElem_cons_zero, List.setIfInBounds_toArray, List.set_cons_zero, List.set_cons_succ]
    refine wpAny_ready (rs := [13]) (by kernel_rfl) (by simp) ?_
    refine AllReady.cons rfl (fun K hK => ?_) AllReady.nil
    go_simp
    refine hK _ _ ?_
    clear hK K
    try simp only [Act.put, List.getElem_toArray, List.getElem_cons_succ, List.getElem_cons_zero, List.setIfInBounds_toArray, List.set_cons_zero, List.set_cons_succ]
    refine wpAny_ready (rs := [14]) (by kernel_rfl) (by simp) ?_
    refine AllReady.cons rfl (fun K hK => ?_) AllReady.nil
    go_simp
    refine hK _ _ ?_
    clear hK K
    try simp only [Act.put, List.getElem_toArray, List.getElem_cons_succ, List.getElem_cons_zero, List.setIfInBounds_toArray, List.set_cons_zero, List.set_cons_succ]
    refine wpAny_ready (rs := [15]) (by kernel_rfl) (by simp) ?_
    refine AllReady.cons rfl (fun K hK => ?_) AllReady.nil
    go_simp
    refine hK _ _ ?_
    clear hK K
    try simp only [Act.put, List.getElem_toArray, List.getElem_cons_succ, List.getElem_cons_zero, List.setIfInBounds_toArray, List.set_cons_zero, List.set_cons_succ]
    refine wpAny_done (by kernel_rfl) ?_ _
    go_wp2_with fail
    go_end0
    refine ⟨?_, ((HB4.out.mono (Nat.le_of_lt (lt_of_cell H.out.c0))).trans (HB5.out.mono (Nat.le_of_lt H.out.hR))).setCell (p := ⟨R, 0, none⟩) (Nat.le_refl _) _⟩
    rw [HST.out, HN.out]
    exact ⟨rfl, Q ++ [⟨⟨n, []⟩, none, 0⟩], _, by rw [List.map_append, HQ.out]; rfl, HR4.out.put HB5.out HF.out⟩
  · have HN := Lib.hid (numO_no hn)
    refine ⟨rfl, ?_, hB3.mono (Nat.le_of_lt (lt_of_cell H.out.c0))⟩
    rw [HST.out, HN.out]
    rfl
end Go.Proofs.YtfnfcngkaepnjaaGreatDoor
