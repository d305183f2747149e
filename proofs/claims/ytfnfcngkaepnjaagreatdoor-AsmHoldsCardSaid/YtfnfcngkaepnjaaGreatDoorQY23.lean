/- Joined texts: Rows of things of whatever kind: made by a literal; append of several.; Package program: numbers, within their bounds.; Package program: may a program's numbers be? -/
import Derived.Test.YtfnfcngkaepnjaaGreatDoorQY22
/- Rows of things of whatever kind: made by a literal; append of several. -/
namespace Go.Proofs.YtfnfcngkaepnjaaGreatDoor
set_option linter.unusedVariables false
open Go Go.Proofs Go.RowKit

section
variable {α : Type} {t e : TypeId} {size bytes : Nat} {zero : Value} {enc : α → List Value} {base : Nat} {v : Value} {L : List α} {w w' : World}
theorem flatMap_len (hl : ∀ x, (enc x).length = size) (L : List α) : (L.flatMap enc).length = L.length * size := by
  induction L with
  | nil => simp
  | cons x L ih => rw [List.flatMap_cons, List.length_append, ih, hl, List.length_cons, Nat.succ_mul]; omega
theorem OwnW.made (hl : ∀ x, (enc x).length = size) (w : World) (cs : Array Value) (L : List α) (n : Nat) (hn : n = L.length) (hc : cs.toList = L.flatMap enc) (h0 : L.length ≤ 1000000) :
    OwnW e size enc w.heap.size (.slice (some ⟨w.heap.size, 0, none⟩) n n) L (w.alloc (.cells cs e)) := by
  subst hn
  have hs : cs.size = L.length * size := by rw [← Array.length_toList, hc, flatMap_len hl]
  refine ⟨flatMap_len hl L, Or.inr ⟨w.heap.size, L.length, cs, (0, 0), rfl, Nat.le_refl _, heap_alloc_new w _, Nat.zero_le _, Nat.le_refl _, by unfold maxLen; omega, hs, ?_⟩⟩
  rw [hc, List.take_of_length_le (by rw [flatMap_len hl]; exact Nat.le_refl _)]
/-- Things of a literal lie one behind the other. -/
theorem made_has (hl : ∀ x, (enc x).length = size) (w : World) (cs : Array Value) (M : List α) (e : TypeId) (hc : cs.toList = M.flatMap enc) : ∀ j u, (M.flatMap enc)[j]? = some u → (w.alloc (.cells cs e)).cell? ⟨w.heap.size, j, none⟩ = some u := by
  intro j u hj
  rw [cell_new, ← Array.getElem?_toList, hc]
  exact hj

theorem append_L_run (R : RowTy t e size bytes zero enc) (ty : TypeId) (h : OwnW e size enc base v L w) (g c : Nat) (M : List α) (hx : ∀ j u, (M.flatMap enc)[j]? = some u → w.cell? ⟨g, j, none⟩ = some u) (hn : L.length + M.length ≤ 1000000) (hbase : base ≤ w.heap.size) :
    ∃ v' w', (Builtin.append_ #[t, t] ty #[v, .slice (some ⟨g, 0, none⟩) M.length c]).run Tryz.prog w = .ok v' w' ∧ OwnW e size enc base v' (L ++ M) w' ∧ w.grownBy w' v.ownBlock := by
  obtain ⟨i0, hi0, hz0, hz1, hz2⟩ := info_of R.hi
  obtain ⟨v', w', r1, r2, r3, _⟩ := run_append_ownF (P := Tryz.prog) w base t ty e i0 zero size bytes R.ht hi0 hz0 hz1 hz2 R.hzs R.hsz v L.length (L.flatMap enc) h ⟨g, 0, none⟩ M.length c (M.flatMap enc) (flatMap_len R.len M) (by
    intro j u hj
    rw [WideShapes.add_plain, Nat.zero_add]
    exact hx j u hj) (by
    intro u hu
    obtain ⟨x, _, hx⟩ := List.mem_flatMap.1 hu
    exact R.one x u hx) (by unfold maxLen; omega) (by have := R.hby; have h1 : (L.length + M.length) * bytes ≤ 1000001 * 100000 := Nat.mul_le_mul (by omega) this; omega) hbase
  refine ⟨v', w', r1, ?_, r3⟩
  unfold OwnW
  rw [List.length_append, List.flatMap_append]
  exact r2
theorem append_L (R : RowTy t e size bytes zero enc) {ops : Array Oper} {rest : List Oper} {o : Oper} {a : Act} {Q : Exit → Act → World → Prop} (hgd : o.guard = none) (s x : Operand)
    (ho : o.op = .call { callee := .builtin .append, args := #[s, x], argTypes := #[t, t] })
    (hs : a.eval s = v) (hown : OwnW e size enc base v L w) (g c n : Nat) (M : List α) (hnM : n = M.length) (hx : a.eval x = .slice (some ⟨g, 0, none⟩) n c) (hy : ∀ j u, (M.flatMap enc)[j]? = some u → w.cell? ⟨g, j, none⟩ = some u)
    (hn : L.length + M.length ≤ 1000000) (hbase : base ≤ w.heap.size)
    (h : ∀ v' w', OwnW e size enc base v' (L ++ M) w' → w.grownBy w' v.ownBlock → Below base w w' → wpList Tryz.prog ops Q rest (a.put o.dst v') w') : wpList Tryz.prog ops Q (o :: rest) a w := by
  refine wpList_plain hgd fun K hK => ?_
  subst hnM
  obtain ⟨v', w', r1, r2, r3⟩ := append_L_run R o.type hown g c M hy hn hbase
  unfold Oper.wp
  simp [execOp, ho, resolve, invoke, builtin, hs, hx, r1, Result.andThen]
  exact hK _ _ (h v' w' r2 r3 ((Below.refl base w).grown r3 hbase (fun k hk => (hown.lt k hk).1)))
end
end Go.Proofs.YtfnfcngkaepnjaaGreatDoor

/- Package program: numbers, within their bounds. -/
namespace Go.Proofs.YtfnfcngkaepnjaaGreatDoor
set_option linter.unusedVariables false
set_option linter.unusedSimpArgs false
open Go Go.Proofs Go.RowKit

theorem rowB : RowTy 249 248 3 24 (.agg #[.int .i64 0, .int .i64 0, .int .i64 0]) encB :=
  ⟨Tryz.underlying249, by kernel_rfl, rfl, by decide, by decide, fun _ => rfl, fun x u hu => by simp at hu; rcases hu with rfl | rfl | rfl <;> rfl⟩

abbrev bndV (x : BndM) : Value := .agg #[.int .i64 x.n, .int .i64 x.least, .int .i64 x.most]
theorem within1_any (x : BndM) (w : World) : Calls Tryz.prog 219 #[bndV x] w fun e w' => e = .returned (.bool (inB x)) ∧ Below w.heap.size w w' := by
  obtain ⟨n, l, m⟩ := x
  unfold inB
  dsimp only [bndV]
  by_cases h1 : l ≤ n
  · rw [decide_eq_true h1, Bool.true_and]
    go_enter Tryz.func219, Tryz.ntmps219
    go_wp2
    go_ret
    exact ⟨rfl, bel1 _⟩
  · rw [decide_eq_false h1, Bool.false_and]
    go_enter Tryz.func219, Tryz.ntmps219
    go_wp2
    go_ret
    exact ⟨rfl, bel1 _⟩

/-- The block that holds what is asked. -/
abbrev Ask (I : Nat) (w : World) : Prop := w.cell? ⟨I, 0, none⟩ = some (.func (.func 219) #[] #[])
set_option maxRecDepth 100000 in
theorem all1_any (I : Nat) (x : BndM) (w : World) (h : Ask I w) : Calls Tryz.prog 255 #[bndV x, .pointer (some ⟨I, 0, none⟩)] w fun e w' => e = .returned (.bool (!inB x)) ∧ Below w.heap.size w w' := by
  have CW := Lib.hid (within1_any x)
  unfold Ask at h
  obtain ⟨n, l, m⟩ := x
  dsimp only [bndV] at CW ⊢
  generalize inB ⟨n, l, m⟩ = r at CW ⊢
  go_enter Tryz.func255, Tryz.ntmps255
  have h1 := cell_al h (.cells #[.int .i64 n, .int .i64 l, .int .i64 m] 248)
  go_wp2_with (refine (CW.out _).mono ?_; rintro e w1 ⟨rfl, hb1⟩)
  go_ret
  exact ⟨rfl, (bel1 _).trans (hb1.mono (by simp))⟩

set_option maxRecDepth 100000 in
set_option maxHeartbeats 1000000 in
theorem idxBnd_any (ao : Option Addr) (c I : Nat) (L : List BndM) (hL : L.length ≤ 1000000) (w : World) (h : ArgW 3 encB w (.slice ao L.length c) L) (hI : Ask I w) :
    Calls Tryz.prog 267 #[.slice ao L.length c, .func (.func 255) #[] #[.pointer (some ⟨I, 0, none⟩)]] w fun e w' =>
      ∃ r : Int, e = .returned (.int .i64 r) ∧ ((r = -1 ∧ L.all inB = true) ∨ (0 ≤ r ∧ L.all inB = false)) ∧ Below w.heap.size w w' := by
  have H := Lib.hid h
  have HI := Lib.hid hI
  clear h hI
  go_enter Tryz.func267, Tryz.ntmps267
  go_wp2
  go_loopw [8] (fun vi wr => ∃ k : Nat, vi = .int .i64 k ∧ k ≤ L.length ∧ Hid ((L.take k).all inB = true) ∧ Below w.heap.size w wr) (fun vi _ => L.length - (intOf vi).toNat)
  case atStart => exact ⟨0, rfl, by omega, Lib.hid rfl, Below.refl _ _⟩
  case round =>
    obtain ⟨k, rfl, hk, hno, hB⟩ := hrel
    by_cases hlt : k < L.length
    · obtain ⟨x, hx⟩ : ∃ x, L[k]? = some x := ⟨L[k], List.getElem?_eq_getElem hlt⟩
      obtain ⟨b, o, c', hv, hc', hH⟩ := (H.out.bel hB).at_ hx
      simp only [Value.slice.injEq, true_and] at hv
      obtain ⟨hao, hcc⟩ := hv
      subst hao hcc
      have x0 := hH k 0 _ _ hx rfl
      have x1 := hH k 1 _ _ hx rfl
      have x2 := hH k 2 _ _ hx rfl
      simp only [Nat.add_zero] at x0
      have HT := Lib.hid (show (L.take (k + 1)).all inB = (inB x) by
        obtain ⟨_, h2⟩ := List.getElem?_eq_some_iff.1 hx
        rw [← List.take_append_getElem hlt, List.all_append, hno.out, h2]; simp)
      have HF := Lib.hid (show inB x = false → L.all inB = false from fun h0 => by
        rw [Bool.eq_false_iff]
        intro h1
        have := List.all_eq_true.1 h1 x (List.mem_of_getElem? hx)
        rw [h0] at this
        cases this)
      have CA := Lib.hid (all1_any I x wr (cell_bel HI.out hB))
      obtain ⟨n, l, m⟩ := x
      dsimp only [bndV] at CA x0 x1 x2
      generalize hr : inB ⟨n, l, m⟩ = r at CA HT HF
      clear hH hx hc' hr
      cases r with
      | true =>
        go_wp2_with ((with_reducible refine CA.out.mono ?_); rintro e w5 ⟨rfl, hb5⟩)
        exact ⟨⟨k + 1, by go_num, by omega, HT, hB.trans (hb5.mono hB.size)⟩, by simp [intOf]; omega⟩
      | false =>
        go_wp2_with ((with_reducible refine CA.out.mono ?_); rintro e w5 ⟨rfl, hb5⟩)
        go_ret
        exact ⟨k, rfl, Or.inr ⟨by omega, by simpa using HF.out⟩, hB.trans (hb5.mono hB.size)⟩
    · have hk2 : k = L.length := by omega
      subst hk2
      go_wp2
      go_ret
      exact ⟨-1, rfl, Or.inl ⟨rfl, by have := hno.out; rwa [List.take_length] at this⟩, hB⟩

theorem hasBnd_any (ao : Option Addr) (c I : Nat) (L : List BndM) (hL : L.length ≤ 1000000) (w : World) (h : ArgW 3 encB w (.slice ao L.length c) L) (hI : Ask I w) :
    Calls Tryz.prog 254 #[.slice ao L.length c, .func (.func 255) #[] #[.pointer (some ⟨I, 0, none⟩)]] w fun e w' =>
      e = .returned (.bool (!(L.all inB))) ∧ Below w.heap.size w w' := by
  have CI := Lib.hid (idxBnd_any ao c I L hL w h hI)
  clear h hI
  generalize L.all inB = q at CI ⊢
  go_enter Tryz.func254, Tryz.ntmps254
  go_wp2_with (refine CI.out.mono ?_; rintro e w1 ⟨r, rfl, hr, hb1⟩)
  go_ret
  rcases hr with ⟨rfl, rfl⟩ | ⟨h0, rfl⟩
  · exact ⟨rfl, hb1⟩
  · exact ⟨ret_bool (by simpa using h0), hb1⟩

theorem allBnd_any (ao : Option Addr) (c : Nat) (L : List BndM) (hL : L.length ≤ 1000000) (w : World) (h : ArgW 3 encB w (.slice ao L.length c) L) :
    Calls Tryz.prog 218 #[.func (.func 219) #[] #[], .slice ao L.length c] w fun e w' => e = .returned (.bool (L.all inB)) ∧ Below w.heap.size w w' := by
  have CH := Lib.hid (hasBnd_any ao c w.heap.size L hL _ (h.bel (bel1 (.cells #[.func (.func 219) #[] #[]] 286))) (cell_new w _ _ 0))
  generalize L.all inB = q at CH ⊢
  clear h
  go_enter Tryz.func218, Tryz.ntmps218
  go_wp2_with (refine CH.out.mono ?_; rintro e w1 ⟨rfl, hb1⟩)
  go_ret
  exact ⟨ret_bool (by simp), (bel1 _).trans (hb1.mono (by simp))⟩

theorem within_any (v : Value) (L : List BndM) (hL : L.length ≤ 1000000) (w : World) (h : ArgW 3 encB w v L) :
    Calls Tryz.prog 167 #[v] w fun e w' => e = .returned (.bool (L.all inB)) ∧ Below w.heap.size w w' := by
  obtain ⟨ao, c, rfl⟩ := h.form
  have CH := Lib.hid (allBnd_any ao c L hL w h)
  generalize L.all inB = q at CH ⊢
  clear h
  go_enter Tryz.func167, Tryz.ntmps167
  go_wp2_with (refine CH.out.mono ?_; rintro e w1 ⟨rfl, hb1⟩)
  go_ret
  exact ⟨rfl, hb1⟩
end Go.Proofs.YtfnfcngkaepnjaaGreatDoor

/- Package program: may a program's numbers be? -/
namespace Go.Proofs.YtfnfcngkaepnjaaGreatDoor
set_option linter.unusedVariables false
set_option linter.unusedSimpArgs false
open Go Go.Proofs Go.RowKit

theorem bnds_take (F : List FnM) (k : Nat) (f : FnM) (h : F[k]? = some f) : (F.take (k + 1)).flatMap bndsF = (F.take k).flatMap bndsF ++ bndsF f := by
  obtain ⟨h1, h2⟩ := List.getElem?_eq_some_iff.1 h
  rw [← List.take_append_getElem h1, List.flatMap_append, h2]
  simp

theorem flatMap_bnds (F : List FnM) : (F.flatMap bndsF).length = F.length * 2 := by
  induction F with
  | nil => rfl
  | cons f F ih => rw [List.flatMap_cons, List.length_append, ih, List.length_cons]; simp [bndsF]; omega

set_option maxRecDepth 100000 in
set_option maxHeartbeats 2000000 in
theorem pgNumbers_any (P : ProgM) (hP : P.funcs.length ≤ 100000) (v : Value) (w : World) (h : ArgP w v P) :
    Calls Tryz.prog 120 #[v] w fun e w' => e = .returned (.bool (numbersF P)) ∧ Below w.heap.size w w' := by
  obtain ⟨vf, rfl, hF⟩ := h
  obtain ⟨F, mu, rw0, gr⟩ := P
  dsimp only at hP hF ⊢
  obtain ⟨ao, c, rfl⟩ := hF.form
  have HF := Lib.hid hF
  clear hF
  have q0 := cell_new w #[.slice ao F.length c, .int .i64 mu, .int .i64 rw0, .int .i64 gr] 58 0
  have q1 := cell_new w #[.slice ao F.length c, .int .i64 mu, .int .i64 rw0, .int .i64 gr] 58 1
  have q2 := cell_new w #[.slice ao F.length c, .int .i64 mu, .int .i64 rw0, .int .i64 gr] 58 2
  have q3 := cell_new w #[.slice ao F.length c, .int .i64 mu, .int .i64 rw0, .int .i64 gr] 58 3
  go_enter Tryz.func120, Tryz.ntmps120
  have hO := OwnW.made (e := 248) rowB.len (w.alloc (.cells #[.slice ao F.length c, .int .i64 mu, .int .i64 rw0, .int .i64 gr] 58)) #[.int .i64 F.length, .int .i64 1, .int .i64 32, .int .i64 mu, .int .i64 0, .int .i64 64, .int .i64 rw0, .int .i64 0, .int .i64 64, .int .i64 gr, .int .i64 0, .int .i64 64] [⟨F.length, 1, 32⟩, ⟨mu, 0, 64⟩, ⟨rw0, 0, 64⟩, ⟨gr, 0, 64⟩] 4 rfl (by simp) (by simp)
  have HO := Lib.hid (hO.base_le (base' := w.heap.size) (by simp))
  simp only [World.size_alloc] at HO
  have HB := belA (bel1 (W := w) (.cells #[.slice ao F.length c, .int .i64 mu, .int .i64 rw0, .int .i64 gr] 58)) (.cells #[.int .i64 F.length, .int .i64 1, .int .i64 32, .int .i64 mu, .int .i64 0, .int .i64 64, .int .i64 rw0, .int .i64 0, .int .i64 64, .int .i64 gr, .int .i64 0, .int .i64 64] 248)
  clear hO q0 q1 q2 q3
  go_wp2_with fail
  go_loopw [3, 23] (fun vl vi wr => ∃ k : Nat, vi = .int .i64 k ∧ k ≤ F.length ∧ Hid (OwnW 248 3 encB w.heap.size vl ([⟨F.length, 1, 32⟩, ⟨mu, 0, 64⟩, ⟨rw0, 0, 64⟩, ⟨gr, 0, 64⟩] ++ (F.take k).flatMap bndsF) wr) ∧ Below w.heap.size w wr) (fun _ vi _ => F.length - (intOf vi).toNat)
  case atStart => exact ⟨0, rfl, by omega, by simpa using HO, HB⟩
  case round =>
    clear HO HB
    obtain ⟨k, rfl, hk, HO, hB⟩ := hrel
    obtain ⟨al, cl, hal⟩ := HO.out.form
    rw [hal] at HO ⊢
    clear hal
    by_cases hlt : k < F.length
    · obtain ⟨f, hf⟩ : ∃ f, F[k]? = some f := ⟨F[k], List.getElem?_eq_getElem hlt⟩
      obtain ⟨b, o, c', vc, hv, hc', x0, x1, hcd⟩ := (HF.out.bel hB).at_ hf
      simp only [Value.slice.injEq, true_and] at hv
      obtain ⟨hao, hcc⟩ := hv
      subst hao hcc
      obtain ⟨ac, cc, rfl⟩ := hcd.form
      have HT := Lib.hid (bnds_take F k f hf)
      have hlen := Lib.hid (show ([⟨F.length, 1, 32⟩, ⟨mu, 0, 64⟩, ⟨rw0, 0, 64⟩, ⟨gr, 0, 64⟩] ++ (F.take k).flatMap bndsF : List BndM).length ≤ 300000 by
        rw [List.length_append, flatMap_bnds, List.length_take, Nat.min_eq_left (by omega)]; simp; omega)
      have hTL := Lib.hid (show ([⟨F.length, 1, 32⟩, ⟨mu, 0, 64⟩, ⟨rw0, 0, 64⟩, ⟨gr, 0, 64⟩] ++ (F.take (k + 1)).flatMap bndsF : List BndM) = ([⟨F.length, 1, 32⟩, ⟨mu, 0, 64⟩, ⟨rw0, 0, 64⟩, ⟨gr, 0, 64⟩] ++ (F.take k).flatMap bndsF : List BndM) ++ [⟨f.regs, 1, 16⟩, ⟨f.code.length, 1, 512⟩] by rw [HT.out, List.append_assoc]; rfl)
      generalize ([⟨F.length, 1, 32⟩, ⟨mu, 0, 64⟩, ⟨rw0, 0, 64⟩, ⟨gr, 0, 64⟩] ++ (F.take k).flatMap bndsF : List BndM) = LB at HO hlen hTL ⊢
      have hb1 := belA (bel1 (W := wr) (.cells #[.int .i64 f.regs, .slice ac f.code.length cc] 114)) (.cells #[.int .i64 f.regs, .int .i64 1, .int .i64 16, .int .i64 f.code.length, .int .i64 1, .int .i64 512] 248)
      have hm := made_has rowB.len (wr.alloc (.cells #[.int .i64 f.regs, .slice ac f.code.length cc] 114)) #[.int .i64 f.regs, .int .i64 1, .int .i64 16, .int .i64 f.code.length, .int .i64 1, .int .i64 512] [⟨f.regs, 1, 16⟩, ⟨f.code.length, 1, 512⟩] 248 (by simp)
      simp only [World.size_alloc] at hm
      clear hcd hf hc' HT
      go_wp2_with (at_builtin; refine append_L rowB rfl _ _ rfl rfl (HO.out.bel hb1) (wr.heap.size + 1) 2 2 [⟨f.regs, 1, 16⟩, ⟨f.code.length, 1, 512⟩] rfl rfl hm (by have := hlen.out; simp; omega) (Nat.le_trans hB.size hb1.size) ?_; intro vo wo hO1 hg1 hb2)
      exact ⟨⟨k + 1, by go_num, by omega, Lib.hid (by rw [hTL.out]; exact hO1), (hB.trans (hb1.mono hB.size)).trans hb2⟩, by simp [intOf]; omega⟩
    · have hk2 : k = F.length := by omega
      subst hk2
      have HQ := Lib.hid (show numbersF ⟨F, mu, rw0, gr⟩ = ([⟨F.length, 1, 32⟩, ⟨mu, 0, 64⟩, ⟨rw0, 0, 64⟩, ⟨gr, 0, 64⟩] ++ (F.take F.length).flatMap bndsF : List BndM).all inB from by rw [List.take_length]; rfl)
      have hlen : ([⟨F.length, 1, 32⟩, ⟨mu, 0, 64⟩, ⟨rw0, 0, 64⟩, ⟨gr, 0, 64⟩] ++ (F.take F.length).flatMap bndsF : List BndM).length ≤ 1000000 := by
        rw [List.length_append, flatMap_bnds, List.length_take]; simp; omega
      have CW := Lib.hid (within_any _ _ hlen wr (HO.out.arg rowB.len))
      clear HO
      generalize ([⟨F.length, 1, 32⟩, ⟨mu, 0, 64⟩, ⟨rw0, 0, 64⟩, ⟨gr, 0, 64⟩] ++ (F.take F.length).flatMap bndsF : List BndM) = LB at CW HQ ⊢
      generalize LB.all inB = q at CW HQ ⊢
      go_wp2_with (refine CW.out.mono ?_; rintro e w1 ⟨rfl, hb1⟩)
      go_ret
      exact ⟨by rw [HQ.out]; rfl, hB.trans (hb1.mono hB.size)⟩
end Go.Proofs.YtfnfcngkaepnjaaGreatDoor
