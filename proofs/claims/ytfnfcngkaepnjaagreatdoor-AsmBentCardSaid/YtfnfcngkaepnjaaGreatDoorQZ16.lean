/- Joined texts: Package program: numbers, within their bounds.; Package program: may a program's numbers be?; Reference 09: may a program's numbers be? The statements' few.; Layer 11: few, where only the first 40 functions' sizes are bounded. -/
import Derived.Test.YtfnfcngkaepnjaaGreatDoorQZ15
/- Package program: numbers, within their bounds. -/
namespace Go.Proofs.YtfnfcngkaepnjaaGreatDoor
set_option linter.unusedVariables false
set_option linter.unusedSimpArgs false
open Go Go.Proofs Go.RowKit

theorem rowB : RowTy 249 248 3 24 (.agg #[.int .i64 0, .int .i64 0, .int .i64 0]) encB :=
  ⟨Tryz.underlying249, by kernel_rfl, rfl, by decide, by decide, fun _ => rfl, fun x u hu => by simp at hu; rcases hu with rfl | rfl | rfl <;> rfl⟩

abbrev bndV (x : BndM) : Value := .agg #[.int .i64 x.n, .int .i64 x.least, .int .i64 x.most]
theorem within1_any (x : BndM) (w : World) : Calls Tryz.prog 219 #[bndV x] w fun e w' => e = .returned (.bool (inB x)) ∧ Below w.heap.size w w' := by
  obtain ⟨n, l, m⟩ := x
  unfold inB
  dsimp only [bndV]
  by_cases h1 : l ≤ n
  · rw [decide_eq_true h1, Bool.true_and]
    go_enter Tryz.func219, Tryz.ntmps219
    go_wp2
    go_ret
    exact ⟨rfl, bel1 _⟩
  · rw [decide_eq_false h1, Bool.false_and]
    go_enter Tryz.func219, Tryz.ntmps219
    go_wp2
    go_ret
    exact ⟨rfl, bel1 _⟩

/-- The block that holds what is asked. -/
abbrev Ask (I : Nat) (w : World) : Prop := w.cell? ⟨I, 0, none⟩ = some (.func (.func 219) #[] #[])
set_option maxRecDepth 100000 in
theorem all1_any (I : Nat) (x : BndM) (w : World) (h : Ask I w) : Calls Tryz.prog 255 #[bndV x, .pointer (some ⟨I, 0, none⟩)] w fun e w' => e = .returned (.bool (!inB x)) ∧ Below w.heap.size w w' := by
  have CW := Lib.hid (within1_any x)
  unfold Ask at h
  obtain ⟨n, l, m⟩ := x
  dsimp only [bndV] at CW ⊢
  generalize inB ⟨n, l, m⟩ = r at CW ⊢
  go_enter Tryz.func255, Tryz.ntmps255
  have h1 := cell_al h (.cells #[.int .i64 n, .int .i64 l, .int .i64 m] 248)
  go_wp2_with (refine (CW.out _).mono ?_; rintro e w1 ⟨rfl, hb1⟩)
  go_ret
  exact ⟨rfl, (bel1 _).trans (hb1.mono (by simp))⟩

set_option maxRecDepth 100000 in
set_option maxHeartbeats 1000000 in
theorem idxBnd_any (ao : Option Addr) (c I : Nat) (L : List BndM) (hL : L.length ≤ 1000000) (w : World) (h : ArgW 3 encB w (.slice ao L.length c) L) (hI : Ask I w) :
    Calls Tryz.prog 267 #[.slice ao L.length c, .func (.func 255) #[] #[.pointer (some ⟨I, 0, none⟩)]] w fun e w' =>
      ∃ r : Int, e = .returned (.int .i64 r) ∧ ((r = -1 ∧ L.all inB = true) ∨ (0 ≤ r ∧ L.all inB = false)) ∧ Below w.heap.size w w' := by
  have H := Lib.hid h
  have HI := Lib.hid hI
  clear h hI
  go_enter Tryz.func267, Tryz.ntmps267
  go_wp2
  go_loopw [8] (fun vi wr => ∃ k : Nat, vi = .int .i64 k ∧ k ≤ L.length ∧ Hid ((L.take k).all inB = true) ∧ Below w.heap.size w wr) (fun vi _ => L.length - (intOf vi).toNat)
  case atStart => exact ⟨0, rfl, by omega, Lib.hid rfl, Below.refl _ _⟩
  case round =>
    obtain ⟨k, rfl, hk, hno, hB⟩ := hrel
    by_cases hlt : k < L.length
    · obtain ⟨x, hx⟩ : ∃ x, L[k]? = some x := ⟨L[k], List.getElem?_eq_getElem hlt⟩
      obtain ⟨b, o, c', hv, hc', hH⟩ := (H.out.bel hB).at_ hx
      simp only [Value.slice.injEq, true_and] at hv
      obtain ⟨hao, hcc⟩ := hv
      subst hao hcc
      have x0 := hH k 0 _ _ hx rfl
      have x1 := hH k 1 _ _ hx rfl
      have x2 := hH k 2 _ _ hx rfl
      simp only [Nat.add_zero] at x0
      have HT := Lib.hid (show (L.take (k + 1)).all inB = (inB x) by
        obtain ⟨_, h2⟩ := List.getElem?_eq_some_iff.1 hx
        rw [← List.take_append_getElem hlt, List.all_append, hno.out, h2]; simp)
      have HF := Lib.hid (show inB x = false → L.all inB = false from fun h0 => by
        rw [Bool.eq_false_iff]
        intro h1
        have := List.all_eq_true.1 h1 x (List.mem_of_getElem? hx)
        rw [h0] at this
        cases this)
      have CA := Lib.hid (all1_any I x wr (cell_bel HI.out hB))
      obtain ⟨n, l, m⟩ := x
      dsimp only [bndV] at CA x0 x1 x2
      generalize hr : inB ⟨n, l, m⟩ = r at CA HT HF
      clear hH hx hc' hr
      cases r with
      | true =>
        go_wp2_with ((with_reducible refine CA.out.mono ?_); rintro e w5 ⟨rfl, hb5⟩)
        exact ⟨⟨k + 1, by go_num, by omega, HT, hB.trans (hb5.mono hB.size)⟩, by simp [intOf]; omega⟩
      | false =>
        go_wp2_with ((with_reducible refine CA.out.mono ?_); rintro e w5 ⟨rfl, hb5⟩)
        go_ret
        exact ⟨k, rfl, Or.inr ⟨by omega, by simpa using HF.out⟩, hB.trans (hb5.mono hB.size)⟩
    · have hk2 : k = L.length := by omega
      subst hk2
      go_wp2
      go_ret
      exact ⟨-1, rfl, Or.inl ⟨rfl, by have := hno.out; rwa [List.take_length] at this⟩, hB⟩

theorem hasBnd_any (ao : Option Addr) (c I : Nat) (L : List BndM) (hL : L.length ≤ 1000000) (w : World) (h : ArgW 3 encB w (.slice ao L.length c) L) (hI : Ask I w) :
    Calls Tryz.prog 254 #[.slice ao L.length c, .func (.func 255) #[] #[.pointer (some ⟨I, 0, none⟩)]] w fun e w' =>
      e = .returned (.bool (!(L.all inB))) ∧ Below w.heap.size w w' := by
  have CI := Lib.hid (idxBnd_any ao c I L hL w h hI)
  clear h hI
  generalize L.all inB = q at CI ⊢
  go_enter Tryz.func254, Tryz.ntmps254
  go_wp2_with (refine CI.out.mono ?_; rintro e w1 ⟨r, rfl, hr, hb1⟩)
  go_ret
  rcases hr with ⟨rfl, rfl⟩ | ⟨h0, rfl⟩
  · exact ⟨rfl, hb1⟩
  · exact ⟨ret_bool (by simpa using h0), hb1⟩

theorem allBnd_any (ao : Option Addr) (c : Nat) (L : List BndM) (hL : L.length ≤ 1000000) (w : World) (h : ArgW 3 encB w (.slice ao L.length c) L) :
    Calls Tryz.prog 218 #[.func (.func 219) #[] #[], .slice ao L.length c] w fun e w' => e = .returned (.bool (L.all inB)) ∧ Below w.heap.size w w' := by
  have CH := Lib.hid (hasBnd_any ao c w.heap.size L hL _ (h.bel (bel1 (.cells #[.func (.func 219) #[] #[]] 286))) (cell_new w _ _ 0))
  generalize L.all inB = q at CH ⊢
  clear h
  go_enter Tryz.func218, Tryz.ntmps218
  go_wp2_with (refine CH.out.mono ?_; rintro e w1 ⟨rfl, hb1⟩)
  go_ret
  exact ⟨ret_bool (by simp), (bel1 _).trans (hb1.mono (by simp))⟩

theorem within_any (v : Value) (L : List BndM) (hL : L.length ≤ 1000000) (w : World) (h : ArgW 3 encB w v L) :
    Calls Tryz.prog 167 #[v] w fun e w' => e = .returned (.bool (L.all inB)) ∧ Below w.heap.size w w' := by
  obtain ⟨ao, c, rfl⟩ := h.form
  have CH := Lib.hid (allBnd_any ao c L hL w h)
  generalize L.all inB = q at CH ⊢
  clear h
  go_enter Tryz.func167, Tryz.ntmps167
  go_wp2_with (refine CH.out.mono ?_; rintro e w1 ⟨rfl, hb1⟩)
  go_ret
  exact ⟨rfl, hb1⟩
end Go.Proofs.YtfnfcngkaepnjaaGreatDoor

/- Package program: may a program's numbers be? -/
namespace Go.Proofs.YtfnfcngkaepnjaaGreatDoor
set_option linter.unusedVariables false
set_option linter.unusedSimpArgs false
open Go Go.Proofs Go.RowKit

theorem bnds_take (F : List FnM) (k : Nat) (f : FnM) (h : F[k]? = some f) : (F.take (k + 1)).flatMap bndsF = (F.take k).flatMap bndsF ++ bndsF f := by
  obtain ⟨h1, h2⟩ := List.getElem?_eq_some_iff.1 h
  rw [← List.take_append_getElem h1, List.flatMap_append, h2]
  simp

theorem flatMap_bnds (F : List FnM) : (F.flatMap bndsF).length = F.length * 2 := by
  induction F with
  | nil => rfl
  | cons f F ih => rw [List.flatMap_cons, List.length_append, ih, List.length_cons]; simp [bndsF]; omega

set_option maxRecDepth 100000 in
set_option maxHeartbeats 2000000 in
theorem pgNumbers_any (P : ProgM) (hP : P.funcs.length ≤ 100000) (v : Value) (w : World) (h : ArgP w v P) :
    Calls Tryz.prog 120 #[v] w fun e w' => e = .returned (.bool (numbersF P)) ∧ Below w.heap.size w w' := by
  obtain ⟨vf, rfl, hF⟩ := h
  obtain ⟨F, mu, rw0, gr⟩ := P
  dsimp only at hP hF ⊢
  obtain ⟨ao, c, rfl⟩ := hF.form
  have HF := Lib.hid hF
  clear hF
  have q0 := cell_new w #[.slice ao F.length c, .int .i64 mu, .int .i64 rw0, .int .i64 gr] 58 0
  have q1 := cell_new w #[.slice ao F.length c, .int .i64 mu, .int .i64 rw0, .int .i64 gr] 58 1
  have q2 := cell_new w #[.slice ao F.length c, .int .i64 mu, .int .i64 rw0, .int .i64 gr] 58 2
  have q3 := cell_new w #[.slice ao F.length c, .int .i64 mu, .int .i64 rw0, .int .i64 gr] 58 3
  go_enter Tryz.func120, Tryz.ntmps120
  have hO := OwnW.made (e := 248) rowB.len (w.alloc (.cells #[.slice ao F.length c, .int .i64 mu, .int .i64 rw0, .int .i64 gr] 58)) #[.int .i64 F.length, .int .i64 1, .int .i64 32, .int .i64 mu, .int .i64 0, .int .i64 64, .int .i64 rw0, .int .i64 0, .int .i64 64, .int .i64 gr, .int .i64 0, .int .i64 64] [⟨F.length, 1, 32⟩, ⟨mu, 0, 64⟩, ⟨rw0, 0, 64⟩, ⟨gr, 0, 64⟩] 4 rfl (by simp) (by simp)
  have HO := Lib.hid (hO.base_le (base' := w.heap.size) (by simp))
  simp only [World.size_alloc] at HO
  have HB := belA (bel1 (W := w) (.cells #[.slice ao F.length c, .int .i64 mu, .int .i64 rw0, .int .i64 gr] 58)) (.cells #[.int .i64 F.length, .int .i64 1, .int .i64 32, .int .i64 mu, .int .i64 0, .int .i64 64, .int .i64 rw0, .int .i64 0, .int .i64 64, .int .i64 gr, .int .i64 0, .int .i64 64] 248)
  clear hO q0 q1 q2 q3
  go_wp2_with fail
  go_loopw [3, 23] (fun vl vi wr => ∃ k : Nat, vi = .int .i64 k ∧ k ≤ F.length ∧ Hid (OwnW 248 3 encB w.heap.size vl ([⟨F.length, 1, 32⟩, ⟨mu, 0, 64⟩, ⟨rw0, 0, 64⟩, ⟨gr, 0, 64⟩] ++ (F.take k).flatMap bndsF) wr) ∧ Below w.heap.size w wr) (fun _ vi _ => F.length - (intOf vi).toNat)
  case atStart => exact ⟨0, rfl, by omega, by simpa using HO, HB⟩
  case round =>
    clear HO HB
    obtain ⟨k, rfl, hk, HO, hB⟩ := hrel
    obtain ⟨al, cl, hal⟩ := HO.out.form
    rw [hal] at HO ⊢
    clear hal
    by_cases hlt : k < F.length
    · obtain ⟨f, hf⟩ : ∃ f, F[k]? = some f := ⟨F[k], List.getElem?_eq_getElem hlt⟩
      obtain ⟨b, o, c', vc, hv, hc', x0, x1, hcd⟩ := (HF.out.bel hB).at_ hf
      simp only [Value.slice.injEq, true_and] at hv
      obtain ⟨hao, hcc⟩ := hv
      subst hao hcc
      obtain ⟨ac, cc, rfl⟩ := hcd.form
      have HT := Lib.hid (bnds_take F k f hf)
      have hlen := Lib.hid (show ([⟨F.length, 1, 32⟩, ⟨mu, 0, 64⟩, ⟨rw0, 0, 64⟩, ⟨gr, 0, 64⟩] ++ (F.take k).flatMap bndsF : List BndM).length ≤ 300000 by
        rw [List.length_append, flatMap_bnds, List.length_take, Nat.min_eq_left (by omega)]; simp; omega)
      have hTL := Lib.hid (show ([⟨F.length, 1, 32⟩, ⟨mu, 0, 64⟩, ⟨rw0, 0, 64⟩, ⟨gr, 0, 64⟩] ++ (F.take (k + 1)).flatMap bndsF : List BndM) = ([⟨F.length, 1, 32⟩, ⟨mu, 0, 64⟩, ⟨rw0, 0, 64⟩, ⟨gr, 0, 64⟩] ++ (F.take k).flatMap bndsF : List BndM) ++ [⟨f.regs, 1, 16⟩, ⟨f.code.length, 1, 512⟩] by rw [HT.out, List.append_assoc]; rfl)
      generalize ([⟨F.length, 1, 32⟩, ⟨mu, 0, 64⟩, ⟨rw0, 0, 64⟩, ⟨gr, 0, 64⟩] ++ (F.take k).flatMap bndsF : List BndM) = LB at HO hlen hTL ⊢
      have hb1 := belA (bel1 (W := wr) (.cells #[.int .i64 f.regs, .slice ac f.code.length cc] 114)) (.cells #[.int .i64 f.regs, .int .i64 1, .int .i64 16, .int .i64 f.code.length, .int .i64 1, .int .i64 512] 248)
      have hm := made_has rowB.len (wr.alloc (.cells #[.int .i64 f.regs, .slice ac f.code.length cc] 114)) #[.int .i64 f.regs, .int .i64 1, .int .i64 16, .int .i64 f.code.length, .int .i64 1, .int .i64 512] [⟨f.regs, 1, 16⟩, ⟨f.code.length, 1, 512⟩] 248 (by simp)
      simp only [World.size_alloc] at hm
      clear hcd hf hc' HT
      go_wp2_with (at_builtin; refine append_L rowB rfl _ _ rfl rfl (HO.out.bel hb1) (wr.heap.size + 1) 2 2 [⟨f.regs, 1, 16⟩, ⟨f.code.length, 1, 512⟩] rfl rfl hm (by have := hlen.out; simp; omega) (Nat.le_trans hB.size hb1.size) ?_; intro vo wo hO1 hg1 hb2)
      exact ⟨⟨k + 1, by go_num, by omega, Lib.hid (by rw [hTL.out]; exact hO1), (hB.trans (hb1.mono hB.size)).trans hb2⟩, by simp [intOf]; omega⟩
    · have hk2 : k = F.length := by omega
      subst hk2
      have HQ := Lib.hid (show numbersF ⟨F, mu, rw0, gr⟩ = ([⟨F.length, 1, 32⟩, ⟨mu, 0, 64⟩, ⟨rw0, 0, 64⟩, ⟨gr, 0, 64⟩] ++ (F.take F.length).flatMap bndsF : List BndM).all inB from by rw [List.take_length]; rfl)
      have hlen : ([⟨F.length, 1, 32⟩, ⟨mu, 0, 64⟩, ⟨rw0, 0, 64⟩, ⟨gr, 0, 64⟩] ++ (F.take F.length).flatMap bndsF : List BndM).length ≤ 1000000 := by
        rw [List.length_append, flatMap_bnds, List.length_take]; simp; omega
      have CW := Lib.hid (within_any _ _ hlen wr (HO.out.arg rowB.len))
      clear HO
      generalize ([⟨F.length, 1, 32⟩, ⟨mu, 0, 64⟩, ⟨rw0, 0, 64⟩, ⟨gr, 0, 64⟩] ++ (F.take F.length).flatMap bndsF : List BndM) = LB at CW HQ ⊢
      generalize LB.all inB = q at CW HQ ⊢
      go_wp2_with (refine CW.out.mono ?_; rintro e w1 ⟨rfl, hb1⟩)
      go_ret
      exact ⟨by rw [HQ.out]; rfl, hB.trans (hb1.mono hB.size)⟩
end Go.Proofs.YtfnfcngkaepnjaaGreatDoor

/- Reference 09: may a program's numbers be? The statements' few. -/
namespace Go.Proofs.YtfnfcngkaepnjaaGreatDoor
set_option linter.unusedVariables false
set_option linter.unusedSimpArgs false
open Go Go.Proofs Go.RowKit

theorem numbersF_iff (P : ProgM) : numbersF P = true ↔ ((1 ≤ P.funcs.length ∧ P.funcs.length ≤ 32) ∧ (0 ≤ P.mu ∧ P.mu ≤ 64) ∧ (0 ≤ P.rw ∧ P.rw ≤ 64) ∧ (0 ≤ P.gr ∧ P.gr ≤ 64)) ∧ ∀ f ∈ P.funcs, (1 ≤ f.regs ∧ f.regs ≤ 16) ∧ 1 ≤ f.code.length ∧ f.code.length ≤ 512 := by
  have e : numbersF P = (([⟨P.funcs.length, 1, 32⟩, ⟨P.mu, 0, 64⟩, ⟨P.rw, 0, 64⟩, ⟨P.gr, 0, 64⟩] : List BndM).all inB && P.funcs.all fun f => (bndsF f).all inB) := by
    unfold numbersF bndsP
    rw [List.all_append, List.all_flatMap]
  rw [e, Bool.and_eq_true]
  refine and_congr ?_ ?_
  · simp only [List.all_cons, List.all_nil, inB, Bool.and_eq_true, decide_eq_true_eq, Bool.and_true, and_true]
    omega
  · rw [List.all_eq_true]
    refine forall_congr' fun f => forall_congr' fun _ => ?_
    simp only [bndsF, List.all_cons, List.all_nil, inB, Bool.and_eq_true, decide_eq_true_eq, Bool.and_true, and_true]
    omega
theorem numbersF_no {P : ProgM} (h : ¬ ((1 ≤ P.funcs.length ∧ P.funcs.length ≤ 32) ∧ (0 ≤ P.mu ∧ P.mu ≤ 64) ∧ (0 ≤ P.rw ∧ P.rw ≤ 64) ∧ (0 ≤ P.gr ∧ P.gr ≤ 64))) : numbersF P = false := by
  rw [Bool.eq_false_iff]
  intro h1
  exact h ((numbersF_iff P).1 h1).1

/-- The sum that few makes. -/
def fewSum (F : List FnM) : Nat := (F.map fun f => f.code.length).sum
def fewF (P : ProgM) : Bool := decide (P.funcs.length ≤ 40) && decide (fewSum (P.funcs.take 40) ≤ 600)
theorem fewSum_take (F : List FnM) (k : Nat) (f : FnM) (h : F[k]? = some f) : fewSum (F.take (k + 1)) = fewSum (F.take k) + f.code.length := by
  obtain ⟨h1, h2⟩ := List.getElem?_eq_some_iff.1 h
  unfold fewSum
  rw [← List.take_append_getElem h1, List.map_append, List.sum_append, h2]
  simp
theorem fewF_le {F : List FnM} {mu rw0 gr : Int} (h : F.length ≤ 40) : fewF ⟨F, mu, rw0, gr⟩ = decide (fewSum F ≤ 600) := by
  unfold fewF
  dsimp only
  rw [List.take_of_length_le h, decide_eq_true h, Bool.true_and]
theorem fewSum_le (F : List FnM) (k : Nat) : fewSum (F.take k) ≤ fewSum F := by
  conv => rhs; rw [← List.take_append_drop k F]
  unfold fewSum
  rw [List.map_append, List.sum_append]
  omega

theorem numbersF_fn {P : ProgM} {k : Nat} {f : FnM} (hf : P.funcs[k]? = some f) (h : ¬ ((1 ≤ f.regs ∧ f.regs ≤ 16) ∧ 1 ≤ f.code.length ∧ f.code.length ≤ 512)) : numbersF P = false := by
  rw [Bool.eq_false_iff]
  intro h1
  exact h (((numbersF_iff P).1 h1).2 f (List.mem_of_getElem? hf))
theorem take_ok {q : FnM → Prop} {F : List FnM} {k : Nat} {f : FnM} (h : ∀ f ∈ F.take k, q f) (hf : F[k]? = some f) (hq : q f) : ∀ f ∈ F.take (k + 1), q f := by
  obtain ⟨h1, h2⟩ := List.getElem?_eq_some_iff.1 hf
  intro g hg
  rw [← List.take_append_getElem h1, List.mem_append] at hg
  rcases hg with hg | hg
  · exact h g hg
  · rw [List.mem_singleton.1 hg, h2]; exact hq

set_option maxRecDepth 100000 in
set_option maxHeartbeats 4000000 in
theorem rNumbers_any (P : ProgM) (v : Value) (w : World) (h : ArgP w v P) :
    Calls Tryz.prog 78 #[v] w fun e w' => e = .returned (.bool (numbersF P)) ∧ Below w.heap.size w w' := by
  obtain ⟨vf, rfl, hF⟩ := h
  obtain ⟨F, mu, rw0, gr⟩ := P
  dsimp only at hF ⊢
  obtain ⟨ao, c, rfl⟩ := hF.form
  have HF := Lib.hid hF
  have HM := Lib.hid hF.len
  clear hF
  have HB := bel1 (W := w) (.cells #[.slice ao F.length c, .int .i64 mu, .int .i64 rw0, .int .i64 gr] 58)
  have p0 := cell_new w #[.slice ao F.length c, .int .i64 mu, .int .i64 rw0, .int .i64 gr] 58 0
  have HF := Lib.hid (HF.out.bel HB)
  by_cases c1 : (F.length : Int) < 1
  · go_enter Tryz.func78, Tryz.ntmps78
    have : F = [] := List.eq_nil_of_length_eq_zero (by omega)
    subst this
    go_wp2_with fail
    go_ret
    exact ⟨ret_bool (numbersF_no (by dsimp only; omega)).symm, HB⟩
  by_cases c2 : (32 : Int) < F.length
  · go_enter Tryz.func78, Tryz.ntmps78
    go_wp2_with fail
    go_ret
    exact ⟨ret_bool (numbersF_no (by dsimp only; omega)).symm, HB⟩
  by_cases c3 : mu < 0
  · go_enter Tryz.func78, Tryz.ntmps78
    go_wp2_with fail
    go_ret
    exact ⟨ret_bool (numbersF_no (by dsimp only; omega)).symm, HB⟩
  by_cases c4 : 64 < mu
  · go_enter Tryz.func78, Tryz.ntmps78
    go_wp2_with fail
    go_ret
    exact ⟨ret_bool (numbersF_no (by dsimp only; omega)).symm, HB⟩
  by_cases c5 : rw0 < 0
  · go_enter Tryz.func78, Tryz.ntmps78
    go_wp2_with fail
    go_ret
    exact ⟨ret_bool (numbersF_no (by dsimp only; omega)).symm, HB⟩
  by_cases c6 : 64 < rw0
  · go_enter Tryz.func78, Tryz.ntmps78
    go_wp2_with fail
    go_ret
    exact ⟨ret_bool (numbersF_no (by dsimp only; omega)).symm, HB⟩
  by_cases c7 : gr < 0
  · go_enter Tryz.func78, Tryz.ntmps78
    go_wp2_with fail
    go_ret
    exact ⟨ret_bool (numbersF_no (by dsimp only; omega)).symm, HB⟩
  by_cases c8 : 64 < gr
  · go_enter Tryz.func78, Tryz.ntmps78
    go_wp2_with fail
    go_ret
    exact ⟨ret_bool (numbersF_no (by dsimp only; omega)).symm, HB⟩
  go_enter Tryz.func78, Tryz.ntmps78
  have HK := Lib.hid (show (1 ≤ F.length ∧ F.length ≤ 32) ∧ (0 ≤ mu ∧ mu ≤ 64) ∧ (0 ≤ rw0 ∧ rw0 ≤ 64) ∧ (0 ≤ gr ∧ gr ≤ 64) by omega)
  have hl32 : F.length ≤ 32 := by omega
  go_wp2_with fail
  clear c1 c2 c3 c4 c5 c6 c7 c8 HM
  generalize w.alloc _ = W at HB p0 HF ⊢
  go_loopw [3] (fun vi wr => ∃ k : Nat, vi = .int .i64 k ∧ k ≤ F.length ∧ Hid (∀ f ∈ F.take k, (1 ≤ f.regs ∧ f.regs ≤ 16) ∧ 1 ≤ f.code.length ∧ f.code.length ≤ 512) ∧ Hid (Below W.heap.size W wr)) (fun vi _ => F.length - (intOf vi).toNat)
  case atStart => exact ⟨0, rfl, by omega, Lib.hid (fun f hf => by simp at hf), Lib.hid (Below.refl _ _)⟩
  case round =>
    obtain ⟨k, rfl, hk, HN, HBr⟩ := hrel
    have p1 := cell_bel p0 HBr.out
    by_cases hlt : k < F.length
    · obtain ⟨f, hf⟩ : ∃ f, F[k]? = some f := ⟨F[k], List.getElem?_eq_getElem hlt⟩
      obtain ⟨b, o, c', vc, hv, hc', x0, x1, hcd⟩ := (HF.out.bel HBr.out).at_ hf
      simp only [Value.slice.injEq, true_and] at hv
      obtain ⟨hao, hcc⟩ := hv
      subst hao hcc
      obtain ⟨ac, cc, rfl⟩ := hcd.form
      have HT := Lib.hid (fun h => numbersF_fn (P := ⟨F, mu, rw0, gr⟩) (k := k) hf h)
      have HX := Lib.hid (fun h => take_ok HN.out hf h)
      have HB2 := Lib.hid (HB.trans (HBr.out.mono HB.size))
      have HB1 := Lib.hid (belA HB2.out (.cells #[.int .i64 f.regs, .slice ac f.code.length cc] 114))
      clear hcd hf hc' p0 hk
      by_cases d1 : f.regs < 1
      · go_wp2_with fail
        go_ret
        exact ⟨ret_bool (HT.out (by omega)).symm, HB1.out⟩
      by_cases d2 : 16 < f.regs
      · go_wp2_with fail
        go_ret
        exact ⟨ret_bool (HT.out (by omega)).symm, HB1.out⟩
      by_cases d3 : (f.code.length : Int) < 1
      · have d4 : f.code = [] := List.eq_nil_of_length_eq_zero (by omega)
        have d5 : f.code.length = 0 := by rw [d4]; rfl
        have h9 := HB1.out
        rw [d5] at h9
        have HB1 := Lib.hid h9
        clear h9
        go_wp2_with fail
        go_ret
        exact ⟨ret_bool (HT.out (by omega)).symm, HB1.out⟩
      by_cases d4 : (512 : Int) < f.code.length
      · go_wp2_with fail
        go_ret
        exact ⟨ret_bool (HT.out (by omega)).symm, HB1.out⟩
      have HX := Lib.hid (HX.out (by omega))
      have d5 : ¬ f.code = [] := fun h => by rw [h] at d3; simp at d3
      go_wp2_with fail
      exact ⟨⟨k + 1, by go_num, by omega, HX, Lib.hid (belA HBr.out _)⟩, by simp [intOf]; omega⟩
    · have hk2 : k = F.length := by omega
      subst hk2
      have HN := Lib.hid (show ∀ f ∈ F, (1 ≤ f.regs ∧ f.regs ≤ 16) ∧ 1 ≤ f.code.length ∧ f.code.length ≤ 512 by have := HN.out; rwa [List.take_length] at this)
      have HB2 := Lib.hid (HB.trans (HBr.out.mono HB.size))
      go_wp2_with fail
      go_ret
      exact ⟨ret_bool ((numbersF_iff ⟨F, mu, rw0, gr⟩).2 ⟨HK.out, HN.out⟩).symm, HB2.out⟩
end Go.Proofs.YtfnfcngkaepnjaaGreatDoor

/- Layer 11: few, where only the first 40 functions' sizes are bounded. -/
namespace Go.Proofs.YtfnfcngkaepnjaaGreatDoor
set_option linter.unusedVariables false
set_option linter.unusedSimpArgs false
open Go Go.Proofs Go.RowKit

theorem fewSum_le40 (F : List FnM) (k : Nat) (h : k ≤ 40) : fewSum (F.take k) ≤ fewSum (F.take 40) := by
  have := fewSum_le (F.take 40) k
  rwa [List.take_take, Nat.min_eq_left h] at this
theorem fewSum_bound (F : List FnM) (h : ∀ f ∈ F, f.code.length ≤ 140737488355328) : fewSum (F.take 40) ≤ 4611686018427387904 := by
  have : ∀ G : List FnM, (∀ f ∈ G, f.code.length ≤ 140737488355328) → fewSum G ≤ 140737488355328 * G.length := by
    intro G
    induction G with
    | nil => simp [fewSum]
    | cons g G ih =>
      intro hG
      have h1 := hG g (by simp)
      have h2 := ih (fun f hf => hG f (by simp [hf]))
      unfold fewSum at h2 ⊢
      simp only [List.map_cons, List.sum_cons, List.length_cons]
      omega
  have h1 := this (F.take 40) (fun f hf => h f (List.mem_of_mem_take hf))
  have h2 : (F.take 40).length ≤ 40 := by rw [List.length_take]; omega
  omega

set_option maxRecDepth 100000 in
set_option maxHeartbeats 2000000 in
theorem few2_any (P : ProgM) (hS : fewSum (P.funcs.take 40) ≤ 4611686018427387904) (v : Value) (w : World) (h : ArgP w v P) :
    Calls Tryz.prog 23 #[v] w fun e w' => e = .returned (.bool (fewF P)) ∧ Below w.heap.size w w' := by
  obtain ⟨vf, rfl, hF⟩ := h
  obtain ⟨F, mu, rw0, gr⟩ := P
  dsimp only at hF hS ⊢
  obtain ⟨ao, c, rfl⟩ := hF.form
  have HF := Lib.hid hF
  have HM := Lib.hid hF.len
  clear hF
  have HB := bel1 (W := w) (.cells #[.slice ao F.length c, .int .i64 mu, .int .i64 rw0, .int .i64 gr] 58)
  have p0 := cell_new w #[.slice ao F.length c, .int .i64 mu, .int .i64 rw0, .int .i64 gr] 58 0
  have HF := Lib.hid (HF.out.bel HB)
  go_enter Tryz.func23, Tryz.ntmps23
  go_wp2_with fail
  generalize w.alloc _ = W at HB p0 HF ⊢
  go_loopw [3, 4] (fun vn vi wr => ∃ k n : Nat, vi = .int .i64 k ∧ vn = .int .i64 n ∧ k ≤ F.length ∧ k ≤ 40 ∧ Hid (n = fewSum (F.take k)) ∧ wr = W) (fun _ vi _ => F.length - (intOf vi).toNat)
  case atStart => exact ⟨0, 0, rfl, rfl, by omega, by omega, Lib.hid rfl, rfl⟩
  case round =>
    obtain ⟨k, n, rfl, rfl, hk, hk4, HN, rfl⟩ := hrel
    have hn : n ≤ 4611686018427387904 := by have := HN.out; have := fewSum_le40 F k hk4; omega
    by_cases hlt : k < F.length
    · by_cases h40 : k < 40
      · obtain ⟨f, hf⟩ : ∃ f, F[k]? = some f := ⟨F[k], List.getElem?_eq_getElem hlt⟩
        obtain ⟨b, o, c', vc, hv, hc', x0, x1, hcd⟩ := HF.out.at_ hf
        simp only [Value.slice.injEq, true_and] at hv
        obtain ⟨hao, hcc⟩ := hv
        subst hao hcc
        obtain ⟨ac, cc, rfl⟩ := hcd.form
        have HT := Lib.hid (fewSum_take F k f hf)
        have hbig : n + f.code.length ≤ 4611686018427387904 := by have := HN.out; have := HT.out; have := fewSum_le40 F (k + 1) (by omega); omega
        clear hcd hf hc'
        go_wp2_with fail
        exact ⟨⟨k + 1, n + f.code.length, by go_num, by rw [Int.natCast_add], by omega, by omega, Lib.hid (by have h1 := HT.out; have h2 := HN.out; omega), trivial⟩, by simp [intOf]; omega⟩
      · have hk40 : k = 40 := by omega
        subst hk40
        have hle : ¬ F.length ≤ 40 := by omega
        go_wp2_with fail
        go_ret
        exact ⟨ret_bool (by unfold fewF; rw [decide_eq_false hle, Bool.false_and]), HB⟩
    · have hk2 : k = F.length := by omega
      subst hk2
      have h40 : F.length ≤ 40 := by omega
      have HN := Lib.hid (show n = fewSum F by have := HN.out; rwa [List.take_length] at this)
      go_wp2_with fail
      go_ret
      exact ⟨ret_bool (by rw [fewF_le h40, ← HN.out]; rw [Bool.eq_iff_iff]; simp <;> omega), HB⟩
end Go.Proofs.YtfnfcngkaepnjaaGreatDoor
