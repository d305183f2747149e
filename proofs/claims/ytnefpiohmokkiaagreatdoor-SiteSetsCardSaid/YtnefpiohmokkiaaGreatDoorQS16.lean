/- Joined texts: The reference of layer 7: Right, Order, Pair, Has.; Rows of things of whatever kind: made by a literal; append of several. -/
import Derived.Test.YtnefpiohmokkiaaGreatDoorQS14
/- The reference of layer 7: Right, Order, Pair, Has. -/
namespace Go.Proofs.YtnefpiohmokkiaaGreatDoor
set_option linter.unusedVariables false
set_option linter.unusedSimpArgs false
open Go Go.Proofs Go.RowKit Go.Sort

/-- The reference's Right. -/
def rgF (f p : Int) : Bool := decide (0 ≤ f ∧ f < 32 ∧ 0 ≤ p ∧ p < 512)
theorem rg_chk (f p : Int) : (chkF f p == 0) = rgF f p := by
  unfold chkF rgF
  by_cases h : 0 ≤ f ∧ f < 32 ∧ 0 ≤ p ∧ p < 512
  · rw [if_pos h, decide_eq_true h]; rfl
  · rw [if_neg h, decide_eq_false h]; rfl

set_option maxRecDepth 100000 in
set_option maxHeartbeats 400000 in
theorem sRight_any (f p : Int) (w : World) :
    Calls Tryz.prog 36 #[.agg #[.int .i64 f, .int .i64 p]] w fun e w' => e = .returned (.bool (rgF f p)) ∧ Below w.heap.size w w' := by
  unfold rgF
  go_enter Tryz.func36, Tryz.ntmps36
  go_wp2
  all_goals (go_ret; refine ⟨ret_bool ?_, bel1 _⟩; first | (symm; exact decide_eq_true (by omega)) | (symm; exact decide_eq_false (by omega)) | (symm; simp; omega) | (simp; omega) | (simp [*]; done))

theorem site_eq (f p f' p' : Int) (w : World) : (binOp .eql 30 (.agg #[.int .i64 f, .int .i64 p]) (.agg #[.int .i64 f', .int .i64 p'])).run Tryz.prog w = .ok (.bool (decide (f = f') && decide (p = p'))) w := by
  by_cases h1 : f = f' <;> by_cases h2 : p = p' <;> simp [go_sem, h1, h2]

set_option maxRecDepth 100000 in
set_option maxHeartbeats 1000000 in
theorem sOrder_any (f p f' p' : Int) (w : World) :
    Calls Tryz.prog 37 #[.agg #[.int .i64 f, .int .i64 p], .agg #[.int .i64 f', .int .i64 p']] w fun e w' => e = .returned (.int .i64 (ordF f p f' p')) ∧ Below w.heap.size w w' := by
  have hord : ordF f p f' p' = if f = f' ∧ p = p' then 0 else if f < f' ∨ (f = f' ∧ p < p') then -1 else 1 := by
    unfold ordF orF cmpF
    by_cases h1 : f < f' <;> by_cases h2 : f' < f <;> by_cases h3 : p < p' <;> by_cases h4 : p' < p <;> simp [h1, h2, h3, h4] <;> (try omega) <;> (repeat' split) <;> omega
  rw [hord]
  clear hord
  have hq := site_eq f p f' p'
  have HB := Lib.hid (belA (bel1 (W := w) (.cells #[.int .i64 f, .int .i64 p] 30)) (.cells #[.int .i64 f', .int .i64 p'] 30))
  have a0 := cell_al (cell_new w #[.int .i64 f, .int .i64 p] 30 0) (.cells #[.int .i64 f', .int .i64 p'] 30)
  have a1 := cell_al (cell_new w #[.int .i64 f, .int .i64 p] 30 1) (.cells #[.int .i64 f', .int .i64 p'] 30)
  have b0 := cell_two w (.cells #[.int .i64 f, .int .i64 p] 30) #[.int .i64 f', .int .i64 p'] 30 0
  have b1 := cell_two w (.cells #[.int .i64 f, .int .i64 p] 30) #[.int .i64 f', .int .i64 p'] 30 1
  by_cases h1 : f = f'
  · by_cases h2 : p = p'
    · have e1 : (decide (f = f') && decide (p = p')) = true := by rw [decide_eq_true h1, decide_eq_true h2]; rfl
      rw [if_pos ⟨h1, h2⟩]
      rw [e1] at hq
      clear h1 h2 e1
      go_enter Tryz.func37, Tryz.ntmps37
      go_wp2_with fail
      go_ret
      exact ⟨rfl, HB.out⟩
    · have e1 : (decide (f = f') && decide (p = p')) = false := by rw [decide_eq_false h2]; simp
      rw [if_neg (fun h => h2 h.2)]
      rw [e1] at hq
      have e2 : decide (f < f') = false := decide_eq_false (by omega)
      have e3 : (f == f') = true := beq_iff_eq.2 h1
      by_cases h3 : p < p'
      · have e4 : decide (p < p') = true := decide_eq_true h3
        rw [if_pos (Or.inr ⟨h1, h3⟩)]
        clear h1 h2 h3 e1
        go_enter Tryz.func37, Tryz.ntmps37
        go_wp2_with fail
        go_ret
        exact ⟨rfl, HB.out⟩
      · have e4 : decide (p < p') = false := decide_eq_false h3
        rw [if_neg (fun h => by rcases h with h | h <;> omega)]
        clear h1 h2 h3 e1
        go_enter Tryz.func37, Tryz.ntmps37
        go_wp2_with fail
        go_ret
        exact ⟨rfl, HB.out⟩
  · have e1 : (decide (f = f') && decide (p = p')) = false := by rw [decide_eq_false h1]; rfl
    rw [if_neg (fun h => h1 h.1)]
    rw [e1] at hq
    have e3 : (f == f') = false := beq_eq_false_iff_ne.2 h1
    by_cases h3 : f < f'
    · have e2 : decide (f < f') = true := decide_eq_true h3
      rw [if_pos (Or.inl h3)]
      clear h1 h3 e1
      go_enter Tryz.func37, Tryz.ntmps37
      go_wp2_with fail
      go_ret
      exact ⟨rfl, HB.out⟩
    · have e2 : decide (f < f') = false := decide_eq_false h3
      rw [if_neg (fun h => by rcases h with h | h <;> omega)]
      clear h1 h3 e1
      go_enter Tryz.func37, Tryz.ntmps37
      go_wp2_with fail
      go_ret
      exact ⟨rfl, HB.out⟩

set_option maxRecDepth 100000 in
set_option maxHeartbeats 1000000 in
theorem sPair_any (p : PaM) (w : World) : Calls Tryz.prog 9 #[p.v] w fun e w' => e = .returned (.bool p.right) ∧ Below w.heap.size w w' := by
  obtain ⟨a, b, c, d⟩ := p
  have hr : PaM.right ⟨a, b, c, d⟩ = (rgF a b && (rgF c d && decide (ordF a b c d ≤ 0))) := by
    unfold PaM.right rightF
    simp only [rg_chk]
  rw [hr]
  have C1 := Lib.hid (sRight_any a b)
  have C2 := Lib.hid (sRight_any c d)
  have C3 := Lib.hid (sOrder_any a b c d)
  have k0 := cell_new w #[.int .i64 a, .int .i64 b, .int .i64 c, .int .i64 d] 32 0
  have k1 := cell_new w #[.int .i64 a, .int .i64 b, .int .i64 c, .int .i64 d] 32 1
  have k2 := cell_new w #[.int .i64 a, .int .i64 b, .int .i64 c, .int .i64 d] 32 2
  have k3 := cell_new w #[.int .i64 a, .int .i64 b, .int .i64 c, .int .i64 d] 32 3
  have HB := Lib.hid (bel1 (W := w) (.cells #[.int .i64 a, .int .i64 b, .int .i64 c, .int .i64 d] 32))
  generalize ordF a b c d = o at C3
  clear hr
  cases h1 : rgF a b with
  | false =>
    rw [h1] at C1
    clear h1
    go_enter Tryz.func9, Tryz.ntmps9
    go_wp2_with fail
    generalize w.alloc _ = V at HB k0 k1 k2 k3 ⊢
    refine (C1.out _).mono ?_
    rintro e w1 ⟨rfl, hb1⟩
    have HB1 := Lib.hid (belT HB.out hb1)
    clear hb1 k0 k1 k2 k3
    go_wp2_with fail
    go_ret
    exact ⟨rfl, HB1.out⟩
  | true =>
    rw [h1] at C1
    clear h1
    cases h2 : rgF c d with
    | false =>
      rw [h2] at C2
      clear h2
      go_enter Tryz.func9, Tryz.ntmps9
      go_wp2_with fail
      generalize w.alloc _ = V at HB k0 k1 k2 k3 ⊢
      refine (C1.out _).mono ?_
      rintro e w1 ⟨rfl, hb1⟩
      have HB1 := Lib.hid (belT HB.out hb1)
      have k2 := cell_bel k2 hb1
      have k3 := cell_bel k3 hb1
      clear hb1 k0 k1
      go_wp2_with fail
      refine (C2.out _).mono ?_
      rintro e w2 ⟨rfl, hb2⟩
      have HB2 := Lib.hid (belT HB1.out hb2)
      clear hb2 k2 k3
      go_wp2_with fail
      go_ret
      exact ⟨rfl, HB2.out⟩
    | true =>
      rw [h2] at C2
      clear h2
      go_enter Tryz.func9, Tryz.ntmps9
      go_wp2_with fail
      generalize w.alloc _ = V at HB k0 k1 k2 k3 ⊢
      refine (C1.out _).mono ?_
      rintro e w1 ⟨rfl, hb1⟩
      have HB1 := Lib.hid (belT HB.out hb1)
      have k0 := cell_bel k0 hb1
      have k1 := cell_bel k1 hb1
      have k2 := cell_bel k2 hb1
      have k3 := cell_bel k3 hb1
      clear hb1
      go_wp2_with fail
      refine (C2.out _).mono ?_
      rintro e w2 ⟨rfl, hb2⟩
      have HB2 := Lib.hid (belT HB1.out hb2)
      have k0 := cell_bel k0 hb2
      have k1 := cell_bel k1 hb2
      have k2 := cell_bel k2 hb2
      have k3 := cell_bel k3 hb2
      clear hb2
      go_wp2_with fail
      refine (C3.out _).mono ?_
      rintro e w3 ⟨rfl, hb3⟩
      have HB3 := Lib.hid (belT HB2.out hb3)
      clear hb3 k0 k1 k2 k3
      go_wp2_with fail
      go_ret
      exact ⟨rfl, HB3.out⟩

theorem pair_eq (p q : PaM) (w : World) : (binOp .eql 32 p.v q.v).run Tryz.prog w = .ok (.bool (decide (p = q))) w := by
  obtain ⟨a, b, c, d⟩ := p
  obtain ⟨a', b', c', d'⟩ := q
  by_cases h1 : a = a' <;> by_cases h2 : b = b' <;> by_cases h3 : c = c' <;> by_cases h4 : d = d' <;> simp [go_sem, h1, h2, h3, h4]

set_option maxRecDepth 100000 in
set_option maxHeartbeats 2000000 in
theorem sHas_any (K : List PaM) (hK : K.length ≤ 1000000) (p : PaM) (v : Value) (w : World) (h : ArgW 4 encPa w v K) :
    Calls Tryz.prog 7 #[v, p.v] w fun e w' => e = .returned (.bool (decide (p ∈ K))) ∧ Below w.heap.size w w' := by
  obtain ⟨ak, ck, rfl⟩ := h.form
  have k0 := cell_new w #[.int .i64 p.a, .int .i64 p.b, .int .i64 p.c, .int .i64 p.d] 32 0
  have k1 := cell_new w #[.int .i64 p.a, .int .i64 p.b, .int .i64 p.c, .int .i64 p.d] 32 1
  have k2 := cell_new w #[.int .i64 p.a, .int .i64 p.b, .int .i64 p.c, .int .i64 p.d] 32 2
  have k3 := cell_new w #[.int .i64 p.a, .int .i64 p.b, .int .i64 p.c, .int .i64 p.d] 32 3
  have hb1 := bel1 (W := w) (.cells #[.int .i64 p.a, .int .i64 p.b, .int .i64 p.c, .int .i64 p.d] 32)
  have HB := Lib.hid hb1
  have HK := Lib.hid (h.bel hb1)
  have HC := Lib.hid (And.intro k0 (And.intro k1 (And.intro k2 k3)))
  clear h hb1 k0 k1 k2 k3
  go_enter Tryz.func7, Tryz.ntmps7
  go_wp2_with fail
  generalize w.alloc _ = V at HB HK HC ⊢
  go_loopw [5] (fun vi wr => ∃ k : Nat, vi = .int .i64 k ∧ k ≤ K.length ∧ Hid (p ∉ K.take k) ∧ Hid (Below V.heap.size V wr)) (fun vi _ => K.length - (intOf vi).toNat)
  case atStart => exact ⟨0, rfl, by omega, Lib.hid (by simp), Lib.hid (Below.refl _ _)⟩
  case round =>
    obtain ⟨k, rfl, hk, HN, HBr⟩ := hrel
    by_cases hlt : k < K.length
    · obtain ⟨q, hq⟩ : ∃ q, K[k]? = some q := ⟨K[k], List.getElem?_eq_getElem hlt⟩
      obtain ⟨b, o, c', hv, -, x0, x1, x2, x3⟩ := pair_at (HK.out.bel HBr.out) hq
      simp only [Value.slice.injEq, true_and] at hv
      obtain ⟨rfl, rfl⟩ := hv
      obtain ⟨k0, k1, k2, k3⟩ := HC.out
      have k0 := cell_bel k0 HBr.out
      have k1 := cell_bel k1 HBr.out
      have k2 := cell_bel k2 HBr.out
      have k3 := cell_bel k3 HBr.out
      have hpe := pair_eq q p
      obtain ⟨h1, h2⟩ := List.getElem?_eq_some_iff.1 hq
      by_cases he : q = p
      · have HM := Lib.hid (show decide (p ∈ K) = true from decide_eq_true (by rw [← he]; exact List.mem_of_getElem? hq))
        rw [decide_eq_true he] at hpe
        clear he h1 h2 hq HN
        go_wp2_with fail
        go_quiet (fail)
        go_wp2_with fail
        go_ret
        exact ⟨by rw [HM.out]; rfl, HB.out.trans ((HBr.out.trans ((bel_drewN wr nq).mono HBr.out.size)).mono HB.out.size)⟩
      · have HN2 := Lib.hid (show p ∉ K.take (k + 1) by
          rw [← List.take_append_getElem h1, List.mem_append, h2]
          simp only [List.mem_singleton, not_or]
          exact ⟨HN.out, fun e => he e.symm⟩)
        rw [decide_eq_false he] at hpe
        clear he h1 h2 hq HN
        go_wp2_with fail
        go_quiet (fail)
        clear x0 x1 x2 x3 k0 k1 k2 k3 hpe
        go_wp2_with fail
        exact ⟨⟨k + 1, by go_num, by omega, HN2, Lib.hid (HBr.out.trans ((bel_drewN wr nq).mono HBr.out.size))⟩, by simp [intOf]; omega⟩
    · have hk2 : k = K.length := by omega
      subst hk2
      have HM := Lib.hid (show decide (p ∈ K) = false from decide_eq_false (by have := HN.out; rwa [List.take_length] at this))
      clear HN
      go_wp2_with fail
      go_ret
      exact ⟨by rw [HM.out]; rfl, HB.out.trans (HBr.out.mono HB.out.size)⟩
end Go.Proofs.YtnefpiohmokkiaaGreatDoor

/- Rows of things of whatever kind: made by a literal; append of several. -/
namespace Go.Proofs.YtnefpiohmokkiaaGreatDoor
set_option linter.unusedVariables false
open Go Go.Proofs Go.RowKit

section
variable {α : Type} {t e : TypeId} {size bytes : Nat} {zero : Value} {enc : α → List Value} {base : Nat} {v : Value} {L : List α} {w w' : World}
theorem flatMap_len (hl : ∀ x, (enc x).length = size) (L : List α) : (L.flatMap enc).length = L.length * size := by
  induction L with
  | nil => simp
  | cons x L ih => rw [List.flatMap_cons, List.length_append, ih, hl, List.length_cons, Nat.succ_mul]; omega
theorem OwnW.made (hl : ∀ x, (enc x).length = size) (w : World) (cs : Array Value) (L : List α) (n : Nat) (hn : n = L.length) (hc : cs.toList = L.flatMap enc) (h0 : L.length ≤ 1000000) :
    OwnW e size enc w.heap.size (.slice (some ⟨w.heap.size, 0, none⟩) n n) L (w.alloc (.cells cs e)) := by
  subst hn
  have hs : cs.size = L.length * size := by rw [← Array.length_toList, hc, flatMap_len hl]
  refine ⟨flatMap_len hl L, Or.inr ⟨w.heap.size, L.length, cs, (0, 0), rfl, Nat.le_refl _, heap_alloc_new w _, Nat.zero_le _, Nat.le_refl _, by unfold maxLen; omega, hs, ?_⟩⟩
  rw [hc, List.take_of_length_le (by rw [flatMap_len hl]; exact Nat.le_refl _)]
end
end Go.Proofs.YtnefpiohmokkiaaGreatDoor
