/- Joined texts: Rows of things of whatever kind that are read.; A set of pairs: New, of any pairs.; A set's pairs in order: the comparison. -/
import Derived.Test.YtnefpiohmokkiaaGreatDoorQS13
import Derived.Test.YtnefpiohmokkiaaGreatDoorQS10
import Derived.Sort.Grow
/- Rows of things of whatever kind that are read. -/
namespace Go.Proofs.YtnefpiohmokkiaaGreatDoor
set_option linter.unusedVariables false
set_option linter.unusedSimpArgs false
open Go Go.Proofs Go.RowKit

section
variable {α : Type} {size : Nat} {enc : α → List Value} {w w' : World} {v : Value} {L : List α}
/-- Things that lie one behind the other. -/
def HasW (size : Nat) (enc : α → List Value) (w : World) (b o : Nat) (L : List α) : Prop := ∀ k j x u, L[k]? = some x → (enc x)[j]? = some u → w.cell? ⟨b, o + k * size + j, none⟩ = some u
/-- A slice of things, readable: nil, or some. -/
def ArgW (size : Nat) (enc : α → List Value) (w : World) (v : Value) (L : List α) : Prop :=
  (v = .slice none 0 0 ∧ L = []) ∨ ∃ ad c, v = .slice (some ad) L.length c ∧ L.length ≤ c ∧ c ≤ 9223372036854775807 ∧ (L ≠ [] → ∃ b o, ad = ⟨b, o, none⟩ ∧ HasW size enc w b o L)
theorem HasW.bel {b o : Nat} (h : HasW size enc w b o L) (hb : Below w.heap.size w w') : HasW size enc w' b o L := fun k j x u hk hj => cell_bel (h k j x u hk hj) hb
theorem HasW.touch {b o : Nat} {T : Nat → Prop} (h : HasW size enc w b o L) (hb : Touch T w w') (hn : ¬ T b) : HasW size enc w' b o L := fun k j x u hk hj => cell_touch (h k j x u hk hj) hb hn
theorem ArgW.bel (h : ArgW size enc w v L) (hb : Below w.heap.size w w') : ArgW size enc w' v L := by
  rcases h with h | ⟨ad, c, h1, h2, h3, h4⟩
  · exact Or.inl h
  · exact Or.inr ⟨ad, c, h1, h2, h3, fun hn => by obtain ⟨b, o, e, hB⟩ := h4 hn; exact ⟨b, o, e, hB.bel hb⟩⟩
theorem ArgW.form (h : ArgW size enc w v L) : ∃ a c, v = .slice a L.length c := by
  rcases h with ⟨rfl, rfl⟩ | ⟨ad, c, rfl, _⟩
  · exact ⟨none, 0, rfl⟩
  · exact ⟨some ad, c, rfl⟩
theorem ArgW.len (h : ArgW size enc w v L) : L.length ≤ 9223372036854775807 := by
  rcases h with ⟨_, rfl⟩ | ⟨ad, c, _, h1, h2, _⟩
  · simp
  · omega
/-- Where one of them lies. -/
theorem ArgW.at_ (h : ArgW size enc w v L) {k : Nat} {x : α} (hk : L[k]? = some x) : ∃ b o c, v = .slice (some ⟨b, o, none⟩) L.length c ∧ L.length ≤ c ∧ HasW size enc w b o L := by
  rcases h with ⟨rfl, rfl⟩ | ⟨ad, c, rfl, h1, h2, h3⟩
  · simp at hk
  · obtain ⟨b, o, rfl, hH⟩ := h3 (by rintro rfl; simp at hk)
    exact ⟨b, o, c, rfl, h1, hH⟩
theorem OwnW.arg {e : TypeId} {base : Nat} (hl : ∀ x, (enc x).length = size) (h : OwnW e size enc base v L w) : ArgW size enc w v L := by
  rcases h.2 with ⟨rfl, h0⟩ | ⟨g, cap, cur, fz, rfl, hb, hg, _, hc, hm, _⟩
  · exact Or.inl ⟨rfl, List.eq_nil_of_length_eq_zero h0⟩
  · refine Or.inr ⟨_, cap, rfl, hc, by unfold maxLen at hm; omega, fun _ => ⟨g, 0, rfl, fun k j x u hk hj => ?_⟩⟩
    rw [Nat.zero_add]
    exact OwnW.cell hl h k j x u hk hj
end

end Go.Proofs.YtnefpiohmokkiaaGreatDoor

/- A set of pairs: New, of any pairs. -/
namespace Go.Proofs.YtnefpiohmokkiaaGreatDoor
set_option linter.unusedVariables false
set_option linter.unusedSimpArgs false
open Go Go.Proofs Go.RowKit Go.Sort

abbrev encPa (p : PaM) : List Value := [.int .i64 p.a, .int .i64 p.b, .int .i64 p.c, .int .i64 p.d]
def PaM.right (p : PaM) : Bool := rightF p.a p.b p.c p.d
/-- What one pair's cells hold. -/
theorem pair_at {w : World} {v : Value} {l : List PaM} (h : ArgW 4 encPa w v l) {k : Nat} {p : PaM} (hp : l[k]? = some p) :
    ∃ b o c, v = .slice (some ⟨b, o, none⟩) l.length c ∧ l.length ≤ c ∧ w.cell? ⟨b, o + k * 4, none⟩ = some (.int .i64 p.a) ∧ w.cell? ⟨b, o + k * 4 + 1, none⟩ = some (.int .i64 p.b) ∧ w.cell? ⟨b, o + k * 4 + 2, none⟩ = some (.int .i64 p.c) ∧ w.cell? ⟨b, o + k * 4 + 3, none⟩ = some (.int .i64 p.d) := by
  obtain ⟨b, o, c, rfl, h3, hH⟩ := h.at_ hp
  exact ⟨b, o, c, rfl, h3, hH k 0 _ _ hp rfl, hH k 1 _ _ hp rfl, hH k 2 _ _ hp rfl, hH k 3 _ _ hp rfl⟩
theorem take_fold (l : List PaM) (k : Nat) (p : PaM) (h : l[k]? = some p) (K : List PaM) : (l.take (k + 1)).foldl addK K = addK ((l.take k).foldl addK K) p := by
  obtain ⟨h1, h2⟩ := List.getElem?_eq_some_iff.1 h
  rw [← List.take_append_getElem h1, List.foldl_append, h2]
  rfl

/-- What New tells of pairs. -/
def NewQ (l : List PaM) (w : World) (e : Ending) (w' : World) : Prop :=
  (if l.all PaM.right = true then ∃ B M L, e = .returned (.tuple #[.pointer (some ⟨B, 0, none⟩), .int .i64 0]) ∧ SetB B M L w' ∧ SetOk l.length L ∧ L.map (·.1) = l.foldl addK [] ∧ w.heap.size ≤ M ∧ w.heap.size ≤ B
    else e = .returned (.tuple #[.pointer none, .int .i64 2])) ∧ Below w.heap.size w w'

set_option maxRecDepth 100000 in
set_option maxHeartbeats 4000000 in
theorem siNew_any (l : List PaM) (hl : l.length ≤ 1000000) (hI : ∀ p ∈ l, p.In) (v : Value) (w : World) (h : ArgW 4 encPa w v l) : Calls Tryz.prog 6 #[v] w (NewQ l w) := by
  have hm := make_set w
  obtain ⟨al, cl, rfl⟩ := h.form
  have HL := Lib.hid h
  have HI := Lib.hid hI
  have s0 : SetB (w.heap.size + 1) w.heap.size [] ((w.alloc (.map #[] 0)).alloc (.cells #[.map (some w.heap.size)] 88)) :=
    ⟨(World.cell?_alloc_at _ _ _ _ (by simp)).trans rfl, ((MapKept.heap_alloc (w.alloc (.map #[] 0)) _).2 _ (by simp)).trans (MapKept.heap_alloc w _).1⟩
  have HS0 := Lib.hid s0
  have HB0 := Lib.hid (belA (bel1 (W := w) (.map #[] 0)) (.cells #[.map (some w.heap.size)] 88))
  clear h hI s0
  go_enter Tryz.func6, Tryz.ntmps6
  go_wp2_with fail
  generalize World.alloc (World.alloc _ _) _ = V at HS0 HB0 ⊢
  go_loopw [14] (fun vi wr => ∃ (k : Nat) (L : List (PaM × Int)), vi = .int .i64 k ∧ k ≤ l.length ∧ Hid (SetB (w.heap.size + 1) w.heap.size L wr) ∧ Hid (SetOk k L) ∧ Hid (L.map (·.1) = (l.take k).foldl addK []) ∧ Hid (Below w.heap.size w wr) ∧ Hid ((l.take k).all PaM.right = true)) (fun vi _ => l.length - (intOf vi).toNat)
  case atStart => exact ⟨0, [], rfl, by omega, HS0, Lib.hid setOk_nil, Lib.hid rfl, HB0, Lib.hid rfl⟩
  case round =>
    clear HS0 HB0
    obtain ⟨k, L, rfl, hk, HS, HOK, HKY, HB, HAR⟩ := hrel
    by_cases hlt : k < l.length
    · obtain ⟨p, hp⟩ : ∃ p, l[k]? = some p := ⟨l[k], List.getElem?_eq_getElem hlt⟩
      obtain ⟨b, o, c', hv, -, x0, x1, x2, x3⟩ := pair_at (HL.out.bel HB.out) hp
      simp only [Value.slice.injEq, true_and] at hv
      obtain ⟨rfl, rfl⟩ := hv
      have HPI := Lib.hid (HI.out p (List.mem_of_getElem? hp))
      have HTF := Lib.hid (take_fold l k p hp [])
      have hb1 := bel1 (W := wr) (.cells #[.int .i64 p.a, .int .i64 p.b, .int .i64 p.c, .int .i64 p.d] 32)
      have HS1 := Lib.hid (HS.out.bel hb1)
      have HB1 := Lib.hid (belT HB.out hb1)
      have HAT := Lib.hid (show (l.take (k + 1)).all PaM.right = ((l.take k).all PaM.right && p.right) by
        obtain ⟨h1, h2⟩ := List.getElem?_eq_some_iff.1 hp
        rw [← List.take_append_getElem h1, List.all_append, h2]
        simp)
      have HPM := Lib.hid (List.mem_of_getElem? hp)
      cases hr : p.right with
      | false =>
        have CA := Lib.hid fun W h => siAdd_no (w.heap.size + 1) w.heap.size L p hr W h
        have HNA := Lib.hid (show l.all PaM.right = false by
          rw [List.all_eq_false]
          exact ⟨p, HPM.out, by rw [hr]; decide⟩)
        clear hr hp hb1
        go_wp2_with fail
        refine (CA.out _ HS1.out).mono ?_
        rintro e w2 ⟨rfl, hb2⟩
        go_wp2_with fail
        go_ret2
        refine ⟨?_, belT HB1.out hb2⟩
        rw [HNA.out]
        rfl
      | true =>
        have CA := Lib.hid fun W h => siAdd_yes (w.heap.size + 1) w.heap.size w.heap.size k (by omega) L HOK.out p HPI.out hr W h (Nat.le_refl _)
        have HAR2 := Lib.hid (show (l.take (k + 1)).all PaM.right = true by rw [HAT.out, HAR.out, hr]; rfl)
        clear hr hp hb1
        go_wp2_with fail
        refine (CA.out _ HS1.out).mono ?_
        rintro e w2 ⟨L', rfl, hs2, hok2, hky2, -, hb2⟩
        have HS2 := Lib.hid hs2
        have HOK2 := Lib.hid hok2
        have HKY2 := Lib.hid (show L'.map (·.1) = (l.take (k + 1)).foldl addK [] by rw [hky2, HKY.out, HTF.out])
        have HB2 := Lib.hid (HB1.out.trans hb2)
        clear hs2 hok2 hky2 hb2 x0 x1 x2 x3
        go_wp2_with fail
        exact ⟨⟨k + 1, L', by go_num, by omega, HS2, HOK2, HKY2, HB2, HAR2⟩, by simp [intOf]; omega⟩
    · have hk2 : k = l.length := by omega
      subst hk2
      rw [List.take_length] at HKY HAR
      go_wp2_with fail
      go_ret2
      refine ⟨?_, HB.out⟩
      rw [HAR.out]
      exact ⟨_, _, L, rfl, HS.out, HOK.out, HKY.out, Nat.le_refl _, by omega⟩
end Go.Proofs.YtnefpiohmokkiaaGreatDoor

/- A set's pairs in order: the comparison. -/
namespace Go.Proofs.YtnefpiohmokkiaaGreatDoor
set_option linter.unusedVariables false
set_option linter.unusedSimpArgs false
open Go Go.Proofs Go.RowKit Go.Sort

/-- What was has not turned; some draws, some blocks have come. -/
def Grew (w w' : World) : Prop := ∃ (q : Nat) (os : Array Obj), w' = grow (w.drewN q) os
theorem Grew.refl (w : World) : Grew w w := ⟨0, #[], by rw [grow_empty]; rfl⟩
theorem Grew.trans {a b c : World} (h : Grew a b) (k : Grew b c) : Grew a c := by
  obtain ⟨q, os, rfl⟩ := h
  obtain ⟨q', os', rfl⟩ := k
  exact ⟨q + q', os ++ os', by show grow (grow ((a.drewN q).drewN q') os) os' = _; rw [grow_grow, World.drewN_drewN]⟩
theorem Grew.new (w : World) (o : Obj) : Grew w (w.alloc o) := ⟨0, #[o], by rw [alloc_eq_grow]; rfl⟩
theorem Grew.alloc {a b : World} (h : Grew a b) (o : Obj) : Grew a (b.alloc o) := h.trans (.new b o)
theorem Grew.drew {a b : World} (h : Grew a b) : Grew a b.drew := h.trans ⟨1, #[], by rw [grow_empty]; rfl⟩
theorem Grew.cell {a b : World} (h : Grew a b) {B o : Nat} {v : Value} (hc : a.cell? ⟨B, o, none⟩ = some v) : b.cell? ⟨B, o, none⟩ = some v := by
  obtain ⟨q, os, rfl⟩ := h
  rw [cell?_grow _ _ _ (by exact lt_of_cell hc)]
  exact hc

set_option maxRecDepth 100000 in
set_option maxHeartbeats 400000 in
theorem or_same (a b : Int) (B : Nat) (w : World) (c0 : w.cell? ⟨B, 0, none⟩ = some (.int .i64 a)) (c1 : w.cell? ⟨B, 1, none⟩ = some (.int .i64 b)) :
    Calls Tryz.prog 84 #[.slice (some ⟨B, 0, none⟩) 2 2] w fun e w' => e = .returned (.int .i64 (orF a b)) ∧ w' = w := by
  unfold orF
  by_cases ha : a = 0
  · rw [if_pos ha]
    have e1 : (a == 0) = true := by simpa using ha
    clear ha
    by_cases hb : b = 0
    · subst hb
      go_enter Tryz.func84, Tryz.ntmps84
      go_wp2
      refine wp_loop_rounds 4 ?_
      repeat (rw [rounds_succ]; go_wp2)
      go_ret
      exact ⟨rfl, rfl⟩
    · have e2 : (b == 0) = false := by simpa using hb
      clear hb
      go_enter Tryz.func84, Tryz.ntmps84
      go_wp2
      refine wp_loop_rounds 4 ?_
      repeat (rw [rounds_succ]; go_wp2)
      go_ret
      exact ⟨rfl, rfl⟩
  · rw [if_neg ha]
    have e1 : (a == 0) = false := by simpa using ha
    clear ha
    go_enter Tryz.func84, Tryz.ntmps84
    go_wp2
    refine wp_loop_rounds 4 ?_
    repeat (rw [rounds_succ]; go_wp2)
    go_ret
    exact ⟨rfl, rfl⟩

set_option maxRecDepth 100000 in
set_option maxHeartbeats 200000 in
theorem orderIn_grew (f p f' p' : Int) (w : World) :
    Calls Tryz.prog 132 #[.agg #[.int .i64 f, .int .i64 p], .agg #[.int .i64 f', .int .i64 p']] w fun e w' => e = .returned (.int .i64 (ordF f p f' p')) ∧ Grew w w' := by
  go_enter Tryz.func132, Tryz.ntmps132
  go_wp2
  have d0 : (((w.alloc (.cells #[.int .i64 f, .int .i64 p] 249)).alloc (.cells #[.int .i64 f', .int .i64 p'] 249)).drew).cell? ⟨w.heap.size, 0, none⟩ = some (.int .i64 f) := cell_al (cell_new w _ _ 0) _
  have d1 : (((w.alloc (.cells #[.int .i64 f, .int .i64 p] 249)).alloc (.cells #[.int .i64 f', .int .i64 p'] 249)).drew).cell? ⟨w.heap.size, 1, none⟩ = some (.int .i64 p) := cell_al (cell_new w _ _ 1) _
  have d2 : (((w.alloc (.cells #[.int .i64 f, .int .i64 p] 249)).alloc (.cells #[.int .i64 f', .int .i64 p'] 249)).drew).cell? ⟨w.heap.size + 1, 0, none⟩ = some (.int .i64 f') := (World.cell?_alloc_at _ _ _ _ (by simp)).trans rfl
  have d3 : (((w.alloc (.cells #[.int .i64 f, .int .i64 p] 249)).alloc (.cells #[.int .i64 f', .int .i64 p'] 249)).drew).cell? ⟨w.heap.size + 1, 1, none⟩ = some (.int .i64 p') := (World.cell?_alloc_at _ _ _ _ (by simp)).trans rfl
  have hG : Grew w ((w.alloc (.cells #[.int .i64 f, .int .i64 p] 249)).alloc (.cells #[.int .i64 f', .int .i64 p'] 249)).drew := (((Grew.refl w).alloc _).alloc _).drew
  refine wp_region_tail 10 (by kernel_rfl) (by kernel_rfl) ?_
  intro W2 hW
  rw [hW] at d0 d1 d2 d3 hG
  have HG := Lib.hid hG
  clear hW hG
  simp only [List.take_succ_cons, List.take_zero, List.drop_succ_cons, List.drop_zero]
  repeat still_step
  still_call (cmp_still f f' _)
  repeat still_step
  still_call (cmp_still p p' _)
  refine wpStill_nil ?_
  go_wp2_with fail
  refine (or_same (cmpF f f') (cmpF p p') _ _ (cell_new _ _ _ 0) (cell_new _ _ _ 1)).mono ?_
  rintro e w2 ⟨rfl, rfl⟩
  go_wp2
  go_ret
  exact ⟨rfl, HG.out.alloc _⟩

set_option maxRecDepth 100000 in
set_option maxHeartbeats 200000 in
theorem order_grew (f p f' p' : Int) (w : World) :
    Calls Tryz.prog 79 #[.agg #[.int .i64 f, .int .i64 p], .agg #[.int .i64 f', .int .i64 p']] w fun e w' => e = .returned (.int .i64 (ordF f p f' p')) ∧ Grew w w' := by
  go_enter Tryz.func79, Tryz.ntmps79
  go_wp2_with fail
  refine (orderIn_grew f p f' p' _).mono ?_
  rintro e w1 ⟨rfl, hb⟩
  go_wp2
  go_ret
  exact ⟨rfl, ((Grew.new _ _).alloc _).trans hb⟩
end Go.Proofs.YtnefpiohmokkiaaGreatDoor
