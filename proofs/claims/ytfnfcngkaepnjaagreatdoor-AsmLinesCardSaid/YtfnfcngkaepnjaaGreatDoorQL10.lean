/- Joined texts: Text. -/
import Derived.Test.YtfnfcngkaepnjaaGreatDoorQL9
import Derived.Test.YtfnfcngkaepnjaaGreatDoorQL7
import Derived.Lib.ItoaLen
import Derived.Deep.RegionHeld3
/- Text. -/
namespace Go.Proofs.YtfnfcngkaepnjaaGreatDoor
set_option linter.unusedVariables false
open Go Go.Proofs Go.RowKit

theorem toList_data (s : ByteArray) : s.toList = s.data.toList := ByteArray.toList_eq ..
/-- Is a part one that no text has in its place? -/
def isKind (p : Part) : Bool := p.mark.data.toList == [45]
/-- A part's text; an instruction's words; its text. -/
def partT (a b c m : Int) (p : Part) : ByteArray := p.mark ++ ⟨(Lib.decDigits (getF p a b c m).toNat).toArray⟩
def textP (ps : List Part) : List Part := ps.filter fun p => !isKind p
def textL (op a b c m : Int) : List ByteArray := insN op m :: (textP ((namedL.lookup op).getD [])).map (partT a b c m)
def textF (op a b c m : Int) : List UInt8 := joinS (textL op a b c m) 32

theorem named_mark (n : Int) : ∀ p ∈ (namedL.lookup n).getD [], p.mark.size ≤ 1 := by
  have h : ∀ q ∈ namedL, ∀ p ∈ q.2, p.mark.size ≤ 1 := by
    have h0 : (namedL.all fun q => q.2.all fun p => decide (p.mark.size ≤ 1)) = true := by kernel_rfl
    intro q hq p hp
    exact of_decide_eq_true (List.all_eq_true.1 (List.all_eq_true.1 h0 q hq) p hp)
  intro p hp
  cases hl : namedL.lookup n with
  | none => rw [hl] at hp; cases hp
  | some ps =>
    rw [hl] at hp
    have : (n, ps) ∈ namedL := by
      generalize namedL = l at hl
      clear h
      induction l with
      | nil => simp at hl
      | cons x xs ih =>
        by_cases hx : (n == x.1) = true
        · have : n = x.1 := by simpa using hx
          simp [List.lookup, hx] at hl
          subst hl this
          exact .head _
        · simp [List.lookup, hx] at hl
          exact .tail _ (ih hl)
    exact h _ this p hp

theorem textP_take (ps : List Part) (k : Nat) (hk : k < ps.length) : textP (ps.take (k + 1)) = textP (ps.take k) ++ if isKind ps[k] = true then [] else [ps[k]] := by
  unfold textP
  rw [← List.take_append_getElem hk, List.filter_append]
  cases h : isKind ps[k] <;> simp [h]
theorem textP_le (ps : List Part) : (textP ps).length ≤ ps.length := List.length_filter_le _ _

theorem PartsC.ne_ownS {w : World} {ao : Option Addr} {ps : List Part} {base : Nat} {v : Value} {L : List ByteArray} (h : PartsC w ao ps) (ho : OwnS base v L w) (hL : 0 < L.length) : ∀ r, ao = some ⟨r, 0, none⟩ → 0 < ps.length → v.ownBlock ≠ some r := by
  intro r hr hp e
  obtain ⟨r', h1, h2, _⟩ := h 0 hp
  rw [hr] at h1
  cases h1
  have h3 := ho.own.cells e 0 (.string L[0]) (by simp [strVs, hL])
  rw [WideShapes.add_plain] at h3
  simp only [Nat.zero_mul, Nat.add_zero] at h2 h3
  rw [h2] at h3
  cases h3

theorem lens_bound (B : Nat) : ∀ (L : List ByteArray), (∀ x ∈ L, x.size ≤ B) → Lib.lens (L.map (·.data.toList)) ≤ B * L.length
  | [], _ => by simp [Lib.lens]
  | x :: L, h => by
    have h1 := lens_bound B L (fun y hy => h y (.tail _ hy))
    have h2 := h x (.head _)
    rw [Lib.size_eq] at h2
    simp only [Lib.lens, List.map_cons, List.sum_cons, List.length_cons, Nat.mul_succ] at h1 ⊢
    omega

/-- Join of an own row. -/
theorem joinOwn (base : Nat) (v : Value) (L : List ByteArray) (c : UInt8) (w : World) (h : OwnS base v L w) (hL : L ≠ []) (hN : L.length ≤ 100000) (hB : ∀ x ∈ L, x.size ≤ 100000) :
    Calls Tryz.prog 86 #[v, .string (sepC c)] w fun e w' => e = .returned (.string ⟨(joinS L c).toArray⟩) ∧ Below w.heap.size w w' := by
  obtain ⟨x, r, rfl⟩ : ∃ x r, L = x :: r := by cases L with | nil => exact absurd rfl hL | cons x r => exact ⟨x, r, rfl⟩
  obtain ⟨g, cap, rfl, h1, h2, h3, h4⟩ := h.slice (by simp)
  cases r with
  | nil =>
    refine (join_single g 0 cap x (sepC c) w (h.cell 0 x rfl)).mono ?_
    rintro e w' ⟨rfl, rfl⟩
    refine ⟨?_, Below.refl _ _⟩
    have : joinS [x] c = x.data.toList := by simp [joinS, Lib.join_one]
    rw [this]
  | cons y r =>
    refine join_many g 0 cap x (y :: r) c w (fun j z hz => by rw [Nat.zero_add]; exact h.cell j z hz) h4 (by simp) (by simp at hN ⊢; omega) (by simpa using h2) ?_
    rw [joinS_length]
    have h5 := lens_bound 100000 (x :: y :: r) hB
    generalize Lib.lens ((x :: y :: r).map (·.data.toList)) = S at h5 ⊢
    simp only [List.length_cons] at h5 hN ⊢
    have h6 : 100000 * (r.length + 1 + 1) ≤ 100000 * 100000 := Nat.mul_le_mul_left _ hN
    omega

theorem words_small : ∀ (k : Nat), (wordN k).size ≤ 20 := by
  intro k
  have h : ∀ x ∈ wordL, x.size ≤ 20 := by
    have h0 : (wordL.all fun x => decide (x.size ≤ 20)) = true := by kernel_rfl
    exact fun x hx => of_decide_eq_true (List.all_eq_true.1 h0 x hx)
  unfold wordN
  rw [List.getD_eq_getElem?_getD]
  cases hx : wordL[k]? with
  | none => simp [ByteArray.size]
  | some x => exact h x (List.mem_of_getElem? hx)
theorem kinds_small : ∀ (k : Nat), (kindN k).size ≤ 20 := by
  intro k
  have h : ∀ x ∈ kindL, x.size ≤ 20 := by
    have h0 : (kindL.all fun x => decide (x.size ≤ 20)) = true := by kernel_rfl
    exact fun x hx => of_decide_eq_true (List.all_eq_true.1 h0 x hx)
  unfold kindN
  rw [List.getD_eq_getElem?_getD]
  cases hx : kindL[k]? with
  | none => simp [ByteArray.size]
  | some x => exact h x (List.mem_of_getElem? hx)
theorem insN_small (op m : Int) : (insN op m).size ≤ 20 := by
  unfold insN
  split
  · exact kinds_small _
  · exact words_small _
theorem partT_small (a b c m : Int) (p : Part) (h1 : p.mark.size ≤ 1) (h2 : (getF p a b c m).toNat < 4294967296) : (partT a b c m p).size ≤ 21 := by
  have n1 := Lib.nDigits_le20 (getF p a b c m).toNat (by omega)
  rw [← Lib.decDigits_length] at n1
  unfold partT
  rw [ByteArray.size_append]
  have h3 : (⟨(Lib.decDigits (getF p a b c m).toNat).toArray⟩ : ByteArray).size = (Lib.decDigits (getF p a b c m).toNat).length := by simp [ByteArray.size]
  omega
theorem textL_small (op a b c m : Int) (ha : 0 ≤ a ∧ a < 16) (hb : 0 ≤ b ∧ b < 16) (hc : 0 ≤ c ∧ c ≤ 16) (hm : 0 ≤ m ∧ m < 4294967296) (ps : List Part) (hp : ∀ p ∈ ps, p.mark.size ≤ 1) :
    ∀ x ∈ insN op m :: (textP ps).map (partT a b c m), x.size ≤ 100000 := by
  intro x hx
  rcases List.mem_cons.1 hx with rfl | hx
  · have := insN_small op m; omega
  · obtain ⟨p, hq, rfl⟩ := List.mem_map.1 hx
    have := partT_small a b c m p (hp p ((List.mem_filter.1 hq).1)) (by have := getF_bd p a b c m ⟨by omega, by omega⟩ ⟨by omega, by omega⟩ ⟨by omega, by omega⟩ ⟨by omega, by omega⟩; omega)
    omega

set_option maxRecDepth 100000 in
set_option maxHeartbeats 16000000 in
theorem insText_yes (op a b c m : Int) (hm : 0 ≤ m ∧ m < 4294967296) (hr : rightF op a b c m = true) (w : World) (hE : Env w) :
    Calls Tryz.prog 37 #[insV op a b c m] w fun e w' => e = .returned (.tuple #[.string ⟨(textF op a b c m).toArray⟩, .int .i64 0]) ∧ Below w.heap.size w w' := by
  obtain ⟨h12, ha, hb, hc⟩ := rightF_bd hr
  have h3m : op = 3 → 1 ≤ m ∧ m ≤ 12 := by
    rintro rfl
    unfold rightF at hr
    simp only [Bool.and_eq_true, decide_eq_true_eq, restF] at hr
    have := hr.2.2
    simp at this
    exact this.1
  have CK := Lib.hid fun W => by
    have := insCheck_any op a b c m hm W
    rw [insCheckF, if_pos hr] at this
    exact this
  have CN := Lib.hid fun W => insName_any op a b c m h12 h3m hm W
  obtain ⟨h1, h2⟩ := h12
  have HT := Lib.hid (show textF op a b c m = joinS (insN op m :: (textP ((namedL.lookup op).getD [])).map (partT a b c m)) 32 from rfl)
  generalize textF op a b c m = out at HT ⊢
  clear hr h3m
  unfold insV at CK CN ⊢
  have HS := Lib.hid fun ps => textL_small op a b c m ha hb hc hm ps
  generalize insN op m = nm at HT CN HS
  go_enter Tryz.func37, Tryz.ntmps37
  go_wp2_with fail
  refine (CK.out _).mono ?_
  rintro e w1 ⟨rfl, hb1⟩
  have hI := Bare.bel (Bare.new op a b c m w 29) hb1
  have hB1 := belT (bel1 _) hb1
  clear hb1
  obtain ⟨⟨i0, i1, i2, i3, i4, _, _, _, _⟩, hlt1⟩ : Bare w.heap.size op (a, b, c, m) w1 ∧ w.heap.size < w1.heap.size := ⟨hI, lt_of_cell hI.c0⟩
  dsimp only at i1 i2 i3 i4
  go_wp2_with fail
  refine (CN.out _).mono ?_
  rintro e w2 ⟨rfl, hb2⟩
  have hI := hI.bel hb2
  have hB2 := belT hB1 hb2
  have hOw := OwnS.made w2 #[.string nm] [nm] 1 rfl rfl (by simp)
  have hlt2 : w.heap.size < w2.heap.size := lt_of_cell hI.c0
  clear i0 i1 i2 i3 i4 hB1 hlt1 hb2
  have i0 := hI.c0
  go_wp2_with fail
  refine (named_any _ _).mono ?_
  rintro e w3 ⟨v, rfl, hb3, hv⟩
  obtain ⟨ao, rfl, hat⟩ := hv.cells
  have hl4 := named_short op
  have HP := Lib.hid (named_parts op)
  have HM := Lib.hid (named_mark op)
  generalize (namedL.lookup op).getD [] = ps at hv hat hl4 HP HM HT ⊢
  have HPC := Lib.hid (show PartsC w3 ao ps from hat)
  have hI3 := hI.bel (belT (bel1 (.cells #[.string nm] 9)) hb3)
  have hOw3 := hOw.bel hb3
  have hB3 := belT (belA hB2 (.cells #[.string nm] 9)) hb3
  have hs23 : Hid (w.heap.size < w2.heap.size ∧ w2.heap.size < w3.heap.size) := Lib.hid ⟨hlt2, by have := hb3.size; simp at this; omega⟩
  clear hat hv hb3 hI i0 hOw hB2 hlt2
  go_wp2_with fail
  go_loopw [20, 5] (fun vi vo wr => ∃ k : Nat, vi = .int .i64 k ∧ k ≤ ps.length ∧ OwnS w2.heap.size vo (nm :: (textP (ps.take k)).map (partT a b c m)) wr ∧ Hid (PartsC wr ao ps) ∧ Bare w.heap.size op (a, b, c, m) wr ∧ Below w.heap.size w wr ∧ Hid (w2.heap.size < wr.heap.size)) (fun vi _ _ => ps.length - (intOf vi).toNat)
  case atStart => exact ⟨0, rfl, by omega, hOw3, HPC, hI3, hB3, Lib.hid hs23.out.2⟩
  case round =>
    obtain ⟨k, rfl, hk, hO, hP, hI, hB, hsz⟩ := hrel
    clear hI3 hOw3 hB3 HPC
    by_cases hlt : k < ps.length
    · obtain ⟨r, rfl, x0, x1, x2, x3⟩ := hP.out k hlt
      have hp := HP.out ps[k] (List.getElem_mem _)
      have hmk := HM.out ps[k] (List.getElem_mem _)
      have hst := Lib.hid (textP_take ps k hlt)
      have hle : (textP (ps.take k)).length ≤ 4 := by have h1 := textP_le (ps.take k); rw [List.length_take] at h1; omega
      generalize hpk : ps[k] = p at x0 x1 x2 x3 hp hst hmk
      cases hkd : isKind p with
      | true =>
        have hkd' : (p.mark.toList == [45]) = true := by rw [toList_data]; simpa [isKind] using hkd
        rw [hkd] at hst
        clear hkd hp
        go_wp2
        have hI := Bare.bel hI (bel1 (.cells p.cells.toArray 144))
        have hO := OwnS.bel hO (bel1 (.cells p.cells.toArray 144))
        have hP := Lib.hid (PartsC.bel hP.out (bel1 (.cells p.cells.toArray 144)))
        have hB := belA hB (.cells p.cells.toArray 144)
        refine ⟨⟨k + 1, by go_num, by omega, ?_, hP, hI, hB, Lib.hid (by have := hsz.out; simp; omega)⟩, by simp [intOf]; omega⟩
        rw [hst.out]
        simpa [Part.cells] using hO
      | false =>
        have hkd' : (p.mark.toList == [45]) = false := by rw [toList_data]; simpa [isKind] using hkd
        rw [hkd] at hst
        obtain ⟨eg, _⟩ := part_enters hp
        have hgb := getF_bd p a b c m ⟨by omega, by omega⟩ ⟨by omega, by omega⟩ ⟨by omega, by omega⟩ ⟨by omega, by omega⟩
        have CG := Lib.hid fun W => part_get hp op a b c m ⟨by omega, by omega⟩ ⟨by omega, by omega⟩ ⟨by omega, by omega⟩ ⟨by omega, by omega⟩ W
        have CF := Lib.hid fun W (hE : Env W) => formatUint_any (getF p a b c m) hgb.1 (by omega) W hE
        have hpt := Lib.hid (show partT a b c m p = p.mark ++ ⟨(Lib.decDigits (getF p a b c m).toNat).toArray⟩ from rfl)
        have n1 := Lib.nDigits_le20 (getF p a b c m).toNat (by omega)
        rw [← Lib.decDigits_length] at n1
        have hptL := Lib.hid (show ([p].map (partT a b c m)) = [partT a b c m p] from rfl)
        generalize partT a b c m p = pt at hpt hptL
        generalize getF p a b c m = x at hgb CG CF hpt n1
        generalize Lib.decDigits x.toNat = dg at CF hpt n1
        have m1 : ¬ 9223372036854775807 < p.mark.size + dg.length := by omega
        clear hkd hp
        unfold insV at CG
        go_wp2
        have p1 := cell_new wr p.cells.toArray 144 1
        have p2 := cell_new wr p.cells.toArray 144 2
        have hI := Bare.bel hI (bel1 (.cells p.cells.toArray 144))
        have hOold := Lib.hid hO
        have hO := OwnS.bel hO (bel1 (.cells p.cells.toArray 144))
        have hP := Lib.hid (PartsC.bel hP.out (bel1 (.cells p.cells.toArray 144)))
        have hB := belA hB (.cells p.cells.toArray 144)
        have hsz : Hid (w2.heap.size < (wr.alloc (.cells p.cells.toArray 144)).heap.size) := Lib.hid (by have := hsz.out; simp; omega)
        dsimp only [Part.cells] at p1 p2 hI hO hP hB hsz
        simp only [List.getElem?_toArray, List.getElem?_cons_succ, List.getElem?_cons_zero] at p1 p2
        have N1 : Hid (u5.ownBlock ≠ some wr.heap.size) := Lib.hid (fun e => by have h1 := (hOold.out.own.lt _ e).2; omega)
        generalize wr.alloc _ = V at p1 p2 hI hO hP hB hsz ⊢
        have i0 := hI.c0
        have i1 := hI.c1
        have i2 := hI.c2
        have i3 := hI.c3
        have i4 := hI.c4
        dsimp only at i1 i2 i3 i4
        obtain ⟨k1, k2, k3, k4, k5, k6, k7⟩ : V.drew.cell? ⟨wr.heap.size, 1, none⟩ = some (.string p.mark) ∧ V.drew.cell? ⟨wr.heap.size, 2, none⟩ = some (.func (.func p.g) #[] #[]) ∧ V.drew.cell? ⟨w.heap.size, 0, none⟩ = some (.int .i64 op) ∧ V.drew.cell? ⟨w.heap.size, 1, none⟩ = some (.int .i64 a) ∧ V.drew.cell? ⟨w.heap.size, 2, none⟩ = some (.int .i64 b) ∧ V.drew.cell? ⟨w.heap.size, 3, none⟩ = some (.int .i64 c) ∧ V.drew.cell? ⟨w.heap.size, 4, none⟩ = some (.int .u32 m) := ⟨p1, p2, i0, i1, i2, i3, i4⟩
        have hEV := Lib.hid (hE.on hB.drew)
        have hOV := Lib.hid hO.drew
        have hPV := Lib.hid hP.out.drew
        have hIV := Lib.hid hI.drew
        have hBV := Lib.hid hB.drew
        have hsV : Hid (w2.heap.size < V.drew.heap.size) := Lib.hid hsz.out
        have N2 : Hid (u5.ownBlock ≠ some w.heap.size) := Lib.hid (fun e => by have h1 := (hO.own.lt _ e).1; have h2 := hs23.out; omega)
        clear p1 p2 i0 i1 i2 i3 i4 hO hP hI hB hsz
        go_region_held3 (fun W' => W'.cell? ⟨wr.heap.size, 1, none⟩ = some (.string p.mark) ∧ W'.cell? ⟨wr.heap.size, 2, none⟩ = some (.func (.func p.g) #[] #[]) ∧ W'.cell? ⟨w.heap.size, 0, none⟩ = some (.int .i64 op) ∧ W'.cell? ⟨w.heap.size, 1, none⟩ = some (.int .i64 a) ∧ W'.cell? ⟨w.heap.size, 2, none⟩ = some (.int .i64 b) ∧ W'.cell? ⟨w.heap.size, 3, none⟩ = some (.int .i64 c) ∧ W'.cell? ⟨w.heap.size, 4, none⟩ = some (.int .u32 m))
          (first
            | go_keep
            | (exact ⟨cell_touch (cell_al k1 _) (Touch.grown hg8) N1.out, cell_touch (cell_al k2 _) (Touch.grown hg8) N1.out, cell_touch (cell_al k3 _) (Touch.grown hg8) N2.out, cell_touch (cell_al k4 _) (Touch.grown hg8) N2.out, cell_touch (cell_al k5 _) (Touch.grown hg8) N2.out, cell_touch (cell_al k6 _) (Touch.grown hg8) N2.out, cell_touch (cell_al k7 _) (Touch.grown hg8) N2.out⟩))
          (first
            | ((with_reducible refine (CG.out _).mono ?_); rintro e w5 ⟨rfl, hb5⟩; have k1 := cell_bel (w := V.drew) k1 hb5; have k2 := cell_bel (w := V.drew) k2 hb5; have k3 := cell_bel (w := V.drew) k3 hb5; have k4 := cell_bel (w := V.drew) k4 hb5; have k5 := cell_bel (w := V.drew) k5 hb5; have k6 := cell_bel (w := V.drew) k6 hb5; have k7 := cell_bel (w := V.drew) k7 hb5; have hE5 := Lib.hid (hEV.out.on hb5))
            | ((with_reducible refine (CF.out _ hE5.out).mono ?_); rintro e w6 ⟨rfl, hb6⟩; have k1 := cell_bel (w := w5) k1 hb6; have k2 := cell_bel (w := w5) k2 hb6; have k3 := cell_bel (w := w5) k3 hb6; have k4 := cell_bel (w := w5) k4 hb6; have k5 := cell_bel (w := w5) k5 hb6; have k6 := cell_bel (w := w5) k6 hb6; have k7 := cell_bel (w := w5) k7 hb6; have l1 := lt_of_cell k1; have l3 := lt_of_cell k3; have hb7 := Lib.hid (belT hb5 hb6))
            | (refine step_append_S rfl _ _ rfl w2.heap.size u5 _ rfl ((hOV.out.bel hb7.out).bel (bel1 _)) ⟨w6.heap.size, 0, none⟩ 1 _ rfl (cell_new w6 _ _ 0) rfl (by simp; omega) (by have h1 := hb7.out.size; have h2 := hsV.out; simp at h1 h2 ⊢; omega) ?_; intro v8 w8 hO8 hg8 hb8))
        clear k1 k2 k3 k4 k5 k6 k7
        have q1 := hb7.out
        have q2 : Below V.drew.heap.size V.drew (w6.alloc (.cells #[.string (p.mark ++ ⟨dg.toArray⟩)] 9)) := belA q1 _
        have q3 := hsV.out
        have q4 := q2.size
        have hP8 := (hPV.out.bel q2).touch (Touch.grown hg8) ((hPV.out.bel q2).ne_ownS (hOV.out.bel q2) (by simp))
        have hI7 := hIV.out.bel q2
        have hlt0 := hs23.out.1
        have hI8 : Bare w.heap.size op (a, b, c, m) w8 := hI7.touch (Touch.grown hg8) N2.out
        have hB8 : Below w.heap.size w w8 := (hBV.out.trans (q2.mono hBV.out.size)).trans (hb8.mono (by omega))
        have hsz8 : w2.heap.size < w8.heap.size := by have h1 := hb8.size; omega
        go_wp2
        refine ⟨⟨k + 1, by go_num, by omega, ?_, Lib.hid hP8, hI8, hB8, Lib.hid hsz8⟩, by simp [intOf]; omega⟩
        rw [hst.out, if_neg (by decide), List.map_append, hptL.out, hpt.out]
        exact hO8
    · have hk2 : k = ps.length := by omega
      subst hk2
      rw [List.take_length] at hO
      have CJ := Lib.hid (joinOwn w2.heap.size _ _ 32 wr hO (by simp) (by have := textP_le ps; simp; omega) (HS.out ps HM.out))
      rw [← HT.out] at CJ
      clear HS HP HM HT hlt hk hP
      go_wp2_with fail
      refine CJ.out.mono ?_
      rintro e w9 ⟨rfl, hb9⟩
      go_wp2
      go_ret2
      exact ⟨rfl, hB.trans (hb9.mono hB.size)⟩

set_option maxRecDepth 100000 in
theorem insText_no (op a b c m : Int) (hm : 0 ≤ m ∧ m < 4294967296) (hr : rightF op a b c m = false) (w : World) :
    Calls Tryz.prog 37 #[insV op a b c m] w fun e w' => e = .returned (.tuple #[.string ⟨#[]⟩, .int .i64 2]) ∧ Below w.heap.size w w' := by
  have CK := Lib.hid fun W => by
    have := insCheck_any op a b c m hm W
    rw [insCheckF, if_neg (by rw [hr]; decide)] at this
    exact this
  clear hr
  unfold insV at CK ⊢
  go_enter Tryz.func37, Tryz.ntmps37
  go_wp2_with (go_at_call 42; refine (CK.out _).mono ?_; rintro e w1 ⟨rfl, hb1⟩)
  go_ret2
  exact ⟨rfl, belT (bel1 _) hb1⟩
end Go.Proofs.YtfnfcngkaepnjaaGreatDoor
