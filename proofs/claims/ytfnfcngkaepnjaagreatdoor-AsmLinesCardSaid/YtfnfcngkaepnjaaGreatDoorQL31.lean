/- Joined texts: Rows that a call owns and may store into: append tells the block; a cell is stored.; The reference of layer 11: Text; rows that may be stored into, made by a literal; append.; The reference of layer 11: Lines.; strconv.Atoi at every text: some int and an error or none; of a numeral without a sign or a leading zero its number. -/
import Derived.Test.YtfnfcngkaepnjaaGreatDoorQL16
import Derived.Test.YtfnfcngkaepnjaaGreatDoorQL28
import Derived.Test.YtfnfcngkaepnjaaGreatDoorQL27
import Derived.Test.YtfnfcngkaepnjaaGreatDoorQL29
import Derived.Deep.RegionHeld3
import Derived.Test.YtfnfcngkaepnjaaGreatDoorQL9
import Derived.Test.YtfnfcngkaepnjaaGreatDoorQL12
import Derived.Lib.AtoiAll
import Derived.Lib.AtoiAllCases
/- Rows that a call owns and may store into: append tells the block; a cell is stored. -/
namespace Go.Proofs.YtfnfcngkaepnjaaGreatDoor
set_option linter.unusedVariables false
set_option linter.unusedSimpArgs false
open Go Go.Proofs Go.RowKit

def OwnU {α : Type} (e : TypeId) (size : Nat) (enc : α → List Value) (base : Nat) (v : Value) (L : List α) (w : World) : Prop := w.ownsRow base e size v L.length (L.flatMap enc)

section
variable {α : Type} {t e : TypeId} {size bytes : Nat} {zero : Value} {enc : α → List Value} {base : Nat} {v : Value} {L : List α} {w w' : World}
theorem OwnU.own (h : OwnU e size enc base v L w) : OwnW e size enc base v L w := World.ownsRowF_of h
theorem OwnU.nil : OwnU e size enc base (.slice none 0 0) [] w := World.ownsRow_nil _ _ _ _
theorem OwnU.touch {T : Nat → Prop} (h : OwnU e size enc base v L w) (ht : Touch T w w') (hn : ∀ g, v.ownBlock = some g → ¬ T g) : OwnU e size enc base v L w' := by
  refine ⟨h.1, ?_⟩
  rcases h.2 with h0 | ⟨g, cap, cur, rfl, hbg, hg, rest⟩
  · exact .inl h0
  · refine .inr ⟨g, cap, cur, rfl, hbg, ?_, rest⟩
    rw [ht.same g (Array.getElem?_eq_some_iff.1 hg).1 (hn g rfl)]
    exact hg
theorem OwnU.bel (h : OwnU e size enc base v L w) (hb : Below w.heap.size w w') : OwnU e size enc base v L w' := by
  refine ⟨h.1, ?_⟩
  rcases h.2 with h0 | ⟨g, cap, cur, rfl, hbg, hg, rest⟩
  · exact .inl h0
  · refine .inr ⟨g, cap, cur, rfl, hbg, ?_, rest⟩
    rw [hb.block g (Array.getElem?_eq_some_iff.1 hg).1]
    exact hg
theorem OwnU.froz {g cap n : Nat} (h : OwnU e size enc base (.slice (some ⟨g, 0, none⟩) n cap) L w) (j : Nat) : w.frozen? ⟨g, j, none⟩ = false := by
  rcases h.2 with ⟨h0, _⟩ | ⟨g', cap', cur, h0, _, hg, _⟩
  · cases h0
  · simp only [Value.slice.injEq, Option.some.injEq, Addr.mk.injEq] at h0
    obtain ⟨⟨rfl, _⟩, _⟩ := h0
    exact Lib.frozen_of_heap hg j
theorem touch_grown {row : Option Nat} (h : w.grownBy w' row) : Touch (fun b => some b = row) w w' := ⟨h.size, fun k hk hn => h.block k hk hn⟩

/-- One is appended: where its block lies. -/
theorem append_U_run (R : RowTy t e size bytes zero enc) (ty : TypeId) (h : OwnU e size enc base v L w) (g c : Nat) (x : α) (hx : ∀ j u, (enc x)[j]? = some u → w.cell? ⟨g, j, none⟩ = some u) (hn : L.length ≤ 1000000) (hbase : base ≤ w.heap.size) :
    ∃ v' w', (Builtin.append_ #[t, t] ty #[v, .slice (some ⟨g, 0, none⟩) 1 c]).run Tryz.prog w = .ok v' w' ∧ OwnU e size enc base v' (L ++ [x]) w' ∧ w.grownBy w' v.ownBlock ∧ (v'.ownBlock = v.ownBlock ∨ v'.ownBlock = some w.heap.size) := by
  obtain ⟨i0, hi0, hz0, hz1, hz2⟩ := info_of R.hi
  have hnews : ∀ j u, (enc x)[j]? = some u → w.cell? ((⟨g, 0, none⟩ : Addr).add j) = some u := by
    intro j u hj
    rw [WideShapes.add_plain, Nat.zero_add]
    exact hx j u hj
  have hl : (enc x).length = 1 * size := by rw [R.len, Nat.one_mul]
  have hby : (L.length + 1) * bytes ≤ 140737488355328 := by have := R.hby; have h1 : (L.length + 1) * bytes ≤ 1000001 * 100000 := Nat.mul_le_mul (by omega) this; omega
  obtain ⟨v', w', r1, r2, r3, _⟩ := run_append_own (P := Tryz.prog) w base t ty e i0 zero size bytes R.ht hi0 hz0 hz1 hz2 R.hzs R.hsz v L.length (L.flatMap enc) h ⟨g, 0, none⟩ 1 c (enc x) hl hnews (R.one x) (by unfold maxLen; omega) hby hbase
  refine ⟨v', w', r1, ?_, r3, ?_⟩
  · unfold OwnU
    rw [List.length_append, List.flatMap_append]
    simpa using r2
  · rcases h.2 with ⟨rfl, h0⟩ | ⟨g1, cap, cur, rfl, hbg, hg, hnc, hcm, hcs, htake⟩
    · have hr := run_append_nil (P := Tryz.prog) w t ty e i0 zero R.ht hi0 hz0 ⟨g, 0, none⟩ 1 c (enc x) (by rw [hl, hz1]) hnews (by omega) (by omega) (by rw [hz2]; have := R.hby; omega)
      rw [hr] at r1
      injection r1 with r1 _
      subst r1
      exact Or.inr rfl
    · by_cases hroom : L.length + 1 ≤ cap
      · have hfit : L.length * i0.size + (enc x).length ≤ cur.size := by rw [hl, hcs, hz1, ← Nat.add_mul]; exact Nat.mul_le_mul_right _ hroom
        have hr := run_append_room (P := Tryz.prog) w t ty e i0 R.ht hi0 g1 L.length cap cur hg ⟨g, 0, none⟩ 1 c (enc x) (by rw [hl, hz1]) hnews (R.one x) hroom hfit
        rw [hr] at r1
        injection r1 with r1 _
        subst r1
        exact Or.inl rfl
      · have holds : ∀ j u, (L.flatMap enc)[j]? = some u → w.cell? ((⟨g1, 0, none⟩ : Addr).add j) = some u := World.ownsRow.cells (g := g1) h rfl
        have hr := run_append_grow (P := Tryz.prog) w t ty e i0 zero R.ht hi0 hz0 ⟨g1, 0, none⟩ L.length cap (L.flatMap enc) (by rw [h.1, hz1]) holds ⟨g, 0, none⟩ 1 c (enc x) (by rw [hl, hz1]) hnews (by omega) (by omega) (growslice_fits (by omega) (by rw [hz2]; exact hby))
        rw [hr] at r1
        injection r1 with r1 _
        subst r1
        exact Or.inr rfl

/-- A cell of one is stored into. -/
theorem OwnU.set {g cap n : Nat} (hl : ∀ x, (enc x).length = size) (h : OwnU e size enc base (.slice (some ⟨g, 0, none⟩) n cap) L w) (k j : Nat) (x x' : α) (u' : Value) (hk : L[k]? = some x) (hj : j < size) (hx : enc x' = (enc x).set j u') :
    OwnU e size enc base (.slice (some ⟨g, 0, none⟩) n cap) (L.set k x') (w.setCell ⟨g, k * size + j, none⟩ u') := by
  have hlen : (L.set k x').flatMap enc = (L.flatMap enc).set (k * size + j) u' := by
    clear h
    induction L generalizing k with
    | nil => simp at hk
    | cons y L ih =>
      cases k with
      | zero =>
        simp only [List.getElem?_cons_zero, Option.some.injEq] at hk
        subst hk
        rw [List.set_cons_zero, List.flatMap_cons, List.flatMap_cons, hx, Nat.zero_mul, Nat.zero_add, List.set_append_left _ _ (by rw [hl]; exact hj)]
      | succ k =>
        rw [List.set_cons_succ, List.flatMap_cons, List.flatMap_cons, ih k (by simpa using hk), List.set_append_right _ _ (by rw [hl, Nat.succ_mul]; omega), hl]
        congr 2
        rw [Nat.succ_mul]
        omega
  unfold OwnU at h ⊢
  refine ⟨by rw [hlen, List.length_set, List.length_set]; exact h.1, ?_⟩
  rw [hlen, List.length_set]
  rcases h.2 with ⟨h0, _⟩ | ⟨g', cap', cur, h0, hbg, hg, hnc, hcm, hcs, htake⟩
  · cases h0
  · have hv := h0
    simp only [Value.slice.injEq, Option.some.injEq, Addr.mk.injEq] at h0
    obtain ⟨⟨rfl, _⟩, _⟩ := h0
    refine .inr ⟨g, cap', cur.setIfInBounds (k * size + j) u', hv, hbg, heap_setCell_same w g _ cur e u' hg, hnc, hcm, by rw [Array.size_setIfInBounds]; exact hcs, ?_⟩
    rw [Array.toList_setIfInBounds, List.take_set, htake]
end
end Go.Proofs.YtfnfcngkaepnjaaGreatDoor

/- The reference of layer 11: Text; rows that may be stored into, made by a literal; append. -/
namespace Go.Proofs.YtfnfcngkaepnjaaGreatDoor
set_option linter.unusedVariables false
set_option linter.unusedSimpArgs false
open Go Go.Proofs Go.RowKit Go.Sort

section
variable {α : Type} {t e : TypeId} {size bytes : Nat} {zero : Value} {enc : α → List Value} {base : Nat} {v : Value} {L : List α} {w w' : World}
theorem OwnU.base_le {base' : Nat} (h : OwnU e size enc base v L w) (hb : base' ≤ base) : OwnU e size enc base' v L w := by
  refine ⟨h.1, ?_⟩
  rcases h.2 with h0 | ⟨g, cap, cur, rfl, hbg, rest⟩
  · exact .inl h0
  · exact .inr ⟨g, cap, cur, rfl, Nat.le_trans hb hbg, rest⟩
theorem OwnU.made (hl : ∀ x, (enc x).length = size) (w : World) (cs : Array Value) (L : List α) (n : Nat) (hn : n = L.length) (hc : cs.toList = L.flatMap enc) (h0 : L.length ≤ 1000000) :
    OwnU e size enc w.heap.size (.slice (some ⟨w.heap.size, 0, none⟩) n n) L (w.alloc (.cells cs e)) := by
  subst hn
  have hs : cs.size = L.length * size := by rw [← Array.length_toList, hc, flatMap_len hl]
  refine ⟨flatMap_len hl L, Or.inr ⟨w.heap.size, L.length, cs, rfl, Nat.le_refl _, heap_alloc_new w _, Nat.le_refl _, by unfold maxLen; omega, hs, ?_⟩⟩
  rw [hc, List.take_of_length_le (by rw [flatMap_len hl]; exact Nat.le_refl _)]
theorem append_U (R : RowTy t e size bytes zero enc) {ops : Array Oper} {rest : List Oper} {o : Oper} {a : Act} {Q : Exit → Act → World → Prop} (hgd : o.guard = none) (s x : Operand)
    (ho : o.op = .call { callee := .builtin .append, args := #[s, x], argTypes := #[t, t] })
    (hs : a.eval s = v) (hown : OwnU e size enc base v L w) (g c : Nat) (y : α) (hx : a.eval x = .slice (some ⟨g, 0, none⟩) 1 c) (hy : ∀ j u, (enc y)[j]? = some u → w.cell? ⟨g, j, none⟩ = some u)
    (hn : L.length ≤ 1000000) (hbase : base ≤ w.heap.size)
    (h : ∀ v' w', OwnU e size enc base v' (L ++ [y]) w' → w.grownBy w' v.ownBlock → Below base w w' → wpList Tryz.prog ops Q rest (a.put o.dst v') w') : wpList Tryz.prog ops Q (o :: rest) a w := by
  refine wpList_plain hgd fun K hK => ?_
  obtain ⟨v', w', r1, r2, r3, _⟩ := append_U_run R o.type hown g c y hy hn hbase
  unfold Oper.wp
  simp [execOp, ho, resolve, invoke, builtin, hs, hx, r1, Result.andThen]
  exact hK _ _ (h v' w' r2 r3 ((Below.refl base w).grown r3 hbase (fun k hk => (hown.lt k hk).1)))
end

theorem cat_data (a b : ByteArray) : a ++ b = ⟨(a.data.toList ++ b.data.toList).toArray⟩ := by
  apply ByteArray.ext
  apply Array.ext'
  simp [ByteArray.data_append]

end Go.Proofs.YtfnfcngkaepnjaaGreatDoor

/- The reference of layer 11: Lines. -/
namespace Go.Proofs.YtfnfcngkaepnjaaGreatDoor
set_option linter.unusedVariables false
set_option linter.unusedSimpArgs false
open Go Go.Proofs Go.RowKit Go.Sort

theorem lineF_cat (word hd : ByteArray) (n : Int) (h : hd = word ++ ⟨#[32]⟩) : hd ++ ⟨(Lib.itoa n).toArray⟩ = lineF word n := by rw [h]; rfl

set_option maxRecDepth 100000 in
set_option maxHeartbeats 8000000 in
theorem rfLines_any (P : ProgM) (hP : P.Fits) (hR : rightP P = true) (v : Value) (w : World) (hE : Env w) (h : ArgP w v P) :
    Calls Tryz.prog 30 #[v] w fun e w' => ∃ v', e = .returned v' ∧ OwnU 9 1 encS w.heap.size v' (linesF P) w' ∧ Below w.heap.size w w' := by
  obtain ⟨hn, haf⟩ := right_fits hR
  obtain ⟨⟨⟨hl1, hl32⟩, hmu, hrw, hgr⟩, hN2⟩ := (numbersF_iff P).1 hn
  have HN2 := Lib.hid hN2
  have HAF := Lib.hid haf
  have HPF := Lib.hid hP
  obtain ⟨vf, rfl, hF⟩ := h
  have HPG := Lib.hid (PrgB.new w 58 hF)
  have HB := Lib.hid (bel1 (W := w) (.cells #[vf, .int .i64 P.mu, .int .i64 P.rw, .int .i64 P.gr] 58))
  obtain ⟨F, mu, rw0, gr⟩ := P
  dsimp only at hl1 hl32 hmu hrw hgr HN2 HAF HPG HB
  obtain ⟨av, cv, rfl⟩ := hF.form
  have HE := Lib.hid hE
  clear hn haf hN2 hP hR hF hE
  go_enter Tryz.func30, Tryz.ntmps30
  go_wp2_with fail
  have HSZ := Lib.hid (show w.heap.size < (w.alloc (.cells #[.slice av F.length cv, .int .i64 mu, .int .i64 rw0, .int .i64 gr] 58)).heap.size by simp)
  generalize w.alloc _ = V at HPG HB HSZ ⊢
  have hbd : Below V.heap.size V V.drew := (Below.refl _ _).drew
  obtain ⟨-, k1, k2, k3, -⟩ := HPG.out.bel hbd
  dsimp only at k1 k2 k3
  have HED := Lib.hid (HE.out.on (HB.out.trans (hbd.mono (Nat.le_of_lt HSZ.out))))
  have ld1 := Lib.itoa_length_le mu (by omega) (by omega)
  have ld2 := Lib.itoa_length_le rw0 (by omega) (by omega)
  have ld3 := Lib.itoa_length_le gr (by omega) (by omega)
  have n1 : ¬ 9223372036854775807 < 8 + (Lib.itoa mu).length := by omega
  have n2 : ¬ 9223372036854775807 < 8 + (Lib.itoa rw0).length := by omega
  have n3 : ¬ 9223372036854775807 < 7 + (Lib.itoa gr).length := by omega
  clear hbd ld1 ld2 ld3
  go_region_held3 (fun W' => W'.cell? ⟨w.heap.size, 1, none⟩ = some (.int .i64 mu) ∧ W'.cell? ⟨w.heap.size, 2, none⟩ = some (.int .i64 rw0) ∧ W'.cell? ⟨w.heap.size, 3, none⟩ = some (.int .i64 gr))
    (go_keep)
    (first
      | ((with_reducible refine (itoa_any mu (by omega) (by omega) _ HED.out).mono ?_); rintro e w5 ⟨rfl, hb5⟩; have k1 := cell_bel (w := V.drew) k1 hb5; have k2 := cell_bel (w := V.drew) k2 hb5; have k3 := cell_bel (w := V.drew) k3 hb5; have HE5 := Lib.hid (HED.out.on hb5))
      | ((with_reducible refine (itoa_any rw0 (by omega) (by omega) _ HE5.out).mono ?_); rintro e w6 ⟨rfl, hb6⟩; have k1 := cell_bel k1 hb6; have k2 := cell_bel k2 hb6; have k3 := cell_bel k3 hb6; have HE6 := Lib.hid (HE5.out.on hb6))
      | ((with_reducible refine (itoa_any gr (by omega) (by omega) _ HE6.out).mono ?_); rintro e w7 ⟨rfl, hb7⟩; have k1 := cell_bel k1 hb7; have k2 := cell_bel k2 hb7; have k3 := cell_bel k3 hb7))
  have hbd : Below V.heap.size V V.drew := (Below.refl _ _).drew
  have hb7' := belT (belT (belT hbd hb5) hb6) hb7
  rw [lineF_cat wMu _ mu (by rw [cat_data]; rfl), lineF_cat wRw _ rw0 (by rw [cat_data]; rfl), lineF_cat wGr _ gr (by rw [cat_data]; rfl)]
  have HBU := Lib.hid (belA hb7' (.cells #[.string (lineF wMu mu), .string (lineF wRw rw0), .string (lineF wGr gr)] 9))
  have HO := Lib.hid ((OwnU.made (e := 9) rowS.len w7 #[.string (lineF wMu mu), .string (lineF wRw rw0), .string (lineF wGr gr)] (headLines ⟨F, mu, rw0, gr⟩) 3 rfl rfl (by simp [headLines])).base_le hb7'.size)
  clear hbd hb5 hb6 hb7 hb7' k1 k2 k3 HED HE5 HE6 n1 n2 n3 hmu hrw hgr
  generalize w7.alloc _ = U at HBU HO ⊢
  go_wp2_with fail
  go_loopw [3, 4] (fun vl vi wr => ∃ k : Nat, vi = .int .i64 k ∧ k ≤ F.length ∧ Hid (OwnU 9 1 encS V.heap.size vl (headLines ⟨F, mu, rw0, gr⟩ ++ (F.take k).flatMap fnLines) wr) ∧ Hid (Below V.heap.size V wr)) (fun _ vi _ => F.length - (intOf vi).toNat)
  case atStart => exact ⟨0, rfl, by omega, HO, HBU⟩
  case round =>
    clear HO HBU
    obtain ⟨k, rfl, hk, HO, HBr⟩ := hrel
    have hlen := Lib.hid (show (headLines ⟨F, mu, rw0, gr⟩ ++ (F.take k).flatMap fnLines).length ≤ 20000 by
      have := fnLines_len F k (fun f hf => (HN2.out f hf).2.2) (by omega)
      rw [List.length_append]
      have : (headLines ⟨F, mu, rw0, gr⟩).length = 3 := rfl
      omega)
    obtain ⟨LL, hLL⟩ : ∃ LL, LL = headLines ⟨F, mu, rw0, gr⟩ ++ (F.take k).flatMap fnLines := ⟨_, rfl⟩
    rw [← hLL] at HO hlen
    have HLL := Lib.hid hLL
    clear hLL
    obtain ⟨q0, -, -, -, HFr⟩ := HPG.out.bel HBr.out
    dsimp only at q0 HFr
    have HFr := Lib.hid HFr
    obtain ⟨al, cl, rfl⟩ := HO.out.own.form
    by_cases hlt : k < F.length
    · obtain ⟨f, hf⟩ : ∃ f, F[k]? = some f := ⟨F[k], List.getElem?_eq_getElem hlt⟩
      obtain ⟨b, o, c', vc, hv, -, x0, x1, hcd⟩ := HFr.out.at_ hf
      simp only [Value.slice.injEq, true_and] at hv
      obtain ⟨rfl, rfl⟩ := hv
      obtain ⟨ac, cc, rfl⟩ := hcd.form
      obtain ⟨hrg, hl1', hl5⟩ := HN2.out f (List.mem_of_getElem? hf)
      have HKf := Lib.hid hf
      have HT := Lib.hid (fnLines_take F k f hf)
      have HEr := Lib.hid (HE.out.on (HB.out.trans (HBr.out.mono (Nat.le_of_lt HSZ.out))))
      have CI := Lib.hid (itoa_any f.regs (by omega) (by omega) wr HEr.out)
      have ld := Lib.itoa_length_le f.regs (by omega) (by omega)
      have n1 : ¬ 9223372036854775807 < 5 + (Lib.itoa f.regs).length := by omega
      have HCL := Lib.hid (lineF_cat wFn ⟨#[102, 117, 110, 99, 32]⟩ f.regs (by rw [cat_data]; rfl))
      clear hf hcd ld hrg
      go_wp2_with fail
      refine CI.out.mono ?_
      rintro e w8 ⟨rfl, hb8⟩
      have hB8 := HBr.out.trans (hb8.mono HBr.out.size)
      have HO8 := Lib.hid (HO.out.bel hb8)
      clear x0 x1 q0 CI
      go_wp2_with (at_builtin; (rw [HCL.out]); refine append_U rowS rfl _ _ rfl rfl (HO8.out.bel (bel1 _)) w8.heap.size 1 (lineF wFn f.regs) rfl (fun j u hj => (cell_new w8 _ 9 j).trans (by simpa using hj)) (by have := hlen.out; omega) (Nat.le_trans hB8.size (by simp)) ?_; intro v9 w9 hO9 hg9 hb9)
      have hB9 := (hB8.trans ((bel1 (W := w8) (.cells #[.string (lineF wFn f.regs)] 9)).mono hB8.size)).trans hb9
      have HO9 := Lib.hid (show OwnU 9 1 encS V.heap.size v9 (LL ++ [lineF wFn f.regs] ++ (f.code.take 0).map insTx) w9 by simpa using hO9)
      have HB9 := Lib.hid hB9
      have hln9 : LL.length ≤ 20000 := hlen.out
      clear hb8 hB8 HO8 hO9 hg9 hb9 hB9 HO HBr HFr n1 HEr
      go_loopw [3, 5] (fun vl vi wi => ∃ j : Nat, vi = .int .i64 j ∧ j ≤ f.code.length ∧ Hid (OwnU 9 1 encS V.heap.size vl (LL ++ [lineF wFn f.regs] ++ (f.code.take j).map insTx) wi) ∧ Hid (Below V.heap.size V wi)) (fun _ vi _ => f.code.length - (intOf vi).toNat)
      case atStart => exact ⟨0, rfl, by omega, HO9, HB9⟩
      case round =>
        clear HO9 HB9
        obtain ⟨j, rfl, hj, HO, HBr⟩ := hrel
        obtain ⟨q0, -, -, -, HFr⟩ := HPG.out.bel HBr.out
        dsimp only at q0 HFr
        obtain ⟨b, o, c', vc, hv, -, x0, x1, hcd⟩ := HFr.at_ HKf.out
        simp only [Value.slice.injEq, Option.some.injEq, Addr.mk.injEq, true_and, and_true] at hv
        obtain ⟨⟨rfl, rfl⟩, rfl⟩ := hv
        obtain ⟨ac2, cc2, rfl⟩ := hcd.form
        have hlj8 := Lib.hid (show (LL ++ [lineF wFn f.regs] ++ (f.code.take j).map insTx).length ≤ 30000 by
          simp only [List.length_append, List.length_cons, List.length_nil, List.length_map, List.length_take]
          omega)
        obtain ⟨L9, hL9⟩ : ∃ L9, L9 = LL ++ [lineF wFn f.regs] ++ (f.code.take j).map insTx := ⟨_, rfl⟩
        rw [← hL9] at HO hlj8
        have HL9 := Lib.hid hL9
        clear hL9
        obtain ⟨al2, cl2, rfl⟩ := HO.out.own.form
        have HCD := Lib.hid hcd
        clear hcd HFr
        by_cases hlj : j < f.code.length
        · obtain ⟨x, hx⟩ : ∃ x, f.code[j]? = some x := ⟨f.code[j], List.getElem?_eq_getElem hlj⟩
          obtain ⟨b2, o2, c2, hv, -, y0, y1, y2, y3, y4⟩ := code_at HCD.out hx
          simp only [Value.slice.injEq, true_and] at hv
          obtain ⟨rfl, rfl⟩ := hv
          have hm := HPF.out.imm f (List.mem_of_getElem? HKf.out) x (List.mem_of_getElem? hx)
          have hr : rightF x.op x.a x.b x.c x.m = true := by
            have := HAF.out k j f x HKf.out hx
            unfold fineF fitsF at this
            simp only [Bool.and_eq_true] at this
            exact this.1.1
          have CT := Lib.hid fun W hE => rText_any x.op x.a x.b x.c x.m hm hr W hE
          unfold insV at CT
          have HTx := Lib.hid (insTx_take f.code j x hx)
          have htx : (⟨(textF x.op x.a x.b x.c x.m).toArray⟩ : ByteArray) = insTx x := rfl
          rw [htx] at CT
          generalize insTx x = tx at CT HTx
          obtain ⟨op, a, bb, c0, m⟩ := x
          dsimp only at CT y0 y1 y2 y3 y4
          have HEr := Lib.hid (HE.out.on (HB.out.trans (HBr.out.mono (Nat.le_of_lt HSZ.out))))
          clear hx hm hr htx
          go_wp2_with fail
          refine (CT.out _ HEr.out).mono ?_
          rintro e w7 ⟨rfl, hb7⟩
          have hB7 := HBr.out.trans (hb7.mono HBr.out.size)
          clear x0 x1 q0 y0 y1 y2 y3 y4 CT
          go_wp2_with (at_builtin; refine append_U rowS rfl _ _ rfl rfl ((HO.out.bel hb7).bel (bel1 _)) w7.heap.size 1 tx rfl (fun j u hj => (cell_new w7 _ 9 j).trans (by simpa using hj)) (by have := hlj8.out; omega) (Nat.le_trans hB7.size (by simp)) ?_; intro v8 w8 hO8 hg8 hb8)
          exact ⟨⟨j + 1, by go_num, by omega, Lib.hid (by rw [HTx.out, ← List.append_assoc, ← HL9.out]; exact hO8), Lib.hid ((hB7.trans ((bel1 (W := w7) (.cells #[.string tx] 9)).mono hB7.size)).trans hb8)⟩, by simp [intOf]; omega⟩
        · have hj2 : j = f.code.length := by omega
          subst hj2
          go_wp2_with fail
          refine ⟨?_, by simp [intOf]; omega⟩
          refine ⟨k + 1, by go_num, by omega, Lib.hid ?_, HBr⟩
          have h9 := HO.out
          have e9 : L9 = headLines ⟨F, mu, rw0, gr⟩ ++ (F.take (k + 1)).flatMap fnLines := by
            rw [HL9.out, List.take_length, HLL.out, HT.out]
            simp [fnLines, wFn]
          rw [← e9]
          exact h9
    · have hk2 : k = F.length := by omega
      subst hk2
      have HEnd := Lib.hid (show LL = linesF ⟨F, mu, rw0, gr⟩ by rw [HLL.out, List.take_length]; rfl)
      go_wp2_with fail
      go_ret
      exact ⟨_, rfl, by rw [← HEnd.out]; exact HO.out.base_le (Nat.le_of_lt HSZ.out), HB.out.trans (HBr.out.mono (Nat.le_of_lt HSZ.out))⟩
end Go.Proofs.YtfnfcngkaepnjaaGreatDoor

/- strconv.Atoi at every text: some int and an error or none; of a numeral without a sign or a leading zero its number. -/
namespace Go.Proofs.YtfnfcngkaepnjaaGreatDoor
set_option linter.unusedVariables false
open Go Go.Proofs Go.RowKit

theorem pu10_append : ∀ (l1 l2 : List UInt8) (acc a : Nat), Lib.parseUint10 acc l1 = .ok a → Lib.parseUint10 acc (l1 ++ l2) = Lib.parseUint10 a l2 := by
  intro l1
  induction l1 with
  | nil => intro l2 acc a h; simp only [Lib.parseUint10] at h; injection h with h; subst h; rfl
  | cons c l ih =>
    intro l2 acc a h
    simp only [List.cons_append, Lib.parseUint10] at h ⊢
    split at h
    · rename_i hd
      rw [if_pos hd]
      split at h
      · cases h
      · rename_i h2
        rw [if_neg h2]
        split at h
        · cases h
        · rename_i h3
          rw [if_neg h3]
          exact ih _ _ _ h
    · cases h

theorem pu10_dec : ∀ u : Nat, u < 1000000000 → Lib.parseUint10 0 (Lib.decDigits u) = .ok u := by
  intro u
  induction u using Nat.strongRecOn with
  | _ u ih =>
    intro hu
    by_cases h : u < 10
    · rw [Lib.decDigits, dif_pos h]
      simp only [Lib.parseUint10, dig_toNat u h]
      rw [if_pos (by omega), if_neg (by omega), if_neg (by omega)]
      congr 1; omega
    · rw [Lib.decDigits, dif_neg h, pu10_append _ _ _ _ (ih (u / 10) (by omega) (by omega))]
      simp only [Lib.parseUint10, dig_toNat (u % 10) (by omega)]
      rw [if_pos (by omega), if_neg (by omega), if_neg (by omega)]
      congr 1; omega

theorem atoi_dec (u : Nat) (hu : u < 1000000000) : Lib.atoiAll (Lib.decDigits u) = .ok (u : Int) := by
  have h1 := pu10_dec u hu
  have h2 := dec_digit u
  have h3 := dec_ne u
  generalize Lib.decDigits u = l at h1 h2 h3
  cases l with
  | nil => exact absurd rfl h3
  | cons c r =>
    have hc := h2 c (by simp)
    unfold Lib.atoiAll
    have hn : ¬ (c.toNat = 43 ∨ c.toNat = 45) := by omega
    have hm : Lib.parseMag (c :: r) = .ok u := by unfold Lib.parseMag; rw [if_neg (by simp)]; exact h1
    simp only
    rw [if_neg hn, hm]
    simp only
    rw [if_neg (by omega), if_neg (by omega), if_neg (by omega)]

/-- What strconv.Atoi tells of a text. -/
def atoiOut (l : List UInt8) (e : Ending) : Prop :=
  ∃ (v : Int) (er : Value), e = .returned (.tuple #[.int .i64 v, er]) ∧ (er = .nilIface ∨ ∃ t x, er = .iface t x) ∧ -9223372036854775808 ≤ v ∧ v ≤ 9223372036854775807 ∧
    ∀ n : Nat, n < 1000000000 → l = Lib.decDigits n → v = n ∧ er = .nilIface

theorem bytesWorld_bel (w : World) (e : TypeId) (s : ByteArray) : Below w.heap.size w (Lib.bytesWorld w e s) := Lib.bytesWorld_below w e s

theorem atoi_any (s : ByteArray) (hlim : s.size ≤ 281474976710656) (w : World) (hE : Env w) :
    Calls Tryz.prog 111 #[.string s] w fun e w' => atoiOut s.data.toList e ∧ Below w.heap.size w w' := by
  rcases h : Lib.atoiAll s.data.toList with v | _ | _
  · refine (Tryz.strconv_Atoi_ok s (by omega) v h w).mono ?_
    rintro e w' ⟨rfl, hw⟩
    have hb := Lib.atoiAll_bounds h
    refine ⟨⟨v, .nilIface, rfl, Or.inl rfl, hb.1, hb.2, ?_⟩, ?_⟩
    · intro n hn he
      rw [he, atoi_dec n hn] at h
      injection h with h
      exact ⟨h.symm, rfl⟩
    · rcases hw with rfl | ⟨t, rfl⟩
      · exact Below.refl _ _
      · exact bytesWorld_bel _ _ _
  · obtain ⟨ev, h1, h2⟩ := hE.syn
    refine (Any.strconv_Atoi_syntax Tryz.laysC172 s hlim h ev w h1 h2).mono ?_
    rintro e w' ⟨N, rfl, _, _, hb⟩
    refine ⟨⟨_, _, rfl, Or.inr ⟨_, _, rfl⟩, by omega, by omega, ?_⟩, hb⟩
    intro n hn he
    rw [he, atoi_dec n hn] at h
    cases h
  · obtain ⟨ev, h1, h2⟩ := hE.rng
    refine (Any.strconv_Atoi_range Tryz.laysC172 s hlim h ev w h1 h2).mono ?_
    rintro e w' ⟨N, rfl, _, _, hb⟩
    refine ⟨⟨_, _, rfl, Or.inr ⟨_, _, rfl⟩, ?_, ?_, ?_⟩, hb⟩
    · unfold Lib.atoiSat; split <;> omega
    · unfold Lib.atoiSat; split <;> omega
    · intro n hn he
      rw [he, atoi_dec n hn] at h
      cases h
end Go.Proofs.YtfnfcngkaepnjaaGreatDoor
