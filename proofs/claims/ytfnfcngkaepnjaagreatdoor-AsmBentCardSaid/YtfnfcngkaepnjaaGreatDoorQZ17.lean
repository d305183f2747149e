/- Joined texts: The wrap that hands on a bound of what is read; programs' sizes.; Rows that a call owns and may store into: append tells the block; a cell is stored.; Bytes as strings.; The reference of layer 8: what an Op names; in; reg. -/
import Derived.Test.YtfnfcngkaepnjaaGreatDoorQZ14
import Derived.Test.YtfnfcngkaepnjaaGreatDoorQZ15
import Derived.Test.YtfnfcngkaepnjaaGreatDoorQZ16
import Derived.SizedLaws
import Derived.Test.YtfnfcngkaepnjaaGreatDoorQZ7
import Derived.Laws.IdiomStrings
import Derived.Test.YtfnfcngkaepnjaaGreatDoorQZ10
/- The wrap that hands on a bound of what is read; programs' sizes. -/
namespace Go.Proofs.YtfnfcngkaepnjaaGreatDoor
set_option linter.unusedVariables false
open Go Go.Proofs Go.ChangeShapes Go.WideShapes Go.ChangeAt Go.RowKit Go.Joins

/-- The wrap of a row that lists variables; the world's shape is handed on, and what it reads is of bounded size. -/
theorem handed_sized {H : Type} {enc : TypeId × Value → H} {a : Assume} {C : Checked} {os : Os} {f : FuncId} {fn : Func} {s : ChangeSpec} {conds : List PathCond} {apart fresh handsOn again : Bool} {X : World → Array Value → Prop}
    (hX : ∀ (w w' : World) (args : Array Value), w.heap = w'.heap → X w args → X w' args)
    (own : ownKnob C.prog.godebug = none) (started : os.Started) (noInit : C.prog.inits.idxOf? f = none) (hfn : C.prog.funcs[f]? = some fn)
    (witness : ∃ (w : World) (tape : Tape) (i : Input), w.os = os ∧ (w.forCall tape i).Shaped C.prog ∧ i.vars = [] ∧ Input.okWide C.prog (w.forCall tape i) .any w.heap.size f i ∧
      ((s.pre enc C.prog fn conds apart (w.forCall tape i).memory i.args ∧ X (w.forCall tape i).memory i.args) ∧ sizedMet enc C.prog fn (OpenSpec.ofChange s) apart (w.forCall tape i).memory i.args) ∧ a.holds C.prog (lone (Frame.enter C.prog f i.args .normal) [] (w.forCall tape i)))
    (contract : ∀ (W : World) (base : Nat) (args : Array Value) (ds gs : List (DataW H)) (before : List MemPlace),
      (∀ (j : Nat) t v, fn.params[j]? = some t → args[j]? = some v → Value.okWide C.prog W .any base t v) →
      DataW.Whole enc C.prog fn.params.toList s.vars apart W args.toList ds gs before →
      conds.all (PathCond.test C.prog ⟨fn.params.toList, ds, s.plain.varTypes C.prog, gs⟩) = true →
      W.ShapedOpen C.prog → sizedMet enc C.prog fn (OpenSpec.ofChange s) apart W args → X W args →
      a.holds C.prog (lone (Frame.enter C.prog f args .normal) [] W) →
      Calls C.prog f args W fun e W' => ∃ v, e = .returned v ∧ s.post enc C.prog fn apart fresh handsOn again W args v W') :
    ReturnsInHanded a C os f .any (fun w args => (s.pre enc C.prog fn conds apart w args ∧ X w args) ∧ sizedMet enc C.prog fn (OpenSpec.ofChange s) apart w args) (s.post enc C.prog fn apart fresh handsOn again) := by
  refine returnsInHanded_of_calls own started noInit witness ?_
  intro w tape i _ hsh _ hok hpre hholds
  obtain ⟨_, _, _, fn', hfn', _, _, _, _, hval⟩ := hok
  obtain rfl : fn' = fn := Option.some.inj (hfn'.symm.trans hfn)
  obtain ⟨⟨⟨ds, gs, before, hw, hc⟩, hx⟩, hz⟩ := hpre
  have hw' := DataW.Whole.of_heap (w' := w.forCall tape i) (by rfl) hw
  refine (contract (w.forCall tape i) w.heap.size i.args ds gs before hval hw' hc hsh (by
    obtain ⟨hpl, ds2, gs2, bf2, hw2, hwt⟩ := hz
    exact ⟨hpl, ds2, gs2, bf2, DataW.Whole.of_heap (w' := w.forCall tape i) (by rfl) hw2, hwt⟩) (hX _ _ _ (by rfl) hx) hholds).mono fun e W' ⟨v, he, hp⟩ => ?_
  subst he
  exact ChangeSpec.post_blind hp


theorem prog_sized {H : Type} {ts : List TypeId} {ds : List (DataW H)} (hwt : (DataW.weightsEach Tryz.prog ts ds).all (· ≤ reachBytes) = true) {j : Nat} {d : DataW H} (ht : ts[j]? = some 58) (hd : ds[j]? = some d) {P : ProgM}
    (hb : ∀ f ∈ P.funcs, f.code.length = 0 ∨ ∃ m ∈ d.weights Tryz.prog 58, f.code.length ≤ m) : fewSum (P.funcs.take 40) ≤ 4611686018427387904 :=
  fewSum_bound _ fun f hf => by
    rcases hb f hf with h | ⟨m, hm, hle⟩
    · omega
    · have h1 := List.all_eq_true.1 hwt m (DataW.weights_mem_each ht hd m hm)
      have h2 : m ≤ reachBytes := by simpa using h1
      unfold reachBytes at h2
      omega
end Go.Proofs.YtfnfcngkaepnjaaGreatDoor

/- Rows that a call owns and may store into: append tells the block; a cell is stored. -/
namespace Go.Proofs.YtfnfcngkaepnjaaGreatDoor
set_option linter.unusedVariables false
set_option linter.unusedSimpArgs false
open Go Go.Proofs Go.RowKit

def OwnU {α : Type} (e : TypeId) (size : Nat) (enc : α → List Value) (base : Nat) (v : Value) (L : List α) (w : World) : Prop := w.ownsRow base e size v L.length (L.flatMap enc)

section
variable {α : Type} {t e : TypeId} {size bytes : Nat} {zero : Value} {enc : α → List Value} {base : Nat} {v : Value} {L : List α} {w w' : World}
theorem OwnU.own (h : OwnU e size enc base v L w) : OwnW e size enc base v L w := World.ownsRowF_of h
theorem OwnU.nil : OwnU e size enc base (.slice none 0 0) [] w := World.ownsRow_nil _ _ _ _
theorem OwnU.touch {T : Nat → Prop} (h : OwnU e size enc base v L w) (ht : Touch T w w') (hn : ∀ g, v.ownBlock = some g → ¬ T g) : OwnU e size enc base v L w' := by
  refine ⟨h.1, ?_⟩
  rcases h.2 with h0 | ⟨g, cap, cur, rfl, hbg, hg, rest⟩
  · exact .inl h0
  · refine .inr ⟨g, cap, cur, rfl, hbg, ?_, rest⟩
    rw [ht.same g (Array.getElem?_eq_some_iff.1 hg).1 (hn g rfl)]
    exact hg
theorem OwnU.bel (h : OwnU e size enc base v L w) (hb : Below w.heap.size w w') : OwnU e size enc base v L w' := by
  refine ⟨h.1, ?_⟩
  rcases h.2 with h0 | ⟨g, cap, cur, rfl, hbg, hg, rest⟩
  · exact .inl h0
  · refine .inr ⟨g, cap, cur, rfl, hbg, ?_, rest⟩
    rw [hb.block g (Array.getElem?_eq_some_iff.1 hg).1]
    exact hg
theorem OwnU.froz {g cap n : Nat} (h : OwnU e size enc base (.slice (some ⟨g, 0, none⟩) n cap) L w) (j : Nat) : w.frozen? ⟨g, j, none⟩ = false := by
  rcases h.2 with ⟨h0, _⟩ | ⟨g', cap', cur, h0, _, hg, _⟩
  · cases h0
  · simp only [Value.slice.injEq, Option.some.injEq, Addr.mk.injEq] at h0
    obtain ⟨⟨rfl, _⟩, _⟩ := h0
    exact Lib.frozen_of_heap hg j
theorem touch_grown {row : Option Nat} (h : w.grownBy w' row) : Touch (fun b => some b = row) w w' := ⟨h.size, fun k hk hn => h.block k hk hn⟩

/-- One is appended: where its block lies. -/
theorem append_U_run (R : RowTy t e size bytes zero enc) (ty : TypeId) (h : OwnU e size enc base v L w) (g c : Nat) (x : α) (hx : ∀ j u, (enc x)[j]? = some u → w.cell? ⟨g, j, none⟩ = some u) (hn : L.length ≤ 1000000) (hbase : base ≤ w.heap.size) :
    ∃ v' w', (Builtin.append_ #[t, t] ty #[v, .slice (some ⟨g, 0, none⟩) 1 c]).run Tryz.prog w = .ok v' w' ∧ OwnU e size enc base v' (L ++ [x]) w' ∧ w.grownBy w' v.ownBlock ∧ (v'.ownBlock = v.ownBlock ∨ v'.ownBlock = some w.heap.size) := by
  obtain ⟨i0, hi0, hz0, hz1, hz2⟩ := info_of R.hi
  have hnews : ∀ j u, (enc x)[j]? = some u → w.cell? ((⟨g, 0, none⟩ : Addr).add j) = some u := by
    intro j u hj
    rw [WideShapes.add_plain, Nat.zero_add]
    exact hx j u hj
  have hl : (enc x).length = 1 * size := by rw [R.len, Nat.one_mul]
  have hby : (L.length + 1) * bytes ≤ 140737488355328 := by have := R.hby; have h1 : (L.length + 1) * bytes ≤ 1000001 * 100000 := Nat.mul_le_mul (by omega) this; omega
  obtain ⟨v', w', r1, r2, r3, _⟩ := run_append_own (P := Tryz.prog) w base t ty e i0 zero size bytes R.ht hi0 hz0 hz1 hz2 R.hzs R.hsz v L.length (L.flatMap enc) h ⟨g, 0, none⟩ 1 c (enc x) hl hnews (R.one x) (by unfold maxLen; omega) hby hbase
  refine ⟨v', w', r1, ?_, r3, ?_⟩
  · unfold OwnU
    rw [List.length_append, List.flatMap_append]
    simpa using r2
  · rcases h.2 with ⟨rfl, h0⟩ | ⟨g1, cap, cur, rfl, hbg, hg, hnc, hcm, hcs, htake⟩
    · have hr := run_append_nil (P := Tryz.prog) w t ty e i0 zero R.ht hi0 hz0 ⟨g, 0, none⟩ 1 c (enc x) (by rw [hl, hz1]) hnews (by omega) (by omega) (by rw [hz2]; have := R.hby; omega)
      rw [hr] at r1
      injection r1 with r1 _
      subst r1
      exact Or.inr rfl
    · by_cases hroom : L.length + 1 ≤ cap
      · have hfit : L.length * i0.size + (enc x).length ≤ cur.size := by rw [hl, hcs, hz1, ← Nat.add_mul]; exact Nat.mul_le_mul_right _ hroom
        have hr := run_append_room (P := Tryz.prog) w t ty e i0 R.ht hi0 g1 L.length cap cur hg ⟨g, 0, none⟩ 1 c (enc x) (by rw [hl, hz1]) hnews (R.one x) hroom hfit
        rw [hr] at r1
        injection r1 with r1 _
        subst r1
        exact Or.inl rfl
      · have holds : ∀ j u, (L.flatMap enc)[j]? = some u → w.cell? ((⟨g1, 0, none⟩ : Addr).add j) = some u := World.ownsRow.cells (g := g1) h rfl
        have hr := run_append_grow (P := Tryz.prog) w t ty e i0 zero R.ht hi0 hz0 ⟨g1, 0, none⟩ L.length cap (L.flatMap enc) (by rw [h.1, hz1]) holds ⟨g, 0, none⟩ 1 c (enc x) (by rw [hl, hz1]) hnews (by omega) (by omega) (growslice_fits (by omega) (by rw [hz2]; exact hby))
        rw [hr] at r1
        injection r1 with r1 _
        subst r1
        exact Or.inr rfl

/-- A cell of one is stored into. -/
theorem OwnU.set {g cap n : Nat} (hl : ∀ x, (enc x).length = size) (h : OwnU e size enc base (.slice (some ⟨g, 0, none⟩) n cap) L w) (k j : Nat) (x x' : α) (u' : Value) (hk : L[k]? = some x) (hj : j < size) (hx : enc x' = (enc x).set j u') :
    OwnU e size enc base (.slice (some ⟨g, 0, none⟩) n cap) (L.set k x') (w.setCell ⟨g, k * size + j, none⟩ u') := by
  have hlen : (L.set k x').flatMap enc = (L.flatMap enc).set (k * size + j) u' := by
    clear h
    induction L generalizing k with
    | nil => simp at hk
    | cons y L ih =>
      cases k with
      | zero =>
        simp only [List.getElem?_cons_zero, Option.some.injEq] at hk
        subst hk
        rw [List.set_cons_zero, List.flatMap_cons, List.flatMap_cons, hx, Nat.zero_mul, Nat.zero_add, List.set_append_left _ _ (by rw [hl]; exact hj)]
      | succ k =>
        rw [List.set_cons_succ, List.flatMap_cons, List.flatMap_cons, ih k (by simpa using hk), List.set_append_right _ _ (by rw [hl, Nat.succ_mul]; omega), hl]
        congr 2
        rw [Nat.succ_mul]
        omega
  unfold OwnU at h ⊢
  refine ⟨by rw [hlen, List.length_set, List.length_set]; exact h.1, ?_⟩
  rw [hlen, List.length_set]
  rcases h.2 with ⟨h0, _⟩ | ⟨g', cap', cur, h0, hbg, hg, hnc, hcm, hcs, htake⟩
  · cases h0
  · have hv := h0
    simp only [Value.slice.injEq, Option.some.injEq, Addr.mk.injEq] at h0
    obtain ⟨⟨rfl, _⟩, _⟩ := h0
    refine .inr ⟨g, cap', cur.setIfInBounds (k * size + j) u', hv, hbg, heap_setCell_same w g _ cur e u' hg, hnc, hcm, by rw [Array.size_setIfInBounds]; exact hcs, ?_⟩
    rw [Array.toList_setIfInBounds, List.take_set, htake]
end
end Go.Proofs.YtfnfcngkaepnjaaGreatDoor

/- Bytes as strings. -/
namespace Go.Proofs.YtfnfcngkaepnjaaGreatDoor
set_option linter.unusedVariables false
open Go Go.Proofs Go.RowKit

end Go.Proofs.YtfnfcngkaepnjaaGreatDoor

/- The reference of layer 8: what an Op names; in; reg. -/
namespace Go.Proofs.YtfnfcngkaepnjaaGreatDoor
set_option linter.unusedVariables false
open Go Go.Proofs Go.RowKit

def namesRL : List ByteArray := [⟨#[97, 105]⟩, ⟨#[97, 98]⟩, ⟨#[97, 98, 99, 107]⟩, ⟨#[105]⟩, ⟨#[97, 105]⟩, ⟨#[97, 98]⟩, ⟨#[97, 98]⟩, ⟨#[97, 98, 110, 102]⟩, ⟨#[97]⟩, ⟨#[98, 110, 102]⟩, ⟨#[97]⟩, ⟨#[97]⟩, ⟨#[97]⟩, ⟨#[97]⟩, ⟨#[97]⟩, ⟨#[97]⟩, ⟨#[97, 98]⟩, ⟨#[97]⟩, ⟨#[]⟩]
def namesR (op : Int) : ByteArray := if 1 ≤ op ∧ op ≤ 19 then namesRL.getD (op - 1).toNat ⟨#[]⟩ else ⟨#[45]⟩
theorem namesR_size (op : Int) : (namesR op).size ≤ 4 := by
  unfold namesR
  split
  · rw [List.getD_eq_getElem?_getD]
    cases hx : namesRL[(op - 1).toNat]? with
    | none => decide
    | some x =>
      have h : ∀ x ∈ namesRL, x.size ≤ 4 := by
        have h0 : (namesRL.all fun x => decide (x.size ≤ 4)) = true := by kernel_rfl
        exact fun x hx => of_decide_eq_true (List.all_eq_true.1 h0 x hx)
      exact h x (List.mem_of_getElem? hx)
  · decide

set_option maxRecDepth 100000 in
theorem rNames_any (op : Int) (w : World) : Calls Tryz.prog 105 #[.int .i64 op] w fun e w' => e = .returned (.string (namesR op)) ∧ Below w.heap.size w w' := by
  by_cases h : 1 ≤ op ∧ op ≤ 19
  · have hn : namesR op = namesRL.getD (op - 1).toNat ⟨#[]⟩ := if_pos h
    obtain ⟨h1, h2⟩ := h
    obtain ⟨k, rfl⟩ : ∃ k : Nat, op = (k : Int) + 1 := ⟨(op - 1).toNat, by omega⟩
    have hk : k < 19 := by omega
    rw [show ((k : Int) + 1 - 1).toNat = k by omega] at hn
    have hx : (namesRL.map Value.string).toArray[k]? = some (.string (namesR ((k : Int) + 1))) := by
      rw [hn, List.getElem?_toArray, List.getElem?_map, List.getD_eq_getElem?_getD, List.getElem?_eq_getElem (show k < namesRL.length from hk)]
      rfl
    generalize namesR ((k : Int) + 1) = x at hx ⊢
    have hc := (cell_new w (namesRL.map Value.string).toArray 9 k).trans hx
    simp only [namesRL, List.map_cons, List.map_nil] at hc
    have hw1 : IntKind.i64.wrap ((k : Int) + 1 - 1) = (k : Int) := by rw [IntKind.wrap_i64]; omega
    clear hx hn
    go_enter Tryz.func105, Tryz.ntmps105
    go_wp2
    go_ret
    exact ⟨rfl, bel1 _⟩
  · have hn : namesR op = ⟨#[45]⟩ := if_neg h
    rw [hn]
    by_cases h1 : op < 1
    · clear h hn
      go_enter Tryz.func105, Tryz.ntmps105
      go_wp2
      go_ret
      exact ⟨rfl, Below.refl _ _⟩
    · have h2 : 19 < op := by omega
      clear h hn
      go_enter Tryz.func105, Tryz.ntmps105
      go_wp2
      go_ret
      exact ⟨rfl, Below.refl _ _⟩

/-- Does an Op name a letter? -/
def inR (op : Int) (c : Nat) : Bool := (namesR op).data.toList.any fun x => decide (x.toNat = c)

theorem bytes_at (t : ByteArray) (k : Nat) (h : k < t.size) : t[k]'h = t.data.toList[k]'(by rw [← Lib.size_eq]; exact h) := rfl

set_option maxRecDepth 100000 in
set_option maxHeartbeats 1000000 in
theorem rIn_any (op : Int) (c : Nat) (hc : c < 256) (w : World) : Calls Tryz.prog 44 #[.int .i64 op, .int .u8 c] w fun e w' => e = .returned (.bool (inR op c)) ∧ Below w.heap.size w w' := by
  have hs := namesR_size op
  have CN := Lib.hid fun W => rNames_any op W
  unfold inR
  generalize namesR op = t at hs CN ⊢
  obtain ⟨bs, hL⟩ : ∃ bs, bs = t.data.toList := ⟨_, rfl⟩
  have hLn : bs.length = t.size := by rw [hL, Lib.size_eq]
  have hat : ∀ k (h : k < t.size), t[k]'h = bs[k]'(by omega) := fun k h => by subst hL; exact bytes_at t k h
  rw [← hL]
  clear hL
  have HAT := Lib.hid hat
  clear hat
  obtain ⟨R, hR⟩ : ∃ R, R = bs.any fun x => decide (x.toNat = c) := ⟨_, rfl⟩
  rw [← hR]
  have HR := Lib.hid hR
  clear hR
  go_enter Tryz.func44, Tryz.ntmps44
  go_wp2_with fail
  refine (CN.out _).mono ?_
  rintro e w1 ⟨rfl, hb1⟩
  go_wp2_with fail
  go_loop [6] (fun vi => ∃ k : Nat, vi = .int .i64 k ∧ k ≤ t.size ∧ Hid ((bs.take k).any (fun x => decide (x.toNat = c)) = false)) (fun vi => t.size - (intOf vi).toNat)
  case atStart => exact ⟨0, rfl, by omega, rfl⟩
  case round =>
    obtain ⟨k, rfl, hk, hh⟩ := hrel
    by_cases hkn : k < t.size
    · have hx := HAT.out k hkn
      have hbk : k < bs.length := by omega
      have htk : bs.take (k + 1) = bs.take k ++ [bs[k]] := by rw [List.take_append_getElem hbk]
      have hmem := List.getElem_mem hbk
      generalize bs[k] = x at hx htk hmem
      by_cases he : x.toNat = c
      · have e1 : ((x.toNat : Int) == (c : Int)) = true := by rw [he]; simp
        have HT := Lib.hid (show R = true from HR.out.trans (List.any_eq_true.2 ⟨x, hmem, by simp [he]⟩))
        clear he htk hmem
        go_wp2
        go_ret
        exact ⟨by rw [HT.out]; rfl, hb1⟩
      · have e1 : ((x.toNat : Int) == (c : Int)) = false := beq_eq_false_iff_ne.2 (by omega)
        have hN : Hid ((bs.take (k + 1)).any (fun x => decide (x.toNat = c)) = false) := Lib.hid (by rw [htk, List.any_append, hh.out]; simp [he])
        clear he htk hmem
        go_wp2
        exact ⟨⟨k + 1, by go_num, by omega, hN⟩, by simp [intOf]; omega⟩
    · have hk2 : k = t.size := by omega
      have HT := Lib.hid (show R = false from HR.out.trans (by
        have := hh.out
        rwa [List.take_of_length_le (by omega)] at this))
      subst hk2
      go_wp2
      go_ret
      exact ⟨by rw [HT.out]; rfl, hb1⟩

theorem rIn97 (op : Int) (w : World) : Calls Tryz.prog 44 #[.int .i64 op, .int .u8 97] w fun e w' => e = .returned (.bool (inR op 97)) ∧ Below w.heap.size w w' := rIn_any op 97 (by decide) w
theorem rIn98 (op : Int) (w : World) : Calls Tryz.prog 44 #[.int .i64 op, .int .u8 98] w fun e w' => e = .returned (.bool (inR op 98)) ∧ Below w.heap.size w w' := rIn_any op 98 (by decide) w
theorem rIn110 (op : Int) (w : World) : Calls Tryz.prog 44 #[.int .i64 op, .int .u8 110] w fun e w' => e = .returned (.bool (inR op 110)) ∧ Below w.heap.size w w' := rIn_any op 110 (by decide) w
theorem rIn107 (op : Int) (w : World) : Calls Tryz.prog 44 #[.int .i64 op, .int .u8 107] w fun e w' => e = .returned (.bool (inR op 107)) ∧ Below w.heap.size w w' := rIn_any op 107 (by decide) w
theorem rIn105 (op : Int) (w : World) : Calls Tryz.prog 44 #[.int .i64 op, .int .u8 105] w fun e w' => e = .returned (.bool (inR op 105)) ∧ Below w.heap.size w w' := rIn_any op 105 (by decide) w
def regR (n : Int) (b : Bool) : Bool := decide (n = 0) || (b && (decide (0 ≤ n) && decide (n ≤ 15)))
set_option maxRecDepth 100000 in
theorem rReg_any (n : Int) (b : Bool) (w : World) : Calls Tryz.prog 107 #[.int .i64 n, .bool b] w fun e w' => e = .returned (.bool (regR n b)) ∧ w = w' := by
  unfold regR
  by_cases h0 : n = 0
  · subst h0
    go_enter Tryz.func107, Tryz.ntmps107
    go_wp2
    go_ret
    exact ⟨by simp, rfl⟩
  · have e0 : (n == 0) = false := beq_eq_false_iff_ne.2 h0
    have d0 : decide (n = 0) = false := decide_eq_false h0
    rw [d0, Bool.false_or]
    cases b with
    | false =>
      go_enter Tryz.func107, Tryz.ntmps107
      go_wp2
      go_ret
      exact ⟨rfl, rfl⟩
    | true =>
      rw [Bool.true_and]
      by_cases h1 : 0 ≤ n
      · by_cases h2 : n ≤ 15
        · rw [decide_eq_true h1, decide_eq_true h2]
          go_enter Tryz.func107, Tryz.ntmps107
          go_wp2
          go_ret
          exact ⟨rfl, rfl⟩
        · rw [decide_eq_true h1, decide_eq_false h2]
          have h2 : 15 < n := by omega
          go_enter Tryz.func107, Tryz.ntmps107
          go_wp2
          go_ret
          exact ⟨rfl, rfl⟩
      · rw [decide_eq_false h1]
        have h1 : n < 0 := by omega
        go_enter Tryz.func107, Tryz.ntmps107
        go_wp2
        go_ret
        exact ⟨rfl, rfl⟩
end Go.Proofs.YtfnfcngkaepnjaaGreatDoor
