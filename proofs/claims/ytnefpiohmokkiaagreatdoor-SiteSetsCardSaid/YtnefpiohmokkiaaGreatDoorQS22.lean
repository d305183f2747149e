/- Joined texts: a laying; A set's pairs in order: the sort. -/
import Derived.Shelf.SlSortCmp.NoneTotal
import Derived.Test.YtnefpiohmokkiaaGreatDoorProg
import Derived.Test.YtnefpiohmokkiaaGreatDoorQS15
import Derived.Test.YtnefpiohmokkiaaGreatDoorQS21
/-
  DERIVED: THE SHELF's CONTRACTS AT THIS DUMP, IN PLAIN WORDS (tools/lay-plain.mjs out of 'TryzSortLay.lean', which tools/lay-shelf.mjs wrote): THE SAME DECLARATIONS UNDER THE SAME NAMES: 'import', 'namespace', 'open', 'def', 'theorem' AND NOTHING ELSE: no command of the shelf's: FOR A HAND-IN. Each laying: the table of numbers ('.._ren') and one theorem, a field a fact of the dump's own or the kernel's comparison; each contract: ONE APPLICATION.
-/
namespace Go.Proofs
open Go.Shelf
def Tryz.sortP_ren : Go.Shelf.Ren := ⟨fun | 6 => 134 | 15 => 200 | 14 => 199 | 28 => 269 | 29 => 270 | 20 => 261 | 21 => 262 | 22 => 263 | 23 => 264 | 24 => 265 | 25 => 266 | 26 => 267 | 27 => 268 | 46 => 310 | 47 => 311 | 48 => 312 | 49 => 313 | 50 => 314 | 57 => 331 | n => n, fun | 22 => 22 | 24 => 32 | 25 => 173 | 3 => 3 | 39 => 306 | 0 => 0 | 53 => 60 | 55 => 166 | 4 => 4 | 46 => 348 | 45 => 347 | 50 => 265 | 5 => 5 | 9 => 9 | 66 => 393 | 70 => 397 | 76 => 410 | 77 => 411 | n => n, fun | n => n⟩
theorem Tryz.sortP : Go.Proofs.SlLaysF0.n6 Tryz.prog Tryz.sortP_ren := {
  mixed := by kernel_rfl
  f6 := ⟨Tryz.f134.name, by decide, Tryz.func134.trans (congrArg some (by kernel_rfl))⟩
  f14 := ⟨Tryz.f199.name, by decide, Tryz.func199.trans (congrArg some (by kernel_rfl))⟩
  f15 := Tryz.func200.trans (congrArg some (by kernel_rfl))
  f20 := ⟨Tryz.f261.name, by decide, Tryz.func261.trans (congrArg some (by kernel_rfl))⟩
  f21 := ⟨Tryz.f262.name, by decide, Tryz.func262.trans (congrArg some (by kernel_rfl))⟩
  f22 := ⟨Tryz.f263.name, by decide, Tryz.func263.trans (congrArg some (by kernel_rfl))⟩
  f23 := ⟨Tryz.f264.name, by decide, Tryz.func264.trans (congrArg some (by kernel_rfl))⟩
  f24 := ⟨Tryz.f265.name, by decide, Tryz.func265.trans (congrArg some (by kernel_rfl))⟩
  f25 := ⟨Tryz.f266.name, by decide, Tryz.func266.trans (congrArg some (by kernel_rfl))⟩
  f26 := ⟨Tryz.f267.name, by decide, Tryz.func267.trans (congrArg some (by kernel_rfl))⟩
  f27 := ⟨Tryz.f268.name, by decide, Tryz.func268.trans (congrArg some (by kernel_rfl))⟩
  f28 := Tryz.func269.trans (congrArg some (by kernel_rfl))
  f29 := Tryz.func270.trans (congrArg some (by kernel_rfl))
  f46 := ⟨Tryz.f310.name, by decide, Tryz.func310.trans (congrArg some (by kernel_rfl))⟩
  f47 := Tryz.func311.trans (congrArg some (by kernel_rfl))
  f48 := Tryz.func312.trans (congrArg some (by kernel_rfl))
  f49 := ⟨Tryz.f313.name, by decide, Tryz.func313.trans (congrArg some (by kernel_rfl))⟩
  f50 := ⟨Tryz.f314.name, by decide, Tryz.func314.trans (congrArg some (by kernel_rfl))⟩
  f57 := ⟨Tryz.f331.name, by decide, Tryz.func331.trans (congrArg some (by kernel_rfl))⟩
  t0 := Tryz.underlying0
  a0 := Tryz.isAgg0
  z0 := Tryz.sizeOf0
  v0 := Tryz.zeroValue0
  t3 := Tryz.underlying3
  a3 := Tryz.isAgg3
  z3 := Tryz.sizeOf3
  v3 := Tryz.zeroValue3
  t4 := Tryz.underlying4
  a4 := Tryz.isAgg4
  z4 := Tryz.sizeOf4
  v4 := Tryz.zeroValue4
  t5 := Tryz.underlying5
  a5 := Tryz.isAgg5
  z5 := Tryz.sizeOf5
  v5 := Tryz.zeroValue5
  t9 := Tryz.underlying9
  a9 := Tryz.isAgg9
  z9 := Tryz.sizeOf9
  v9 := Tryz.zeroValue9
  t22 := Tryz.underlying22
  a22 := Tryz.isAgg22
  z22 := Tryz.sizeOf22
  v22 := Tryz.zeroValue22
  t25 := Tryz.underlying173
  a25 := Tryz.isAgg173
  z25 := Tryz.sizeOf173
  v25 := Tryz.zeroValue173
  t39 := Tryz.underlying306
  a39 := Tryz.isAgg306
  z39 := Tryz.sizeOf306
  v39 := Tryz.zeroValue306
  t45 := Tryz.underlying347
  a45 := Tryz.isAgg347
  z45 := Tryz.sizeOf347
  v45 := Tryz.zeroValue347
  t46 := Tryz.underlying348
  a46 := Tryz.isAgg348
  z46 := Tryz.sizeOf348
  v46 := Tryz.zeroValue348
  t50 := Tryz.underlying265
  a50 := Tryz.isAgg265
  z50 := Tryz.sizeOf265
  v50 := Tryz.zeroValue265
  t53 := Tryz.underlying60
  a53 := Tryz.isAgg60
  z53 := Tryz.sizeOf60
  v53 := Tryz.zeroValue60
  t55 := Tryz.underlying166
  a55 := Tryz.isAgg166
  z55 := Tryz.sizeOf166
  v55 := Tryz.zeroValue166
  t66 := Tryz.underlying393
  a66 := Tryz.isAgg393
  z66 := Tryz.sizeOf393
  v66 := Tryz.zeroValue393
  t70 := Tryz.underlying397
  a70 := Tryz.isAgg397
  z70 := Tryz.sizeOf397
  v70 := Tryz.zeroValue397
  t76 := Tryz.underlying410
  a76 := Tryz.isAgg410
  z76 := Tryz.sizeOf410
  v76 := Tryz.zeroValue410
  t77 := Tryz.underlying411
  a77 := Tryz.isAgg411
  z77 := Tryz.sizeOf411
  v77 := Tryz.zeroValue411 }
end Go.Proofs

/- A set's pairs in order: the sort. -/
namespace Go.Proofs.YtnefpiohmokkiaaGreatDoor
set_option linter.unusedVariables false
set_option linter.unusedSimpArgs false
open Go Go.Proofs Go.RowKit Go.Sort Go.Shelf

instance : Inhabited PaM := ⟨⟨0, 0, 0, 0⟩⟩
theorem lt_cmp (x y : PaM) : ltOf cmpP x y = decide (x.a < y.a ∨ (x.a = y.a ∧ (x.b < y.b ∨ (x.b = y.b ∧ (x.c < y.c ∨ (x.c = y.c ∧ x.d < y.d)))))) := by
  obtain ⟨a, b, c, d⟩ := x
  obtain ⟨a', b', c', d'⟩ := y
  unfold ltOf cmpP ordF orF cmpF
  dsimp only
  rw [decide_eq_decide]
  by_cases h1 : a < a'
  · simp [h1]
  by_cases h2 : a' < a
  · simp [h1, h2]; omega
  obtain rfl : a = a' := by omega
  by_cases h3 : b < b'
  · simp [h3]
  by_cases h4 : b' < b
  · simp [h3, h4]; omega
  obtain rfl : b = b' := by omega
  by_cases h5 : c < c'
  · simp [h5]
  by_cases h6 : c' < c
  · simp [h5, h6]; omega
  obtain rfl : c = c' := by omega
  by_cases h7 : d < d'
  · simp [h7]
  by_cases h8 : d' < d
  · simp [h7, h8]
  · simp [h7, h8]
theorem swo_cmp : SWO (ltOf cmpP) where
  irrefl x := by rw [lt_cmp]; simp
  trans x y z h1 h2 := by rw [lt_cmp] at *; simp at *; omega
  ntrans x y z h1 h2 := by rw [lt_cmp] at *; simp at *; omega
theorem tot_cmp (x y : PaM) (h1 : ltOf cmpP x y = false) (h2 : ltOf cmpP y x = false) : x = y := by
  rw [lt_cmp] at *
  obtain ⟨a, b, c, d⟩ := x
  obtain ⟨a', b', c', d'⟩ := y
  simp at h1 h2
  simp
  omega
/-- Pairs, sorted. -/
def riseP (l : List PaM) : List PaM := l.mergeSort fun x y => !(ltOf cmpP) y x

theorem own_lower {base base' : Nat} {v : Value} {L : List PaM} {w : World} (h : OwnU 32 4 encPa base v L w) (hb : base' ≤ base) : OwnU 32 4 encPa base' v L w :=
  ⟨h.1, h.2.imp id fun ⟨g, cap, cur, h1, h2, h3⟩ => ⟨g, cap, cur, h1, Nat.le_trans hb h2, h3⟩⟩
theorem grown_sortK {w : World} {g n : Nat} {os : Array Obj} (d : Array PaM) : w.grownBy (sortWorldK encPa 4 w g 0 n d os) (some g) := by
  unfold sortWorldK putRowK
  refine ⟨rfl, rfl, rfl, by simp, fun k hk hne => ?_⟩
  rw [heap_grow_old _ _ (by simpa using hk)]
  have : g ≠ k := fun e => hne (by rw [e])
  simp [putRow, mapBlock, Sort.ahead, Array.getElem?_modify, this]
theorem holds_own {base g n cap : Nat} {xs : List PaM} {w : World} (h : OwnU 32 4 encPa base (.slice (some ⟨g, 0, none⟩) n cap) xs w) : HoldsK encPa 4 w g 0 xs.toArray := by
  intro j hj
  have hj' : j < xs.length * 4 := by simpa using hj
  rw [get_flatK _ _ _ _ (by simpa using hj')]
  have h1 : j / 4 < xs.length := by omega
  have h2 : j % 4 < 4 := Nat.mod_lt _ (by omega)
  have h3 : j / 4 * 4 + j % 4 = j := by omega
  have hx : xs[j / 4]? = some xs[j / 4] := List.getElem?_eq_getElem h1
  have hu : (encPa xs[j / 4])[j % 4]? = some ((encPa xs[j / 4])[j % 4]'(by simpa using h2)) := List.getElem?_eq_getElem _
  have hc := OwnW.cell rowPa.len h.own (j / 4) (j % 4) _ _ hx hu
  rw [h3] at hc
  rw [Nat.zero_add]
  refine ⟨?_, h.froz j⟩
  have e1 : xs.toArray[j / 4]! = xs[j / 4] := by simp [h1]
  rw [e1, List.getElem!_eq_getElem?_getD, hu]
  exact hc
theorem arg_holds {w : World} {g cap : Nat} {ys : List PaM} (h : HoldsK encPa 4 w g 0 ys.toArray) (h1 : ys.length ≤ cap) (h2 : cap ≤ 9223372036854775807) : ArgW 4 encPa w (.slice (some ⟨g, 0, none⟩) ys.length cap) ys := by
  refine Or.inr ⟨_, cap, rfl, h1, h2, fun _ => ⟨g, 0, rfl, fun k j x u hk hj => ?_⟩⟩
  obtain ⟨hk1, hk2⟩ := List.getElem?_eq_some_iff.1 hk
  have hj1 : j < 4 := (List.getElem?_eq_some_iff.1 hj).1
  have hc := (HoldsK.cell h (i := k) (c := j) (by simpa using hk1) hj1).1
  have e1 : ys.toArray[k]! = x := by simp [hk1, hk2]
  rw [e1, List.getElem!_eq_getElem?_getD, hj] at hc
  exact hc

set_option maxRecDepth 100000 in
set_option maxHeartbeats 1000000 in
/-- slices.SortFunc of pairs in a row of its own. -/
theorem sort_any (base : Nat) (v : Value) (xs : List PaM) (hx : xs.length ≤ 1000) (w : World) (h : OwnU 32 4 encPa base v xs w) (hb : base ≤ w.heap.size) :
    Calls Tryz.prog 134 #[v, .func (.func 83) #[] #[]] w fun e w' => e = .returned (.tuple #[]) ∧ ArgW 4 encPa w' v (riseP xs) ∧ Below base w w' := by
  have hlen : (riseP xs).length = xs.length := List.length_mergeSort xs
  by_cases h0 : xs = []
  · subst h0
    obtain ⟨a, c, rfl⟩ := h.own.form
    refine (AnyF.slices_SortFunc_none Tryz.sortP a c _ w).mono ?_
    rintro e w' ⟨rfl, rfl⟩
    exact ⟨rfl, by rw [show riseP [] = [] by simp [riseP]]; exact h.own.arg rowPa.len, Below.refl _ _⟩
  · obtain ⟨g, cap, rfl, hg, hc, hm, hgs⟩ := h.own.slice (List.length_pos_iff.2 h0)
    have eg : ∀ args w, (callFunc 83 args).run Tryz.prog w = .ok (.enter 83 args) w := enters_of Tryz.func83 (by kernel_rfl) rfl
    have hcon := AnyQ.slices_SortFunc_total Tryz.sortP 4 Tryz.isAgg32 Tryz.sizeOf32 encPa (fun _ => rfl) (fun x v hv => by simp [encPa] at hv; rcases hv with rfl | rfl | rfl | rfl <;> rfl) cmpP swo_cmp 83 #[] g 0 cap xs.toArray w eg
      (fun m os dk hs x y => (cmp_grew x y _).mono fun e w' hq => hq) (holds_own h) hgs (by simp; omega) tot_cmp
    rw [List.size_toArray] at hcon
    refine hcon.mono ?_
    rintro e w' ⟨rfl, n, os, rfl⟩
    refine ⟨rfl, ?_, (Below.refl base w).grown (grown_sortK _) hb (fun k hk => by cases hk; exact hg)⟩
    have hS : SWK encPa 4 w g 0 (riseP xs).toArray (sortWorldK encPa 4 w g 0 n (riseP xs).toArray os) := ⟨n, os, rfl⟩
    have hH := hS.holds hgs (holds_own h) (by simp [hlen])
    have := arg_holds (cap := cap) hH (by rw [hlen]; exact hc) (by unfold maxLen at hm; omega)
    rw [hlen] at this
    exact this

set_option maxRecDepth 100000 in
set_option maxHeartbeats 1000000 in
/-- slices.SortedFunc of the keys. -/
theorem sortedFunc_any (Bm M : Nat) (L : List (PaM × Int)) (hL : L.length ≤ 1000) (w : World) (c0 : w.cell? ⟨Bm, 0, none⟩ = some (.map (some M))) (hM : w.heap[M]? = some (.map (esL L).toArray L.length)) :
    Calls Tryz.prog 81 #[.func (.func 135) #[] #[.pointer (some ⟨Bm, 0, none⟩)], .func (.func 83) #[] #[]] w fun e w' =>
      ∃ v xs, e = .returned v ∧ xs.Perm (L.map (·.1)) ∧ ArgW 4 encPa w' v (riseP xs) ∧ (∀ k, v.ownBlock = some k → w.heap.size + 1 ≤ k) ∧ Below w.heap.size w w' := by
  have CC := Lib.hid (collect_any Bm M L hL w c0 hM)
  clear c0 hM
  go_enter Tryz.func81, Tryz.ntmps81
  go_wp2_with fail
  refine CC.out.mono ?_
  rintro e w1 ⟨v, xs, rfl, hp, hO, hb⟩
  have HP := Lib.hid hp
  have HB := Lib.hid hb
  have HXL := Lib.hid (show xs.length ≤ 1000 by rw [hp.length_eq, List.length_map]; exact hL)
  obtain ⟨a, c, hv⟩ := hO.own.form
  have HOB := Lib.hid (show ∀ k, v.ownBlock = some k → w.heap.size + 1 ≤ k from fun k hk => (hO.own.lt k hk).1)
  have CS := Lib.hid (fun h => sort_any w.heap.size v xs HXL.out w1 (own_lower hO (by omega)) h)
  subst hv
  clear hp hb hO
  go_wp2_with fail
  refine (CS.out HB.out.size).mono ?_
  rintro e w2 ⟨rfl, hA, hb2⟩
  have HA := Lib.hid hA
  have HB2 := Lib.hid hb2
  clear hA hb2
  go_wp2
  go_ret
  exact ⟨_, xs, rfl, HP.out, HA.out, HOB.out, HB.out.trans HB2.out⟩

set_option maxRecDepth 100000 in
set_option maxHeartbeats 1000000 in
/-- A set's pairs, rising. -/
theorem rising_any (M : Nat) (L : List (PaM × Int)) (hL : L.length ≤ 1000) (w : World) (hM : w.heap[M]? = some (.map (esL L).toArray L.length)) :
    Calls Tryz.prog 38 #[.map (some M)] w fun e w' => ∃ v xs, e = .returned v ∧ xs.Perm (L.map (·.1)) ∧ ArgW 4 encPa w' v (riseP xs) ∧ (∀ k, v.ownBlock = some k → w.heap.size + 1 ≤ k) ∧ Below w.heap.size w w' := by
  have hMs := (Array.getElem?_eq_some_iff.1 hM).1
  have hb1 := bel1 (W := w) (.cells #[.map (some M)] 86)
  have CF := Lib.hid (sortedFunc_any w.heap.size M L hL (w.alloc (.cells #[.map (some M)] 86)) (cell_new w #[.map (some M)] 86 0) ((hb1.block M hMs).trans hM))
  have CK := Lib.hid (keysOf_any M w)
  have HB1 := Lib.hid hb1
  clear hM hb1
  go_enter Tryz.func38, Tryz.ntmps38
  go_wp2_with fail
  refine CK.out.mono ?_
  rintro e w1 ⟨rfl, rfl⟩
  go_wp2_with fail
  refine CF.out.mono ?_
  rintro e w2 ⟨v, xs, rfl, hp, hA, hob, hb⟩
  have HOB := Lib.hid (show ∀ k, v.ownBlock = some k → w.heap.size + 1 ≤ k from fun k hk => by have := hob k hk; simp at this; omega)
  have HA := Lib.hid hA
  have HB2 := Lib.hid (belT HB1.out hb)
  have HP := Lib.hid hp
  clear hA hb hp hob
  go_wp2
  go_ret
  exact ⟨_, xs, rfl, HP.out, HA.out, HOB.out, HB2.out⟩
end Go.Proofs.YtnefpiohmokkiaaGreatDoor
