/- Pairs that came in: opened. -/
import Derived.Test.YtnefpiohmokkiaaGreatDoorQS32
import Derived.Lib.SmallJoins
import Derived.Carry
namespace Go.Proofs.YtnefpiohmokkiaaGreatDoor
set_option linter.unusedVariables false
set_option linter.unusedSimpArgs false
open Go Go.Proofs Go.ChangeShapes Go.WideShapes Go.ChangeAt Go.RowKit Go.Joins

set_option maxRecDepth 100000 in
/-- A pair's cells, read. -/
theorem pair_cells {H : Type} {enc : TypeId × Value → H} {W : World} {n : Nat} {cs : List Value} {y : DataW H × List MemPlace} (h : DataW.trod enc Tryz.prog W 0 (fun _ => true) true n 32 cs = some y) :
    ∃ x : PaM, cs = encPa x ∧ x.In := by
  have eS : Tryz.prog.cellsOf 30 = 2 := by kernel_rfl
  have eI : Tryz.prog.cellsOf 3 = 1 := by kernel_rfl
  obtain ⟨xs, n, _, _, hcl, hlen, hf⟩ := DataW.trod_struct Tryz.underlying32 h
  rw [show Tryz.prog.cellsOf 32 = 4 by kernel_rfl] at hcl
  match cs, hcl with
  | [c0, c1, c2, c3], _ =>
    match xs, hlen with
    | [y0, y1], _ =>
      have h0' : DataW.trod enc Tryz.prog W 0 (fun _ => true) true n 30 [c0, c1] = some y0 := by simpa [Value.cells, eS] using hf 0 _ rfl
      have h1' : DataW.trod enc Tryz.prog W 0 (fun _ => true) true n 30 [c2, c3] = some y1 := by simpa [Value.cells, eS] using hf 1 _ rfl
      obtain ⟨z0, z1, m, _, _, g0, g1⟩ := trod_struct2 Tryz.underlying30 h0'
      obtain ⟨z2, z3, m', _, _, g2, g3⟩ := trod_struct2 Tryz.underlying30 h1'
      have g0' : DataW.trod enc Tryz.prog W 0 (fun _ => true) true m 3 [c0] = some z0 := by simpa [eI] using g0
      have g1' : DataW.trod enc Tryz.prog W 0 (fun _ => true) true m 3 [c1] = some z1 := by simpa [eI] using g1
      have g2' : DataW.trod enc Tryz.prog W 0 (fun _ => true) true m' 3 [c2] = some z2 := by simpa [eI] using g2
      have g3' : DataW.trod enc Tryz.prog W 0 (fun _ => true) true m' 3 [c3] = some z3 := by simpa [eI] using g3
      obtain ⟨a, ha, _, wa⟩ := DataW.trod_int Tryz.underlying3 g0'
      obtain ⟨b, hb, _, wb⟩ := DataW.trod_int Tryz.underlying3 g1'
      obtain ⟨c, hc, _, wc⟩ := DataW.trod_int Tryz.underlying3 g2'
      obtain ⟨e, he, _, we⟩ := DataW.trod_int Tryz.underlying3 g3'
      have e1 : IntKind.i64.min = -9223372036854775808 := rfl
      have e2 : IntKind.i64.max = 9223372036854775807 := rfl
      simp [Lit.wf, e1, e2] at wa wb wc we
      exact ⟨⟨a, b, c, e⟩, by simp_all [encPa], ⟨by dsimp only; omega, by dsimp only; omega, by dsimp only; omega, by dsimp only; omega⟩⟩

/-- A list of what is there at each place. -/
theorem list_ofP {α : Type} [Inhabited α] {p : Nat → α → Prop} (n : Nat) (h : ∀ i, i < n → ∃ x, p i x) : ∃ L : List α, L.length = n ∧ ∀ i x, L[i]? = some x → p i x := by
  refine ⟨(List.range n).map fun i => open Classical in if hi : i < n then (h i hi).choose else default, by simp, fun i x hx => ?_⟩
  rw [List.getElem?_map, Option.map_eq_some_iff] at hx
  obtain ⟨j, hj, rfl⟩ := hx
  obtain ⟨hjn, hjj⟩ := List.getElem?_eq_some_iff.1 hj
  simp at hjn hjj
  subst hjj
  rw [dif_pos hjn]
  exact (h i hjn).choose_spec

theorem plain_addrP {w : World} {a : Addr} {v : Value} (h : w.cell? a = some v) : ∃ b o, a = ⟨b, o, none⟩ := by
  obtain ⟨b, o, s⟩ := a
  cases s with
  | none => exact ⟨b, o, rfl⟩
  | some s =>
    unfold World.cell? at h
    split at h
    · simp at h
    · cases h

/-- A slice of pairs. -/
theorem pairs_open {H : Type} {enc : TypeId × Value → H} {W : World} {v : Value} {d : DataW H} {p : List MemPlace} (hok : ∃ a len cap, v = .slice a len cap) (h : DataW.Trod enc Tryz.prog W 0 (fun _ => true) true 22 v d p) :
    ∃ L : List PaM, ArgW 4 encPa W v L ∧ ∀ x ∈ L, x.In := by
  obtain ⟨a0, len0, cap0, rfl⟩ := hok
  obtain ⟨fuel, hf⟩ := h
  have hf' : DataW.trod enc Tryz.prog W 0 (fun _ => true) true fuel 22 [.slice a0 len0 cap0] = some (d, p) := hf
  have eC : Tryz.prog.cellsOf 32 = 4 := by kernel_rfl
  rcases DataW.trod_slice Tryz.underlying22 hf' with ⟨hc, _⟩ | ⟨a, len, cap, elems, rest, n', _, hc, _, _, hlc, hcm, hel, hat, _, _⟩
  · have hc' : (.slice a0 len0 cap0 : Value) = .slice none 0 0 := by simpa using hc
    rw [hc']
    exact ⟨[], Or.inl ⟨rfl, rfl⟩, by simp⟩
  · have hc' : (.slice a0 len0 cap0 : Value) = .slice (some a) len cap := by simpa using hc
    rw [hc']
    rw [eC] at hat
    have hex : ∀ i, i < len → ∃ x : PaM, (∀ j u, (encPa x)[j]? = some u → W.cell? ((a.add (i * 4)).add j) = some u) ∧ x.In := by
      intro i hi
      have h1 := hat i hi
      obtain ⟨e, he⟩ : ∃ e, elems[i]? = some e := ⟨elems[i]'(by omega), List.getElem?_eq_getElem _⟩
      rw [he, Option.bind_eq_some_iff] at h1
      obtain ⟨cs, hcs, h2⟩ := h1
      obtain ⟨_, hl, hcell⟩ := World.cells?_some hcs
      obtain ⟨x, rfl, hm⟩ := pair_cells h2
      refine ⟨x, fun j u hj => ?_, hm⟩
      have hj5 : j < 4 := by
        have := (List.getElem?_eq_some_iff.1 hj).1
        simpa using this
      rw [hcell j hj5]
      exact hj
    obtain ⟨L, hL, hp⟩ := list_ofP len hex
    refine ⟨L, Or.inr ⟨a, cap, by rw [hL], by omega, by unfold maxLen at hcm; omega, fun hne => ?_⟩, fun x hx => ?_⟩
    · have h0 : 0 < L.length := (by cases L with | nil => exact absurd rfl hne | cons x L => simp)
      have h1 := (hp 0 L[0] (List.getElem?_eq_getElem h0)).1 0 _ rfl
      obtain ⟨b, o, e⟩ := plain_addrP h1
      obtain ⟨b', o', rfl⟩ : ∃ b o, a = ⟨b, o, none⟩ := by
        obtain ⟨ab, ao, asp⟩ := a
        cases asp with
        | none => exact ⟨ab, ao, rfl⟩
        | some s => simp [Addr.add] at e
      refine ⟨b', o', rfl, fun k j x u hk hj => ?_⟩
      have h2 := (hp k x hk).1 j u hj
      rw [add_plain, add_plain] at h2
      exact h2
    · obtain ⟨i, hi, rfl⟩ := List.getElem_of_mem hx
      exact (hp i _ (List.getElem?_eq_getElem hi)).2

theorem siteSets_row (lv : Value) (l : List PaM) (many : Int) (w : World) (hE : Env w) (ha : ArgW 4 encPa w lv l) (hI : ∀ p ∈ l, p.In) (m0 : -9223372036854775808 ≤ many) (m1 : many ≤ 9223372036854775807) :
    Calls Tryz.prog 3 #[lv, .int .i64 many] w fun e w' => e = .returned (.bool true) ∧ Below w.heap.size w w' := by
  by_cases hl : l.length ≤ 30
  · exact siteSets_short lv l hl hI many ⟨m0, m1⟩ w hE ha
  · exact siteSets_long lv l (by omega) many w hE ha
end Go.Proofs.YtnefpiohmokkiaaGreatDoor
