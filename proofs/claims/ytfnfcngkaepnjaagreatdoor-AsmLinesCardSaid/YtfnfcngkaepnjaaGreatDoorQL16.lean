/- Joined texts: A program that came in: opened.; Rows of things of whatever kind: made by a literal; append of several.; Package program: numbers, within their bounds. -/
import Derived.Test.YtfnfcngkaepnjaaGreatDoorQL14
import Derived.Test.YtfnfcngkaepnjaaGreatDoorQL15
/- A program that came in: opened. -/
namespace Go.Proofs.YtfnfcngkaepnjaaGreatDoor
set_option linter.unusedVariables false
set_option linter.unusedSimpArgs false
open Go Go.Proofs Go.ChangeShapes Go.WideShapes Go.ChangeAt Go.RowKit Go.Joins

set_option maxRecDepth 100000 in
/-- An instruction's cells, read. -/
theorem ins_cells {H : Type} {enc : TypeId × Value → H} {W : World} {n : Nat} {cs : List Value} {y : DataW H × List MemPlace} (h : DataW.trod enc Tryz.prog W 0 (fun _ => true) true n 29 cs = some y) :
    ∃ x : InsM, cs = encN x ∧ 0 ≤ x.m ∧ x.m < 4294967296 := by
  have eO : Tryz.prog.cellsOf 26 = 1 := by kernel_rfl
  have eI : Tryz.prog.cellsOf 3 = 1 := by kernel_rfl
  have eU : Tryz.prog.cellsOf 27 = 1 := by kernel_rfl
  obtain ⟨xs, n, _, _, hcl, hlen, hf⟩ := DataW.trod_struct Tryz.underlying29 h
  rw [show Tryz.prog.cellsOf 29 = 5 by kernel_rfl] at hcl
  match cs, hcl with
  | [c0, c1, c2, c3, c4], _ =>
    match xs, hlen with
    | [y0, y1, y2, y3, y4], _ =>
      have g0 : DataW.trod enc Tryz.prog W 0 (fun _ => true) true n 26 [c0] = some y0 := by simpa [Value.cells, eO] using hf 0 _ rfl
      have g1 : DataW.trod enc Tryz.prog W 0 (fun _ => true) true n 3 [c1] = some y1 := by simpa [Value.cells, eI] using hf 1 _ rfl
      have g2 : DataW.trod enc Tryz.prog W 0 (fun _ => true) true n 3 [c2] = some y2 := by simpa [Value.cells, eI] using hf 2 _ rfl
      have g3 : DataW.trod enc Tryz.prog W 0 (fun _ => true) true n 3 [c3] = some y3 := by simpa [Value.cells, eI] using hf 3 _ rfl
      have g4 : DataW.trod enc Tryz.prog W 0 (fun _ => true) true n 27 [c4] = some y4 := by simpa [Value.cells, eU] using hf 4 _ rfl
      obtain ⟨op, h0, _, _⟩ := DataW.trod_int Tryz.underlying26 g0
      obtain ⟨a, h1, _, _⟩ := DataW.trod_int Tryz.underlying3 g1
      obtain ⟨b, h2, _, _⟩ := DataW.trod_int Tryz.underlying3 g2
      obtain ⟨c, h3, _, _⟩ := DataW.trod_int Tryz.underlying3 g3
      obtain ⟨m, h4, _, wf⟩ := DataW.trod_int Tryz.underlying27 g4
      have e1 : IntKind.u32.min = 0 := rfl
      have e2 : IntKind.u32.max = 4294967295 := rfl
      refine ⟨⟨op, a, b, c, m⟩, by simp_all [encN], ?_⟩
      simp [Lit.wf, e1, e2] at wf
      dsimp only
      omega

/-- A list of what is there at each place. -/
theorem list_of {α : Type} [Inhabited α] {p : Nat → α → Prop} (n : Nat) (h : ∀ i, i < n → ∃ x, p i x) : ∃ L : List α, L.length = n ∧ ∀ i x, L[i]? = some x → p i x := by
  refine ⟨(List.range n).map fun i => open Classical in if hi : i < n then (h i hi).choose else default, by simp, fun i x hx => ?_⟩
  rw [List.getElem?_map, Option.map_eq_some_iff] at hx
  obtain ⟨j, hj, rfl⟩ := hx
  obtain ⟨hjn, hjj⟩ := List.getElem?_eq_some_iff.1 hj
  simp at hjn hjj
  subst hjj
  rw [dif_pos hjn]
  exact (h i hjn).choose_spec
instance : Inhabited InsM := ⟨⟨0, 0, 0, 0, 0⟩⟩
instance : Inhabited FnM := ⟨⟨0, []⟩⟩
instance : Inhabited Value := ⟨.int .i64 0⟩

/-- A code's slice, read: its length is bounded by a weight. -/
theorem code_open {H : Type} {enc : TypeId × Value → H} {W : World} {n : Nat} {c : Value} {y : DataW H × List MemPlace} (h : DataW.trod enc Tryz.prog W 0 (fun _ => true) true n 25 [c] = some y) :
    ∃ L : List InsM, ArgW 5 encN W c L ∧ (∀ x ∈ L, 0 ≤ x.m ∧ x.m < 4294967296) ∧ (L.length = 0 ∨ ∃ m ∈ y.1.weights Tryz.prog 25, L.length ≤ m) := by
  have eC : Tryz.prog.cellsOf 29 = 5 := by kernel_rfl
  have eB : Tryz.prog.bytesOf 29 = 40 := by kernel_rfl
  rcases DataW.trod_slice Tryz.underlying25 h with ⟨hc, rfl⟩ | ⟨a, len, cap, elems, rest, n', _, hc, rfl, _, hlc, hcm, hel, hat, _, _⟩
  · obtain rfl : c = .slice none 0 0 := by simpa using hc
    exact ⟨[], Or.inl ⟨rfl, rfl⟩, by simp, Or.inl rfl⟩
  · obtain rfl : c = .slice (some a) len cap := by simpa using hc
    rw [eC] at hat
    have hex : ∀ i, i < len → ∃ x : InsM, (∀ j u, (encN x)[j]? = some u → W.cell? ((a.add (i * 5)).add j) = some u) ∧ 0 ≤ x.m ∧ x.m < 4294967296 := by
      intro i hi
      have h1 := hat i hi
      obtain ⟨e, he⟩ : ∃ e, elems[i]? = some e := ⟨elems[i]'(by omega), List.getElem?_eq_getElem _⟩
      rw [he, Option.bind_eq_some_iff] at h1
      obtain ⟨cs, hcs, h2⟩ := h1
      obtain ⟨_, hl, hcell⟩ := World.cells?_some hcs
      obtain ⟨x, rfl, hm⟩ := ins_cells h2
      refine ⟨x, fun j u hj => ?_, hm⟩
      have hj5 : j < 5 := by
        have := (List.getElem?_eq_some_iff.1 hj).1
        simpa using this
      rw [hcell j hj5]
      exact hj
    obtain ⟨L, hL, hp⟩ := list_of len hex
    refine ⟨L, Or.inr ⟨a, cap, by rw [hL], by omega, by unfold maxLen at hcm; omega, fun hne => ?_⟩, fun x hx => ?_, Or.inr ⟨(elems.length + rest.length) * 40, ?_, by rw [hL]; omega⟩⟩
    · have h0 : 0 < L.length := (by cases L with | nil => exact absurd rfl hne | cons x L => simp)
      have h1 := (hp 0 L[0] (List.getElem?_eq_getElem h0)).1 0 _ rfl
      obtain ⟨b, o, e⟩ := plain_addr h1
      obtain ⟨b', o', rfl⟩ : ∃ b o, a = ⟨b, o, none⟩ := by
        obtain ⟨ab, ao, asp⟩ := a
        cases asp with
        | none => exact ⟨ab, ao, rfl⟩
        | some s => simp [Addr.add] at e
      refine ⟨b', o', rfl, fun k j x u hk hj => ?_⟩
      have h2 := (hp k x hk).1 j u hj
      rw [add_plain, add_plain] at h2
      exact h2
    · obtain ⟨i, hi, rfl⟩ := List.getElem_of_mem hx
      exact (hp i _ (List.getElem?_eq_getElem hi)).2
    · unfold DataW.weights
      rw [Tryz.underlying25]
      simp [eB]

theorem weightsAll_mem {H : Type} {P : Program} {e : TypeId} {l : List (DataW H)} {d : DataW H} (h : d ∈ l) {m : Nat} (hm : m ∈ d.weights P e) : m ∈ DataW.weightsAll P e l := by
  induction l with
  | nil => cases h
  | cons x l ih =>
    unfold DataW.weightsAll
    rcases List.mem_cons.1 h with rfl | h
    · exact List.mem_append_left _ hm
    · exact List.mem_append_right _ (ih h)

set_option maxRecDepth 100000 in
/-- A function's cells, read. -/
theorem fn_cells {H : Type} {enc : TypeId × Value → H} {W : World} {n : Nat} {cs : List Value} {y : DataW H × List MemPlace} (h : DataW.trod enc Tryz.prog W 0 (fun _ => true) true n 114 cs = some y) :
    ∃ (f : FnM) (vc : Value), cs = [.int .i64 f.regs, vc] ∧ ArgW 5 encN W vc f.code ∧ (∀ x ∈ f.code, 0 ≤ x.m ∧ x.m < 4294967296) ∧ (f.code.length = 0 ∨ ∃ m ∈ y.1.weights Tryz.prog 114, f.code.length ≤ m) := by
  have eI : Tryz.prog.cellsOf 3 = 1 := by kernel_rfl
  have eS : Tryz.prog.cellsOf 25 = 1 := by kernel_rfl
  obtain ⟨xs, n, _, rfl, hcl, hlen, hf⟩ := DataW.trod_struct Tryz.underlying114 h
  rw [show Tryz.prog.cellsOf 114 = 2 by kernel_rfl] at hcl
  match cs, hcl with
  | [c0, c1], _ =>
    match xs, hlen with
    | [y0, y1], _ =>
      have g0 : DataW.trod enc Tryz.prog W 0 (fun _ => true) true n 3 [c0] = some y0 := by simpa [Value.cells, eI] using hf 0 _ rfl
      have g1 : DataW.trod enc Tryz.prog W 0 (fun _ => true) true n 25 [c1] = some y1 := by simpa [Value.cells, eS] using hf 1 _ rfl
      obtain ⟨r, h0, _, _⟩ := DataW.trod_int Tryz.underlying3 g0
      obtain ⟨L, hA, hm, hw⟩ := code_open g1
      refine ⟨⟨r, L⟩, c1, by simp_all, hA, hm, ?_⟩
      rcases hw with hw | ⟨m, hw, hle⟩
      · exact Or.inl hw
      · refine Or.inr ⟨m, ?_, hle⟩
        unfold DataW.weights
        rw [Tryz.underlying114]
        simp only [List.map_cons, List.map_nil]
        unfold DataW.weightsEach
        refine List.mem_append_right _ ?_
        unfold DataW.weightsEach
        exact List.mem_append_left _ hw

/-- Functions' slice, read. -/
theorem funcs_open {H : Type} {enc : TypeId × Value → H} {W : World} {n : Nat} {c : Value} {y : DataW H × List MemPlace} (h : DataW.trod enc Tryz.prog W 0 (fun _ => true) true n 56 [c] = some y) :
    ∃ F : List FnM, ArgF W c F ∧ (∀ f ∈ F, ∀ x ∈ f.code, 0 ≤ x.m ∧ x.m < 4294967296) ∧ (∀ f ∈ F, f.code.length = 0 ∨ ∃ m ∈ y.1.weights Tryz.prog 56, f.code.length ≤ m) := by
  have eC : Tryz.prog.cellsOf 114 = 2 := by kernel_rfl
  rcases DataW.trod_slice Tryz.underlying56 h with ⟨hc, rfl⟩ | ⟨a, len, cap, elems, rest, n', _, hc, rfl, _, hlc, hcm, hel, hat, _, _⟩
  · obtain rfl : c = .slice none 0 0 := by simpa using hc
    exact ⟨[], ⟨[], Or.inl ⟨rfl, rfl⟩, rfl, fun k r f hr => by simp at hr⟩, by simp, by simp⟩
  · obtain rfl : c = .slice (some a) len cap := by simpa using hc
    rw [eC] at hat
    have hex : ∀ i, i < len → ∃ q : FnM × Value, (∀ j u, (encF (q.1.regs, q.2))[j]? = some u → W.cell? ((a.add (i * 2)).add j) = some u) ∧ ArgW 5 encN W q.2 q.1.code ∧ (∀ x ∈ q.1.code, 0 ≤ x.m ∧ x.m < 4294967296) ∧ (q.1.code.length = 0 ∨ ∃ m ∈ DataW.weightsAll Tryz.prog 114 (elems.map (·.1)), q.1.code.length ≤ m) := by
      intro i hi
      have h1 := hat i hi
      obtain ⟨e, he⟩ : ∃ e, elems[i]? = some e := ⟨elems[i]'(by omega), List.getElem?_eq_getElem _⟩
      rw [he, Option.bind_eq_some_iff] at h1
      obtain ⟨cs, hcs, h2⟩ := h1
      obtain ⟨_, hl, hcell⟩ := World.cells?_some hcs
      obtain ⟨f, vc, rfl, hA, hm, hw⟩ := fn_cells h2
      refine ⟨(f, vc), fun j u hj => ?_, hA, hm, ?_⟩
      · have hj2 : j < 2 := by
          have := (List.getElem?_eq_some_iff.1 hj).1
          simpa using this
        rw [hcell j hj2]
        exact hj
      · rcases hw with hw | ⟨m, hw, hle⟩
        · exact Or.inl hw
        · exact Or.inr ⟨m, weightsAll_mem (List.mem_map_of_mem (List.mem_of_getElem? he)) hw, hle⟩
    obtain ⟨Q, hQ, hp⟩ := list_of len hex
    have hmem : ∀ q ∈ Q, ∃ i, Q[i]? = some q := fun q hq => by
      obtain ⟨i, hi, rfl⟩ := List.getElem_of_mem hq
      exact ⟨i, List.getElem?_eq_getElem hi⟩
    refine ⟨Q.map (·.1), ⟨Q.map fun q => (q.1.regs, q.2), Or.inr ⟨a, cap, by rw [List.length_map, hQ], by rw [List.length_map]; omega, by unfold maxLen at hcm; omega, fun hne => ?_⟩, by simp, fun k r f hr hf => ?_⟩, fun f hf x hx => ?_, fun f hf => ?_⟩
    · have h0 : 0 < Q.length := (by cases Q with | nil => exact absurd rfl hne | cons x L => simp)
      have h1 := (hp 0 Q[0] (List.getElem?_eq_getElem h0)).1 0 _ rfl
      obtain ⟨b, o, e⟩ := plain_addr h1
      obtain ⟨b', o', rfl⟩ : ∃ b o, a = ⟨b, o, none⟩ := by
        obtain ⟨ab, ao, asp⟩ := a
        cases asp with
        | none => exact ⟨ab, ao, rfl⟩
        | some s => simp [Addr.add] at e
      refine ⟨b', o', rfl, fun k j x u hk hj => ?_⟩
      rw [List.getElem?_map, Option.map_eq_some_iff] at hk
      obtain ⟨q, hq, rfl⟩ := hk
      have h2 := (hp k q hq).1 j u hj
      rw [add_plain, add_plain] at h2
      exact h2
    · rw [List.getElem?_map, Option.map_eq_some_iff] at hr hf
      obtain ⟨q, hq, rfl⟩ := hr
      obtain ⟨q', hq', rfl⟩ := hf
      rw [hq] at hq'
      obtain rfl := Option.some.inj hq'
      exact ⟨rfl, (hp k q hq).2.1⟩
    · obtain ⟨q, hq, rfl⟩ := List.mem_map.1 hf
      obtain ⟨i, hi⟩ := hmem q hq
      exact (hp i q hi).2.2.1 x hx
    · obtain ⟨q, hq, rfl⟩ := List.mem_map.1 hf
      obtain ⟨i, hi⟩ := hmem q hq
      rcases (hp i q hi).2.2.2 with hw | ⟨m, hw, hle⟩
      · exact Or.inl hw
      · refine Or.inr ⟨m, ?_, hle⟩
        unfold DataW.weights
        rw [Tryz.underlying56]
        exact List.mem_cons_of_mem _ (List.mem_append_left _ hw)

theorem array4 {α : Type} {cs : Array α} (h : cs.size = 4) : ∃ c0 c1 c2 c3, cs = #[c0, c1, c2, c3] := by
  obtain ⟨l⟩ := cs
  match l, h with
  | [c0, c1, c2, c3], _ => exact ⟨c0, c1, c2, c3, rfl⟩

set_option maxRecDepth 100000 in
/-- A program that came in. -/
theorem prog_open {H : Type} {enc : TypeId × Value → H} {W : World} {r : Reach} {b0 : Nat} {v : Value} {d : DataW H} {p : List MemPlace} (hv : Value.okWide Tryz.prog W r b0 58 v) (h : DataW.Trod enc Tryz.prog W 0 (fun _ => true) true 58 v d p) :
    ∃ P : ProgM, ArgP W v P ∧ P.Fits ∧ ∀ f ∈ P.funcs, f.code.length = 0 ∨ ∃ m ∈ d.weights Tryz.prog 58, f.code.length ≤ m := by
  obtain ⟨cs, rfl, hsz⟩ := okWide_struct Tryz.underlying58 hv
  rw [show Tryz.prog.cellsOf 58 = 4 by kernel_rfl] at hsz
  obtain ⟨c0, c1, c2, c3, rfl⟩ := array4 hsz
  obtain ⟨fuel, hf⟩ := h
  have eI : Tryz.prog.cellsOf 3 = 1 := by kernel_rfl
  have eS : Tryz.prog.cellsOf 56 = 1 := by kernel_rfl
  obtain ⟨xs, n, _, hx, _, hlen, hf⟩ := DataW.trod_struct Tryz.underlying58 hf
  match xs, hlen with
  | [y0, y1, y2, y3], _ =>
    have g0 : DataW.trod enc Tryz.prog W 0 (fun _ => true) true n 56 [c0] = some y0 := by simpa [Value.cells, eS] using hf 0 _ rfl
    have g1 : DataW.trod enc Tryz.prog W 0 (fun _ => true) true n 3 [c1] = some y1 := by simpa [Value.cells, eI] using hf 1 _ rfl
    have g2 : DataW.trod enc Tryz.prog W 0 (fun _ => true) true n 3 [c2] = some y2 := by simpa [Value.cells, eI] using hf 2 _ rfl
    have g3 : DataW.trod enc Tryz.prog W 0 (fun _ => true) true n 3 [c3] = some y3 := by simpa [Value.cells, eI] using hf 3 _ rfl
    obtain ⟨mu, h1, _, _⟩ := DataW.trod_int Tryz.underlying3 g1
    obtain ⟨rw0, h2, _, _⟩ := DataW.trod_int Tryz.underlying3 g2
    obtain ⟨gr, h3, _, _⟩ := DataW.trod_int Tryz.underlying3 g3
    obtain rfl : c1 = .int .i64 mu := by simpa using h1
    obtain rfl : c2 = .int .i64 rw0 := by simpa using h2
    obtain rfl : c3 = .int .i64 gr := by simpa using h3
    obtain ⟨F, hF, hm, hw⟩ := funcs_open g0
    refine ⟨⟨F, mu, rw0, gr⟩, ⟨c0, rfl, hF⟩, ⟨hm⟩, fun f hf => ?_⟩
    rcases hw f hf with h0 | ⟨m, hmw, hle⟩
    · exact Or.inl h0
    · refine Or.inr ⟨m, ?_, hle⟩
      have hd : d = .agg [y0.1, y1.1, y2.1, y3.1] := congrArg Prod.fst hx
      rw [hd]
      unfold DataW.weights
      rw [Tryz.underlying58]
      simp only
      unfold DataW.weightsEach
      exact List.mem_append_left _ hmw
end Go.Proofs.YtfnfcngkaepnjaaGreatDoor

/- Rows of things of whatever kind: made by a literal; append of several. -/
namespace Go.Proofs.YtfnfcngkaepnjaaGreatDoor
set_option linter.unusedVariables false
open Go Go.Proofs Go.RowKit

section
variable {α : Type} {t e : TypeId} {size bytes : Nat} {zero : Value} {enc : α → List Value} {base : Nat} {v : Value} {L : List α} {w w' : World}
theorem flatMap_len (hl : ∀ x, (enc x).length = size) (L : List α) : (L.flatMap enc).length = L.length * size := by
  induction L with
  | nil => simp
  | cons x L ih => rw [List.flatMap_cons, List.length_append, ih, hl, List.length_cons, Nat.succ_mul]; omega
theorem OwnW.made (hl : ∀ x, (enc x).length = size) (w : World) (cs : Array Value) (L : List α) (n : Nat) (hn : n = L.length) (hc : cs.toList = L.flatMap enc) (h0 : L.length ≤ 1000000) :
    OwnW e size enc w.heap.size (.slice (some ⟨w.heap.size, 0, none⟩) n n) L (w.alloc (.cells cs e)) := by
  subst hn
  have hs : cs.size = L.length * size := by rw [← Array.length_toList, hc, flatMap_len hl]
  refine ⟨flatMap_len hl L, Or.inr ⟨w.heap.size, L.length, cs, (0, 0), rfl, Nat.le_refl _, heap_alloc_new w _, Nat.zero_le _, Nat.le_refl _, by unfold maxLen; omega, hs, ?_⟩⟩
  rw [hc, List.take_of_length_le (by rw [flatMap_len hl]; exact Nat.le_refl _)]
/-- Things of a literal lie one behind the other. -/
theorem made_has (hl : ∀ x, (enc x).length = size) (w : World) (cs : Array Value) (M : List α) (e : TypeId) (hc : cs.toList = M.flatMap enc) : ∀ j u, (M.flatMap enc)[j]? = some u → (w.alloc (.cells cs e)).cell? ⟨w.heap.size, j, none⟩ = some u := by
  intro j u hj
  rw [cell_new, ← Array.getElem?_toList, hc]
  exact hj

theorem append_L_run (R : RowTy t e size bytes zero enc) (ty : TypeId) (h : OwnW e size enc base v L w) (g c : Nat) (M : List α) (hx : ∀ j u, (M.flatMap enc)[j]? = some u → w.cell? ⟨g, j, none⟩ = some u) (hn : L.length + M.length ≤ 1000000) (hbase : base ≤ w.heap.size) :
    ∃ v' w', (Builtin.append_ #[t, t] ty #[v, .slice (some ⟨g, 0, none⟩) M.length c]).run Tryz.prog w = .ok v' w' ∧ OwnW e size enc base v' (L ++ M) w' ∧ w.grownBy w' v.ownBlock := by
  obtain ⟨i0, hi0, hz0, hz1, hz2⟩ := info_of R.hi
  obtain ⟨v', w', r1, r2, r3, _⟩ := run_append_ownF (P := Tryz.prog) w base t ty e i0 zero size bytes R.ht hi0 hz0 hz1 hz2 R.hzs R.hsz v L.length (L.flatMap enc) h ⟨g, 0, none⟩ M.length c (M.flatMap enc) (flatMap_len R.len M) (by
    intro j u hj
    rw [WideShapes.add_plain, Nat.zero_add]
    exact hx j u hj) (by
    intro u hu
    obtain ⟨x, _, hx⟩ := List.mem_flatMap.1 hu
    exact R.one x u hx) (by unfold maxLen; omega) (by have := R.hby; have h1 : (L.length + M.length) * bytes ≤ 1000001 * 100000 := Nat.mul_le_mul (by omega) this; omega) hbase
  refine ⟨v', w', r1, ?_, r3⟩
  unfold OwnW
  rw [List.length_append, List.flatMap_append]
  exact r2
theorem append_L (R : RowTy t e size bytes zero enc) {ops : Array Oper} {rest : List Oper} {o : Oper} {a : Act} {Q : Exit → Act → World → Prop} (hgd : o.guard = none) (s x : Operand)
    (ho : o.op = .call { callee := .builtin .append, args := #[s, x], argTypes := #[t, t] })
    (hs : a.eval s = v) (hown : OwnW e size enc base v L w) (g c n : Nat) (M : List α) (hnM : n = M.length) (hx : a.eval x = .slice (some ⟨g, 0, none⟩) n c) (hy : ∀ j u, (M.flatMap enc)[j]? = some u → w.cell? ⟨g, j, none⟩ = some u)
    (hn : L.length + M.length ≤ 1000000) (hbase : base ≤ w.heap.size)
    (h : ∀ v' w', OwnW e size enc base v' (L ++ M) w' → w.grownBy w' v.ownBlock → Below base w w' → wpList Tryz.prog ops Q rest (a.put o.dst v') w') : wpList Tryz.prog ops Q (o :: rest) a w := by
  refine wpList_plain hgd fun K hK => ?_
  subst hnM
  obtain ⟨v', w', r1, r2, r3⟩ := append_L_run R o.type hown g c M hy hn hbase
  unfold Oper.wp
  simp [execOp, ho, resolve, invoke, builtin, hs, hx, r1, Result.andThen]
  exact hK _ _ (h v' w' r2 r3 ((Below.refl base w).grown r3 hbase (fun k hk => (hown.lt k hk).1)))
end
end Go.Proofs.YtfnfcngkaepnjaaGreatDoor

/- Package program: numbers, within their bounds. -/
namespace Go.Proofs.YtfnfcngkaepnjaaGreatDoor
set_option linter.unusedVariables false
set_option linter.unusedSimpArgs false
open Go Go.Proofs Go.RowKit

theorem rowB : RowTy 249 248 3 24 (.agg #[.int .i64 0, .int .i64 0, .int .i64 0]) encB :=
  ⟨Tryz.underlying249, by kernel_rfl, rfl, by decide, by decide, fun _ => rfl, fun x u hu => by simp at hu; rcases hu with rfl | rfl | rfl <;> rfl⟩

abbrev bndV (x : BndM) : Value := .agg #[.int .i64 x.n, .int .i64 x.least, .int .i64 x.most]
theorem within1_any (x : BndM) (w : World) : Calls Tryz.prog 219 #[bndV x] w fun e w' => e = .returned (.bool (inB x)) ∧ Below w.heap.size w w' := by
  obtain ⟨n, l, m⟩ := x
  unfold inB
  dsimp only [bndV]
  by_cases h1 : l ≤ n
  · rw [decide_eq_true h1, Bool.true_and]
    go_enter Tryz.func219, Tryz.ntmps219
    go_wp2
    go_ret
    exact ⟨rfl, bel1 _⟩
  · rw [decide_eq_false h1, Bool.false_and]
    go_enter Tryz.func219, Tryz.ntmps219
    go_wp2
    go_ret
    exact ⟨rfl, bel1 _⟩

/-- The block that holds what is asked. -/
abbrev Ask (I : Nat) (w : World) : Prop := w.cell? ⟨I, 0, none⟩ = some (.func (.func 219) #[] #[])
set_option maxRecDepth 100000 in
theorem all1_any (I : Nat) (x : BndM) (w : World) (h : Ask I w) : Calls Tryz.prog 255 #[bndV x, .pointer (some ⟨I, 0, none⟩)] w fun e w' => e = .returned (.bool (!inB x)) ∧ Below w.heap.size w w' := by
  have CW := Lib.hid (within1_any x)
  unfold Ask at h
  obtain ⟨n, l, m⟩ := x
  dsimp only [bndV] at CW ⊢
  generalize inB ⟨n, l, m⟩ = r at CW ⊢
  go_enter Tryz.func255, Tryz.ntmps255
  have h1 := cell_al h (.cells #[.int .i64 n, .int .i64 l, .int .i64 m] 248)
  go_wp2_with (refine (CW.out _).mono ?_; rintro e w1 ⟨rfl, hb1⟩)
  go_ret
  exact ⟨rfl, (bel1 _).trans (hb1.mono (by simp))⟩

set_option maxRecDepth 100000 in
set_option maxHeartbeats 1000000 in
theorem idxBnd_any (ao : Option Addr) (c I : Nat) (L : List BndM) (hL : L.length ≤ 1000000) (w : World) (h : ArgW 3 encB w (.slice ao L.length c) L) (hI : Ask I w) :
    Calls Tryz.prog 267 #[.slice ao L.length c, .func (.func 255) #[] #[.pointer (some ⟨I, 0, none⟩)]] w fun e w' =>
      ∃ r : Int, e = .returned (.int .i64 r) ∧ ((r = -1 ∧ L.all inB = true) ∨ (0 ≤ r ∧ L.all inB = false)) ∧ Below w.heap.size w w' := by
  have H := Lib.hid h
  have HI := Lib.hid hI
  clear h hI
  go_enter Tryz.func267, Tryz.ntmps267
  go_wp2
  go_loopw [8] (fun vi wr => ∃ k : Nat, vi = .int .i64 k ∧ k ≤ L.length ∧ Hid ((L.take k).all inB = true) ∧ Below w.heap.size w wr) (fun vi _ => L.length - (intOf vi).toNat)
  case atStart => exact ⟨0, rfl, by omega, Lib.hid rfl, Below.refl _ _⟩
  case round =>
    obtain ⟨k, rfl, hk, hno, hB⟩ := hrel
    by_cases hlt : k < L.length
    · obtain ⟨x, hx⟩ : ∃ x, L[k]? = some x := ⟨L[k], List.getElem?_eq_getElem hlt⟩
      obtain ⟨b, o, c', hv, hc', hH⟩ := (H.out.bel hB).at_ hx
      simp only [Value.slice.injEq, true_and] at hv
      obtain ⟨hao, hcc⟩ := hv
      subst hao hcc
      have x0 := hH k 0 _ _ hx rfl
      have x1 := hH k 1 _ _ hx rfl
      have x2 := hH k 2 _ _ hx rfl
      simp only [Nat.add_zero] at x0
      have HT := Lib.hid (show (L.take (k + 1)).all inB = (inB x) by
        obtain ⟨_, h2⟩ := List.getElem?_eq_some_iff.1 hx
        rw [← List.take_append_getElem hlt, List.all_append, hno.out, h2]; simp)
      have HF := Lib.hid (show inB x = false → L.all inB = false from fun h0 => by
        rw [Bool.eq_false_iff]
        intro h1
        have := List.all_eq_true.1 h1 x (List.mem_of_getElem? hx)
        rw [h0] at this
        cases this)
      have CA := Lib.hid (all1_any I x wr (cell_bel HI.out hB))
      obtain ⟨n, l, m⟩ := x
      dsimp only [bndV] at CA x0 x1 x2
      generalize hr : inB ⟨n, l, m⟩ = r at CA HT HF
      clear hH hx hc' hr
      cases r with
      | true =>
        go_wp2_with ((with_reducible refine CA.out.mono ?_); rintro e w5 ⟨rfl, hb5⟩)
        exact ⟨⟨k + 1, by go_num, by omega, HT, hB.trans (hb5.mono hB.size)⟩, by simp [intOf]; omega⟩
      | false =>
        go_wp2_with ((with_reducible refine CA.out.mono ?_); rintro e w5 ⟨rfl, hb5⟩)
        go_ret
        exact ⟨k, rfl, Or.inr ⟨by omega, by simpa using HF.out⟩, hB.trans (hb5.mono hB.size)⟩
    · have hk2 : k = L.length := by omega
      subst hk2
      go_wp2
      go_ret
      exact ⟨-1, rfl, Or.inl ⟨rfl, by have := hno.out; rwa [List.take_length] at this⟩, hB⟩

theorem hasBnd_any (ao : Option Addr) (c I : Nat) (L : List BndM) (hL : L.length ≤ 1000000) (w : World) (h : ArgW 3 encB w (.slice ao L.length c) L) (hI : Ask I w) :
    Calls Tryz.prog 254 #[.slice ao L.length c, .func (.func 255) #[] #[.pointer (some ⟨I, 0, none⟩)]] w fun e w' =>
      e = .returned (.bool (!(L.all inB))) ∧ Below w.heap.size w w' := by
  have CI := Lib.hid (idxBnd_any ao c I L hL w h hI)
  clear h hI
  generalize L.all inB = q at CI ⊢
  go_enter Tryz.func254, Tryz.ntmps254
  go_wp2_with (refine CI.out.mono ?_; rintro e w1 ⟨r, rfl, hr, hb1⟩)
  go_ret
  rcases hr with ⟨rfl, rfl⟩ | ⟨h0, rfl⟩
  · exact ⟨rfl, hb1⟩
  · exact ⟨ret_bool (by simpa using h0), hb1⟩

theorem allBnd_any (ao : Option Addr) (c : Nat) (L : List BndM) (hL : L.length ≤ 1000000) (w : World) (h : ArgW 3 encB w (.slice ao L.length c) L) :
    Calls Tryz.prog 218 #[.func (.func 219) #[] #[], .slice ao L.length c] w fun e w' => e = .returned (.bool (L.all inB)) ∧ Below w.heap.size w w' := by
  have CH := Lib.hid (hasBnd_any ao c w.heap.size L hL _ (h.bel (bel1 (.cells #[.func (.func 219) #[] #[]] 286))) (cell_new w _ _ 0))
  generalize L.all inB = q at CH ⊢
  clear h
  go_enter Tryz.func218, Tryz.ntmps218
  go_wp2_with (refine CH.out.mono ?_; rintro e w1 ⟨rfl, hb1⟩)
  go_ret
  exact ⟨ret_bool (by simp), (bel1 _).trans (hb1.mono (by simp))⟩

theorem within_any (v : Value) (L : List BndM) (hL : L.length ≤ 1000000) (w : World) (h : ArgW 3 encB w v L) :
    Calls Tryz.prog 167 #[v] w fun e w' => e = .returned (.bool (L.all inB)) ∧ Below w.heap.size w w' := by
  obtain ⟨ao, c, rfl⟩ := h.form
  have CH := Lib.hid (allBnd_any ao c L hL w h)
  generalize L.all inB = q at CH ⊢
  clear h
  go_enter Tryz.func167, Tryz.ntmps167
  go_wp2_with (refine CH.out.mono ?_; rintro e w1 ⟨rfl, hb1⟩)
  go_ret
  exact ⟨rfl, hb1⟩
end Go.Proofs.YtfnfcngkaepnjaaGreatDoor
