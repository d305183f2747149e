/- Joined texts: A set of pairs, of whatever many: its map, entry by entry. -/
import Derived.Test.YtnefpiohmokkiaaGreatDoorQS8
/- A set of pairs, of whatever many: its map, entry by entry. -/
namespace Go.Proofs.YtnefpiohmokkiaaGreatDoor
set_option linter.unusedVariables false
set_option linter.unusedSimpArgs false
open Go Go.Proofs Go.RowKit

/-- A pair of sites. -/
structure PaM where
  a : Int
  b : Int
  c : Int
  d : Int
deriving DecidableEq
abbrev PaM.v (p : PaM) : Value := .agg #[.int .i64 p.a, .int .i64 p.b, .int .i64 p.c, .int .i64 p.d]
theorem PaM.v_inj {p q : PaM} (h : p.v = q.v) : p = q := by
  cases p
  cases q
  simpa using h
/-- Numbers that a machine holds. -/
structure PaM.In (p : PaM) : Prop where
  a : -9223372036854775808 ≤ p.a ∧ p.a ≤ 9223372036854775807
  b : -9223372036854775808 ≤ p.b ∧ p.b ≤ 9223372036854775807
  c : -9223372036854775808 ≤ p.c ∧ p.c ≤ 9223372036854775807
  d : -9223372036854775808 ≤ p.d ∧ p.d ≤ 9223372036854775807
theorem int_wf {n : Int} (h : -9223372036854775808 ≤ n ∧ n ≤ 9223372036854775807) : (Lit.int .i64 n).wf = true := by
  have e1 : IntKind.i64.min = -9223372036854775808 := rfl
  have e2 : IntKind.i64.max = 9223372036854775807 := rfl
  simp [Lit.wf, e1, e2, h.1, h.2]
theorem int_lits (k : Nat) {n : Int} (h : -9223372036854775808 ≤ n ∧ n ≤ 9223372036854775807) : Tryz.prog.keyLits (k + 1) 3 [.int .i64 n] = some [.int .i64 n] := by
  unfold Program.keyLits
  rw [Tryz.underlying3]
  simp [int_wf h]
theorem site_lits (k : Nat) {a b : Int} (ha : -9223372036854775808 ≤ a ∧ a ≤ 9223372036854775807) (hb : -9223372036854775808 ≤ b ∧ b ≤ 9223372036854775807) : Tryz.prog.keyLits (k + 2) 30 [.int .i64 a, .int .i64 b] = some [.int .i64 a, .int .i64 b] := by
  have e1 : Tryz.prog.cellsOf 30 = 2 := by kernel_rfl
  have e2 : Tryz.prog.cellsOf 3 = 1 := by kernel_rfl
  unfold Program.keyLits
  rw [Tryz.underlying30]
  simp [e1, e2, int_lits k ha, int_lits k hb]
theorem pair_lits (k : Nat) (p : PaM) (h : p.In) : Tryz.prog.keyLits (k + 3) 32 [.int .i64 p.a, .int .i64 p.b, .int .i64 p.c, .int .i64 p.d] = some [.int .i64 p.a, .int .i64 p.b, .int .i64 p.c, .int .i64 p.d] := by
  have e1 : Tryz.prog.cellsOf 32 = 4 := by kernel_rfl
  have e2 : Tryz.prog.cellsOf 30 = 2 := by kernel_rfl
  unfold Program.keyLits
  rw [Tryz.underlying32]
  simp [e1, e2, site_lits k h.a h.b, site_lits k h.c h.d]
theorem pair_key (p : PaM) (h : p.In) : ∃ kl, keyOf Tryz.prog 32 p.v = some kl := by
  have hT : Tryz.prog.keyType 32 = true := by kernel_rfl
  have hF : p.v.formed Tryz.prog 32 = true := by
    obtain ⟨a, b, c, d⟩ := p
    kernel_rfl
  obtain ⟨k, hk⟩ : ∃ k, Tryz.prog.types.size + 1 = k + 3 := ⟨Tryz.prog.types.size - 2, by have : 3 ≤ Tryz.prog.types.size := of_decide_eq_true (by kernel_rfl); omega⟩
  unfold keyOf
  rw [Tryz.underlying32]
  simp only [hT, hF, Bool.and_self, if_true, hk]
  rw [show p.v.cells.toList = [.int .i64 p.a, .int .i64 p.b, .int .i64 p.c, .int .i64 p.d] from rfl, pair_lits k p h]
  exact ⟨_, rfl⟩

/-- The entries of pairs, each with how often it came. -/
def esL (L : List (PaM × Int)) : List MapEntry := L.zipIdx.map fun x => ⟨x.1.1.v, .int .i64 x.1.2, x.2⟩
theorem esL_get (L : List (PaM × Int)) (j : Nat) : (esL L)[j]? = L[j]?.map fun x => (⟨x.1.v, .int .i64 x.2, j⟩ : MapEntry) := by
  unfold esL
  rw [List.getElem?_map, List.getElem?_zipIdx]
  cases L[j]? <;> simp
theorem esL_length (L : List (PaM × Int)) : (esL L).length = L.length := by simp [esL]
theorem esL_snoc (L : List (PaM × Int)) (x : PaM × Int) : esL (L ++ [x]) = esL L ++ [⟨x.1.v, .int .i64 x.2, L.length⟩] := by
  unfold esL
  rw [List.zipIdx_append, List.map_append]
  simp
theorem esL_set (L : List (PaM × Int)) (j : Nat) (x : PaM × Int) (hj : j < L.length) : esL (L.set j x) = (esL L).set j ⟨x.1.v, .int .i64 x.2, j⟩ := by
  apply List.ext_getElem?
  intro i
  rw [esL_get, List.getElem?_set, List.getElem?_set, esL_length, esL_get]
  by_cases h : j = i
  · subst h
    simp [hj]
  · simp [h]
theorem esL_keys (L : List (PaM × Int)) (hI : ∀ x ∈ L, x.1.In) : ∀ e ∈ esL L, ∃ l, keyOf Tryz.prog 32 e.key = some l := fun e he => by
  unfold esL at he
  obtain ⟨x, hx, rfl⟩ := List.mem_map.1 he
  exact pair_key x.1.1 (hI x.1 (List.fst_mem_of_mem_zipIdx hx))
/-- How often a pair came. -/
def cntP (L : List (PaM × Int)) (p : PaM) : Int := match L.find? (fun x => x.1 == p) with | some x => x.2 | none => 0
theorem cntP_at {L : List (PaM × Int)} (hn : (L.map (·.1)).Nodup) {j : Nat} {p : PaM} {n : Int} (h : L[j]? = some (p, n)) : cntP L p = n := by
  have hex : ∃ x, L.find? (fun x => x.1 == p) = some x := by
    rw [← Option.isSome_iff_exists, List.find?_isSome]
    exact ⟨(p, n), List.mem_of_getElem? h, by simp⟩
  obtain ⟨x, hx⟩ := hex
  have h1 := List.mem_of_find?_eq_some hx
  have h2 := List.find?_some hx
  simp only [beq_iff_eq] at h2
  obtain ⟨i, hi, rfl⟩ := List.getElem_of_mem h1
  have hij : i = j := by
    obtain ⟨hj, he⟩ := List.getElem?_eq_some_iff.1 h
    have := (List.nodup_iff_pairwise_ne.1 hn)
    refine (List.getElem_inj (h₀ := by simpa using hi) (h₁ := by simpa using hj) hn).1 ?_
    simp [h2, he]
  subst hij
  unfold cntP
  rw [hx]
  obtain ⟨_, he⟩ := List.getElem?_eq_some_iff.1 h
  simp [he]
theorem cntP_no {L : List (PaM × Int)} {p : PaM} (h : ∀ x ∈ L, x.1 ≠ p) : cntP L p = 0 := by
  unfold cntP
  have : L.find? (fun x => x.1 == p) = none := by
    rw [List.find?_eq_none]
    intro x hx
    simpa using h x hx
  rw [this]

section
variable (M : Nat) (L : List (PaM × Int)) (hI : ∀ x ∈ L, x.1.In) (p : PaM) (hp : p.In)
include hI hp
/-- The pair is one of them, or none is it. -/
theorem find_p (w : World) : ((Instr.findKey 32 p.v (esL L)).run Tryz.prog w = .ok none w ∧ ∀ x ∈ L, x.1 ≠ p) ∨ ∃ j n, (Instr.findKey 32 p.v (esL L)).run Tryz.prog w = .ok (some (j, .int .i64 n)) w ∧ L[j]? = some (p, n) := by
  obtain ⟨kl, hkey⟩ := pair_key p hp
  rcases pair_law.find w hkey (esL L) (esL_keys L hI) with ⟨h1, h2⟩ | ⟨j, e, h1, h2, h3⟩
  · refine Or.inl ⟨h1, fun x hx hxp => ?_⟩
    obtain ⟨j, hj, rfl⟩ := List.getElem_of_mem hx
    refine h2 ⟨L[j].1.v, .int .i64 L[j].2, j⟩ (List.mem_of_getElem? (i := j) ?_) (by rw [hxp])
    rw [esL_get, List.getElem?_eq_getElem hj]
    rfl
  · rw [esL_get, Option.map_eq_some_iff] at h2
    obtain ⟨x, hx, rfl⟩ := h2
    have h4 : x.1 = p := PaM.v_inj h3
    refine Or.inr ⟨j, x.2, h1, ?_⟩
    rw [hx, ← h4]
theorem look_p (hn : (L.map (·.1)).Nodup) (w : World) (hb : w.heap[M]? = some (.map (esL L).toArray L.length)) : (Instr.lookup 86 (.map (some M)) p.v false).run Tryz.prog w = .ok (.int .i64 (cntP L p)) w := by
  obtain ⟨kl, hkey⟩ := pair_key p hp
  rcases find_p L hI p hp w with ⟨h1, h2⟩ | ⟨j, n, h1, h2⟩
  · rw [cntP_no h2]
    cases hL : (esL L).isEmpty <;> simp [Instr.lookup, run_underlying Tryz.underlying86, MapKept.run_getObj_map hb, pair_law.check w _ hkey, h1, Result.andThen]
  · rw [cntP_at hn h2]
    simp [Instr.lookup, run_underlying Tryz.underlying86, MapKept.run_getObj_map hb, pair_law.check w _ hkey, h1, Result.andThen]
/-- An entry of the pair: it was, or it is made. -/
theorem entry_p (hn : (L.map (·.1)).Nodup) (w : World) (hb : w.heap[M]? = some (.map (esL L).toArray L.length)) : ∃ (L' : List (PaM × Int)) (j : Nat), L'[j]? = some (p, cntP L p) ∧ (L' = L ∨ (L' = L ++ [(p, 0)] ∧ ∀ x ∈ L, x.1 ≠ p)) ∧
    (Instr.mapEntry 86 (.map (some M)) p.v).run Tryz.prog w = .ok (.tuple #[.int .i64 (cntP L p), .int .i64 j]) (setP w M (esL L').toArray L'.length) := by
  obtain ⟨kl, hkey⟩ := pair_key p hp
  rcases find_p L hI p hp w with ⟨h1, h2⟩ | ⟨j, n, h1, h2⟩
  · refine ⟨L ++ [(p, 0)], L.length, ?_, Or.inr ⟨rfl, h2⟩, ?_⟩
    · rw [cntP_no h2]; simp
    · rw [cntP_no h2, esL_snoc]
      simp [Instr.mapEntry, run_underlying Tryz.underlying86, MapKept.run_getObj_map hb, pair_law.check w _ hkey, h1, int_zero, MapKept.run_setObj_map _ hb, Result.andThen, ChangeMaps.setBlock, goInt]
  · have hc := cntP_at hn h2
    refine ⟨L, j, by rw [hc]; exact h2, Or.inl rfl, ?_⟩
    have h3 : (esL L)[j]? = some ⟨p.v, .int .i64 n, j⟩ := by rw [esL_get, h2]; rfl
    have hsame : (esL L).modify j (fun e => { e with key := p.v }) = esL L := by
      rw [ChangeMaps.modify_eq_set _ _ _ _ h3]
      exact WideElems.set_self _ _ _ h3
    rw [hc]
    simp [Instr.mapEntry, run_underlying Tryz.underlying86, MapKept.run_getObj_map hb, pair_law.check w _ hkey, h1, h3, pair_law.stays w hkey, hsame, MapKept.run_setObj_map _ hb, Result.andThen, ChangeMaps.setBlock, goInt]
omit hI hp in
/-- What is stored there. -/
theorem store_p (w : World) (j : Nat) (n m : Int) (hj : L[j]? = some (p, n)) (hb : w.heap[M]? = some (.map (esL L).toArray L.length)) : (Instr.entryStore 86 (.map (some M)) (.int .i64 j) (.int .i64 m)).run Tryz.prog w = .ok () (setP w M (esL (L.set j (p, m))).toArray (L.set j (p, m)).length) := by
  have h3 : (esL L)[j]? = some ⟨p.v, .int .i64 n, j⟩ := by rw [esL_get, hj]; rfl
  have hlt := (List.getElem?_eq_some_iff.1 hj).1
  have hb2 : ((esL L).map (·.born)).Nodup := by
    rw [List.nodup_iff_pairwise_ne, List.pairwise_map, List.pairwise_iff_getElem]
    intro a b ha hb hab
    have e1 : (esL L)[a]? = some (esL L)[a] := List.getElem?_eq_getElem ha
    have e2 : (esL L)[b]? = some (esL L)[b] := List.getElem?_eq_getElem hb
    rw [esL_get, Option.map_eq_some_iff] at e1 e2
    obtain ⟨_, _, e1⟩ := e1
    obtain ⟨_, _, e2⟩ := e2
    rw [← e1, ← e2]
    simp
    omega
  have hidx : (esL L).toArray.findIdx? (fun e => ((e.born : Nat) : Int) == ((j : Nat) : Int)) = some j := by
    rw [WideElems.findIdx_arr]
    exact WideElems.findIdx_born hb2 h3
  have hmod : (esL L).modify j (fun e => { e with val := .int .i64 m }) = esL (L.set j (p, m)) := by
    rw [ChangeMaps.modify_eq_set _ _ _ _ h3, esL_set L j _ hlt]
  simp [Instr.entryStore, MapKept.run_getObj_map hb, asInt, asIntOf, goInt, hidx, hmod, MapKept.run_setObj_map _ hb, Result.andThen, ChangeMaps.setBlock]
end
end Go.Proofs.YtnefpiohmokkiaaGreatDoor
