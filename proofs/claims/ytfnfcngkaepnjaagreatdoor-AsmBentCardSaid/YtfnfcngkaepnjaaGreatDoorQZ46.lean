/- Joined texts: Layer 11: texts in which a line is another one: plain; rows of texts, cut and put together. -/
import Derived.Test.YtfnfcngkaepnjaaGreatDoorQZ40
import Derived.Test.YtfnfcngkaepnjaaGreatDoorQZ28
import Derived.Test.YtfnfcngkaepnjaaGreatDoorQZ39
/- Layer 11: texts in which a line is another one: plain; rows of texts, cut and put together. -/
namespace Go.Proofs.YtfnfcngkaepnjaaGreatDoor
set_option linter.unusedVariables false
set_option linter.unusedSimpArgs false
open Go Go.Proofs Go.RowKit Go.Sort

theorem flat_fn (F : List FnM) : (F.flatMap fnLines).length = F.length + fewSum F := by
  induction F with
  | nil => rfl
  | cons f F ih =>
    rw [List.flatMap_cons, List.length_append, ih]
    unfold fewSum fnLines
    simp
    omega
theorem lines_few {P : ProgM} (h : fewF P = true) : (linesF P).length ≤ 643 := by
  unfold fewF at h
  simp only [Bool.and_eq_true, decide_eq_true_eq] at h
  obtain ⟨h1, h2⟩ := h
  rw [List.take_of_length_le h1] at h2
  unfold linesF headLines
  rw [List.length_append, flat_fn]
  simp only [List.length_cons, List.length_nil]
  omega
theorem joined_count (L : List ByteArray) (c : Nat) (h : ∀ x ∈ L, x.data.toList.count 10 ≤ c) : (joinedF L).count 10 ≤ L.length * (c + 1) := by
  induction L with
  | nil => simp [joinedF]
  | cons x L ih =>
    have h1 := ih (fun s hs => h s (List.mem_cons_of_mem _ hs))
    have h2 := h x (by simp)
    unfold joinedF at h1 ⊢
    have h3 : (x :: L).length * (c + 1) = L.length * (c + 1) + (c + 1) := by rw [List.length_cons, Nat.succ_mul]
    rw [h3, List.flatMap_cons, List.count_append, List.count_append]
    have h4 : [(10 : UInt8)].count 10 = 1 := rfl
    omega
/-- A text that is looked at here. -/
def OkT (s : ByteArray) : Prop := s.size ≤ 900000 ∧ (nlF s).length ≤ 90001
theorem okT_joined {L : List ByteArray} (hl : L.length ≤ 643) (h : ∀ x ∈ L, x.size ≤ 300 ∧ x.data.toList.count 10 ≤ 40) : OkT ⟨(joinedF L).toArray⟩ ∧ (joinedF L).length ≤ 900000 := by
  have h1 := joinedF_len L 300 (fun x hx => (h x hx).1)
  have h2 := joined_count L 40 (fun x hx => (h x hx).2)
  have h3 : L.length * 301 ≤ 643 * 301 := Nat.mul_le_mul_right _ hl
  have h4 : L.length * 41 ≤ 643 * 41 := Nat.mul_le_mul_right _ hl
  refine ⟨⟨?_, ?_⟩, by omega⟩
  · simp only [ByteArray.size, List.size_toArray]; omega
  · rw [nl_count]
    show (joinedF L).count 10 + 1 ≤ 90001
    omega
theorem okT_cut {s : ByteArray} (h : OkT s) (n : Nat) : OkT (s.extract 0 n) := by
  obtain ⟨h1, h2⟩ := h
  refine ⟨by rw [ByteArray.size_extract]; omega, ?_⟩
  rw [nl_count] at h2 ⊢
  have h3 : (s.extract 0 n).data.toList = s.data.toList.take n := by rw [ext_list, List.drop_zero]
  rw [h3]
  have := (List.take_sublist n s.data.toList).count_le 10
  omega
theorem lines_ok {P : ProgM} (hP : P.Fits) (hR : rightP P = true) : ∀ x ∈ linesF P, x.size ≤ 300 ∧ x.data.toList.count 10 ≤ 40 := fun x hx =>
  ⟨(lines_small hP hR).2 x hx, by rw [List.count_eq_zero_of_not_mem (lines_no10 hP hR x hx)]; omega⟩
/-- A line more in its place; one lacks. -/
theorem bent_set {L : List ByteArray} {s : ByteArray} (k : Nat) (h : ∀ x ∈ L, x.size ≤ 300 ∧ x.data.toList.count 10 ≤ 40) (hs : s.size ≤ 40) : ∀ x ∈ L.set k s, x.size ≤ 300 ∧ x.data.toList.count 10 ≤ 40 := fun x hx => by
  rcases List.mem_or_eq_of_mem_set hx with hx | rfl
  · exact h x hx
  · have h1 := List.count_le_length (a := (10 : UInt8)) (l := x.data.toList)
    rw [← Lib.size_eq] at h1
    omega
theorem bent_cut {L : List ByteArray} (k : Nat) (h : ∀ x ∈ L, x.size ≤ 300 ∧ x.data.toList.count 10 ≤ 40) : ∀ x ∈ L.take k ++ L.drop (k + 1), x.size ≤ 300 ∧ x.data.toList.count 10 ≤ 40 := fun x hx => by
  rcases List.mem_append.1 hx with hx | hx
  · exact h x (List.mem_of_mem_take hx)
  · exact h x (List.mem_of_mem_drop hx)

section
variable {α : Type} {t e : TypeId} {size bytes : Nat} {zero : Value} {enc : α → List Value} {base : Nat} {v : Value} {L : List α} {w w' : World}
/-- Things that lie anywhere are appended. -/
theorem append_A_run (R : RowTy t e size bytes zero enc) (ty : TypeId) (h : OwnW e size enc base v L w) (ad : Addr) (c : Nat) (M : List α) (hx : ∀ j u, (M.flatMap enc)[j]? = some u → w.cell? (ad.add j) = some u) (hn : L.length + M.length ≤ 1000000) (hbase : base ≤ w.heap.size) :
    ∃ v' w', (Builtin.append_ #[t, t] ty #[v, .slice (some ad) M.length c]).run Tryz.prog w = .ok v' w' ∧ OwnW e size enc base v' (L ++ M) w' ∧ w.grownBy w' v.ownBlock ∧ Below base w w' := by
  obtain ⟨i0, hi0, hz0, hz1, hz2⟩ := info_of R.hi
  obtain ⟨v', w', r1, r2, r3, _⟩ := run_append_ownF (P := Tryz.prog) w base t ty e i0 zero size bytes R.ht hi0 hz0 hz1 hz2 R.hzs R.hsz v L.length (L.flatMap enc) h ad M.length c (M.flatMap enc) (flatMap_len R.len M) hx (by
    intro u hu
    obtain ⟨x, _, hx⟩ := List.mem_flatMap.1 hu
    exact R.one x u hx) (by unfold maxLen; omega) (by have := R.hby; have h1 : (L.length + M.length) * bytes ≤ 1000001 * 100000 := Nat.mul_le_mul (by omega) this; omega) hbase
  refine ⟨v', w', r1, ?_, r3, (Below.refl base w).grown r3 hbase (fun k hk => (h.lt k hk).1)⟩
  unfold OwnW
  rw [List.length_append, List.flatMap_append]
  exact r2
end
theorem flatS (L : List ByteArray) : L.flatMap encS = L.map Value.string := by
  induction L with
  | nil => rfl
  | cons x L ih => rw [List.flatMap_cons, ih]; rfl
theorem row_take {base g n c : Nat} {L : List ByteArray} {w : World} (h : OwnU 9 1 encS base (.slice (some ⟨g, 0, none⟩) n c) L w) (i : Nat) : ∀ j u, ((L.take i).flatMap encS)[j]? = some u → w.cell? ((⟨g, 0, none⟩ : Addr).add j) = some u := by
  intro j u hj
  rw [flatS, List.getElem?_map, Option.map_eq_some_iff] at hj
  obtain ⟨x, hx, rfl⟩ := hj
  rw [List.getElem?_take] at hx
  split at hx
  · have := OwnW.cell (enc := encS) (fun _ => rfl) h.own j 0 x _ hx rfl
    rw [WideShapes.add_plain, Nat.zero_add]
    simpa using this
  · cases hx
theorem row_drop {base g n c : Nat} {L : List ByteArray} {w : World} (h : OwnU 9 1 encS base (.slice (some ⟨g, 0, none⟩) n c) L w) (i o : Nat) (ho : o = i ∨ L.length - i = 0) : ∀ j u, ((L.drop i).flatMap encS)[j]? = some u → w.cell? ((⟨g, o, none⟩ : Addr).add j) = some u := by
  intro j u hj
  rw [flatS, List.getElem?_map, Option.map_eq_some_iff] at hj
  obtain ⟨x, hx, rfl⟩ := hj
  rw [List.getElem?_drop] at hx
  rcases ho with rfl | ho
  · have := OwnW.cell (enc := encS) (fun _ => rfl) h.own (o + j) 0 x _ hx rfl
    rw [WideShapes.add_plain]
    simpa using this
  · have := (List.getElem?_eq_some_iff.1 hx).1
    omega
/-- A row's texts behind the first i. -/
theorem slice_fromS (g n c i : Nat) (hi : i ≤ n) (hc : n ≤ c) : ∃ o c', (o = i ∨ n - i = 0) ∧ ∀ w, (Instr.slice 67 (.slice (some ⟨g, 0, none⟩) n c) (some (.int .i64 i)) none none).run Tryz.prog w = .ok (.slice (some ⟨g, o, none⟩) (n - i) c') w := by
  obtain ⟨i0, hi0, hz0, hz1, hz2⟩ := info_of rowS.hi
  by_cases h1 : c = i
  · refine ⟨0, 0, Or.inr (by omega), fun w => ?_⟩
    have h2 : n = i := by omega
    subst h1
    subst h2
    simp [Instr.slice, run_underlying Tryz.underlying67, Instr.sliceBounds, Instr.sliceBound, asIntOf, sizeOf, typeInfo, hi0, hz1, Addr.add]
  · refine ⟨i, c - i, Or.inl rfl, fun w => ?_⟩
    have h2 : (i : Int) ≤ (n : Int) := by omega
    simp [Instr.slice, run_underlying Tryz.underlying67, Instr.sliceBounds, Instr.sliceBound, asIntOf, sizeOf, typeInfo, hi0, hz1, h1, hi, Addr.add]
    exact fun h => h.symm
end Go.Proofs.YtfnfcngkaepnjaaGreatDoor
