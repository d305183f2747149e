/- Joined texts: A set's pairs in order: maps.Keys and its iterator. -/
import Derived.Test.YtnefpiohmokkiaaGreatDoorQS14
import Derived.Test.YtnefpiohmokkiaaGreatDoorQS18
import Derived.Maps.RangeRun
/- A set's pairs in order: maps.Keys and its iterator. -/
namespace Go.Proofs.YtnefpiohmokkiaaGreatDoor
set_option linter.unusedVariables false
set_option linter.unusedSimpArgs false
open Go Go.Proofs Go.RowKit Go.Sort

/-- A range over the set's map under way: the entries in 'is' have come. -/
structure WalkP (M r : Nat) (L : List (PaM × Int)) (is : List Nat) (w : World) : Prop where
  mp : w.heap[M]? = some (.map (esL L).toArray L.length)
  it : w.heap[r]? = some (.mapIter (some M) L.length is.toArray L.length)
  nd : is.Nodup
  lt : ∀ i ∈ is, i < L.length
theorem esL_born {L : List (PaM × Int)} {e : MapEntry} (h : e ∈ esL L) : ∃ x, L[e.born]? = some x ∧ e = ⟨x.1.v, .int .i64 x.2, e.born⟩ := by
  obtain ⟨j, hj, rfl⟩ := List.getElem_of_mem h
  have h1 : (esL L)[j]? = some (esL L)[j] := List.getElem?_eq_getElem hj
  rw [esL_get, Option.map_eq_some_iff] at h1
  obtain ⟨x, hx, h2⟩ := h1
  rw [← h2]
  exact ⟨x, hx, rfl⟩
theorem esL_nodup (L : List (PaM × Int)) : ((esL L).map (·.born)).Nodup := by
  rw [List.nodup_iff_pairwise_ne, List.pairwise_map, List.pairwise_iff_getElem]
  intro a b ha hb hab
  have e1 : (esL L)[a]? = some (esL L)[a] := List.getElem?_eq_getElem ha
  have e2 : (esL L)[b]? = some (esL L)[b] := List.getElem?_eq_getElem hb
  rw [esL_get, Option.map_eq_some_iff] at e1 e2
  obtain ⟨_, _, e1⟩ := e1
  obtain ⟨_, _, e2⟩ := e2
  rw [← e1, ← e2]
  simp
  omega
theorem WalkP.length_le {M r : Nat} {L : List (PaM × Int)} {is : List Nat} {w : World} (h : WalkP M r L is w) : is.length ≤ L.length := by
  have := h.nd.length_le_of_subset (l₂ := List.range L.length) (fun i hi => List.mem_range.2 (h.lt i hi))
  simpa using this
/-- What has come. -/
def cameP (L : List (PaM × Int)) (is : List Nat) : List PaM := is.filterMap fun i => L[i]?.map (·.1)
theorem cameP_snoc {L : List (PaM × Int)} {is : List Nat} {j : Nat} {x : PaM × Int} (h : L[j]? = some x) : cameP L (is ++ [j]) = cameP L is ++ [x.1] := by
  unfold cameP
  rw [List.filterMap_append]
  simp [h]
theorem cameP_range (L : List (PaM × Int)) : cameP L (List.range L.length) = L.map (·.1) := by
  apply List.ext_getElem?
  intro i
  unfold cameP
  have h1 : (List.range L.length).filterMap (fun i => L[i]?.map (·.1)) = ((List.range L.length).map (fun i => L[i]?.map (·.1))).filterMap id := by
    rw [List.filterMap_map]; rfl
  have h2 : (List.range L.length).map (fun i => L[i]?.map (·.1)) = (L.map (·.1)).map some := by
    apply List.ext_getElem?
    intro k
    rw [List.getElem?_map, List.getElem?_map, List.getElem?_map]
    by_cases hk : k < L.length
    · rw [List.getElem?_range hk]
      simp [hk]
    · rw [List.getElem?_eq_none (by simpa using Nat.le_of_not_lt hk), List.getElem?_eq_none (by simpa using Nat.le_of_not_lt hk)]
      rfl
  rw [h1, h2, List.filterMap_map]
  have : (id ∘ some : PaM → Option PaM) = some := rfl
  rw [this, List.filterMap_some]
theorem cameP_length {L : List (PaM × Int)} : ∀ {is : List Nat}, (∀ i ∈ is, i < L.length) → (cameP L is).length = is.length
  | [], _ => rfl
  | i :: is, h => by
    have hi : i < L.length := h i (by simp)
    have h1 : L[i]? = some L[i] := List.getElem?_eq_getElem hi
    have h2 := cameP_length (L := L) (is := is) (fun j hj => h j (by simp [hj]))
    simp only [cameP, List.filterMap_cons, h1, Option.map_some, List.length_cons] at h2 ⊢
    omega
/-- The step: nothing is left, or an entry comes that has not. -/
theorem WalkP.next {M r : Nat} {L : List (PaM × Int)} {is : List Nat} {w : World} (h : WalkP M r L is w) (hrM : r ≠ M) (ty : TypeId) :
    ((cameP L is).Perm (L.map (·.1)) ∧ (Instr.next (.pointer (some ⟨r, 0, none⟩)) false ty).run Tryz.prog w = .ok (.tuple #[.bool false]) w) ∨
    ∃ j x w', L[j]? = some x ∧ is.length < L.length ∧ (Instr.next (.pointer (some ⟨r, 0, none⟩)) false ty).run Tryz.prog w = .ok (.tuple #[.bool true, x.1.v, .int .i64 x.2]) w' ∧ WalkP M r L (is ++ [j]) w' ∧
      (Instr.entry (.pointer (some ⟨r, 0, none⟩))).run Tryz.prog w' = .ok (.tuple #[x.1.v, .int .i64 x.2]) w' ∧ w'.heap.size = w.heap.size ∧ Below 0 w w' ∧ ∀ k, k ≠ r → w'.heap[k]? = w.heap[k]? := by
  have hmem : ∀ e ∈ (esL L).toArray.toList, e.born < L.length := fun e he => by
    obtain ⟨x, hx, _⟩ := esL_born (by simpa using he)
    exact (List.getElem?_eq_some_iff.1 hx).1
  rcases run_next_at (P := Tryz.prog) w ty r M L.length L.length is.toArray (esL L).toArray L.length h.it h.mp hmem (Nat.le_refl _) with ⟨h0, hr⟩ | ⟨e, he, w1, hw1, hr⟩
  · refine Or.inl ⟨?_, hr⟩
    rw [← cameP_range]
    refine List.Perm.filterMap _ ((List.perm_ext_iff_of_nodup h.nd List.nodup_range).2 fun i => ?_)
    rw [List.mem_range]
    refine ⟨h.lt i, fun hi => ?_⟩
    have h1 : (esL L)[i]? = some ⟨L[i].1.v, .int .i64 L[i].2, i⟩ := by rw [esL_get, List.getElem?_eq_getElem hi]; rfl
    have h2 := all_seen (esL L).toArray is.toArray h0 _ (by simpa using List.mem_of_getElem? h1)
    simpa using h2
  · simp only [leftOf, Array.toList_filter, List.mem_filter, Bool.not_eq_true', Array.contains_toList] at he
    obtain ⟨he1, he2⟩ := he
    have he1' : e ∈ esL L := by simpa using he1
    obtain ⟨x, hx, hex⟩ := esL_born he1'
    have hnot : e.born ∉ is := by simpa using he2
    have hlt := (List.getElem?_eq_some_iff.1 hx).1
    have hk : e.key = x.1.v := by rw [hex]
    have hv : e.val = .int .i64 x.2 := by rw [hex]
    rw [hk, hv] at hr
    have hh : w1.heap = w.heap := by rcases hw1 with rfl | rfl <;> rfl
    have hrs : r < w.heap.size := (Array.getElem?_eq_some_iff.1 h.it).1
    have hnd : (is ++ [e.born]).Nodup := by
      rw [List.nodup_append]
      exact ⟨h.nd, by simp, fun a ha b hb => by simp at hb; subst hb; exact fun e1 => hnot (e1 ▸ ha)⟩
    have hall : ∀ i ∈ is ++ [e.born], i < L.length := fun i hi => by
      rcases List.mem_append.1 hi with hi | hi
      · exact h.lt i hi
      · rw [List.mem_singleton.1 hi]; exact hlt
    have hsame : ∀ k, k ≠ r → (ChangeMaps.setBlock w1 r (.mapIter (some M) L.length (is.toArray.push e.born) L.length)).heap[k]? = w.heap[k]? := fun k hk => by
      show (w1.heap.setIfInBounds r _)[k]? = _
      rw [hh, Array.getElem?_setIfInBounds_ne (Ne.symm hk)]
    have hsz : (ChangeMaps.setBlock w1 r (.mapIter (some M) L.length (is.toArray.push e.born) L.length)).heap.size = w.heap.size := by
      show (w1.heap.setIfInBounds r _).size = _
      rw [hh, Array.size_setIfInBounds]
    have hW : WalkP M r L (is ++ [e.born]) (ChangeMaps.setBlock w1 r (.mapIter (some M) L.length (is.toArray.push e.born) L.length)) := by
      refine ⟨(hsame M (Ne.symm hrM)).trans h.mp, ?_, hnd, hall⟩
      show (w1.heap.setIfInBounds r _)[r]? = _
      rw [hh, Array.getElem?_setIfInBounds_self_of_lt hrs]
      simp
    refine Or.inr ⟨e.born, x, _, hx, ?_, hr, hW, ?_, hsz, ?_, hsame⟩
    · have := hW.length_le
      simp at this
      omega
    · have h1 := run_entry_at (P := Tryz.prog) (ChangeMaps.setBlock w1 r (.mapIter (some M) L.length (is.toArray.push e.born) L.length)) r M L.length is.toArray (esL L).toArray L.length e (by
        have := hW.it
        simpa using this) hW.mp (by simpa using he1') (by simpa using esL_nodup L)
      rw [hk, hv] at h1
      exact h1
    · refine ⟨?_, ?_, ?_, by rw [hsz]; exact Nat.le_refl _, fun k hk => absurd hk (by omega)⟩ <;> (rcases hw1 with rfl | rfl <;> rfl)
theorem WalkP.touch {M r : Nat} {L : List (PaM × Int)} {is : List Nat} {w w' : World} {T : Nat → Prop} (h : WalkP M r L is w) (ht : Touch T w w') (h1 : ¬ T M) (h2 : ¬ T r) : WalkP M r L is w' :=
  ⟨(ht.same M (Array.getElem?_eq_some_iff.1 h.mp).1 h1).trans h.mp, (ht.same r (Array.getElem?_eq_some_iff.1 h.it).1 h2).trans h.it, h.nd, h.lt⟩

theorem WalkP.keepC {M r : Nat} {L : List (PaM × Int)} {is : List Nat} {w w' : World} (h : WalkP M r L is w) (ht : KeepC w w') : WalkP M r L is w' :=
  ⟨(ht.same M (Array.getElem?_eq_some_iff.1 h.mp).1 (by rw [h.mp]; exact fun h => h)).trans h.mp, (ht.same r (Array.getElem?_eq_some_iff.1 h.it).1 (by rw [h.it]; exact fun h => h)).trans h.it, h.nd, h.lt⟩

/-- How many are left, by the world alone. -/
def leftP (r n : Nat) (w : World) : Nat := match w.heap[r]? with | some (.mapIter _ _ seen _) => n - seen.size | _ => 0
theorem WalkP.left {M r : Nat} {L : List (PaM × Int)} {is : List Nat} {w : World} (h : WalkP M r L is w) : leftP r L.length w = L.length - is.length := by
  unfold leftP
  rw [h.it]
  simp

attribute [local go_sem] Oper.semAt_some

set_option maxRecDepth 100000 in
set_option maxHeartbeats 2000000 in
theorem keys_in (n Bm M : Nat) (hn : 1 ≤ n) (L : List (PaM × Int)) :
    SeqC Fence.wide n Tryz.prog 135 #[.pointer (some ⟨Bm, 0, none⟩)] (fun p : PaM => #[p.v])
      (fun xs => xs.Perm (L.map (·.1))) L.length (fun W => W.cell? ⟨Bm, 0, none⟩ = some (.map (some M)) ∧ W.heap[M]? = some (.map (esL L).toArray L.length)) := by
  rintro lp J W ⟨c0, hM⟩ hJ hY hj0
  have HY := Lib.hid hY
  have HJ := Lib.hid hJ
  have hMs : M < W.heap.size := (Array.getElem?_eq_some_iff.1 hM).1
  have hrg := run_range_map (P := Tryz.prog) W 86 _ _ M (esL L).toArray L.length Tryz.underlying86 hM
  have hj1 := hJ _ _ _ hj0 (StepC.of_below (bel1 (.mapIter (some M) L.length #[] L.length)))
  have hW0 : WalkP M W.heap.size L [] (W.alloc (.mapIter (some M) L.length #[] L.length)) :=
    ⟨((bel1 (W := W) (.mapIter (some M) L.length #[] L.length)).block M hMs).trans hM, World.alloc_heap_new W _, by simp, fun i hi => by cases hi⟩
  have HW0 := Lib.hid hW0
  have HJ1 := Lib.hid hj1
  have hMr : W.heap.size ≠ M := by omega
  clear hY hJ hj0 hj1 hW0 hM
  simp only [List.append_toArray, List.cons_append, List.nil_append]
  refine callsIn_of_wp Tryz.func135 rfl trivial ?_ rfl
  simp only [Tryz.ntmps135, List.size_toArray, List.length_cons, List.length_nil, Nat.reduceAdd, Nat.reduceSub, Array.replicate_succ, Array.replicate_zero, List.push_toArray, List.append_toArray, List.nil_append, List.cons_append]
  gi_wp2
  have hszA : W.heap.size < (W.alloc (.mapIter (some M) L.length #[] L.length)).heap.size := by simp
  clear hrg c0
  generalize W.alloc (.mapIter (some M) L.length #[] L.length) = V at HW0 HJ1 hszA ⊢
  gi_loopw [3] (fun _ wr => ∃ is : List Nat, Hid (WalkP M W.heap.size L is wr) ∧ W.heap.size < wr.heap.size ∧ Hid (J (cameP L is) wr)) (fun _ wr => leftP W.heap.size L.length wr)
  case atStart => exact ⟨[], HW0, hszA, HJ1⟩
  case round =>
    clear HW0 HJ1 hszA
    obtain ⟨is, HW, hsz, HJr⟩ := hrel
    rcases HW.out.next hMr 0 with ⟨hp, hrun⟩ | ⟨j, x, w', hx, hlt, hrun, hW', hen, hs', hb', hsame⟩
    · gi_wp2
      go_end0
      exact ⟨⟨_, rfl⟩, _, hp, HJr.out⟩
    · obtain ⟨p, m⟩ := x
      dsimp only at hrun hen
      have hbx : StepC W.heap.size wr w' := ⟨hb', fun k hk hc => hsame k (fun e => by
        subst e
        rcases hc with hc | hc
        · omega
        · rw [HW.out.it] at hc; exact hc)⟩
      have hsn := cameP_snoc (is := is) hx
      dsimp only at hsn
      have HW2 := Lib.hid hW'
      have hJ2 := HJ.out _ _ _ HJr.out hbx
      have hb2 := bel1 (W := w') (.cells #[.int .i64 p.a, .int .i64 p.b, .int .i64 p.c, .int .i64 p.d] 32)
      have hJ3 := HJ.out _ _ _ hJ2 (StepC.of_below hb2)
      have HW3 := Lib.hid (HW2.out.touch (T := fun _ => False) (Touch.below hb2) (fun h => h) (fun h => h))
      have hsz3 : W.heap.size < (w'.alloc (.cells #[.int .i64 p.a, .int .i64 p.b, .int .i64 p.c, .int .i64 p.d] 32)).heap.size := by have := hb2.size; omega
      have k0 := cell_new w' #[.int .i64 p.a, .int .i64 p.b, .int .i64 p.c, .int .i64 p.d] 32 0
      have k1 := cell_new w' #[.int .i64 p.a, .int .i64 p.b, .int .i64 p.c, .int .i64 p.d] 32 1
      have k2 := cell_new w' #[.int .i64 p.a, .int .i64 p.b, .int .i64 p.c, .int .i64 p.d] 32 2
      have k3 := cell_new w' #[.int .i64 p.a, .int .i64 p.b, .int .i64 p.c, .int .i64 p.d] 32 3
      obtain ⟨fn, tmps, assign, body, hy, hR⟩ := HY.out (cameP L is) p (w'.alloc (.cells #[.int .i64 p.a, .int .i64 p.b, .int .i64 p.c, .int .i64 p.d] 32)) hJ3 (by omega) (by rw [cameP_length HW.out.lt]; exact hlt)
      rw [← hsn] at hR
      have HLF := Lib.hid (show ∀ w2, WalkP M W.heap.size L (is ++ [j]) w2 → leftP W.heap.size L.length w2 < leftP W.heap.size L.length wr from fun w2 h2 => by
        rw [h2.left, HW.out.left]; simp; omega)
      clear hJ2 hJ3 hbx hb' hsame hs' hW' hb2 hsn hx hlt HW2 HW HJr
      gi_wp2
      clear hrun hen k0 k1 k2 k3 hy
      generalize w'.alloc (.cells #[.int .i64 p.a, .int .i64 p.b, .int .i64 p.c, .int .i64 p.d] 32) = V3 at HW3 hsz3 hR ⊢
      refine hR.mono ?_
      rintro e W' ⟨⟨rfl, hj'⟩, ht⟩
      have HW4 := Lib.hid (HW3.out.keepC ht)
      have hsz4 : W.heap.size < W'.heap.size := Nat.lt_of_lt_of_le hsz3 ht.size
      have HJ4 := Lib.hid hj'
      have hlf := HLF.out W' HW4.out
      clear hj' ht hR HW3 hsz3 HLF
      gi_wp2
      exact ⟨⟨_, HW4, hsz4, HJ4⟩, hlf⟩

/-- maps.Keys of a set. -/
theorem keysOf_any (M : Nat) (w : World) : Calls Tryz.prog 82 #[.map (some M)] w fun e w' =>
    e = .returned (.func (.func 135) #[] #[.pointer (some ⟨w.heap.size, 0, none⟩)]) ∧ w' = w.alloc (.cells #[.map (some M)] 86) := by
  go_enter Tryz.func82, Tryz.ntmps82
  go_wp2
  go_ret
  exact ⟨rfl, rfl⟩
end Go.Proofs.YtnefpiohmokkiaaGreatDoor
