/- Joined texts: Walks of package site: New, Add, Len, as the chapter's rows use them. -/
import Derived.Test.YtnefpiohmokkiaaGreatDoorQS6
import Derived.MapKept
import Derived.WideKeyEntry
import Derived.DeepKeys4
import Derived.Test.YtnefpiohmokkiaaGreatDoorQS7
/- Walks of package site: New, Add, Len, as the chapter's rows use them. -/
namespace Go.Proofs.YtnefpiohmokkiaaGreatDoor
set_option linter.unusedVariables false
open Go Go.Proofs Go.RowKit
set_option maxRecDepth 100000

theorem pair_laid : laidOutB Tryz.prog = true := by kernel_rfl
theorem pair_row : (32 : TypeId) < Tryz.prog.types.size := of_decide_eq_true (by kernel_rfl)
theorem pair_wide : (match Tryz.prog.underlying 32 with | some (.array _ _) | some (.struct _) => true | _ => false) = true := by rw [Tryz.underlying32]
theorem pair_law : WideMaps.KeyLaw Tryz.prog 32 := deep_law_laid pair_laid (m := 3) (by omega) pair_row (by kernel_rfl) pair_wide
theorem int_zero (w : World) : (zeroValue 3).run Tryz.prog w = .ok (.int .i64 0) w := by kernel_rfl

abbrev setP (w : World) (M : Nat) (es : Array MapEntry) (c : Nat) : World := ChangeMaps.setBlock w M (.map es c)

section
variable {key : Value} {kl : Lit} (hkey : keyOf Tryz.prog 32 key = some kl) (M : Nat)
include hkey

theorem look_none (w : World) (hb : w.heap[M]? = some (.map #[] 0)) : (Instr.lookup 86 (.map (some M)) key false).run Tryz.prog w = .ok (.int .i64 0) w := by
  rcases pair_law.find w hkey [] (by simp) with ⟨h1, _⟩ | ⟨j, e, _, h2, _⟩
  · simp [Instr.lookup, run_underlying Tryz.underlying86, MapKept.run_getObj_map hb, pair_law.check w true hkey, h1, Result.andThen]
  · simp at h2

theorem look_one (w : World) (n : Int) (hb : w.heap[M]? = some (.map #[⟨key, .int .i64 n, 0⟩] 1)) : (Instr.lookup 86 (.map (some M)) key false).run Tryz.prog w = .ok (.int .i64 n) w := by
  rcases pair_law.find w hkey [⟨key, .int .i64 n, 0⟩] (by intro e he; simp at he; subst he; exact ⟨kl, hkey⟩) with ⟨_, h2⟩ | ⟨j, e, h1, h2, h3⟩
  · exact absurd rfl (h2 ⟨key, .int .i64 n, 0⟩ (by simp))
  · have : e = ⟨key, .int .i64 n, 0⟩ := by simpa using List.mem_of_getElem? h2
    subst this
    simp [Instr.lookup, run_underlying Tryz.underlying86, MapKept.run_getObj_map hb, pair_law.check w false hkey, h1, Result.andThen]

theorem entry_none (w : World) (hb : w.heap[M]? = some (.map #[] 0)) : (Instr.mapEntry 86 (.map (some M)) key).run Tryz.prog w = .ok (.tuple #[.int .i64 0, .int .i64 0]) (setP w M #[⟨key, .int .i64 0, 0⟩] 1) := by
  rcases pair_law.find w hkey [] (by simp) with ⟨h1, _⟩ | ⟨j, e, _, h2, _⟩
  · simp [Instr.mapEntry, run_underlying Tryz.underlying86, MapKept.run_getObj_map hb, pair_law.check w false hkey, h1, MapKept.run_setObj_map _ hb, Result.andThen, ChangeMaps.setBlock, goInt]
  · simp at h2

theorem entry_one (w : World) (n : Int) (hb : w.heap[M]? = some (.map #[⟨key, .int .i64 n, 0⟩] 1)) : (Instr.mapEntry 86 (.map (some M)) key).run Tryz.prog w = .ok (.tuple #[.int .i64 n, .int .i64 0]) (setP w M #[⟨key, .int .i64 n, 0⟩] 1) := by
  rcases pair_law.find w hkey [⟨key, .int .i64 n, 0⟩] (by intro e he; simp at he; subst he; exact ⟨kl, hkey⟩) with ⟨_, h2⟩ | ⟨j, e, h1, h2, h3⟩
  · exact absurd rfl (h2 ⟨key, .int .i64 n, 0⟩ (by simp))
  · have hj : j = 0 := by
      have := (List.getElem?_eq_some_iff.1 h2).1
      simp at this
      exact this
    subst hj
    have : e = ⟨key, .int .i64 n, 0⟩ := by simpa using List.mem_of_getElem? h2
    subst this
    simp [Instr.mapEntry, run_underlying Tryz.underlying86, MapKept.run_getObj_map hb, pair_law.check w false hkey, h1, pair_law.stays w hkey, MapKept.run_setObj_map _ hb, Result.andThen, ChangeMaps.setBlock, goInt]

omit hkey in
theorem store_one (w : World) (n m : Int) (hb : w.heap[M]? = some (.map #[⟨key, .int .i64 n, 0⟩] 1)) : (Instr.entryStore 86 (.map (some M)) (.int .i64 0) (.int .i64 m)).run Tryz.prog w = .ok () (setP w M #[⟨key, .int .i64 m, 0⟩] 1) := by
  simp [Instr.entryStore, MapKept.run_getObj_map hb, asInt, asIntOf, MapKept.run_setObj_map _ hb, Result.andThen, ChangeMaps.setBlock]
end

theorem make_set (w : World) : (Instr.makeMap 86 none).run Tryz.prog w = .ok (.map (some w.heap.size)) (w.alloc (.map #[] 0)) := by kernel_rfl

set_option maxRecDepth 100000 in
set_option maxHeartbeats 400000 in
theorem siNew_none (w : World) : Calls Tryz.prog 6 #[.slice none 0 0] w fun e w' =>
    ∃ B M, e = .returned (.tuple #[.pointer (some ⟨B, 0, none⟩), .int .i64 0]) ∧ w'.cell? ⟨B, 0, none⟩ = some (.map (some M)) ∧ w'.heap[M]? = some (.map #[] 0) ∧ w.heap.size ≤ M ∧ Below w.heap.size w w' := by
  have hm := make_set w
  go_enter Tryz.func6, Tryz.ntmps6
  go_wp2
  refine wp_loop_rounds 1 ?_
  rw [rounds_succ]
  go_wp2
  go_ret2
  refine ⟨w.heap.size + 1, w.heap.size, rfl, ?_, ?_, Nat.le_refl _, belA (bel1 _) _⟩
  · exact (World.cell?_alloc_at _ _ _ _ (by simp)).trans rfl
  · exact ((MapKept.heap_alloc (w.alloc (.map #[] 0)) _).2 _ (by simp)).trans (MapKept.heap_alloc w _).1

theorem map_nil (M : Nat) (w : World) : (binOp .eql 86 (.map (some M)) (.map none)).run Tryz.prog w = .ok (.bool false) w := by kernel_rfl
theorem map_len (M : Nat) (es : Array MapEntry) (c : Nat) (ty : TypeId) (w : World) (hb : w.heap[M]? = some (.map es c)) : (Builtin.len_ #[86] ty #[.map (some M)]).run Tryz.prog w = .ok (.int .i64 es.size) w := by
  simp [Builtin.len_, run_underlying Tryz.underlying86, MapKept.run_getObj_map hb, Result.andThen, goInt]

theorem siNone_no (B M : Nat) (w : World) (hc : w.cell? ⟨B, 0, none⟩ = some (.map (some M))) :
    Calls Tryz.prog 34 #[.pointer (some ⟨B, 0, none⟩)] w fun e w' => e = .returned (.bool false) ∧ w = w' := by
  have hn := map_nil M w
  go_enter Tryz.func34, Tryz.ntmps34
  go_wp2
  go_ret
  exact ⟨rfl, rfl⟩

theorem siLen_any (B M : Nat) (es : Array MapEntry) (c : Nat) (w : World) (hc : w.cell? ⟨B, 0, none⟩ = some (.map (some M))) (hm : w.heap[M]? = some (.map es c)) :
    Calls Tryz.prog 13 #[.pointer (some ⟨B, 0, none⟩)] w fun e w' => e = .returned (.int .i64 es.size) ∧ w = w' := by
  have hn := map_len M es c 3 w hm
  go_enter Tryz.func13, Tryz.ntmps13
  go_wp2_with fail
  refine (siNone_no B M _ hc).mono ?_
  rintro e w1 ⟨rfl, rfl⟩
  go_wp2
  go_ret
  exact ⟨rfl, rfl⟩
theorem setP_heap {w : World} {M : Nat} {es es' : Array MapEntry} {c c' : Nat} (hb : w.heap[M]? = some (.map es c)) : (setP w M es' c').heap[M]? = some (.map es' c') := (MapKept.heap_set hb).1
theorem setP_cell {w : World} {M b : Nat} {es es' : Array MapEntry} {c c' : Nat} (hb : w.heap[M]? = some (.map es c)) (hne : b ≠ M) (o : Nat) : (setP w M es' c').cell? ⟨b, o, none⟩ = w.cell? ⟨b, o, none⟩ := by
  have h := (MapKept.heap_set (o' := .map es' c') hb).2 b hne
  simp only [World.cell?, setP, ChangeMaps.setBlock]
  rw [h]
theorem setP_below {w0 w : World} {B0 M : Nat} {es es' : Array MapEntry} {c c' : Nat} (h : Below B0 w0 w) (hb : w.heap[M]? = some (.map es c)) (hB : B0 ≤ M) : Below B0 w0 (setP w M es' c') :=
  h.trans ⟨rfl, rfl, rfl, by simp [ChangeMaps.setBlock], fun k hk => (MapKept.heap_set hb).2 k (by omega)⟩
theorem cell_not_map {w : World} {B M : Nat} {v : Value} {es : Array MapEntry} {c : Nat} (hc : w.cell? ⟨B, 0, none⟩ = some v) (hm : w.heap[M]? = some (.map es c)) : B ≠ M := by
  rintro rfl
  simp [World.cell?, hm] at hc

set_option maxHeartbeats 1000000 in
theorem siAdd_any (B M B0 : Nat) (a b c d n : Int) {kl : Lit} (hr : rightF a b c d = true) (hkey : keyOf Tryz.prog 32 (.agg #[.int .i64 a, .int .i64 b, .int .i64 c, .int .i64 d]) = some kl)
    (h0 : 0 ≤ n) (h1 : n < 1000000000) (es : Array MapEntry) (ck : Nat) (hst : (es = #[] ∧ ck = 0 ∧ n = 0) ∨ (es = #[⟨.agg #[.int .i64 a, .int .i64 b, .int .i64 c, .int .i64 d], .int .i64 n, 0⟩] ∧ ck = 1))
    (w : World) (hc : w.cell? ⟨B, 0, none⟩ = some (.map (some M))) (hm : w.heap[M]? = some (.map es ck)) (hB0 : B0 ≤ M) :
    Calls Tryz.prog 8 #[.pointer (some ⟨B, 0, none⟩), .agg #[.int .i64 a, .int .i64 b, .int .i64 c, .int .i64 d]] w fun e w' =>
      e = .returned (.tuple #[.bool (decide (n + 1 = 1)), .int .i64 0]) ∧ w'.cell? ⟨B, 0, none⟩ = some (.map (some M)) ∧
        w'.heap[M]? = some (.map #[⟨.agg #[.int .i64 a, .int .i64 b, .int .i64 c, .int .i64 d], .int .i64 (n + 1), 0⟩] 1) ∧ Below B0 w w' := by
  have hBM := cell_not_map hc hm
  have hMs : M < w.heap.size := (Array.getElem?_eq_some_iff.1 hm).1
  have cr := right_any a b c d
  rw [hr] at cr
  have CR := Lib.hid cr
  clear cr hr
  have k0 := cell_new w #[.int .i64 a, .int .i64 b, .int .i64 c, .int .i64 d] 32 0
  have k1 := cell_new w #[.int .i64 a, .int .i64 b, .int .i64 c, .int .i64 d] 32 1
  have k2 := cell_new w #[.int .i64 a, .int .i64 b, .int .i64 c, .int .i64 d] 32 2
  have k3 := cell_new w #[.int .i64 a, .int .i64 b, .int .i64 c, .int .i64 d] 32 3
  go_enter Tryz.func8, Tryz.ntmps8
  go_wp2_with fail
  refine (siNone_no B M _ (cell_al hc _)).mono ?_
  rintro e w1 ⟨rfl, rfl⟩
  go_wp2_with fail
  refine (CR.out _).mono ?_
  rintro e w2 ⟨rfl, hb2⟩
  have hc2 := cell_bel (cell_al hc _) hb2
  have hm2 : w2.heap[M]? = some (.map es ck) := (hb2.block M (by simp; omega)).trans (((MapKept.heap_alloc w _).2 M hMs).trans hm)
  have hB2 : Below B0 w w2 := (belT (bel1 _) hb2).mono (by omega)
  have m0 : w2.cell? ⟨w.heap.size, 0, none⟩ = some (.int .i64 a) := cell_bel k0 hb2
  have m1 : w2.cell? ⟨w.heap.size, 1, none⟩ = some (.int .i64 b) := cell_bel k1 hb2
  have m2 : w2.cell? ⟨w.heap.size, 2, none⟩ = some (.int .i64 c) := cell_bel k2 hb2
  have m3 : w2.cell? ⟨w.heap.size, 3, none⟩ = some (.int .i64 d) := cell_bel k3 hb2
  clear k0 k1 k2 k3 hb2 hc hm
  go_wp2_with fail
  have hc3 : w2.drew.cell? ⟨B, 0, none⟩ = some (.map (some M)) := hc2
  have hm3 : w2.drew.heap[M]? = some (.map es ck) := hm2
  have hB3 : Below B0 w w2.drew := hB2.drew
  have n0 : w2.drew.cell? ⟨w.heap.size, 0, none⟩ = some (.int .i64 a) := m0
  have n1 : w2.drew.cell? ⟨w.heap.size, 1, none⟩ = some (.int .i64 b) := m1
  have n2 : w2.drew.cell? ⟨w.heap.size, 2, none⟩ = some (.int .i64 c) := m2
  have n3 : w2.drew.cell? ⟨w.heap.size, 3, none⟩ = some (.int .i64 d) := m3
  clear hc2 hm2 hB2 m0 m1 m2 m3
  generalize hW : w2.drew = W at hc3 hm3 hB3 n0 n1 n2 n3
  have hlk : (Instr.lookup 86 (.map (some M)) (.agg #[.int .i64 a, .int .i64 b, .int .i64 c, .int .i64 d]) false).run Tryz.prog W = .ok (.int .i64 n) W := by
    rcases hst with ⟨rfl, rfl, rfl⟩ | ⟨rfl, rfl⟩
    · exact look_none hkey M W hm3
    · exact look_one hkey M W n hm3
  have hen : (Instr.mapEntry 86 (.map (some M)) (.agg #[.int .i64 a, .int .i64 b, .int .i64 c, .int .i64 d])).run Tryz.prog W = .ok (.tuple #[.int .i64 n, .int .i64 0]) (setP W M #[⟨(.agg #[.int .i64 a, .int .i64 b, .int .i64 c, .int .i64 d]), .int .i64 n, 0⟩] 1) := by
    rcases hst with ⟨rfl, rfl, rfl⟩ | ⟨rfl, rfl⟩
    · exact entry_none hkey M W hm3
    · exact entry_one hkey M W n hm3
  have hm4 : (setP W M #[⟨(.agg #[.int .i64 a, .int .i64 b, .int .i64 c, .int .i64 d]), .int .i64 n, 0⟩] 1).heap[M]? = some (.map #[⟨(.agg #[.int .i64 a, .int .i64 b, .int .i64 c, .int .i64 d]), .int .i64 n, 0⟩] 1) := setP_heap hm3
  have hc4 : (setP W M #[⟨(.agg #[.int .i64 a, .int .i64 b, .int .i64 c, .int .i64 d]), .int .i64 n, 0⟩] 1).cell? ⟨B, 0, none⟩ = some (.map (some M)) := (setP_cell hm3 hBM 0).trans hc3
  have hne : w.heap.size ≠ M := by omega
  have p0 : (setP W M #[⟨(.agg #[.int .i64 a, .int .i64 b, .int .i64 c, .int .i64 d]), .int .i64 n, 0⟩] 1).cell? ⟨w.heap.size, 0, none⟩ = some (.int .i64 a) := (setP_cell hm3 hne 0).trans n0
  have p1 : (setP W M #[⟨(.agg #[.int .i64 a, .int .i64 b, .int .i64 c, .int .i64 d]), .int .i64 n, 0⟩] 1).cell? ⟨w.heap.size, 1, none⟩ = some (.int .i64 b) := (setP_cell hm3 hne 1).trans n1
  have p2 : (setP W M #[⟨(.agg #[.int .i64 a, .int .i64 b, .int .i64 c, .int .i64 d]), .int .i64 n, 0⟩] 1).cell? ⟨w.heap.size, 2, none⟩ = some (.int .i64 c) := (setP_cell hm3 hne 2).trans n2
  have p3 : (setP W M #[⟨(.agg #[.int .i64 a, .int .i64 b, .int .i64 c, .int .i64 d]), .int .i64 n, 0⟩] 1).cell? ⟨w.heap.size, 3, none⟩ = some (.int .i64 d) := (setP_cell hm3 hne 3).trans n3
  have hB4 : Below B0 w (setP W M #[⟨(.agg #[.int .i64 a, .int .i64 b, .int .i64 c, .int .i64 d]), .int .i64 n, 0⟩] 1) := setP_below hB3 hm3 hB0
  generalize hW2 : setP W M #[⟨(.agg #[.int .i64 a, .int .i64 b, .int .i64 c, .int .i64 d]), .int .i64 n, 0⟩] 1 = W2 at hen hm4 hc4 p0 p1 p2 p3 hB4
  have hlk2 := look_one hkey M W2 n hm4
  have hst2 := store_one M W2 n (n + 1) hm4
  have hm5 : (setP W2 M #[⟨(.agg #[.int .i64 a, .int .i64 b, .int .i64 c, .int .i64 d]), .int .i64 (n + 1), 0⟩] 1).heap[M]? = some (.map #[⟨(.agg #[.int .i64 a, .int .i64 b, .int .i64 c, .int .i64 d]), .int .i64 (n + 1), 0⟩] 1) := setP_heap hm4
  have hc5 : (setP W2 M #[⟨(.agg #[.int .i64 a, .int .i64 b, .int .i64 c, .int .i64 d]), .int .i64 (n + 1), 0⟩] 1).cell? ⟨B, 0, none⟩ = some (.map (some M)) := (setP_cell hm4 hBM 0).trans hc4
  have q0 : (setP W2 M #[⟨(.agg #[.int .i64 a, .int .i64 b, .int .i64 c, .int .i64 d]), .int .i64 (n + 1), 0⟩] 1).cell? ⟨w.heap.size, 0, none⟩ = some (.int .i64 a) := (setP_cell hm4 hne 0).trans p0
  have q1 : (setP W2 M #[⟨(.agg #[.int .i64 a, .int .i64 b, .int .i64 c, .int .i64 d]), .int .i64 (n + 1), 0⟩] 1).cell? ⟨w.heap.size, 1, none⟩ = some (.int .i64 b) := (setP_cell hm4 hne 1).trans p1
  have q2 : (setP W2 M #[⟨(.agg #[.int .i64 a, .int .i64 b, .int .i64 c, .int .i64 d]), .int .i64 (n + 1), 0⟩] 1).cell? ⟨w.heap.size, 2, none⟩ = some (.int .i64 c) := (setP_cell hm4 hne 2).trans p2
  have q3 : (setP W2 M #[⟨(.agg #[.int .i64 a, .int .i64 b, .int .i64 c, .int .i64 d]), .int .i64 (n + 1), 0⟩] 1).cell? ⟨w.heap.size, 3, none⟩ = some (.int .i64 d) := (setP_cell hm4 hne 3).trans p3
  have hB5 : Below B0 w (setP W2 M #[⟨(.agg #[.int .i64 a, .int .i64 b, .int .i64 c, .int .i64 d]), .int .i64 (n + 1), 0⟩] 1) := setP_below hB4 hm4 hB0
  generalize setP W2 M #[⟨(.agg #[.int .i64 a, .int .i64 b, .int .i64 c, .int .i64 d]), .int .i64 (n + 1), 0⟩] 1 = W3 at hst2 hm5 hc5 q0 q1 q2 q3 hB5
  have hlk3 := look_one hkey M W3.drew (n + 1) hm5
  have hc6 : W3.drew.cell? ⟨B, 0, none⟩ = some (.map (some M)) := hc5
  have q0' : W3.drew.cell? ⟨w.heap.size, 0, none⟩ = some (.int .i64 a) := q0
  have q1' : W3.drew.cell? ⟨w.heap.size, 1, none⟩ = some (.int .i64 b) := q1
  have q2' : W3.drew.cell? ⟨w.heap.size, 2, none⟩ = some (.int .i64 c) := q2
  have q3' : W3.drew.cell? ⟨w.heap.size, 3, none⟩ = some (.int .i64 d) := q3
  clear hst hW2 hm3 hm4 hB3 hB4 p0 p1 p2 p3 hc4 hkey CR
  have hwr : IntKind.i64.wrap (n + 1) = n + 1 := by rw [IntKind.wrap_i64]; omega
  have hst3 : (Instr.entryStore 86 (.map (some M)) (.int .i64 0) (.int .i64 (IntKind.i64.wrap (n + 1)))).run Tryz.prog W2 = .ok () W3 := by rw [hwr]; exact hst2
  clear hwr
  subst hW
  go_region_with fail
  all_goals go_wp2_with fail
  all_goals go_region_with fail
  all_goals go_wp2
  all_goals go_ret2
  all_goals exact ⟨rfl, hc6, hm5, hB5.drew⟩
end Go.Proofs.YtnefpiohmokkiaaGreatDoor
