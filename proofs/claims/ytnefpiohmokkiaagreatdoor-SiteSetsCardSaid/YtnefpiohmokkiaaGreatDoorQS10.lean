/- Joined texts: A set of pairs, of whatever many: Add, Has. -/
import Derived.Test.YtnefpiohmokkiaaGreatDoorQS4
import Derived.Test.YtnefpiohmokkiaaGreatDoorQS9
import Derived.BigQuiet
import Derived.Lib.QuietBelow
/- A set of pairs, of whatever many: Add, Has. -/
namespace Go.Proofs.YtnefpiohmokkiaaGreatDoor
set_option linter.unusedVariables false
set_option linter.unusedSimpArgs false
open Go Go.Proofs Go.RowKit Go.Sort

/-- What pairs a set holds, each with how often it came (at most N times). -/
structure SetOk (N : Nat) (L : List (PaM × Int)) : Prop where
  nd : (L.map (·.1)).Nodup
  inn : ∀ x ∈ L, x.1.In
  cnt : ∀ x ∈ L, 1 ≤ x.2 ∧ x.2 ≤ N
theorem setOk_nil : SetOk 0 [] := ⟨by simp, by simp, by simp⟩
theorem SetOk.more {N M : Nat} {L : List (PaM × Int)} (h : SetOk N L) (hm : N ≤ M) : SetOk M L := ⟨h.nd, h.inn, fun x hx => ⟨(h.cnt x hx).1, by have := (h.cnt x hx).2; omega⟩⟩
theorem SetOk.has {N : Nat} {L : List (PaM × Int)} (h : SetOk N L) (p : PaM) : (0 < cntP L p ↔ p ∈ L.map (·.1)) ∧ 0 ≤ cntP L p ∧ cntP L p ≤ N := by
  by_cases hp : p ∈ L.map (·.1)
  · obtain ⟨x, hx, rfl⟩ := List.mem_map.1 hp
    obtain ⟨j, hj, rfl⟩ := List.getElem_of_mem hx
    have h1 := cntP_at h.nd (j := j) (p := L[j].1) (n := L[j].2) (List.getElem?_eq_getElem hj)
    have h2 := h.cnt L[j] hx
    rw [h1]
    exact ⟨⟨fun _ => hp, fun _ => by omega⟩, by omega, h2.2⟩
  · have h1 := cntP_no (L := L) (p := p) (fun x hx hxp => hp (List.mem_map.2 ⟨x, hx, hxp⟩))
    rw [h1]
    exact ⟨⟨fun h => by omega, fun h => absurd h hp⟩, by omega, by omega⟩
/-- The pairs behind one more. -/
def addK (K : List PaM) (p : PaM) : List PaM := if p ∈ K then K else K ++ [p]
theorem add_ok {N : Nat} {L L1 : List (PaM × Int)} {p : PaM} {j : Nat} (h : SetOk N L) (hp : p.In) (hj : L1[j]? = some (p, cntP L p)) (h1 : L1 = L ∨ (L1 = L ++ [(p, 0)] ∧ ∀ x ∈ L, x.1 ≠ p)) :
    SetOk (N + 1) (L1.set j (p, cntP L p + 1)) ∧ (L1.set j (p, cntP L p + 1)).map (·.1) = addK (L.map (·.1)) p ∧ cntP (L1.set j (p, cntP L p + 1)) p = cntP L p + 1 := by
  obtain ⟨hjl, hje⟩ := List.getElem?_eq_some_iff.1 hj
  have hk : (L1.set j (p, cntP L p + 1)).map (·.1) = L1.map (·.1) := by
    rw [List.map_set]
    exact WideElems.set_self _ _ _ (by rw [List.getElem?_map, hj]; rfl)
  have hk1 : L1.map (·.1) = addK (L.map (·.1)) p := by
    unfold addK
    rcases h1 with rfl | ⟨rfl, h2⟩
    · rw [if_pos (List.mem_map.2 ⟨_, List.mem_of_getElem? hj, rfl⟩)]
    · rw [if_neg (fun hm => by obtain ⟨x, hx, hxp⟩ := List.mem_map.1 hm; exact h2 x hx hxp)]
      simp
  have hnd : (L1.map (·.1)).Nodup := by
    rw [hk1]
    unfold addK
    split
    · exact h.nd
    · rename_i hn
      rw [List.nodup_append]
      refine ⟨h.nd, by simp, fun a ha b hb hab => ?_⟩
      rw [List.mem_singleton.1 hb] at hab
      exact hn (hab ▸ ha)
  have hc := h.has p
  have hset : (L1.set j (p, cntP L p + 1))[j]? = some (p, cntP L p + 1) := by rw [List.getElem?_set_self hjl]
  have hmem : ∀ x ∈ L1.set j (p, cntP L p + 1), x = (p, cntP L p + 1) ∨ x ∈ L := by
    intro x hx
    obtain ⟨i, hi, rfl⟩ := List.getElem_of_mem hx
    by_cases hij : j = i
    · subst hij
      left
      simp
    · right
      rw [List.getElem_set_ne hij]
      rcases h1 with rfl | ⟨rfl, h2⟩
      · exact List.getElem_mem _
      · have hjL : j = L.length := by
          by_cases hlt : j < L.length
          · rw [List.getElem_append_left hlt] at hje
            exact absurd (by rw [hje]) (h2 L[j] (List.getElem_mem _))
          · rw [List.length_append] at hjl
            simp at hjl
            omega
        have hi2 : i < L.length := by
          rw [List.length_set, List.length_append] at hi
          simp at hi
          omega
        rw [List.getElem_append_left hi2]
        exact List.getElem_mem _
  refine ⟨⟨by rw [hk]; exact hnd, fun x hx => ?_, fun x hx => ?_⟩, by rw [hk, hk1], cntP_at (by rw [hk]; exact hnd) hset⟩
  · rcases hmem x hx with rfl | hx
    · exact hp
    · exact h.inn x hx
  · rcases hmem x hx with rfl | hx
    · simp only
      omega
    · have := h.cnt x hx
      omega

theorem add_mid {N : Nat} {L L1 : List (PaM × Int)} {p : PaM} {j : Nat} (h : SetOk N L) (hp : p.In) (hj : L1[j]? = some (p, cntP L p)) (h1 : L1 = L ∨ (L1 = L ++ [(p, 0)] ∧ ∀ x ∈ L, x.1 ≠ p)) :
    (L1.map (·.1)).Nodup ∧ (∀ x ∈ L1, x.1.In) ∧ cntP L1 p = cntP L p := by
  have hnd : (L1.map (·.1)).Nodup := by
    rcases h1 with rfl | ⟨rfl, h2⟩
    · exact h.nd
    · rw [List.map_append, List.nodup_append]
      refine ⟨h.nd, by simp, fun a ha b hb hab => ?_⟩
      obtain ⟨x, hx, rfl⟩ := List.mem_map.1 ha
      simp at hb
      exact h2 x hx (hab.trans hb)
  refine ⟨hnd, fun x hx => ?_, cntP_at hnd hj⟩
  rcases h1 with rfl | ⟨rfl, h2⟩
  · exact h.inn x hx
  · rcases List.mem_append.1 hx with hx | hx
    · exact h.inn x hx
    · rw [List.mem_singleton.1 hx]
      exact hp

/-- A set of pairs, as it lies. -/
structure SetB (B M : Nat) (L : List (PaM × Int)) (w : World) : Prop where
  c0 : w.cell? ⟨B, 0, none⟩ = some (.map (some M))
  mp : w.heap[M]? = some (.map (esL L).toArray L.length)
theorem SetB.bel {B M : Nat} {L : List (PaM × Int)} {w w' : World} (h : SetB B M L w) (hb : Below w.heap.size w w') : SetB B M L w' := ⟨cell_bel h.c0 hb, (hb.block M (Array.getElem?_eq_some_iff.1 h.mp).1).trans h.mp⟩

set_option maxRecDepth 100000 in
set_option maxHeartbeats 1000000 in
theorem siHas_any (B M : Nat) (L : List (PaM × Int)) (N : Nat) (hL : SetOk N L) (p : PaM) (hp : p.In) (w : World) (h : SetB B M L w) :
    Calls Tryz.prog 11 #[.pointer (some ⟨B, 0, none⟩), p.v] w fun e w' => e = .returned (.bool (decide (p ∈ L.map (·.1)))) ∧ Below w.heap.size w w' := by
  have HL := Lib.hid fun W hb => look_p M L hL.inn p hp hL.nd W hb
  have HH := Lib.hid (hL.has p)
  have hb1 := bel1 (W := w) (.cells #[.int .i64 p.a, .int .i64 p.b, .int .i64 p.c, .int .i64 p.d] 32)
  have HS := Lib.hid (h.bel hb1)
  have HB := Lib.hid hb1
  have k0 := cell_new w #[.int .i64 p.a, .int .i64 p.b, .int .i64 p.c, .int .i64 p.d] 32 0
  have k1 := cell_new w #[.int .i64 p.a, .int .i64 p.b, .int .i64 p.c, .int .i64 p.d] 32 1
  have k2 := cell_new w #[.int .i64 p.a, .int .i64 p.b, .int .i64 p.c, .int .i64 p.d] 32 2
  have k3 := cell_new w #[.int .i64 p.a, .int .i64 p.b, .int .i64 p.c, .int .i64 p.d] 32 3
  clear h hL hp hb1
  obtain ⟨a, b, c, d⟩ := p
  dsimp only at k0 k1 k2 k3 HL
  go_enter Tryz.func11, Tryz.ntmps11
  go_wp2_with fail
  generalize w.alloc _ = V at HS HB k0 k1 k2 k3 ⊢
  have CN := Lib.hid fun (d' : Nat) os => Calls.regrown_of ((siNone_no B M (grow (redrawn V d') os) (HS.out.bel (below_regrown V d' os)).c0).mono (R' := fun e w' => e = .returned (.bool false) ∧ Below (grow (redrawn V d') os).heap.size (grow (redrawn V d') os) w') (by rintro e w' ⟨rfl, rfl⟩; exact ⟨rfl, Below.refl _ _⟩))
  have hlk := fun (d' : Nat) os => HL.out (grow (redrawn V d') os) (HS.out.bel (below_regrown V d' os)).mp
  have x0 := cell_regrown k0
  have x1 := cell_regrown k1
  have x2 := cell_regrown k2
  have x3 := cell_regrown k3
  have x4 := cell_regrown HS.out.c0
  have HR := Lib.hid (show decide (0 < cntP L ⟨a, b, c, d⟩) = decide (⟨a, b, c, d⟩ ∈ L.map (·.1)) from decide_eq_decide.2 HH.out.1)
  clear k0 k1 k2 k3
  generalize cntP L ⟨a, b, c, d⟩ = n at hlk HR
  refine wp_region_quiet_below (by kernel_rfl) (by kernel_rfl) ?_
  repeat (go_big_quiet_step (with_reducible exact CN.out _ _))
  refine wpQuiet_nil ?_
  intro _ hw'
  obtain ⟨⟨dq, osq⟩, hw''⟩ := hw'
  subst hw''
  clear hlk x0 x1 x2 x3 x4
  go_wp2_with fail
  go_ret
  exact ⟨by rw [HR.out]; rfl, belT HB.out (below_regrown V dq osq)⟩

theorem SetB.setP {B M : Nat} {L L' : List (PaM × Int)} {w : World} (h : SetB B M L w) : SetB B M L' (setP w M (esL L').toArray L'.length) :=
  ⟨(setP_cell h.mp (cell_not_map h.c0 h.mp) 0).trans h.c0, setP_heap h.mp⟩
theorem setP_touch {M : Nat} {es : Array MapEntry} {c : Nat} (w : World) : Touch (fun k => k = M) w (setP w M es c) :=
  ⟨by simp [setP, ChangeMaps.setBlock], fun k hk hn => by
    show (w.heap.setIfInBounds M _)[k]? = _
    rw [Array.getElem?_setIfInBounds_ne (Ne.symm hn)]⟩
/-- What Add tells of a pair that may be. -/
def AddQ (B M B0 N : Nat) (L : List (PaM × Int)) (p : PaM) (w : World) (e : Ending) (w' : World) : Prop :=
  ∃ L', e = .returned (.tuple #[.bool (!decide (p ∈ L.map (·.1))), .int .i64 0]) ∧ SetB B M L' w' ∧ SetOk (N + 1) L' ∧ L'.map (·.1) = addK (L.map (·.1)) p ∧ Touch (fun k => k = M) w w' ∧ Below B0 w w'

set_option maxRecDepth 100000 in
set_option maxHeartbeats 2000000 in
theorem siAdd_no (B M : Nat) (L : List (PaM × Int)) (p : PaM) (hr : rightF p.a p.b p.c p.d = false) (w : World) (h : SetB B M L w) :
    Calls Tryz.prog 8 #[.pointer (some ⟨B, 0, none⟩), p.v] w fun e w' => e = .returned (.tuple #[.bool false, .int .i64 2]) ∧ Below w.heap.size w w' := by
  obtain ⟨a, b, c, d⟩ := p
  have CR := Lib.hid (right_any a b c d)
  dsimp only at hr
  rw [hr] at CR
  have k0 := cell_new w #[.int .i64 a, .int .i64 b, .int .i64 c, .int .i64 d] 32 0
  have k1 := cell_new w #[.int .i64 a, .int .i64 b, .int .i64 c, .int .i64 d] 32 1
  have k2 := cell_new w #[.int .i64 a, .int .i64 b, .int .i64 c, .int .i64 d] 32 2
  have k3 := cell_new w #[.int .i64 a, .int .i64 b, .int .i64 c, .int .i64 d] 32 3
  have hb1 := bel1 (W := w) (.cells #[.int .i64 a, .int .i64 b, .int .i64 c, .int .i64 d] 32)
  have HS := Lib.hid (h.bel hb1)
  have HB := Lib.hid hb1
  clear h hb1 hr
  go_enter Tryz.func8, Tryz.ntmps8
  go_wp2_with fail
  generalize w.alloc _ = V at HS HB k0 k1 k2 k3 ⊢
  refine (siNone_no B M V HS.out.c0).mono ?_
  rintro e w1 ⟨rfl, rfl⟩
  go_wp2_with fail
  refine (CR.out _).mono ?_
  rintro e w2 ⟨rfl, hb2⟩
  go_wp2_with fail
  go_ret2
  exact ⟨rfl, belT HB.out hb2⟩

set_option maxRecDepth 100000 in
set_option maxHeartbeats 4000000 in
theorem siAdd_yes (B M B0 N : Nat) (hN : N ≤ 1000000) (L : List (PaM × Int)) (hL : SetOk N L) (p : PaM) (hp : p.In) (hr : rightF p.a p.b p.c p.d = true) (w : World) (h : SetB B M L w) (hB0 : B0 ≤ M) :
    Calls Tryz.prog 8 #[.pointer (some ⟨B, 0, none⟩), p.v] w (AddQ B M B0 N L p w) := by
  have CR := Lib.hid (right_any p.a p.b p.c p.d)
  rw [hr] at CR
  have k0 := cell_new w #[.int .i64 p.a, .int .i64 p.b, .int .i64 p.c, .int .i64 p.d] 32 0
  have k1 := cell_new w #[.int .i64 p.a, .int .i64 p.b, .int .i64 p.c, .int .i64 p.d] 32 1
  have k2 := cell_new w #[.int .i64 p.a, .int .i64 p.b, .int .i64 p.c, .int .i64 p.d] 32 2
  have k3 := cell_new w #[.int .i64 p.a, .int .i64 p.b, .int .i64 p.c, .int .i64 p.d] 32 3
  have hb1 := bel1 (W := w) (.cells #[.int .i64 p.a, .int .i64 p.b, .int .i64 p.c, .int .i64 p.d] 32)
  have hMs : M < w.heap.size := (Array.getElem?_eq_some_iff.1 h.mp).1
  have HS := Lib.hid (h.bel hb1)
  have HB := Lib.hid hb1
  have HL := Lib.hid hL
  have HP := Lib.hid hp
  have HM := Lib.hid (And.intro hMs hB0)
  clear h hb1 hr hL hp hMs hB0
  go_enter Tryz.func8, Tryz.ntmps8
  go_wp2_with fail
  generalize w.alloc _ = V at HS HB k0 k1 k2 k3 ⊢
  refine (siNone_no B M V HS.out.c0).mono ?_
  rintro e w1 ⟨rfl, rfl⟩
  go_wp2_with fail
  refine (CR.out _).mono ?_
  rintro e w2 ⟨rfl, hb2⟩
  have hbd := hb2.drew
  have n0 := cell_bel k0 hbd
  have n1 := cell_bel k1 hbd
  have n2 := cell_bel k2 hbd
  have n3 := cell_bel k3 hbd
  have HS3 := Lib.hid (HS.out.bel hbd)
  have HB3 := Lib.hid (belT HB.out hbd)
  have m0 := cell_bel k0 hb2
  have m1 := cell_bel k1 hb2
  have m2 := cell_bel k2 hb2
  have m3 := cell_bel k3 hb2
  clear k0 k1 k2 k3 hb2 hbd CR HS HB
  go_wp2_with fail
  clear m0 m1 m2 m3
  have hc3 := HS3.out.c0
  have hlk := look_p M L HL.out.inn p HP.out HL.out.nd w2.drew HS3.out.mp
  obtain ⟨L1, j, hj, h1, hen⟩ := entry_p M L HL.out.inn p HP.out HL.out.nd w2.drew HS3.out.mp
  obtain ⟨hok, hkeys, hcnt⟩ := add_ok HL.out HP.out hj h1
  have HS4 := Lib.hid (HS3.out.setP (L' := L1))
  have hst := store_p M L1 p (setP w2.drew M (esL L1).toArray L1.length) j (cntP L p) (cntP L p + 1) hj HS4.out.mp
  have HS5 := Lib.hid (HS4.out.setP (L' := L1.set j (p, cntP L p + 1)))
  have hne : w.heap.size ≠ M := by have := HM.out.1; omega
  have q := fun o => (setP_cell (es' := (esL (L1.set j (p, cntP L p + 1))).toArray) (c' := (L1.set j (p, cntP L p + 1)).length) HS4.out.mp hne o).trans (setP_cell (es' := (esL L1).toArray) (c' := L1.length) HS3.out.mp hne o)
  have q0 := (q 0).trans n0
  have q1 := (q 1).trans n1
  have q2 := (q 2).trans n2
  have q3 := (q 3).trans n3
  have HT5 := Lib.hid (((Touch.below (T := fun k => k = M) HB3.out).trans (setP_touch (M := M) (es := (esL L1).toArray) (c := L1.length) w2.drew)).trans (setP_touch (M := M) (es := (esL (L1.set j (p, cntP L p + 1))).toArray) (c := (L1.set j (p, cntP L p + 1)).length) _))
  have HB5 := Lib.hid (setP_below (es' := (esL (L1.set j (p, cntP L p + 1))).toArray) (c' := (L1.set j (p, cntP L p + 1)).length) (setP_below (es' := (esL L1).toArray) (c' := L1.length) (HB3.out.mono (by have := HM.out; omega : B0 ≤ w.heap.size)) HS3.out.mp HM.out.2) HS4.out.mp HM.out.2)
  have hlk3 := look_p M (L1.set j (p, cntP L p + 1)) hok.inn p HP.out hok.nd (setP (setP w2.drew M (esL L1).toArray L1.length) M (esL (L1.set j (p, cntP L p + 1))).toArray (L1.set j (p, cntP L p + 1)).length).drew HS5.out.mp
  rw [hcnt] at hlk3
  have hc4 := HS4.out.c0
  obtain ⟨hm1, hm2, hm3⟩ := add_mid HL.out HP.out hj h1
  have hlk2 := look_p M L1 hm2 p HP.out hm1 (setP w2.drew M (esL L1).toArray L1.length) HS4.out.mp
  rw [hm3] at hlk2
  have HOK := Lib.hid hok
  have HKY := Lib.hid hkeys
  have hbn := HL.out.has p
  have HHS := Lib.hid hbn.1
  have hn0 := hbn.2.1
  have hn1 := hbn.2.2
  have hwr : IntKind.i64.wrap (cntP L p + 1) = cntP L p + 1 := by rw [IntKind.wrap_i64]; omega
  clear hm1 hm2 hm3 hj h1 hok hkeys hcnt hne q hbn HB3 HS4
  generalize L1.set j (p, cntP L p + 1) = L2 at *
  generalize cntP L p = n at *
  generalize hW2 : setP w2.drew M (esL L1).toArray L1.length = W2 at *
  generalize setP W2 M (esL L2).toArray L2.length = W3 at *
  have hc5 : W3.drew.cell? ⟨B, 0, none⟩ = some (.map (some M)) := HS5.out.c0
  have q0' : W3.drew.cell? ⟨w.heap.size, 0, none⟩ = some (.int .i64 p.a) := q0
  have q1' : W3.drew.cell? ⟨w.heap.size, 1, none⟩ = some (.int .i64 p.b) := q1
  have q2' : W3.drew.cell? ⟨w.heap.size, 2, none⟩ = some (.int .i64 p.c) := q2
  have q3' : W3.drew.cell? ⟨w.heap.size, 3, none⟩ = some (.int .i64 p.d) := q3
  have hst3 : (Instr.entryStore 86 (.map (some M)) (.int .i64 j) (.int .i64 (IntKind.i64.wrap (n + 1)))).run Tryz.prog W2 = .ok () W3 := by rw [hwr]; exact hst
  have HR := Lib.hid (show (n + 1 == 1) = !decide (p ∈ L.map (·.1)) by
    by_cases hp : p ∈ L.map (·.1)
    · have := HHS.out.2 hp
      rw [beq_eq_false_iff_ne.2 (by omega : n + 1 ≠ 1), decide_eq_true hp]
      rfl
    · have : ¬ 0 < n := fun h => hp (HHS.out.1 h)
      rw [beq_iff_eq.2 (by omega : n + 1 = 1), decide_eq_false hp]
      rfl)
  obtain ⟨pa, pb, pc, pd⟩ := p
  dsimp only at n0 n1 n2 n3 q0 q1 q2 q3 q0' q1' q2' q3' hlk hen hlk2 hlk3
  clear hst hwr hc4 hn0 hn1 HS3 hW2
  go_region_with fail
  all_goals go_wp2_with fail
  all_goals go_region_with fail
  all_goals go_wp2
  all_goals go_ret2
  all_goals exact ⟨_, by rw [← HR.out]; rfl, HS5.out.bel (Below.refl _ _).drew, HOK.out, HKY.out, HT5.out.trans (Touch.below (Below.refl _ _).drew), HB5.out.drew⟩
end Go.Proofs.YtnefpiohmokkiaaGreatDoor
