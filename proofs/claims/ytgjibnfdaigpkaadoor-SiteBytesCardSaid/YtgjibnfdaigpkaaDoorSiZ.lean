/- Walk of the statement SiteBytes. -/
import Derived.Test.YtgjibnfdaigpkaaDoorSiW
import Derived.Test.YtgjibnfdaigpkaaDoorSiS
import Derived.Laws.AppendOwnNone
namespace Go.Proofs.YtgjibnfdaigpkaaDoor
set_option linter.unusedVariables false
open Go Go.Proofs Go.RowKit Go.Sort

theorem site_same (f p : Int) (w : World) : (binOp .eql 23 (.agg #[.int .i64 f, .int .i64 p]) (.agg #[.int .i64 f, .int .i64 p])).run Tryd.prog w = .ok (.bool true) w := by simp [go_sem]
theorem site_not (f p : Int) (w : World) : (binOp .neq 23 (.agg #[.int .i64 f, .int .i64 p]) (.agg #[.int .i64 f, .int .i64 p])).run Tryd.prog w = .ok (.bool false) w := by simp [go_sem]

/-- A slice of bytes that came in. -/
def ArgB (w : World) (v : Value) (l : List Nat) : Prop :=
  (v = .slice none 0 0 ∧ l = []) ∨ ∃ ad c, v = .slice (some ad) l.length c ∧ l.length ≤ c ∧ c ≤ 9223372036854775807 ∧ (l ≠ [] → ∃ b o, ad = ⟨b, o, none⟩ ∧ HasB w b o l)

theorem ArgB.sliceB {w : World} {v : Value} {l : List Nat} (h : ArgB w v l) : SliceB w v l := by
  rcases h with ⟨rfl, rfl⟩ | ⟨ad, c, rfl, hc, hm, hh⟩
  · exact ⟨none, 0, rfl, by simp, by omega, fun h => absurd rfl h⟩
  · exact ⟨some ad, c, rfl, hc, hm, fun h => by obtain ⟨b, o, rfl, hB⟩ := hh h; exact ⟨b, o, rfl, hB⟩⟩
theorem ArgB.bel {w w' : World} {v : Value} {l : List Nat} (h : ArgB w v l) (hb : Below w.heap.size w w') : ArgB w' v l := by
  rcases h with ⟨rfl, rfl⟩ | ⟨ad, c, rfl, hc, hm, hh⟩
  · exact Or.inl ⟨rfl, rfl⟩
  · exact Or.inr ⟨ad, c, rfl, hc, hm, fun h => by obtain ⟨b, o, e, hB⟩ := hh h; exact ⟨b, o, e, hB.bel hb⟩⟩
theorem ArgB.form {w : World} {v : Value} {l : List Nat} (h : ArgB w v l) : ∃ a c, v = .slice a l.length c := by
  rcases h with ⟨rfl, rfl⟩ | ⟨ad, c, rfl, _⟩
  · exact ⟨none, 0, rfl⟩
  · exact ⟨some ad, c, rfl⟩

theorem rdV_form (l : List Nat) : ∃ x y f : Int, rdV l = .tuple #[.agg #[.int .i64 x, .int .i64 y], .int .i64 f] := by
  match l with
  | [] => exact ⟨0, 0, 110, rfl⟩
  | [_] => exact ⟨0, 0, 110, rfl⟩
  | [_, _] => exact ⟨0, 0, 110, rfl⟩
  | x :: y :: z :: r =>
    by_cases h : chkF x (y + z * 256 : Nat) = 0
    · exact ⟨_, _, _, (if_pos h : rdV (x :: y :: z :: r) = _)⟩
    · exact ⟨_, _, _, (if_neg h : rdV (x :: y :: z :: r) = _)⟩

/-- The bytes of a site, and others behind them. -/
def byteL (f p : Nat) : List Nat := [f, p % 256, p / 256 % 256]
theorem byteL_V (f p : Nat) : byteV f p = (byteL f p).map fun (x : Nat) => Value.int .u8 x := by simp [byteV, byteL]
theorem rdV_own (f p : Nat) (hf : f < 32) (hp : p < 512) (l : List Nat) : rdV (byteL f p ++ l) = .tuple #[.agg #[.int .i64 f, .int .i64 p], .int .i64 0] := by
  have e : p % 256 + p / 256 % 256 * 256 = p := by omega
  simp only [byteL, List.cons_append, List.nil_append, rdV, e]
  rw [if_pos]
  unfold chkF
  rw [if_pos (by omega)]

theorem sliceB_own {w : World} {base : Nat} {v : Value} {L : List Nat} (h : w.ownsRowF base 5 1 v L.length (L.map fun (x : Nat) => Value.int .u8 x)) (hL : ∀ x ∈ L, x < 256) (hne : L ≠ []) : SliceB w v L := by
  obtain ⟨g, cap, rfl, _, h2, h3, _⟩ := own_slice h (List.length_pos_iff.2 hne)
  refine ⟨_, cap, rfl, h2, by unfold maxLen at h3; omega, fun _ => ⟨g, 0, rfl, hL, fun j hj => ?_⟩⟩
  have := h.cells (g := g) rfl j (.int .u8 (L.getD j 0 : Nat)) (by simp [List.getD, hj])
  rwa [WideShapes.add_plain] at this

theorem ArgB.lt {w : World} {v : Value} {l : List Nat} (h : ArgB w v l) : ∀ x ∈ l, x < 256 := by
  intro x hx
  rcases h with ⟨_, rfl⟩ | ⟨ad, c, _, _, _, hh⟩
  · cases hx
  · obtain ⟨_, _, _, hB⟩ := hh (by intro e; rw [e] at hx; cases hx)
    exact hB.1 x hx

/-- Append of bytes that came in, onto an own row. -/
theorem append_in {w : World} {ops : Array Oper} {rest : List Oper} {o : Oper} {a : Act} {Q : Exit → Act → World → Prop} (hgd : o.guard = none) (s x : Operand)
    (ho : o.op = .call { callee := .builtin .append, args := #[s, x], argTypes := #[43, 43] })
    (base : Nat) (v : Value) (n : Nat) (xs : List Value) (hs : a.eval s = v) (hown : w.ownsRow base 5 1 v n xs) (X : Value) (l : List Nat) (hx : a.eval x = X) (hv : ArgB w X l)
    (hn : n + l.length ≤ 1000) (hbase : base ≤ w.heap.size)
    (h : ∀ v' w', w'.ownsRow base 5 1 v' (n + l.length) (xs ++ l.map fun (x : Nat) => Value.int .u8 x) → Below base w w' → wpList Tryd.prog ops Q rest (a.put o.dst v') w') : wpList Tryd.prog ops Q (o :: rest) a w := by
  obtain ⟨i0, hi0, hz0, hz1, hz2⟩ := info_of info_octet
  rcases hv with ⟨rfl, rfl⟩ | ⟨ad, c, rfl, hc, hm, hh⟩
  · refine wpList_append_own_none hgd s x 43 ho base 5 i0 1 Tryd.underlying43 hi0 v n xs hs hown hx (h v w ?_ (Below.refl _ _))
    simpa using hown
  · refine wpList_append_own w hgd s x 43 ho base 5 i0 (.int .u8 0) 1 1 Tryd.underlying43 hi0 hz0 hz1 hz2 rfl (by decide) v n xs hs hown ad l.length c (l.map fun (x : Nat) => Value.int .u8 x) hx (by simp) ?_ ?_ (by unfold maxLen; omega) (by omega) hbase ?_
    · intro j u hj
      have hjl : j < l.length := by have := (List.getElem?_eq_some_iff.1 hj).1; simpa using this
      obtain ⟨b, o, rfl, hB⟩ := hh (by intro e; rw [e] at hjl; simp at hjl)
      rw [WideShapes.add_plain, hB.2 j hjl]
      simp [List.getD, hjl] at hj ⊢
      exact hj
    · intro u hu
      simp only [List.mem_map] at hu
      obtain ⟨i, _, rfl⟩ := hu
      rfl
    · intro v' w' h1 hgrow _
      exact h v' w' h1 ((Below.refl base w).grown hgrow hbase (fun k hk => ((World.ownsRowF_of hown).lt k hk).1))

/-- A site's bytes as a string. -/
def strB (a b : Nat) : ByteArray := ⟨[UInt8.ofNat a, UInt8.ofNat (b % 256), UInt8.ofNat (b / 256 % 256)].toArray⟩
theorem conv_site (g cap a b : Nat) (ha : a < 32) (w : World) (g0 : w.cell? ⟨g, 0, none⟩ = some (.int .u8 a)) (g1 : w.cell? ⟨g, 1, none⟩ = some (.int .u8 ((b : Int) % 256))) (g2 : w.cell? ⟨g, 2, none⟩ = some (.int .u8 ((b : Int) / 256 % 256))) :
    (convert 43 9 (.slice (some ⟨g, 0, none⟩) 3 cap)).run Tryd.prog w = .ok (.string (strB a b)) w := by
  refine run_convert_bytes_back (P := Tryd.prog) w 43 9 5 ⟨g, 0, none⟩ cap [UInt8.ofNat a, UInt8.ofNat (b % 256), UInt8.ofNat (b / 256 % 256)] Tryd.underlying43 Tryd.underlying5 Tryd.underlying9 ?_
  have e0 : (UInt8.ofNat a).toNat = a := by simp; omega
  have e1 : (UInt8.ofNat (b % 256)).toNat = b % 256 := by simp
  have e2 : (UInt8.ofNat (b / 256 % 256)).toNat = b / 256 % 256 := by simp
  intro j hj
  match j, hj with
  | 0, _ => simpa [Addr.add, e0] using g0
  | 1, _ => simpa [Addr.add, e1] using g1
  | 2, _ => simpa [Addr.add, e2] using g2

set_option maxRecDepth 100000 in
set_option maxHeartbeats 2000000 in
theorem siteBytes_no (a b : Int) (h : ¬ (0 ≤ a ∧ a < 32 ∧ 0 ≤ b ∧ b < 512)) (v : Value) (l : List Nat) (hs : l.length ≤ 60) (w : World) (hE : Env w) (hv : ArgB w v l) :
    Calls Tryd.prog 5 #[.agg #[.int .i64 a, .int .i64 b], v] w fun e w' => e = .returned (.bool true) ∧ Below w.heap.size w w' := by
  have hi : (l.length : Int) ≤ 60 := by omega
  have hc : chkF a b = 2 := by unfold chkF; rw [if_neg h]
  have C1 := Lib.hid (siBytes_no a b hc)
  have CR := Lib.hid (rRight_no a b h)
  have hne := site_not
  obtain ⟨x, y, f, hrd⟩ := rdV_form l
  have C2 := Lib.hid fun v w hv => siRead_any v l w hv
  have C3 := Lib.hid fun v w hv => rRead_any v l w hv
  rw [hrd] at C2 C3
  obtain ⟨ao, c, rfl⟩ := hv.form
  clear h hc hrd
  go_enter Tryd.func5, Tryd.ntmps5
  go_wp2_with fail
  refine (C1.out _).mono ?_
  rintro e w1 ⟨rfl, hb1⟩
  have a0 := cell_bel (cell_new w #[.int .i64 a, .int .i64 b] 23 0) hb1
  have a1 := cell_bel (cell_new w #[.int .i64 a, .int .i64 b] 23 1) hb1
  have B1 := belT (bel1 _) hb1
  have hv1 := hv.bel B1
  clear hb1 hv
  go_wp2_with fail
  refine (C2.out _ _ hv1.sliceB).mono ?_
  rintro e1 w2 ⟨rfl, hb2⟩
  have a0 := cell_bel a0 hb2
  have a1 := cell_bel a1 hb2
  have B2 := belT B1 hb2
  have hv2 := (hv1.bel hb2).bel (bel1 (.cells #[.int .i64 x, .int .i64 y] 23))
  clear hb2 hv1
  go_wp2_with fail
  refine (C3.out _ _ hv2.sliceB).mono ?_
  rintro e2 w3 ⟨rfl, hb3⟩
  have c0 := cell_al (cell_bel (cell_new w2 #[.int .i64 x, .int .i64 y] 23 0) hb3) (.cells #[.int .i64 x, .int .i64 y] 23)
  have c1 := cell_al (cell_bel (cell_new w2 #[.int .i64 x, .int .i64 y] 23 1) hb3) (.cells #[.int .i64 x, .int .i64 y] 23)
  have a0 := cell_al (cell_bel (cell_al a0 _) hb3) (.cells #[.int .i64 x, .int .i64 y] 23)
  have a1 := cell_al (cell_bel (cell_al a1 _) hb3) (.cells #[.int .i64 x, .int .i64 y] 23)
  have B3 := belT (belA B2 _) hb3
  clear hb3 C1 C2 C3 hv2
  go_wp2_with (first | (go_at_call 10; refine (num_any f _).mono ?_; rintro e wn ⟨rfl, rfl⟩) | fail)
  have B3 := belA B3 (.cells #[.int .i64 x, .int .i64 y] 23)
  generalize w3.alloc (.cells #[.int .i64 x, .int .i64 y] 23) = w4 at a0 a1 c0 c1 B3 ⊢
  clear c0 c1
  refine (CR.out _).mono ?_
  rintro e w5 ⟨rfl, hb5⟩
  have a0 := cell_bel a0 hb5
  have a1 := cell_bel a1 hb5
  have B5 := belT B3 hb5
  clear hb5 B3
  go_wp2_with (first
    | (go_at_call 10; refine (num_any 2 _).mono ?_; rintro e wn ⟨rfl, rfl⟩)
    | (go_at_call 6; refine (works_any _ (hE.on B5)).mono ?_; rintro e w7 ⟨rfl, hb7⟩))
  go_ret
  exact ⟨rfl, belT B5 hb7⟩

set_option maxRecDepth 100000 in
set_option maxHeartbeats 2000000 in
theorem siteBytes_yes (a b : Nat) (ha : a < 32) (hb : b < 512) (v : Value) (l : List Nat) (hs : l.length ≤ 60) (w : World) (hE : Env w) (hv : ArgB w v l) :
    Calls Tryd.prog 5 #[.agg #[.int .i64 a, .int .i64 b], v] w fun e w' => e = .returned (.bool true) ∧ Below w.heap.size w w' := by
  obtain ⟨i0, hi0, hz0, hz1, hz2⟩ := info_of info_octet
  have hi : (l.length : Int) ≤ 60 := by omega
  have C1 := Lib.hid (siBytes_yes a b ha hb)
  have CR := Lib.hid (rRight_yes a b ha hb)
  rw [byteV_le a b ha] at C1
  have C5 := Lib.hid (rBytes_any a b ha hb)
  have hne := site_not
  have hsame := site_same
  obtain ⟨x, y, f, hrd⟩ := rdV_form l
  have C2 := Lib.hid fun v w hv => siRead_any v l w hv
  have C3 := Lib.hid fun v w hv => rRead_any v l w hv
  rw [hrd] at C2 C3
  obtain ⟨ao, c, rfl⟩ := hv.form
  clear hrd
  go_enter Tryd.func5, Tryd.ntmps5
  go_wp2_with fail
  refine (C1.out _).mono ?_
  rintro e w1 ⟨vl, rfl, hown, hb1⟩
  have a0 := cell_bel (cell_new w #[.int .i64 a, .int .i64 b] 23 0) hb1
  have a1 := cell_bel (cell_new w #[.int .i64 a, .int .i64 b] 23 1) hb1
  have B1 := belT (bel1 _) hb1
  have hv1 := hv.bel B1
  obtain ⟨g, cap, rfl, hg1, hg2, hg3, hg4⟩ := own_slice hown (by omega)
  have g0 : w1.cell? ⟨g, 0, none⟩ = some (.int .u8 a) := by simpa [Addr.add] using hown.cells (g := g) rfl 0 _ rfl
  have g1 : w1.cell? ⟨g, 1, none⟩ = some (.int .u8 ((b : Int) % 256)) := by simpa [Addr.add] using hown.cells (g := g) rfl 1 _ rfl
  have g2 : w1.cell? ⟨g, 2, none⟩ = some (.int .u8 ((b : Int) / 256 % 256)) := by simpa [Addr.add] using hown.cells (g := g) rfl 2 _ rfl
  clear hb1 hv hown hg1 hg4
  go_wp2_with fail
  refine (C2.out _ _ hv1.sliceB).mono ?_
  rintro e1 w2 ⟨rfl, hb2⟩
  have a0 := cell_bel a0 hb2
  have a1 := cell_bel a1 hb2
  have g0 := cell_bel g0 hb2
  have g1 := cell_bel g1 hb2
  have g2 := cell_bel g2 hb2
  have B2 := belT B1 hb2
  have hv2 := (hv1.bel hb2).bel (bel1 (.cells #[.int .i64 x, .int .i64 y] 23))
  clear hb2 hv1
  go_wp2_with fail
  refine (C3.out _ _ hv2.sliceB).mono ?_
  rintro e2 w3 ⟨rfl, hb3⟩
  have c0 := cell_al (cell_bel (cell_new w2 #[.int .i64 x, .int .i64 y] 23 0) hb3) (.cells #[.int .i64 x, .int .i64 y] 23)
  have c1 := cell_al (cell_bel (cell_new w2 #[.int .i64 x, .int .i64 y] 23 1) hb3) (.cells #[.int .i64 x, .int .i64 y] 23)
  have a0 := cell_al (cell_bel (cell_al a0 _) hb3) (.cells #[.int .i64 x, .int .i64 y] 23)
  have a1 := cell_al (cell_bel (cell_al a1 _) hb3) (.cells #[.int .i64 x, .int .i64 y] 23)
  have g0 := cell_al (cell_bel (cell_al g0 _) hb3) (.cells #[.int .i64 x, .int .i64 y] 23)
  have g1 := cell_al (cell_bel (cell_al g1 _) hb3) (.cells #[.int .i64 x, .int .i64 y] 23)
  have g2 := cell_al (cell_bel (cell_al g2 _) hb3) (.cells #[.int .i64 x, .int .i64 y] 23)
  have hv3 := (hv2.bel hb3).bel (bel1 (.cells #[.int .i64 x, .int .i64 y] 23))
  have B3 := belT (belA B2 _) hb3
  clear hb3 C1 C2 C3 hv2
  go_wp2_with (first | (go_at_call 10; refine (num_any f _).mono ?_; rintro e wn ⟨rfl, rfl⟩) | fail)
  have B3 := belA B3 (.cells #[.int .i64 x, .int .i64 y] 23)
  generalize w3.alloc (.cells #[.int .i64 x, .int .i64 y] 23) = w4 at a0 a1 c0 c1 g0 g1 g2 hv3 B3 ⊢
  clear c0 c1
  refine (CR.out _).mono ?_
  rintro e w5 ⟨rfl, hb5⟩
  have a0 := cell_bel a0 hb5
  have a1 := cell_bel a1 hb5
  have g0 := cell_bel g0 hb5
  have g1 := cell_bel g1 hb5
  have g2 := cell_bel g2 hb5
  have hv5 := hv3.bel hb5
  have B5 := belT B3 hb5
  clear hb5 B3 hv3 CR
  have hlg0 := lt_of_cell g0
  have g0' := cell_al g0 (.cells #[] 5)
  have g1' := cell_al g1 (.cells #[] 5)
  have g2' := cell_al g2 (.cells #[] 5)
  go_wp2_with (at_builtin; refine wpList_append_grows _ rfl _ _ 43 rfl 5 i0 (.int .u8 0) 1 1 Tryd.underlying43 hi0 hz0 hz1 hz2 rfl (by decide) (some ⟨w5.heap.size, 0, none⟩) 0 0 [] rfl (fun h => by cases h) rfl ?c1 ⟨g, 0, none⟩ 3 cap (byteV a b) rfl rfl ?c2 ?c3 (by omega) (by decide) (by decide) ?_)
  case c1 => intro _ _ j u hj; simp at hj
  case c2 =>
    intro j u hj
    match j, hj with
    | 0, hj => simp [byteV] at hj; subst hj; exact g0'
    | 1, hj => simp [byteV] at hj; subst hj; simp only [Addr.add]; exact g1'
    | 2, hj => simp [byteV] at hj; subst hj; simp only [Addr.add]; exact g2'
  case c3 => intro u hu; simp [byteV] at hu; rcases hu with rfl | rfl | rfl <;> rfl
  intro v6 w6 hown6 hgrow6
  clear g0' g1' g2'
  obtain ⟨base, hbase⟩ : ∃ n, n = w5.heap.size + 1 := ⟨_, rfl⟩
  have h56 : Below (w5.alloc (.cells #[] 5)).heap.size (w5.alloc (.cells #[] 5)) w6 := (Below.refl _ _).grown hgrow6 (Nat.le_refl _) (fun k hk => by cases hk)
  have hsz6 : base ≤ w6.heap.size := by have := h56.size; rw [hbase]; simpa using this
  rw [← hbase] at hown6
  have B6 := belT (belA B5 _) h56
  have hv6 := (hv5.bel (bel1 (.cells #[] 5))).bel h56
  have a0 := cell_bel (cell_al a0 (.cells #[] 5)) h56
  have a1 := cell_bel (cell_al a1 (.cells #[] 5)) h56
  have g0 := cell_bel (cell_al g0 (.cells #[] 5)) h56
  have g1 := cell_bel (cell_al g1 (.cells #[] 5)) h56
  have g2 := cell_bel (cell_al g2 (.cells #[] 5)) h56
  have hl0 : w.heap.size < base := by have := B5.size; rw [hbase]; omega
  have hlg : g < base := by rw [hbase]; omega
  obtain ⟨g6, cap6, rfl, _, _, _, _⟩ := own_slice (World.ownsRowF_of hown6) (by omega)
  clear h56 hgrow6 hv5 hbase hlg0
  go_wp2_with (at_builtin; refine append_in rfl _ _ rfl base _ 3 (byteV a b) rfl hown6 _ l rfl hv6 (by omega) hsz6 ?_)
  intro v7 w7 hown7 h67
  have B7 : Below w.heap.size w w7 := B6.trans (h67.mono (by omega))
  have a0 := cell_belB a0 h67 hl0
  have a1 := cell_belB a1 h67 hl0
  have g0 := cell_belB g0 h67 hlg
  have g1 := cell_belB g1 h67 hlg
  have g2 := cell_belB g2 h67 hlg
  have hsl : SliceB w7 v7 (byteL a b ++ l) := by
    refine sliceB_own (base := base) ?_ ?_ (by simp [byteL])
    · rw [List.length_append, show (byteL a b).length = 3 from rfl, List.map_append, ← byteL_V]
      exact World.ownsRowF_of hown7
    · intro x hx
      rcases List.mem_append.1 hx with h | h
      · simp [byteL] at h; omega
      · exact hv6.lt x h
  obtain ⟨g7, cap7, rfl, _, _, _, _⟩ := own_slice (World.ownsRowF_of hown7) (by omega)
  clear hown7 h67 hown6 hsz6 hl0 hlg hv6 B6
  go_wp2_with fail
  refine (siRead_any _ (byteL a b ++ l) _ hsl).mono ?_
  rw [rdV_own a b ha hb l]
  rintro e w8 ⟨rfl, hb8⟩
  have a0 := cell_al (cell_bel a0 hb8) (.cells #[.int .i64 a, .int .i64 b] 23)
  have a1 := cell_al (cell_bel a1 hb8) (.cells #[.int .i64 a, .int .i64 b] 23)
  have g0 := cell_al (cell_bel g0 hb8) (.cells #[.int .i64 a, .int .i64 b] 23)
  have g1 := cell_al (cell_bel g1 hb8) (.cells #[.int .i64 a, .int .i64 b] 23)
  have g2 := cell_al (cell_bel g2 hb8) (.cells #[.int .i64 a, .int .i64 b] 23)
  have d0 := cell_new w8 #[.int .i64 a, .int .i64 b] 23 0
  have d1 := cell_new w8 #[.int .i64 a, .int .i64 b] 23 1
  have B8 := belA (belT B7 hb8) (.cells #[.int .i64 a, .int .i64 b] 23)
  clear hsl hb8 B7
  go_wp2_with fail
  generalize w8.alloc (.cells #[.int .i64 a, .int .i64 b] 23) = V at a0 a1 g0 g1 g2 d0 d1 B8 ⊢
  have hq0 : 0 ≤ (b : Int) % 256 ∧ (b : Int) % 256 < 256 := by omega
  have hq1 : 0 ≤ (b : Int) / 256 % 256 ∧ (b : Int) / 256 % 256 < 256 := by omega
  have hEV := hE.on B8
  have CN := Lib.hid (num_any 0)
  have CB := Lib.hid fun w => (C5.out w).mono (R' := fun e w' => ∃ (g cap : Nat), e = .returned (.slice (some ⟨g, 0, none⟩) 3 cap) ∧ w'.cell? ⟨g, 0, none⟩ = some (.int .u8 a) ∧ w'.cell? ⟨g, 1, none⟩ = some (.int .u8 ((b : Int) % 256)) ∧ w'.cell? ⟨g, 2, none⟩ = some (.int .u8 ((b : Int) / 256 % 256)) ∧ 3 ≤ cap ∧ Below w.heap.size w w') (by
    rintro e w' ⟨v, rfl, hown, hb⟩
    obtain ⟨g, cap, rfl, _, h2, _, _⟩ := own_slice hown (by omega)
    refine ⟨g, cap, rfl, ?_, ?_, ?_, h2, hb⟩
    · simpa [Addr.add] using hown.cells (g := g) rfl 0 _ rfl
    · simpa [Addr.add] using hown.cells (g := g) rfl 1 _ rfl
    · simpa [Addr.add] using hown.cells (g := g) rfl 2 _ rfl)
  clear C5 hE
  have a0' : V.drew.cell? ⟨w.heap.size, 0, none⟩ = some (.int .i64 a) := a0
  have a1' : V.drew.cell? ⟨w.heap.size, 1, none⟩ = some (.int .i64 b) := a1
  have d0' : V.drew.cell? ⟨w8.heap.size, 0, none⟩ = some (.int .i64 a) := d0
  have d1' : V.drew.cell? ⟨w8.heap.size, 1, none⟩ = some (.int .i64 b) := d1
  have g0' : V.drew.cell? ⟨g, 0, none⟩ = some (.int .u8 a) := g0
  have g1' : V.drew.cell? ⟨g, 1, none⟩ = some (.int .u8 ((b : Int) % 256)) := g1
  have g2' : V.drew.cell? ⟨g, 2, none⟩ = some (.int .u8 ((b : Int) / 256 % 256)) := g2
  have hc0 := conv_site g cap a b ha V.drew g0' g1' g2'
  have B8' : Below w.heap.size w V.drew := B8.drew
  have hEV' : Env V.drew := hEV.on (Below.refl _ _).drew
  go_region_with (first
    | (go_at_call 10; refine (CN.out _).mono ?_; rintro e wn ⟨rfl, rfl⟩)
    | (go_at_call 19; refine (CB.out _).mono ?_; rintro e wb ⟨gb, capb, rfl, e0, e1, e2, hcb, hbb⟩; have a0 := cell_bel a0' hbb; have a1 := cell_bel a1' hbb; have d0 := cell_bel d0' hbb; have d1 := cell_bel d1' hbb; have g0 := cell_bel g0' hbb; have g1 := cell_bel g1' hbb; have g2 := cell_bel g2' hbb; have hc1 := conv_site g cap a b ha wb g0 g1 g2; have hc2 := conv_site gb capb a b ha wb e0 e1 e2; have B9 := belT B8' hbb; have hE9 := hEV'.on hbb; clear hbb)
    | (go_at_call 6; refine (works_any _ hE9).mono ?_; rintro e w10 ⟨rfl, hb10⟩))
  all_goals (
    go_wp2
    go_ret
    exact ⟨rfl, belT B9 hb10⟩)

set_option maxRecDepth 100000 in
set_option maxHeartbeats 1000000 in
theorem siteBytes_walk (a b : Int) (v : Value) (l : List Nat) (w : World) (hE : Env w) (hv : ArgB w v l) (hmax : l.length ≤ 9223372036854775807) :
    Calls Tryd.prog 5 #[.agg #[.int .i64 a, .int .i64 b], v] w fun e w' => e = .returned (.bool true) ∧ Below w.heap.size w w' := by
  by_cases hs : l.length ≤ 60
  · by_cases h : 0 ≤ a ∧ a < 32 ∧ 0 ≤ b ∧ b < 512
    · obtain ⟨h0, h1, h2, h3⟩ := h
      obtain ⟨f, rfl⟩ := Int.eq_ofNat_of_zero_le h0
      obtain ⟨p, rfl⟩ := Int.eq_ofNat_of_zero_le h2
      exact siteBytes_yes f p (by omega) (by omega) v l hs w hE hv
    · exact siteBytes_no a b h v l hs w hE hv
  · have hi : 60 < (l.length : Int) := by omega
    obtain ⟨ao, c, rfl⟩ := hv.form
    go_enter Tryd.func5, Tryd.ntmps5
    go_wp2_with (go_at_call 6; refine (works_any _ (hE.on (bel1 _))).mono ?_; rintro e w7 ⟨rfl, hb7⟩)
    go_ret
    exact ⟨rfl, belT (bel1 _) hb7⟩
end Go.Proofs.YtgjibnfdaigpkaaDoor
