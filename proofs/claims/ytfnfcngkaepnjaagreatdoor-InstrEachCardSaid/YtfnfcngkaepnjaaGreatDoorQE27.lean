/- Joined texts: Closures of Parse, and what is found by them.; The number in a word, behind a mark. -/
import Derived.Test.YtfnfcngkaepnjaaGreatDoorQE25
import Derived.Test.YtfnfcngkaepnjaaGreatDoorQE26
/- Closures of Parse, and what is found by them. -/
namespace Go.Proofs.YtfnfcngkaepnjaaGreatDoor
set_option linter.unusedVariables false
open Go Go.Proofs Go.RowKit

/-- A variable that holds words: its block; the words' block. -/
structure Wds (V P : Nat) (L : List ByteArray) (w : World) : Prop where
  var : w.cell? ⟨V, 0, none⟩ = some (.slice (some ⟨P, 0, none⟩) L.length L.length)
  at_ : ∀ j x, L[j]? = some x → w.cell? ⟨P, j, none⟩ = some (.string x)
theorem Wds.bel {V P : Nat} {L : List ByteArray} {w w' : World} (h : Wds V P L w) (hb : Below w.heap.size w w') : Wds V P L w' := ⟨cell_bel h.var hb, fun j x hj => cell_bel (h.at_ j x hj) hb⟩
theorem Wds.touch {V P : Nat} {L : List ByteArray} {w w' : World} {T : Nat → Prop} (h : Wds V P L w) (hb : Touch T w w') (h1 : ¬ T V) (h2 : ¬ T P) : Wds V P L w' := ⟨cell_touch h.var hb h1, fun j x hj => cell_touch (h.at_ j x hj) hb h2⟩
theorem Wds.drew {V P : Nat} {L : List ByteArray} {w : World} (h : Wds V P L w) : Wds V P L w.drew := h.bel (Below.refl _ _).drew

set_option maxRecDepth 100000 in
set_option maxHeartbeats 1000000 in
theorem parseBegun_any (V P : Nat) (s : ByteArray) (L : List ByteArray) (hL : L.length ≤ 9223372036854775807) (w : World) (h : Wds V P (s :: L) w) :
    Calls Tryz.prog 90 #[.pointer (some ⟨V, 0, none⟩)] w (BegQ s w) := by
  have v0 := h.var
  have v1 := h.at_ 0 s rfl
  rw [List.length_cons] at v0
  have lv := lt_of_cell v0
  have lp := lt_of_cell v1
  clear h
  go_enter Tryz.func90, Tryz.ntmps90
  go_wp2_with fail
  refine (begun_any s _).mono ?_
  rintro e w1 ⟨o, k, f, hb, rfl, hb1⟩
  have hI := Bare.bel (Bare.new 0 0 0 0 0 w 29) hb1
  have f0 := froz_bel (cell_new w #[.int .i64 0, .int .i64 0, .int .i64 0, .int .i64 0, .int .u32 0] 29 0) (World.frozen?_alloc_new _ _ _ _) hb1
  have hB1 := belT (bel1 _) hb1
  have HB := Lib.hid hb
  have hset := Bare.set hI o 0 0 0 k
  have hBs : Below w.heap.size w (((((w1.setCell ⟨w.heap.size, 0, none⟩ (.int .i64 o)).setCell ⟨w.heap.size, 1, none⟩ (.int .i64 0)).setCell ⟨w.heap.size, 2, none⟩ (.int .i64 0)).setCell ⟨w.heap.size, 3, none⟩ (.int .i64 0)).setCell ⟨w.heap.size, 4, none⟩ (.int .u32 k)) := (((((hB1.setCell (p := ⟨w.heap.size, 0, none⟩) (Nat.le_refl _) _).setCell (p := ⟨w.heap.size, 1, none⟩) (Nat.le_refl _) _).setCell (p := ⟨w.heap.size, 2, none⟩) (Nat.le_refl _) _).setCell (p := ⟨w.heap.size, 3, none⟩) (Nat.le_refl _) _).setCell (p := ⟨w.heap.size, 4, none⟩) (Nat.le_refl _) _)
  have HSET := Lib.hid hset
  have HBS := Lib.hid hBs
  obtain ⟨i0, i1, i2, i3, i4, j1, j2, j3, j4⟩ := hI
  dsimp only at i1 i2 i3 i4
  unfold insV
  clear hset hBs hb hb1
  go_wp2_with fail
  obtain ⟨e0, e1, e2, e3, e4, _, _, _, _⟩ := HSET.out
  have hBS := HBS.out
  generalize ((((World.setCell _ _ _).setCell _ _).setCell _ _).setCell _ _).setCell _ _ = W5 at e0 e1 e2 e3 e4 hBS ⊢
  exact bodyPost_ret (v := .tuple #[.agg #[.int .i64 o, .int .i64 0, .int .i64 0, .int .i64 0, .int .u32 k], .bool f]) (by simp [results, Tryz.results90, go_sem, e0, e1, e2, e3, e4]) rfl ⟨o, k, f, HB.out, rfl, hBS⟩

def FndQ (s : ByteArray) (w : World) (e : Ending) (w' : World) : Prop := ((∃ o k, BegP s o k true ∧ e = .returned (insV o 0 0 0 k)) ∨ ((∃ o k, BegP s o k false) ∧ e = gaveUp 180)) ∧ Below w.heap.size w w'

set_option maxRecDepth 100000 in
set_option maxHeartbeats 1000000 in
theorem foundIns_any (V P : Nat) (s : ByteArray) (L : List ByteArray) (hL : L.length ≤ 9223372036854775806) (w : World) (h : Wds V P (s :: L) w) :
    Calls Tryz.prog 89 #[.func (.func 90) #[] #[.pointer (some ⟨V, 0, none⟩)]] w (FndQ s w) := by
  have CB := Lib.hid fun W h => parseBegun_any V P s L (by omega) W h
  have HW := Lib.hid h
  clear h
  go_enter Tryz.func89, Tryz.ntmps89
  go_wp2_with fail
  refine (CB.out _ (HW.out.bel (bel1 _))).mono ?_
  rintro e w1 ⟨o, k, f, hb, rfl, hb1⟩
  have hI := Bare.bel (Bare.new 0 0 0 0 0 w 29) hb1
  have f0 := froz_bel (cell_new w #[.int .i64 0, .int .i64 0, .int .i64 0, .int .i64 0, .int .u32 0] 29 0) (World.frozen?_alloc_new _ _ _ _) hb1
  have hB1 := belT (bel1 _) hb1
  have hlt := lt_of_cell hI.c0
  have HB := Lib.hid hb
  unfold insV
  cases f with
  | false =>
    clear hb hb1
    go_wp2_with (go_at_call 94; refine (must_no _ _).mono ?_; rintro e w3 ⟨rfl, rfl⟩)
    exact ⟨rfl, Or.inr ⟨⟨o, k, HB.out⟩, rfl⟩, belA hB1 _⟩
  | true =>
    have hI' := hI.bel (bel1 (.cells #[.int .i64 o, .int .i64 0, .int .i64 0, .int .i64 0, .int .u32 k] 29))
    have f0' := froz_bel hI.c0 f0 (bel1 (.cells #[.int .i64 o, .int .i64 0, .int .i64 0, .int .i64 0, .int .u32 k] 29))
    have hB2 := belA hB1 (.cells #[.int .i64 o, .int .i64 0, .int .i64 0, .int .i64 0, .int .u32 k] 29)
    have hset := Bare.set hI' o 0 0 0 k
    have hBs : Below w.heap.size w ((((((w1.alloc (.cells #[.int .i64 o, .int .i64 0, .int .i64 0, .int .i64 0, .int .u32 k] 29)).setCell ⟨w.heap.size, 0, none⟩ (.int .i64 o)).setCell ⟨w.heap.size, 1, none⟩ (.int .i64 0)).setCell ⟨w.heap.size, 2, none⟩ (.int .i64 0)).setCell ⟨w.heap.size, 3, none⟩ (.int .i64 0)).setCell ⟨w.heap.size, 4, none⟩ (.int .u32 k)) := (((((hB2.setCell (p := ⟨w.heap.size, 0, none⟩) (Nat.le_refl _) _).setCell (p := ⟨w.heap.size, 1, none⟩) (Nat.le_refl _) _).setCell (p := ⟨w.heap.size, 2, none⟩) (Nat.le_refl _) _).setCell (p := ⟨w.heap.size, 3, none⟩) (Nat.le_refl _) _).setCell (p := ⟨w.heap.size, 4, none⟩) (Nat.le_refl _) _)
    have HSET := Lib.hid hset
    have HBS := Lib.hid hBs
    have hN := Bare.new o 0 0 0 k w1 29
    clear hset hBs hb hb1 hB2
    go_wp2_with (go_at_call 94; refine (must_yes _ _).mono ?_; rintro e w3 ⟨rfl, rfl⟩; generalize w1.alloc _ = W1 at hI' f0' HSET HBS hN ⊢; obtain ⟨i0, i1, i2, i3, i4, j1, j2, j3, j4⟩ := hI'; obtain ⟨n0, n1, n2, n3, n4, _, _, _, _⟩ := hN; dsimp only at i1 i2 i3 i4 n1 n2 n3 n4)
    obtain ⟨e0, e1, e2, e3, e4, _, _, _, _⟩ := HSET.out
    have hBS := HBS.out
    generalize ((((World.setCell _ _ _).setCell _ _).setCell _ _).setCell _ _).setCell _ _ = W5 at e0 e1 e2 e3 e4 hBS ⊢
    exact bodyPost_ret (v := .agg #[.int .i64 o, .int .i64 0, .int .i64 0, .int .i64 0, .int .u32 k]) (by simp [results, Tryz.results89, go_sem, e0, e1, e2, e3, e4]) rfl ⟨Or.inl ⟨o, k, HB.out, rfl⟩, hBS⟩
end Go.Proofs.YtfnfcngkaepnjaaGreatDoor

/- The number in a word, behind a mark. -/
namespace Go.Proofs.YtfnfcngkaepnjaaGreatDoor
set_option linter.unusedVariables false
open Go Go.Proofs Go.RowKit

/-- The number of a word behind a mark; is it one? -/
structure NumP (word mark : ByteArray) (n : Int) (f : Bool) : Prop where
  bd : f = true → 0 ≤ n ∧ n < 4294967296
  name : ∀ x : Nat, x < 4294967296 → word = mark ++ ⟨(Lib.decDigits x).toArray⟩ → f = true ∧ n = x
def NumQ (word mark : ByteArray) (w : World) (e : Ending) (w' : World) : Prop := ∃ n f, NumP word mark n f ∧ e = .returned (.tuple #[.int .u64 n, .bool f]) ∧ Below w.heap.size w w'

theorem cut_word (mark : ByteArray) (l : List UInt8) (word : ByteArray) (h : word = mark ++ ⟨l.toArray⟩) : Lib.hasPrefix word.data.toList mark.data.toList = true ∧ Lib.trimPrefix word.data.toList mark.data.toList = l := by
  have e : word.data.toList = mark.data.toList ++ l := by rw [h]; simp [ByteArray.data_append]
  have h1 : Lib.hasPrefix (mark.data.toList ++ l) mark.data.toList = true := by simp [Lib.hasPrefix]
  rw [e]
  refine ⟨h1, ?_⟩
  unfold Lib.trimPrefix
  rw [if_pos h1]
  simp

theorem trim_le (l p : List UInt8) : (Lib.trimPrefix l p).length ≤ l.length := by unfold Lib.trimPrefix; split <;> simp

set_option maxRecDepth 100000 in
set_option maxHeartbeats 1000000 in
theorem parseNum_any (V P KB PB : Nat) (k : Nat) (word mark : ByteArray) (L : List ByteArray) (hL : L.length ≤ 9223372036854775000) (hk : L[k + 1]? = some word) (hws : word.size ≤ 281474976710656) (w : World) (hE : Env w) (h : Wds V P L w)
    (hK : w.cell? ⟨KB, 0, none⟩ = some (.int .i64 k)) (hP : w.cell? ⟨PB, 1, none⟩ = some (.string mark)) :
    Calls Tryz.prog 96 #[.pointer (some ⟨V, 0, none⟩), .pointer (some ⟨KB, 0, none⟩), .pointer (some ⟨PB, 0, none⟩)] w (NumQ word mark w) := by
  have v0 := h.var
  have v1 := h.at_ (k + 1) word hk
  have hkl : k + 1 < L.length := (List.getElem?_eq_some_iff.1 hk).1
  have CC := Tryz.strings_CutPrefix word mark
  have HC := Lib.hid (cut_word mark · word)
  have hts : (⟨(Lib.trimPrefix word.data.toList mark.data.toList).toArray⟩ : ByteArray).size ≤ 281474976710656 := by
    have h1 := trim_le word.data.toList mark.data.toList
    rw [← Lib.size_eq] at h1
    simp only [ByteArray.size, List.size_toArray] at h1 ⊢
    exact Nat.le_trans h1 hws
  have CU := fun W hE => parseUint_any ⟨(Lib.trimPrefix word.data.toList mark.data.toList).toArray⟩ hts W 32 4294967295 (by decide) (by decide) (by decide) (by decide) (by rw [IntKind.wrap_u64]; decide) hE
  generalize Lib.trimPrefix word.data.toList mark.data.toList = rest at CC CU HC
  generalize Lib.hasPrefix word.data.toList mark.data.toList = is at CC HC
  have CU' := Lib.hid CU
  have CC' := Lib.hid CC
  have hw1 : IntKind.i64.wrap ((k : Int) + 1) = (k : Int) + 1 := by rw [IntKind.wrap_i64]; omega
  have b0 : (0 : Int) ≤ (k : Int) + 1 := by omega
  have b1 : (k : Int) + 1 < (L.length : Int) := by omega
  have b2 : ((k : Int) + 1).toNat = k + 1 := by omega
  clear h hk hws CU CC hkl hts
  go_enter Tryz.func96, Tryz.ntmps96
  go_wp2_with fail
  go_quiet ((go_at_call 97; exact Calls.quiet_of_same (CC'.out _)))
  go_wp2_with fail
  refine (CU'.out _ (hE.on (bel_drewN w nq))).mono ?_
  rintro e w1 ⟨hp, hb1⟩
  have hB1 : Below w.heap.size w w1 := (bel_drewN w nq).trans (hb1.mono (by simp))
  have hnn : ∀ w, (binOp .eql 159 .nilIface .nilIface).run Tryz.prog w = .ok (.bool true) w := fun _ => by kernel_rfl
  have hni : ∀ t x w, (binOp .eql 159 (.iface t x) .nilIface).run Tryz.prog w = .ok (.bool false) w := fun _ _ _ => by kernel_rfl
  clear v0 v1 hK hP b0 b1 b2 hw1 CC' CU' hb1
  rcases hp with ⟨n, hr, rfl⟩ | ⟨hr, v, t, x, hv0, hv1, rfl⟩
  · have HR := Lib.hid hr
    clear hr
    cases is with
    | true =>
      go_wp2_with fail
      go_quiet (fail)
      go_wp2
      go_ret2
      refine ⟨n, true, ⟨fun _ => ?_, fun y hy hw => ?_⟩, rfl, hB1.trans ((bel_drewN w1 _).mono hB1.size)⟩
      · have := puG_le HR.out; omega
      · obtain ⟨_, h2⟩ := HC.out _ hw
        have h3 := HR.out
        rw [h2, puG_dec _ _ (by omega)] at h3
        exact ⟨rfl, by have := Option.some.inj h3; omega⟩
    | false =>
      go_wp2_with fail
      go_quiet (fail)
      go_wp2
      go_ret2
      refine ⟨n, false, ⟨fun h => (by cases h), fun y hy hw => ?_⟩, rfl, hB1.trans ((bel_drewN w1 _).mono hB1.size)⟩
      exact absurd (HC.out _ hw).1 (by decide)
  · have HR := Lib.hid hr
    clear hr
    cases is with
    | true =>
      go_wp2_with fail
      go_quiet (fail)
      go_wp2
      go_ret2
      refine ⟨v, false, ⟨fun h => (by cases h), fun y hy hw => ?_⟩, rfl, hB1.trans ((bel_drewN w1 _).mono hB1.size)⟩
      obtain ⟨_, h2⟩ := HC.out _ hw
      have h3 := HR.out
      rw [h2, puG_dec _ _ (by omega)] at h3
      cases h3
    | false =>
      go_wp2_with fail
      go_quiet (fail)
      go_wp2
      go_ret2
      refine ⟨v, false, ⟨fun h => (by cases h), fun y hy hw => ?_⟩, rfl, hB1.trans ((bel_drewN w1 _).mono hB1.size)⟩
      exact absurd (HC.out _ hw).1 (by decide)

def FnuQ (word mark : ByteArray) (w : World) (e : Ending) (w' : World) : Prop := ((∃ n, NumP word mark n true ∧ e = .returned (.int .u64 n)) ∨ ((∃ n, NumP word mark n false) ∧ e = gaveUp 180)) ∧ Below w.heap.size w w'

set_option maxRecDepth 100000 in
set_option maxHeartbeats 1000000 in
theorem foundNum_any (V P KB PB : Nat) (k : Nat) (word mark : ByteArray) (L : List ByteArray) (hL : L.length ≤ 9223372036854775000) (hk : L[k + 1]? = some word) (hws : word.size ≤ 281474976710656) (w : World) (hE : Env w) (h : Wds V P L w)
    (hK : w.cell? ⟨KB, 0, none⟩ = some (.int .i64 k)) (hP : w.cell? ⟨PB, 1, none⟩ = some (.string mark)) :
    Calls Tryz.prog 95 #[.func (.func 96) #[] #[.pointer (some ⟨V, 0, none⟩), .pointer (some ⟨KB, 0, none⟩), .pointer (some ⟨PB, 0, none⟩)]] w (FnuQ word mark w) := by
  have CB := Lib.hid (parseNum_any V P KB PB k word mark L hL hk hws w hE h hK hP)
  clear h hK hP hk hws hE
  go_enter Tryz.func95, Tryz.ntmps95
  go_wp2_with fail
  refine CB.out.mono ?_
  rintro e w1 ⟨n, f, hn, rfl, hb1⟩
  have HN := Lib.hid hn
  cases f with
  | false =>
    clear hn
    go_wp2_with (go_at_call 94; refine (must_no _ _).mono ?_; rintro e w3 ⟨rfl, rfl⟩)
    exact ⟨rfl, Or.inr ⟨⟨n, HN.out⟩, rfl⟩, hb1⟩
  | true =>
    clear hn
    go_wp2_with (go_at_call 94; refine (must_yes _ _).mono ?_; rintro e w3 ⟨rfl, rfl⟩)
    go_ret
    exact ⟨Or.inl ⟨n, HN.out, rfl⟩, hb1⟩
end Go.Proofs.YtfnfcngkaepnjaaGreatDoor
