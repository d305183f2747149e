/- Joined texts: Closures of Parse, and what is found by them.; The number in a word, behind a mark.; Parts without the one that no text has in its place: slices.DeleteFunc. -/
import Derived.Test.YtfnfcngkaepnjaaGreatDoorQZ11
import Derived.Test.YtfnfcngkaepnjaaGreatDoorQZ10
import Derived.Lib.SliceRun
/- Closures of Parse, and what is found by them. -/
namespace Go.Proofs.YtfnfcngkaepnjaaGreatDoor
set_option linter.unusedVariables false
open Go Go.Proofs Go.RowKit

/-- A variable that holds words: its block; the words' block. -/
structure Wds (V P : Nat) (L : List ByteArray) (w : World) : Prop where
  var : w.cell? ⟨V, 0, none⟩ = some (.slice (some ⟨P, 0, none⟩) L.length L.length)
  at_ : ∀ j x, L[j]? = some x → w.cell? ⟨P, j, none⟩ = some (.string x)
theorem Wds.bel {V P : Nat} {L : List ByteArray} {w w' : World} (h : Wds V P L w) (hb : Below w.heap.size w w') : Wds V P L w' := ⟨cell_bel h.var hb, fun j x hj => cell_bel (h.at_ j x hj) hb⟩
theorem Wds.touch {V P : Nat} {L : List ByteArray} {w w' : World} {T : Nat → Prop} (h : Wds V P L w) (hb : Touch T w w') (h1 : ¬ T V) (h2 : ¬ T P) : Wds V P L w' := ⟨cell_touch h.var hb h1, fun j x hj => cell_touch (h.at_ j x hj) hb h2⟩
theorem Wds.drew {V P : Nat} {L : List ByteArray} {w : World} (h : Wds V P L w) : Wds V P L w.drew := h.bel (Below.refl _ _).drew

set_option maxRecDepth 100000 in
set_option maxHeartbeats 1000000 in
theorem parseBegun_any (V P : Nat) (s : ByteArray) (L : List ByteArray) (hL : L.length ≤ 9223372036854775807) (w : World) (h : Wds V P (s :: L) w) :
    Calls Tryz.prog 90 #[.pointer (some ⟨V, 0, none⟩)] w (BegQ s w) := by
  have v0 := h.var
  have v1 := h.at_ 0 s rfl
  rw [List.length_cons] at v0
  have lv := lt_of_cell v0
  have lp := lt_of_cell v1
  clear h
  go_enter Tryz.func90, Tryz.ntmps90
  go_wp2_with fail
  refine (begun_any s _).mono ?_
  rintro e w1 ⟨o, k, f, hb, rfl, hb1⟩
  have hI := Bare.bel (Bare.new 0 0 0 0 0 w 29) hb1
  have f0 := froz_bel (cell_new w #[.int .i64 0, .int .i64 0, .int .i64 0, .int .i64 0, .int .u32 0] 29 0) (World.frozen?_alloc_new _ _ _ _) hb1
  have hB1 := belT (bel1 _) hb1
  have HB := Lib.hid hb
  have hset := Bare.set hI o 0 0 0 k
  have hBs : Below w.heap.size w (((((w1.setCell ⟨w.heap.size, 0, none⟩ (.int .i64 o)).setCell ⟨w.heap.size, 1, none⟩ (.int .i64 0)).setCell ⟨w.heap.size, 2, none⟩ (.int .i64 0)).setCell ⟨w.heap.size, 3, none⟩ (.int .i64 0)).setCell ⟨w.heap.size, 4, none⟩ (.int .u32 k)) := (((((hB1.setCell (p := ⟨w.heap.size, 0, none⟩) (Nat.le_refl _) _).setCell (p := ⟨w.heap.size, 1, none⟩) (Nat.le_refl _) _).setCell (p := ⟨w.heap.size, 2, none⟩) (Nat.le_refl _) _).setCell (p := ⟨w.heap.size, 3, none⟩) (Nat.le_refl _) _).setCell (p := ⟨w.heap.size, 4, none⟩) (Nat.le_refl _) _)
  have HSET := Lib.hid hset
  have HBS := Lib.hid hBs
  obtain ⟨i0, i1, i2, i3, i4, j1, j2, j3, j4⟩ := hI
  dsimp only at i1 i2 i3 i4
  unfold insV
  clear hset hBs hb hb1
  go_wp2_with fail
  obtain ⟨e0, e1, e2, e3, e4, _, _, _, _⟩ := HSET.out
  have hBS := HBS.out
  generalize ((((World.setCell _ _ _).setCell _ _).setCell _ _).setCell _ _).setCell _ _ = W5 at e0 e1 e2 e3 e4 hBS ⊢
  exact bodyPost_ret (v := .tuple #[.agg #[.int .i64 o, .int .i64 0, .int .i64 0, .int .i64 0, .int .u32 k], .bool f]) (by simp [results, Tryz.results90, go_sem, e0, e1, e2, e3, e4]) rfl ⟨o, k, f, HB.out, rfl, hBS⟩

def FndQ (s : ByteArray) (w : World) (e : Ending) (w' : World) : Prop := ((∃ o k, BegP s o k true ∧ e = .returned (insV o 0 0 0 k)) ∨ ((∃ o k, BegP s o k false) ∧ e = gaveUp 180)) ∧ Below w.heap.size w w'

set_option maxRecDepth 100000 in
set_option maxHeartbeats 1000000 in
theorem foundIns_any (V P : Nat) (s : ByteArray) (L : List ByteArray) (hL : L.length ≤ 9223372036854775806) (w : World) (h : Wds V P (s :: L) w) :
    Calls Tryz.prog 89 #[.func (.func 90) #[] #[.pointer (some ⟨V, 0, none⟩)]] w (FndQ s w) := by
  have CB := Lib.hid fun W h => parseBegun_any V P s L (by omega) W h
  have HW := Lib.hid h
  clear h
  go_enter Tryz.func89, Tryz.ntmps89
  go_wp2_with fail
  refine (CB.out _ (HW.out.bel (bel1 _))).mono ?_
  rintro e w1 ⟨o, k, f, hb, rfl, hb1⟩
  have hI := Bare.bel (Bare.new 0 0 0 0 0 w 29) hb1
  have f0 := froz_bel (cell_new w #[.int .i64 0, .int .i64 0, .int .i64 0, .int .i64 0, .int .u32 0] 29 0) (World.frozen?_alloc_new _ _ _ _) hb1
  have hB1 := belT (bel1 _) hb1
  have hlt := lt_of_cell hI.c0
  have HB := Lib.hid hb
  unfold insV
  cases f with
  | false =>
    clear hb hb1
    go_wp2_with (go_at_call 94; refine (must_no _ _).mono ?_; rintro e w3 ⟨rfl, rfl⟩)
    exact ⟨rfl, Or.inr ⟨⟨o, k, HB.out⟩, rfl⟩, belA hB1 _⟩
  | true =>
    have hI' := hI.bel (bel1 (.cells #[.int .i64 o, .int .i64 0, .int .i64 0, .int .i64 0, .int .u32 k] 29))
    have f0' := froz_bel hI.c0 f0 (bel1 (.cells #[.int .i64 o, .int .i64 0, .int .i64 0, .int .i64 0, .int .u32 k] 29))
    have hB2 := belA hB1 (.cells #[.int .i64 o, .int .i64 0, .int .i64 0, .int .i64 0, .int .u32 k] 29)
    have hset := Bare.set hI' o 0 0 0 k
    have hBs : Below w.heap.size w ((((((w1.alloc (.cells #[.int .i64 o, .int .i64 0, .int .i64 0, .int .i64 0, .int .u32 k] 29)).setCell ⟨w.heap.size, 0, none⟩ (.int .i64 o)).setCell ⟨w.heap.size, 1, none⟩ (.int .i64 0)).setCell ⟨w.heap.size, 2, none⟩ (.int .i64 0)).setCell ⟨w.heap.size, 3, none⟩ (.int .i64 0)).setCell ⟨w.heap.size, 4, none⟩ (.int .u32 k)) := (((((hB2.setCell (p := ⟨w.heap.size, 0, none⟩) (Nat.le_refl _) _).setCell (p := ⟨w.heap.size, 1, none⟩) (Nat.le_refl _) _).setCell (p := ⟨w.heap.size, 2, none⟩) (Nat.le_refl _) _).setCell (p := ⟨w.heap.size, 3, none⟩) (Nat.le_refl _) _).setCell (p := ⟨w.heap.size, 4, none⟩) (Nat.le_refl _) _)
    have HSET := Lib.hid hset
    have HBS := Lib.hid hBs
    have hN := Bare.new o 0 0 0 k w1 29
    clear hset hBs hb hb1 hB2
    go_wp2_with (go_at_call 94; refine (must_yes _ _).mono ?_; rintro e w3 ⟨rfl, rfl⟩; generalize w1.alloc _ = W1 at hI' f0' HSET HBS hN ⊢; obtain ⟨i0, i1, i2, i3, i4, j1, j2, j3, j4⟩ := hI'; obtain ⟨n0, n1, n2, n3, n4, _, _, _, _⟩ := hN; dsimp only at i1 i2 i3 i4 n1 n2 n3 n4)
    obtain ⟨e0, e1, e2, e3, e4, _, _, _, _⟩ := HSET.out
    have hBS := HBS.out
    generalize ((((World.setCell _ _ _).setCell _ _).setCell _ _).setCell _ _).setCell _ _ = W5 at e0 e1 e2 e3 e4 hBS ⊢
    exact bodyPost_ret (v := .agg #[.int .i64 o, .int .i64 0, .int .i64 0, .int .i64 0, .int .u32 k]) (by simp [results, Tryz.results89, go_sem, e0, e1, e2, e3, e4]) rfl ⟨Or.inl ⟨o, k, HB.out, rfl⟩, hBS⟩
end Go.Proofs.YtfnfcngkaepnjaaGreatDoor

/- The number in a word, behind a mark. -/
namespace Go.Proofs.YtfnfcngkaepnjaaGreatDoor
set_option linter.unusedVariables false
open Go Go.Proofs Go.RowKit

/-- The number of a word behind a mark; is it one? -/
structure NumP (word mark : ByteArray) (n : Int) (f : Bool) : Prop where
  bd : f = true → 0 ≤ n ∧ n < 4294967296
  name : ∀ x : Nat, x < 4294967296 → word = mark ++ ⟨(Lib.decDigits x).toArray⟩ → f = true ∧ n = x
def NumQ (word mark : ByteArray) (w : World) (e : Ending) (w' : World) : Prop := ∃ n f, NumP word mark n f ∧ e = .returned (.tuple #[.int .u64 n, .bool f]) ∧ Below w.heap.size w w'

theorem cut_word (mark : ByteArray) (l : List UInt8) (word : ByteArray) (h : word = mark ++ ⟨l.toArray⟩) : Lib.hasPrefix word.data.toList mark.data.toList = true ∧ Lib.trimPrefix word.data.toList mark.data.toList = l := by
  have e : word.data.toList = mark.data.toList ++ l := by rw [h]; simp [ByteArray.data_append]
  have h1 : Lib.hasPrefix (mark.data.toList ++ l) mark.data.toList = true := by simp [Lib.hasPrefix]
  rw [e]
  refine ⟨h1, ?_⟩
  unfold Lib.trimPrefix
  rw [if_pos h1]
  simp

theorem trim_le (l p : List UInt8) : (Lib.trimPrefix l p).length ≤ l.length := by unfold Lib.trimPrefix; split <;> simp

set_option maxRecDepth 100000 in
set_option maxHeartbeats 1000000 in
theorem parseNum_any (V P KB PB : Nat) (k : Nat) (word mark : ByteArray) (L : List ByteArray) (hL : L.length ≤ 9223372036854775000) (hk : L[k + 1]? = some word) (hws : word.size ≤ 281474976710656) (w : World) (hE : Env w) (h : Wds V P L w)
    (hK : w.cell? ⟨KB, 0, none⟩ = some (.int .i64 k)) (hP : w.cell? ⟨PB, 1, none⟩ = some (.string mark)) :
    Calls Tryz.prog 96 #[.pointer (some ⟨V, 0, none⟩), .pointer (some ⟨KB, 0, none⟩), .pointer (some ⟨PB, 0, none⟩)] w (NumQ word mark w) := by
  have v0 := h.var
  have v1 := h.at_ (k + 1) word hk
  have hkl : k + 1 < L.length := (List.getElem?_eq_some_iff.1 hk).1
  have CC := Tryz.strings_CutPrefix word mark
  have HC := Lib.hid (cut_word mark · word)
  have hts : (⟨(Lib.trimPrefix word.data.toList mark.data.toList).toArray⟩ : ByteArray).size ≤ 281474976710656 := by
    have h1 := trim_le word.data.toList mark.data.toList
    rw [← Lib.size_eq] at h1
    simp only [ByteArray.size, List.size_toArray] at h1 ⊢
    exact Nat.le_trans h1 hws
  have CU := fun W hE => parseUint_any ⟨(Lib.trimPrefix word.data.toList mark.data.toList).toArray⟩ hts W 32 4294967295 (by decide) (by decide) (by decide) (by decide) (by rw [IntKind.wrap_u64]; decide) hE
  generalize Lib.trimPrefix word.data.toList mark.data.toList = rest at CC CU HC
  generalize Lib.hasPrefix word.data.toList mark.data.toList = is at CC HC
  have CU' := Lib.hid CU
  have CC' := Lib.hid CC
  have hw1 : IntKind.i64.wrap ((k : Int) + 1) = (k : Int) + 1 := by rw [IntKind.wrap_i64]; omega
  have b0 : (0 : Int) ≤ (k : Int) + 1 := by omega
  have b1 : (k : Int) + 1 < (L.length : Int) := by omega
  have b2 : ((k : Int) + 1).toNat = k + 1 := by omega
  clear h hk hws CU CC hkl hts
  go_enter Tryz.func96, Tryz.ntmps96
  go_wp2_with fail
  go_quiet ((go_at_call 97; exact Calls.quiet_of_same (CC'.out _)))
  go_wp2_with fail
  refine (CU'.out _ (hE.on (bel_drewN w nq))).mono ?_
  rintro e w1 ⟨hp, hb1⟩
  have hB1 : Below w.heap.size w w1 := (bel_drewN w nq).trans (hb1.mono (by simp))
  have hnn : ∀ w, (binOp .eql 159 .nilIface .nilIface).run Tryz.prog w = .ok (.bool true) w := fun _ => by kernel_rfl
  have hni : ∀ t x w, (binOp .eql 159 (.iface t x) .nilIface).run Tryz.prog w = .ok (.bool false) w := fun _ _ _ => by kernel_rfl
  clear v0 v1 hK hP b0 b1 b2 hw1 CC' CU' hb1
  rcases hp with ⟨n, hr, rfl⟩ | ⟨hr, v, t, x, hv0, hv1, rfl⟩
  · have HR := Lib.hid hr
    clear hr
    cases is with
    | true =>
      go_wp2_with fail
      go_quiet (fail)
      go_wp2
      go_ret2
      refine ⟨n, true, ⟨fun _ => ?_, fun y hy hw => ?_⟩, rfl, hB1.trans ((bel_drewN w1 _).mono hB1.size)⟩
      · have := puG_le HR.out; omega
      · obtain ⟨_, h2⟩ := HC.out _ hw
        have h3 := HR.out
        rw [h2, puG_dec _ _ (by omega)] at h3
        exact ⟨rfl, by have := Option.some.inj h3; omega⟩
    | false =>
      go_wp2_with fail
      go_quiet (fail)
      go_wp2
      go_ret2
      refine ⟨n, false, ⟨fun h => (by cases h), fun y hy hw => ?_⟩, rfl, hB1.trans ((bel_drewN w1 _).mono hB1.size)⟩
      exact absurd (HC.out _ hw).1 (by decide)
  · have HR := Lib.hid hr
    clear hr
    cases is with
    | true =>
      go_wp2_with fail
      go_quiet (fail)
      go_wp2
      go_ret2
      refine ⟨v, false, ⟨fun h => (by cases h), fun y hy hw => ?_⟩, rfl, hB1.trans ((bel_drewN w1 _).mono hB1.size)⟩
      obtain ⟨_, h2⟩ := HC.out _ hw
      have h3 := HR.out
      rw [h2, puG_dec _ _ (by omega)] at h3
      cases h3
    | false =>
      go_wp2_with fail
      go_quiet (fail)
      go_wp2
      go_ret2
      refine ⟨v, false, ⟨fun h => (by cases h), fun y hy hw => ?_⟩, rfl, hB1.trans ((bel_drewN w1 _).mono hB1.size)⟩
      exact absurd (HC.out _ hw).1 (by decide)

def FnuQ (word mark : ByteArray) (w : World) (e : Ending) (w' : World) : Prop := ((∃ n, NumP word mark n true ∧ e = .returned (.int .u64 n)) ∨ ((∃ n, NumP word mark n false) ∧ e = gaveUp 180)) ∧ Below w.heap.size w w'

set_option maxRecDepth 100000 in
set_option maxHeartbeats 1000000 in
theorem foundNum_any (V P KB PB : Nat) (k : Nat) (word mark : ByteArray) (L : List ByteArray) (hL : L.length ≤ 9223372036854775000) (hk : L[k + 1]? = some word) (hws : word.size ≤ 281474976710656) (w : World) (hE : Env w) (h : Wds V P L w)
    (hK : w.cell? ⟨KB, 0, none⟩ = some (.int .i64 k)) (hP : w.cell? ⟨PB, 1, none⟩ = some (.string mark)) :
    Calls Tryz.prog 95 #[.func (.func 96) #[] #[.pointer (some ⟨V, 0, none⟩), .pointer (some ⟨KB, 0, none⟩), .pointer (some ⟨PB, 0, none⟩)]] w (FnuQ word mark w) := by
  have CB := Lib.hid (parseNum_any V P KB PB k word mark L hL hk hws w hE h hK hP)
  clear h hK hP hk hws hE
  go_enter Tryz.func95, Tryz.ntmps95
  go_wp2_with fail
  refine CB.out.mono ?_
  rintro e w1 ⟨n, f, hn, rfl, hb1⟩
  have HN := Lib.hid hn
  cases f with
  | false =>
    clear hn
    go_wp2_with (go_at_call 94; refine (must_no _ _).mono ?_; rintro e w3 ⟨rfl, rfl⟩)
    exact ⟨rfl, Or.inr ⟨⟨n, HN.out⟩, rfl⟩, hb1⟩
  | true =>
    clear hn
    go_wp2_with (go_at_call 94; refine (must_yes _ _).mono ?_; rintro e w3 ⟨rfl, rfl⟩)
    go_ret
    exact ⟨Or.inl ⟨n, HN.out, rfl⟩, hb1⟩
end Go.Proofs.YtfnfcngkaepnjaaGreatDoor

/- Parts without the one that no text has in its place: slices.DeleteFunc. -/
namespace Go.Proofs.YtfnfcngkaepnjaaGreatDoor
set_option linter.unusedVariables false
open Go Go.Proofs Go.RowKit

theorem info_part : (Tryz.prog.info? 144).map (fun i => (i.zero, i.size, i.bytes)) = some (some (.agg #[.int .i64 0, .string ⟨#[]⟩, .nilFunc, .nilFunc]), 4, 40) := by kernel_rfl

theorem isKind_any (p : Part) (w : World) : Calls Tryz.prog 93 #[.agg #[.int .i64 p.wide, .string p.mark, .func (.func p.g) #[] #[], .func (.func p.p) #[] #[]]] w fun e w' => e = .returned (.bool (isKind p)) ∧ Below w.heap.size w w' := by
  have h : isKind p = (p.mark.toList == [45]) := by rw [toList_data]; rfl
  rw [h]
  go_enter Tryz.func93, Tryz.ntmps93
  go_wp2
  go_ret
  exact ⟨rfl, bel1 _⟩

set_option maxRecDepth 100000 in
set_option maxHeartbeats 1000000 in
theorem indexKind_any (ao : Option Addr) (c : Nat) (ps : List Part) (hn : ps.length ≤ 1000) (w : World) (h : PartsC w ao ps) :
    Calls Tryz.prog 152 #[.slice ao ps.length c, .func (.func 93) #[] #[]] w fun e w' =>
      ∃ r : Int, e = .returned (.int .i64 r) ∧ ((r = -1 ∧ ∀ p ∈ ps, isKind p = false) ∨ ∃ k : Nat, r = k ∧ ∃ hk : k < ps.length, isKind ps[k] = true) ∧ Below w.heap.size w w' := by
  have H := Lib.hid h
  clear h
  go_enter Tryz.func152, Tryz.ntmps152
  go_wp2
  go_loopw [8] (fun vi wr => ∃ k : Nat, vi = .int .i64 k ∧ k ≤ ps.length ∧ Hid (∀ j (hj : j < ps.length), j < k → isKind ps[j] = false) ∧ Below w.heap.size w wr) (fun vi _ => ps.length - (intOf vi).toNat)
  case atStart => exact ⟨0, rfl, by omega, Lib.hid (fun j hj h0 => absurd h0 (Nat.not_lt_zero _)), Below.refl _ _⟩
  case round =>
    obtain ⟨k, rfl, hk, hno, hB⟩ := hrel
    by_cases hlt : k < ps.length
    · obtain ⟨r, rfl, x0, x1, x2, x3⟩ := (H.out.bel hB) k hlt
      have HK := Lib.hid hlt
      generalize hpk : ps[k] = p at x0 x1 x2 x3
      have CK := Lib.hid (isKind_any p)
      cases hkd : isKind p with
      | true =>
        rw [hkd] at CK
        have HD := Lib.hid (show isKind ps[k] = true by rw [hpk]; exact hkd)
        clear hkd
        go_wp2_with ((with_reducible refine (CK.out _).mono ?_); rintro e w5 ⟨rfl, hb5⟩)
        go_ret
        exact ⟨k, rfl, Or.inr ⟨k, rfl, HK.out, HD.out⟩, hB.trans (hb5.mono hB.size)⟩
      | false =>
        rw [hkd] at CK
        have HD := Lib.hid (show isKind ps[k] = false by rw [hpk]; exact hkd)
        clear hkd
        go_wp2_with ((with_reducible refine (CK.out _).mono ?_); rintro e w5 ⟨rfl, hb5⟩)
        refine ⟨⟨k + 1, by go_num, by omega, Lib.hid (fun j hj h0 => ?_), hB.trans (hb5.mono hB.size)⟩, by simp [intOf]; omega⟩
        by_cases hjk : j = k
        · subst hjk; exact HD.out
        · exact hno.out j hj (by omega)
    · have hk2 : k = ps.length := by omega
      subst hk2
      go_wp2
      go_ret
      refine ⟨-1, rfl, Or.inl ⟨rfl, fun p hp => ?_⟩, hB⟩
      obtain ⟨j, hj, rfl⟩ := List.getElem_of_mem hp
      exact hno.out j hj hj
theorem kind_last (op : Int) : ∀ k (hk : k < ((namedL.lookup op).getD []).length), isKind ((namedL.lookup op).getD [])[k] = true → k + 1 = ((namedL.lookup op).getD []).length := by
  have h0 : (namedL.all fun q => (List.range q.2.length).all fun k => !(match q.2[k]? with | some p => isKind p | none => false) || decide (k + 1 = q.2.length)) = true := by decide +kernel
  have h : ∀ q ∈ namedL, ∀ k (hk : k < q.2.length), isKind q.2[k] = true → k + 1 = q.2.length := by
    intro q hq k hk hkd
    have h1 := List.all_eq_true.1 (List.all_eq_true.1 h0 q hq) k (List.mem_range.2 hk)
    simp only [List.getElem?_eq_getElem hk, hkd] at h1
    simpa using h1
  cases hl : namedL.lookup op with
  | none => intro k hk; simp at hk
  | some ps =>
    have : (op, ps) ∈ namedL := by
      generalize namedL = l at hl
      clear h h0
      induction l with
      | nil => simp at hl
      | cons x xs ih =>
        by_cases hx : (op == x.1) = true
        · have : op = x.1 := by simpa using hx
          simp [List.lookup, hx] at hl
          subst hl this
          exact .head _
        · simp [List.lookup, hx] at hl
          exact .tail _ (ih hl)
    exact h _ this

theorem textP_all (ps : List Part) (h : ∀ p ∈ ps, isKind p = false) : textP ps = ps := by
  unfold textP
  rw [List.filter_eq_self]
  intro p hp
  rw [h p hp]; rfl
/-- Of parts of which only the last one is the kind, the rest is left. -/
theorem textP_last (ps : List Part) (k : Nat) (hk : k < ps.length) (h : isKind ps[k] = true) (hl : ∀ k (hk : k < ps.length), isKind ps[k] = true → k + 1 = ps.length) : textP ps = ps.take k := by
  have e := hl k hk h
  have h1 := textP_take ps k hk
  rw [List.take_of_length_le (by omega), if_pos h, List.append_nil] at h1
  rw [h1]
  refine textP_all _ fun p hp => ?_
  obtain ⟨j, hj, rfl⟩ := List.getElem_of_mem hp
  rw [List.length_take] at hj
  rw [List.getElem_take]
  cases hd : isKind ps[j] with
  | false => rfl
  | true => have := hl j (by omega) hd; omega

theorem slice_partsFrom (r n c i : Nat) (hi : i ≤ n) (hc : i < c) (w : World) : (Instr.slice 139 (.slice (some ⟨r, 0, none⟩) n c) (some (.int .i64 i)) none none).run Tryz.prog w = .ok (.slice (some ⟨r, i * 4, none⟩) (n - i) (c - i)) w := by
  obtain ⟨i0, hi0, hz0, hz1, hz2⟩ := info_of info_part
  have h1 : ¬ c = i := by omega
  simp [Instr.slice, run_underlying Tryz.underlying139, Instr.sliceBounds, Instr.sliceBound, asIntOf, sizeOf, typeInfo, hi0, hz1, h1, hi, Addr.add]
  omega

theorem clear_part (r o c : Nat) (cur : Array Value) (t ty : TypeId) (w : World) (hr : w.heap[r]? = some (.cells cur t (0, 0))) (ho : o + 4 ≤ cur.size) :
    (Builtin.clear_ #[139] ty #[.slice (some ⟨r, o, none⟩) 1 c]).run Tryz.prog w = .ok (.tuple #[]) (w.setRow r (cur.toList.take o ++ [Value.int .i64 0, Value.string ⟨#[]⟩, Value.nilFunc, Value.nilFunc] ++ cur.toList.drop (o + 4)).toArray) := by
  obtain ⟨i0, hi0, hz0, hz1, hz2⟩ := info_of info_part
  have hz : ∀ w, (zeroValue 144).run Tryz.prog w = .ok (.agg #[.int .i64 0, .string ⟨#[]⟩, .nilFunc, .nilFunc]) w := fun w => by simp [zeroValue, typeInfo, hi0, hz0]
  have hzc : (Builtin.zeroCells (Value.agg #[.int .i64 0, .string ⟨#[]⟩, .nilFunc, .nilFunc]).cells 1).toList = [.int .i64 0, .string ⟨#[]⟩, .nilFunc, .nilFunc] := by kernel_rfl
  have hst := run_storeCells_at Tryz.prog r o t [.int .i64 0, .string ⟨#[]⟩, .nilFunc, .nilFunc] 0 cur w hr (by simpa using ho) (by simp [Value.oneCell'])
  simp only [Nat.add_zero, List.length_cons, List.length_nil] at hst
  simp [Builtin.clear_, run_underlying Tryz.underlying139, hz, hzc, hst]

theorem wpList_clear {w : World} {ops : Array Oper} {rest : List Oper} {o : Oper} {a : Act} {Q : Exit → Act → World → Prop} (hgd : o.guard = none) (x : Operand) (ho : o.op = .call { callee := .builtin .clear, args := #[x], argTypes := #[139] })
    (r of c : Nat) (hx : a.eval x = .slice (some ⟨r, of, none⟩) 1 c) (cur : Array Value) (t : TypeId) (hr : w.heap[r]? = some (.cells cur t (0, 0))) (hof : of + 4 ≤ cur.size)
    (h : ∀ cs, w.heap[r]? = some (.cells cur t (0, 0)) → (∀ j, j < of → cs[j]? = cur[j]?) → wpList Tryz.prog ops Q rest (a.put o.dst (.tuple #[])) (w.setRow r cs)) : wpList Tryz.prog ops Q (o :: rest) a w := by
  refine wpList_plain hgd fun K hK => ?_
  have hrun := clear_part r of c cur t o.type w hr hof
  unfold Oper.wp
  simp [execOp, ho, resolve, invoke, builtin, hx, hrun, Result.andThen]
  refine hK _ _ ?_
  have := h (cur.toList.take of ++ [Value.int .i64 0, Value.string ⟨#[]⟩, Value.nilFunc, Value.nilFunc] ++ cur.toList.drop (of + 4)).toArray hr (fun j hj => by
    rw [List.append_assoc, List.getElem?_toArray, List.getElem?_append_left (by simp; omega), List.getElem?_take_of_lt hj, Array.getElem?_toList])
  simpa using this

theorem flat_len : ∀ (ps : List Part), (ps.flatMap Part.cells).length = ps.length * 4
  | [] => rfl
  | p :: ps => by
    rw [List.flatMap_cons, List.length_append, flat_len ps, List.length_cons]
    simp [Part.cells]
    omega

/-- The parts, without the kind. -/
structure DelQ (v : Value) (ps : List Part) (n : Nat) (w : World) (e : Ending) (w' : World) : Prop where
  ret : ∃ ao cap, e = .returned (.slice ao (textP ps).length cap) ∧ PartsC w' ao (textP ps) ∧ (textP ps).length ≤ cap
  bel : Below n w w'
  far : ∀ b, (∀ c l, v ≠ .slice (some ⟨b, 0, none⟩) l c) → b < w.heap.size → w'.heap[b]? = w.heap[b]?

set_option maxRecDepth 100000 in
set_option maxHeartbeats 2000000 in
theorem deleteKind_any (n : Nat) (v : Value) (ps : List Part) (hn : ps.length ≤ 4) (hl : ∀ k (hk : k < ps.length), isKind ps[k] = true → k + 1 = ps.length) (w : World) (hnw : n ≤ w.heap.size) (h : Parts n w v ps) :
    Calls Tryz.prog 92 #[v, .func (.func 93) #[] #[]] w (DelQ v ps n w) := by
  have hP := Lib.hid h
  obtain ⟨ao, rfl, hat⟩ := h.cells
  have CI := Lib.hid (indexKind_any ao ps.length ps (by omega) w hat)
  have HA := Lib.hid (show PartsC w ao ps from hat)
  have HL := Lib.hid hl
  clear hat hl h
  go_enter Tryz.func92, Tryz.ntmps92
  go_wp2_with fail
  refine CI.out.mono ?_
  rintro e w1 ⟨x, rfl, hx, hb1⟩
  rcases hx with ⟨rfl, hall⟩ | ⟨k, rfl, hk, hkd⟩
  · have HT := Lib.hid (textP_all ps hall)
    clear hall
    go_wp2_with fail
    go_ret
    exact ⟨⟨ao, ps.length, by rw [HT.out]; rfl, by rw [HT.out]; exact HA.out.bel hb1, by rw [HT.out]; exact Nat.le_refl _⟩, hb1.mono hnw, fun b _ hb => hb1.block b hb⟩
  · have hlast := HL.out k hk hkd
    have HT := Lib.hid (textP_last ps k hk hkd HL.out)
    obtain ⟨r, rfl, hr0⟩ := HA.out k hk
    clear hr0
    obtain ⟨t, hr, hnr⟩ : ∃ t, w1.heap[r]? = some (.cells (ps.flatMap Part.cells).toArray t) ∧ n ≤ r := by
      rcases hP.out with ⟨h, _⟩ | ⟨r', t, h1, h2, h3⟩
      · cases h
      · cases h1
        exact ⟨t, (hb1.block r (lt_of_heap h2)).trans h2, h3⟩
    have hcur : (ps.flatMap Part.cells).toArray.size = ps.length * 4 := by rw [List.size_toArray]; exact flat_len ps
    have hsl := slice_partsFrom r ps.length ps.length k (by omega) hk
    have hlen : ps.length = k + 1 := hlast.symm
    rw [hlen, show k + 1 - k = 1 by omega] at hsl
    have HLN := Lib.hid hlen
    have HR := Lib.hid hr
    have HC := Lib.hid hcur
    rw [hlen]
    clear hlen hlast hkd hcur hr
    have e1 : ((k : Int) == -1) = false := beq_eq_false_iff_ne.2 (by omega)
    go_wp2_with fail
    refine wp_loop_rounds 1 ?_
    rw [rounds_succ]
    go_wp2_with (refine wpList_clear rfl _ rfl r (k * 4) 1 rfl _ t HR.out (by rw [HC.out, HLN.out]; omega) ?_; intro cs hr1 hcs)
    go_ret
    have hlt : (textP ps).length = k := by rw [HT.out, List.length_take, HLN.out]; omega
    refine ⟨⟨some ⟨r, 0, none⟩, k + 1, by rw [hlt]; rfl, ?_, by omega⟩, below_setRow (hb1.mono hnw) hnr _, fun b hne hb => ?_⟩
    · rw [HT.out]
      intro j hj
      rw [List.length_take] at hj
      obtain ⟨r', e, x0, x1, x2, x3⟩ := (HA.out.bel hb1) j (by omega)
      cases e
      have hcell : ∀ i, i < k * 4 → (w1.setRow r cs).cell? ⟨r, i, none⟩ = w1.cell? ⟨r, i, none⟩ := fun i hi => (cell_setRow_same _ _ _ _ _ _ _ HR.out).trans ((hcs i hi).trans (cell_of_row w1 r i _ _ _ HR.out).symm)
      rw [List.getElem_take]
      exact ⟨r, rfl, (hcell _ (by omega)).trans x0, (hcell _ (by omega)).trans x1, (hcell _ (by omega)).trans x2, (hcell _ (by omega)).trans x3⟩
    · rw [setRow_other _ _ _ _ (fun e => hne _ _ (by rw [e])), hb1.block b hb]
end Go.Proofs.YtfnfcngkaepnjaaGreatDoor
