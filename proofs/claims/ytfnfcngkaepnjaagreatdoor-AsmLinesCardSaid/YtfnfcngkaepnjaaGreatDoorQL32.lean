/- Joined texts: Package asm: must; the number of a line.; Package asm: read, number; an instruction of a line. -/
import Derived.Test.YtfnfcngkaepnjaaGreatDoorQL30
import Derived.Test.YtfnfcngkaepnjaaGreatDoorQL12
import Derived.Test.YtfnfcngkaepnjaaGreatDoorQL29
import Derived.Test.YtfnfcngkaepnjaaGreatDoorQL31
/- Package asm: must; the number of a line. -/
namespace Go.Proofs.YtfnfcngkaepnjaaGreatDoor
set_option linter.unusedVariables false
set_option linter.unusedSimpArgs false
open Go Go.Proofs Go.RowKit Go.Sort

theorem asmMust_yes (n : Int) (w : World) : Calls Tryz.prog 68 #[.bool true, .int .i64 n] w fun e w' => e = .returned (.tuple #[]) ∧ w = w' := by
  go_enter Tryz.func68, Tryz.ntmps68
  go_wp2
  go_end0
  exact ⟨rfl, rfl⟩

/-- A line at which it is given up. -/
abbrev gaveAt (n : Int) : Ending := .panicked [{ v := .iface 202 (.agg #[.int .i64 n]), recovered := false }]
theorem asmMust_no (n : Int) (w : World) : Calls Tryz.prog 68 #[.bool false, .int .i64 n] w fun e w' => e = gaveAt n ∧ w = w' := by
  go_enter Tryz.func68, Tryz.ntmps68
  go_wp2
  exact ⟨rfl, rfl, rfl⟩

/-- Is a line a word and this number? -/
structure NumL (word s : ByteArray) (n : Int) (f : Bool) : Prop where
  yes : f = true → 0 ≤ n ∧ n ≤ 999 ∧ s = lineF word n
  no : f = false → ∀ m : Int, 0 ≤ m → m ≤ 999 → s ≠ lineF word m
def NumLQ (word s : ByteArray) (w : World) (e : Ending) (w' : World) : Prop := ∃ n f, NumL word s n f ∧ e = .returned (.tuple #[.int .i64 n, .bool f]) ∧ Below w.heap.size w w'

theorem itoa_nat {m : Int} (h : 0 ≤ m) : Lib.itoa m = Lib.decDigits m.toNat := by
  unfold Lib.itoa
  rw [if_neg (by omega)]

theorem trim_line (word s : ByteArray) (m : Int) (h0 : 0 ≤ m) (h : s = lineF word m) : Lib.trimPrefix s.data.toList (word ++ ⟨#[32]⟩).data.toList = Lib.decDigits m.toNat := by
  have h1 : s = (word ++ ⟨#[32]⟩) ++ ⟨(Lib.itoa m).toArray⟩ := h
  rw [itoa_nat h0] at h1
  exact (cut_word _ _ _ h1).2

set_option maxRecDepth 100000 in
set_option maxHeartbeats 2000000 in
theorem asmNumber1_any (b1 b2 : Nat) (word s : ByteArray) (hw : word.size ≤ 900) (hs : s.size ≤ 281474976710656) (w : World) (hE : Env w)
    (hS : w.cell? ⟨b1, 0, none⟩ = some (.string s)) (hW : w.cell? ⟨b2, 0, none⟩ = some (.string word)) :
    Calls Tryz.prog 176 #[.pointer (some ⟨b1, 0, none⟩), .pointer (some ⟨b2, 0, none⟩)] w (NumLQ word s w) := by
  have CT := Tryz.strings_TrimPrefix s (word ++ ⟨#[32]⟩)
  have HT := trim_line word s
  have n1 : ¬ 9223372036854775807 < word.size + 1 := by omega
  have hts : (⟨(Lib.trimPrefix s.data.toList (word ++ ⟨#[32]⟩).data.toList).toArray⟩ : ByteArray).size ≤ 281474976710656 := by
    have h1 := trim_le s.data.toList (word ++ ⟨#[32]⟩).data.toList
    rw [← Lib.size_eq] at h1
    simp only [ByteArray.size, List.size_toArray] at h1 ⊢
    exact Nat.le_trans h1 hs
  have CA := fun W hE => atoi_any ⟨(Lib.trimPrefix s.data.toList (word ++ ⟨#[32]⟩).data.toList).toArray⟩ hts W hE
  generalize Lib.trimPrefix s.data.toList (word ++ ⟨#[32]⟩).data.toList = rest at CT CA HT hts
  have CT' := Lib.hid CT
  have CA' := Lib.hid CA
  have HT' := Lib.hid HT
  have hE' := Lib.hid hE
  have CL := Lib.hid fun n h0 h1 W hE => asmLine_any word (by omega) n h0 h1 W hE
  clear CT CA HT hts hE hs
  go_enter Tryz.func176, Tryz.ntmps176
  go_wp2_with fail
  refine (CT'.out _).mono ?_
  rintro e w1 ⟨rfl, rfl⟩
  go_wp2_with fail
  refine (CA'.out _ hE'.out).mono ?_
  rintro e w2 ⟨⟨v, er, rfl, her, hv0, hv1, hdec⟩, hb2⟩
  have HD := Lib.hid hdec
  have s2 := cell_bel hS hb2
  have d2 := cell_bel hW hb2
  have HB2 := Lib.hid hb2
  have hnn : ∀ w, (binOp .eql 159 .nilIface .nilIface).run Tryz.prog w = .ok (.bool true) w := fun _ => by kernel_rfl
  have hni : ∀ t x w, (binOp .eql 159 (.iface t x) .nilIface).run Tryz.prog w = .ok (.bool false) w := fun _ _ _ => by kernel_rfl
  clear hS hW hdec hb2 n1
  rcases her with rfl | ⟨t, x, rfl⟩
  · have hl : ∀ m : Int, 0 ≤ m → m ≤ 999 → s = lineF word m → v = m := fun m h0 h9 h => by
      have h1 := (HD.out m.toNat (by omega) (HT'.out m h0 h)).1
      omega
    have CL := Lib.hid (fun W hE => CL.out v hv0 hv1 W hE)
    by_cases h0 : 0 ≤ v
    · by_cases h9 : v ≤ 999
      · by_cases hls : lineF word v = s
        · have HR := Lib.hid (show NumL word s v true from ⟨fun _ => ⟨h0, h9, hls.symm⟩, fun h => (by cases h)⟩)
          rw [hls] at CL
          clear hl hls
          have s2 := cell_regrown s2
          have d2 := cell_regrown d2
          have CL2 := Lib.hid fun (d' : Nat) os => Calls.regrown_of (CL.out (grow (redrawn w2 d') os) ((hE'.out.on HB2.out).on (below_regrown w2 d' os)))
          clear HD CL hw
          go_wp2_with fail
          refine wp_region_quiet_below (by kernel_rfl) (by kernel_rfl) ?_
          repeat (go_big_quiet_step (with_reducible exact CL2.out _ _))
          refine wpQuiet_nil ?_
          intro _ hw'
          obtain ⟨⟨dq, osq⟩, hw''⟩ := hw'
          subst hw''
          go_wp2_with fail
          go_ret2
          exact ⟨v, true, HR.out, rfl, belT HB2.out (below_regrown w2 dq osq)⟩
        · have HR := Lib.hid (show NumL word s v false from ⟨fun h => (by cases h), fun _ m m0 m9 h => hls (by rw [hl m m0 m9 h, h])⟩)
          have e1 : ((lineF word v).toList == s.toList) = false := str_ne hls
          clear hl hls
          have s2 := cell_regrown s2
          have d2 := cell_regrown d2
          have CL2 := Lib.hid fun (d' : Nat) os => Calls.regrown_of (CL.out (grow (redrawn w2 d') os) ((hE'.out.on HB2.out).on (below_regrown w2 d' os)))
          clear HD CL hw
          go_wp2_with fail
          refine wp_region_quiet_below (by kernel_rfl) (by kernel_rfl) ?_
          repeat (go_big_quiet_step (with_reducible exact CL2.out _ _))
          refine wpQuiet_nil ?_
          intro _ hw'
          obtain ⟨⟨dq, osq⟩, hw''⟩ := hw'
          subst hw''
          go_wp2_with fail
          go_ret2
          exact ⟨v, false, HR.out, rfl, belT HB2.out (below_regrown w2 dq osq)⟩
      · have HR := Lib.hid (show NumL word s v false from ⟨fun h => (by cases h), fun _ m m0 m9 h => h9 (by rw [hl m m0 m9 h]; exact m9)⟩)
        have e1 : decide (v ≤ 999) = false := decide_eq_false h9
        clear hl
        have s2 := cell_regrown s2
        have d2 := cell_regrown d2
        have CL2 := Lib.hid fun (d' : Nat) os => Calls.regrown_of (CL.out (grow (redrawn w2 d') os) ((hE'.out.on HB2.out).on (below_regrown w2 d' os)))
        clear HD CL hw
        go_wp2_with fail
        refine wp_region_quiet_below (by kernel_rfl) (by kernel_rfl) ?_
        repeat (go_big_quiet_step (with_reducible exact CL2.out _ _))
        refine wpQuiet_nil ?_
        intro _ hw'
        obtain ⟨⟨dq, osq⟩, hw''⟩ := hw'
        subst hw''
        go_wp2_with fail
        go_ret2
        exact ⟨v, false, HR.out, rfl, belT HB2.out (below_regrown w2 dq osq)⟩
    · have HR := Lib.hid (show NumL word s v false from ⟨fun h => (by cases h), fun _ m m0 m9 h => h0 (by rw [hl m m0 m9 h]; exact m0)⟩)
      have e1 : decide (0 ≤ v) = false := decide_eq_false h0
      clear hl
      have s2 := cell_regrown s2
      have d2 := cell_regrown d2
      have CL2 := Lib.hid fun (d' : Nat) os => Calls.regrown_of (CL.out (grow (redrawn w2 d') os) ((hE'.out.on HB2.out).on (below_regrown w2 d' os)))
      clear HD CL hw
      go_wp2_with fail
      refine wp_region_quiet_below (by kernel_rfl) (by kernel_rfl) ?_
      repeat (go_big_quiet_step (with_reducible exact CL2.out _ _))
      refine wpQuiet_nil ?_
      intro _ hw'
      obtain ⟨⟨dq, osq⟩, hw''⟩ := hw'
      subst hw''
      go_wp2_with fail
      go_ret2
      exact ⟨v, false, HR.out, rfl, belT HB2.out (below_regrown w2 dq osq)⟩
  · have CL := Lib.hid (fun W hE => CL.out v hv0 hv1 W hE)
    have HR := Lib.hid (show NumL word s v false from ⟨fun h => (by cases h), fun _ m m0 m9 h => by
      have h1 := (HD.out m.toNat (by omega) (HT'.out m m0 h)).2
      cases h1⟩)
    have s2 := cell_regrown s2
    have d2 := cell_regrown d2
    have CL2 := Lib.hid fun (d' : Nat) os => Calls.regrown_of (CL.out (grow (redrawn w2 d') os) ((hE'.out.on HB2.out).on (below_regrown w2 d' os)))
    clear HD CL hw
    go_wp2_with fail
    refine wp_region_quiet_below (by kernel_rfl) (by kernel_rfl) ?_
    repeat (go_big_quiet_step (with_reducible exact CL2.out _ _))
    refine wpQuiet_nil ?_
    intro _ hw'
    obtain ⟨⟨dq, osq⟩, hw''⟩ := hw'
    subst hw''
    go_wp2_with fail
    go_ret2
    exact ⟨v, false, HR.out, rfl, belT HB2.out (below_regrown w2 dq osq)⟩
end Go.Proofs.YtfnfcngkaepnjaaGreatDoor

/- Package asm: read, number; an instruction of a line. -/
namespace Go.Proofs.YtfnfcngkaepnjaaGreatDoor
set_option linter.unusedVariables false
set_option linter.unusedSimpArgs false
open Go Go.Proofs Go.RowKit Go.Sort

def NumRL (word s : ByteArray) (at_ : Int) (w : World) (e : Ending) (w' : World) : Prop :=
  ((∃ n, NumL word s n true ∧ e = .returned (.int .i64 n)) ∨ ((∃ n, NumL word s n false) ∧ e = gaveAt at_)) ∧ Below w.heap.size w w'

set_option maxRecDepth 100000 in
theorem asmReadInt_any (at_ : Int) (b1 b2 : Nat) (word s : ByteArray) (w : World) (h : Calls Tryz.prog 176 #[.pointer (some ⟨b1, 0, none⟩), .pointer (some ⟨b2, 0, none⟩)] w (NumLQ word s w)) :
    Calls Tryz.prog 175 #[.int .i64 at_, .func (.func 176) #[] #[.pointer (some ⟨b1, 0, none⟩), .pointer (some ⟨b2, 0, none⟩)]] w (NumRL word s at_ w) := by
  have H := Lib.hid h
  clear h
  go_enter Tryz.func175, Tryz.ntmps175
  go_wp2_with fail
  refine H.out.mono ?_
  rintro e w1 ⟨n, f, hn, rfl, hb1⟩
  have HN := Lib.hid hn
  cases f with
  | false =>
    clear hn
    go_wp2_with (go_at_call 68; refine (asmMust_no _ _).mono ?_; rintro e w3 ⟨rfl, rfl⟩)
    exact ⟨rfl, Or.inr ⟨⟨n, HN.out⟩, rfl⟩, hb1⟩
  | true =>
    clear hn
    go_wp2_with (go_at_call 68; refine (asmMust_yes _ _).mono ?_; rintro e w3 ⟨rfl, rfl⟩)
    go_ret
    exact ⟨Or.inl ⟨n, HN.out, rfl⟩, hb1⟩

set_option maxRecDepth 100000 in
theorem asmNumber_any (at_ : Int) (word s : ByteArray) (hw : word.size ≤ 900) (hs : s.size ≤ 281474976710656) (w : World) (hE : Env w) :
    Calls Tryz.prog 127 #[.int .i64 at_, .string s, .string word] w (NumRL word s at_ w) := by
  have hB := belA (bel1 (W := w) (.cells #[.string s] 9)) (.cells #[.string word] 9)
  have h1 := cell_al (cell_new w #[.string s] 9 0) (.cells #[.string word] 9)
  have h2 := cell_new (w.alloc (.cells #[.string s] 9)) #[.string word] 9 0
  simp only [World.size_alloc] at h2
  have HR := Lib.hid (asmReadInt_any at_ _ _ word s _ (asmNumber1_any _ _ word s hw hs _ (hE.on hB) h1 h2))
  have HB := Lib.hid hB
  clear h1 h2 hw hs hE hB
  go_enter Tryz.func127, Tryz.ntmps127
  go_wp2_with fail
  refine HR.out.mono ?_
  rintro e w1 ⟨hn, hb1⟩
  have hB1 := belT HB.out hb1
  rcases hn with ⟨n, hn, rfl⟩ | ⟨hn, rfl⟩
  · have HN := Lib.hid hn
    clear hn
    go_wp2_with fail
    go_ret
    exact ⟨Or.inl ⟨n, HN.out, rfl⟩, hB1⟩
  · have HN := Lib.hid hn
    clear hn
    go_wp2_with fail
    exact ⟨rfl, Or.inr ⟨HN.out, rfl⟩, hB1⟩

def InsLQ (s : ByteArray) (w : World) (e : Ending) (w' : World) : Prop :=
  ∃ op a b c m f, ((f = true ∧ IsT s op a b c m) ∨ (f = false ∧ ∀ op a b c m, ¬ IsT s op a b c m)) ∧ e = .returned (.tuple #[.agg #[.int .i64 op, .int .i64 a, .int .i64 b, .int .i64 c, .int .u32 m], .bool f]) ∧ Below w.heap.size w w'

set_option maxRecDepth 100000 in
set_option maxHeartbeats 2000000 in
theorem asmLine1_any (b1 : Nat) (s : ByteArray) (hs : s.size < 4294967281) (w : World) (hE : EnvM w) (hS : w.cell? ⟨b1, 0, none⟩ = some (.string s)) :
    Calls Tryz.prog 130 #[.pointer (some ⟨b1, 0, none⟩)] w (InsLQ s w) := by
  have hb0 := bel1 (W := w) (.cells #[.int .i64 0, .int .i64 0, .int .i64 0, .int .i64 0, .int .u32 0] 29)
  have CP := Lib.hid (insParse_any s hs _ (hE.on hb0))
  have S1 := cell_bel hS hb0
  have HI := Lib.hid (Bare.new 0 0 0 0 0 w 29)
  have f0 := cell_new w #[.int .i64 0, .int .i64 0, .int .i64 0, .int .i64 0, .int .u32 0] 29 0
  have HB := Lib.hid hb0
  clear hs hE hb0
  go_enter Tryz.func130, Tryz.ntmps130
  go_wp2_with fail
  refine CP.out.mono ?_
  rintro e w1 ⟨hp, hb1⟩
  have hI := HI.out.bel hb1
  have f1 := froz_bel f0 (World.frozen?_alloc_new _ _ _ _) hb1
  have hB1 := belT HB.out hb1
  have hp : ∃ op a b c m n f, ((f = true ∧ IsT s op a b c m) ∨ (f = false ∧ ∀ op a b c m, ¬ IsT s op a b c m)) ∧ f = (n == (0 : Int)) ∧ e = .returned (parseV op a b c m n) := by
    rcases hp with ⟨op, a, b, c, m, h, rfl⟩ | ⟨h, rfl⟩
    · exact ⟨op, a, b, c, m, 0, true, Or.inl ⟨rfl, h⟩, rfl, rfl⟩
    · exact ⟨0, 0, 0, 0, 0, 180, false, Or.inr ⟨rfl, h⟩, rfl, rfl⟩
  obtain ⟨op, a, b, c, m, n, f, hr, hf, rfl⟩ := hp
  have HR := Lib.hid hr
  have HF := Lib.hid hf
  unfold parseV insV
  have hI' := hI.bel (bel1 (.cells #[.int .i64 op, .int .i64 a, .int .i64 b, .int .i64 c, .int .u32 m] 29))
  have f0' := froz_bel hI.c0 f1 (bel1 (.cells #[.int .i64 op, .int .i64 a, .int .i64 b, .int .i64 c, .int .u32 m] 29))
  have hB2 := belA hB1 (.cells #[.int .i64 op, .int .i64 a, .int .i64 b, .int .i64 c, .int .u32 m] 29)
  have HSET := Lib.hid (Bare.set hI' op a b c m)
  have HBS := Lib.hid (show Below w.heap.size w ((((((w1.alloc (.cells #[.int .i64 op, .int .i64 a, .int .i64 b, .int .i64 c, .int .u32 m] 29)).setCell ⟨w.heap.size, 0, none⟩ (.int .i64 op)).setCell ⟨w.heap.size, 1, none⟩ (.int .i64 a)).setCell ⟨w.heap.size, 2, none⟩ (.int .i64 b)).setCell ⟨w.heap.size, 3, none⟩ (.int .i64 c)).setCell ⟨w.heap.size, 4, none⟩ (.int .u32 m)) from (((((hB2.setCell (p := ⟨w.heap.size, 0, none⟩) (Nat.le_refl _) _).setCell (p := ⟨w.heap.size, 1, none⟩) (Nat.le_refl _) _).setCell (p := ⟨w.heap.size, 2, none⟩) (Nat.le_refl _) _).setCell (p := ⟨w.heap.size, 3, none⟩) (Nat.le_refl _) _).setCell (p := ⟨w.heap.size, 4, none⟩) (Nat.le_refl _) _))
  have hN := Bare.new op a b c m w1 29
  clear hr hf hb1 hB2 f0 f1 S1 hS hI
  obtain ⟨i0, i1, i2, i3, i4, j1, j2, j3, j4⟩ := hI'
  obtain ⟨n0, n1, n2, n3, n4, -, -, -, -⟩ := hN
  dsimp only at i1 i2 i3 i4 n1 n2 n3 n4
  go_wp2_with fail
  obtain ⟨e0, e1, e2, e3, e4, -, -, -, -⟩ := HSET.out
  have hBS := HBS.out
  generalize ((((World.setCell _ _ _).setCell _ _).setCell _ _).setCell _ _).setCell _ _ = W5 at e0 e1 e2 e3 e4 hBS ⊢
  exact bodyPost_ret (v := .tuple #[.agg #[.int .i64 op, .int .i64 a, .int .i64 b, .int .i64 c, .int .u32 m], .bool (n == 0)]) (by simp [results, Tryz.results130, go_sem, e0, e1, e2, e3, e4]) rfl ⟨op, a, b, c, m, f, HR.out, by rw [HF.out], hBS⟩

def InsRL (s : ByteArray) (at_ : Int) (w : World) (e : Ending) (w' : World) : Prop :=
  ((∃ op a b c m, IsT s op a b c m ∧ e = .returned (.agg #[.int .i64 op, .int .i64 a, .int .i64 b, .int .i64 c, .int .u32 m])) ∨ ((∀ op a b c m, ¬ IsT s op a b c m) ∧ e = gaveAt at_)) ∧ Below w.heap.size w w'

set_option maxRecDepth 100000 in
set_option maxHeartbeats 2000000 in
theorem asmReadIns_any (at_ : Int) (b1 : Nat) (s : ByteArray) (hs : s.size < 4294967281) (w : World) (hE : EnvM w) (hS : w.cell? ⟨b1, 0, none⟩ = some (.string s)) :
    Calls Tryz.prog 129 #[.int .i64 at_, .func (.func 130) #[] #[.pointer (some ⟨b1, 0, none⟩)]] w (InsRL s at_ w) := by
  have hb0 := bel1 (W := w) (.cells #[.int .i64 0, .int .i64 0, .int .i64 0, .int .i64 0, .int .u32 0] 29)
  have CP := Lib.hid (asmLine1_any b1 s hs _ (hE.on hb0) (cell_bel hS hb0))
  have HI := Lib.hid (Bare.new 0 0 0 0 0 w 29)
  have f0 := cell_new w #[.int .i64 0, .int .i64 0, .int .i64 0, .int .i64 0, .int .u32 0] 29 0
  have HB := Lib.hid hb0
  clear hs hE hb0
  go_enter Tryz.func129, Tryz.ntmps129
  go_wp2_with fail
  refine CP.out.mono ?_
  rintro e w1 ⟨op, a, b, c, m, f, hr, rfl, hb1⟩
  have hI := HI.out.bel hb1
  have f1 := froz_bel f0 (World.frozen?_alloc_new _ _ _ _) hb1
  have hB1 := belT HB.out hb1
  have HR := Lib.hid hr
  have hI' := hI.bel (bel1 (.cells #[.int .i64 op, .int .i64 a, .int .i64 b, .int .i64 c, .int .u32 m] 29))
  have f0' := froz_bel hI.c0 f1 (bel1 (.cells #[.int .i64 op, .int .i64 a, .int .i64 b, .int .i64 c, .int .u32 m] 29))
  have hB2 := belA hB1 (.cells #[.int .i64 op, .int .i64 a, .int .i64 b, .int .i64 c, .int .u32 m] 29)
  have HSET := Lib.hid (Bare.set hI' op a b c m)
  have HBS := Lib.hid (show Below w.heap.size w ((((((w1.alloc (.cells #[.int .i64 op, .int .i64 a, .int .i64 b, .int .i64 c, .int .u32 m] 29)).setCell ⟨w.heap.size, 0, none⟩ (.int .i64 op)).setCell ⟨w.heap.size, 1, none⟩ (.int .i64 a)).setCell ⟨w.heap.size, 2, none⟩ (.int .i64 b)).setCell ⟨w.heap.size, 3, none⟩ (.int .i64 c)).setCell ⟨w.heap.size, 4, none⟩ (.int .u32 m)) from (((((hB2.setCell (p := ⟨w.heap.size, 0, none⟩) (Nat.le_refl _) _).setCell (p := ⟨w.heap.size, 1, none⟩) (Nat.le_refl _) _).setCell (p := ⟨w.heap.size, 2, none⟩) (Nat.le_refl _) _).setCell (p := ⟨w.heap.size, 3, none⟩) (Nat.le_refl _) _).setCell (p := ⟨w.heap.size, 4, none⟩) (Nat.le_refl _) _))
  have HB2 := Lib.hid hB2
  have hN := Bare.new op a b c m w1 29
  clear hr hb1 hB2 f0 f1 hS hI
  obtain ⟨i0, i1, i2, i3, i4, j1, j2, j3, j4⟩ := hI'
  obtain ⟨n0, n1, n2, n3, n4, -, -, -, -⟩ := hN
  dsimp only at i1 i2 i3 i4 n1 n2 n3 n4
  cases f with
  | false =>
    go_wp2_with (go_at_call 68; refine (asmMust_no _ _).mono ?_; rintro e w3 ⟨rfl, rfl⟩)
    refine ⟨rfl, Or.inr ⟨?_, rfl⟩, HB2.out⟩
    rcases HR.out with ⟨h, _⟩ | ⟨_, h⟩
    · cases h
    · exact h
  | true =>
    go_wp2_with (go_at_call 68; refine (asmMust_yes _ _).mono ?_; rintro e w3 ⟨rfl, rfl⟩)
    obtain ⟨e0, e1, e2, e3, e4, -, -, -, -⟩ := HSET.out
    have hBS := HBS.out
    generalize ((((World.setCell _ _ _).setCell _ _).setCell _ _).setCell _ _).setCell _ _ = W5 at e0 e1 e2 e3 e4 hBS ⊢
    refine bodyPost_ret (v := .agg #[.int .i64 op, .int .i64 a, .int .i64 b, .int .i64 c, .int .u32 m]) (by simp [results, Tryz.results129, go_sem, e0, e1, e2, e3, e4]) rfl ⟨Or.inl ⟨op, a, b, c, m, ?_, rfl⟩, hBS⟩
    rcases HR.out with ⟨_, h⟩ | ⟨h, _⟩
    · exact h
    · cases h
end Go.Proofs.YtfnfcngkaepnjaaGreatDoor
