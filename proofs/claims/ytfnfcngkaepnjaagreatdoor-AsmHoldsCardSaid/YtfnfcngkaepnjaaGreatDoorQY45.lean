/- Joined texts: Package asm: Print.; strconv.Atoi at every text: some int and an error or none; of a numeral without a sign or a leading zero its number.; Package asm: must; the number of a line.; Package asm: read, number; an instruction of a line.; Package asm: what was given up with is caught; Parse's endings. -/
import Derived.Test.YtfnfcngkaepnjaaGreatDoorQY44
import Derived.Test.YtfnfcngkaepnjaaGreatDoorQY13
import Derived.Test.YtfnfcngkaepnjaaGreatDoorQY17
import Derived.Lib.AtoiAll
import Derived.Lib.AtoiAllCases
import Derived.Test.YtfnfcngkaepnjaaGreatDoorQY18
import Derived.Test.YtfnfcngkaepnjaaGreatDoorQY19
/- Package asm: Print. -/
namespace Go.Proofs.YtfnfcngkaepnjaaGreatDoor
set_option linter.unusedVariables false
set_option linter.unusedSimpArgs false
open Go Go.Proofs Go.RowKit

theorem lineF_len (word : ByteArray) (n : Int) (h0 : -9223372036854775808 ≤ n) (h1 : n ≤ 9223372036854775807) : (lineF word n).size ≤ word.size + 22 := by
  have := Lib.itoa_length_le n h0 h1
  unfold lineF
  rw [ByteArray.size_append, ByteArray.size_append]
  have h3 : (⟨(Lib.itoa n).toArray⟩ : ByteArray).size = (Lib.itoa n).length := by simp [ByteArray.size]
  have h4 : (⟨#[32]⟩ : ByteArray).size = 1 := rfl
  omega
theorem joinedF_len (L : List ByteArray) (n : Nat) (h : ∀ s ∈ L, s.size ≤ n) : (joinedF L).length ≤ L.length * (n + 1) := by
  induction L with
  | nil => simp [joinedF]
  | cons x L ih =>
    have h1 := ih (fun s hs => h s (List.mem_cons_of_mem _ hs))
    have h2 := h x (by simp)
    unfold joinedF at h1 ⊢
    have h3 : (x :: L).length * (n + 1) = L.length * (n + 1) + (n + 1) := by rw [List.length_cons, Nat.succ_mul]
    rw [h3, List.flatMap_cons, List.length_append, List.length_append, ← Lib.size_eq]
    simp only [List.length_cons, List.length_nil]
    omega
/-- Lines of a right program are small. -/
theorem lines_small {P : ProgM} (hP : P.Fits) (hR : rightP P = true) : (linesF P).length ≤ 20000 ∧ ∀ s ∈ linesF P, s.size ≤ 300 := by
  obtain ⟨hn, haf⟩ := right_fits hR
  obtain ⟨⟨⟨hl1, hl32⟩, hmu, hrw, hgr⟩, hN2⟩ := (numbersF_iff P).1 hn
  constructor
  · have h1 := fnLines_len P.funcs P.funcs.length (fun f hf => (hN2 f hf).2.2) (by omega)
    rw [List.take_length] at h1
    unfold linesF headLines
    rw [List.length_append]
    simp only [List.length_cons, List.length_nil]
    omega
  · intro s hs
    unfold linesF headLines at hs
    rcases List.mem_append.1 hs with hs | hs
    · simp only [List.mem_cons, List.not_mem_nil, or_false] at hs
      have e1 : wMu.size = 7 := rfl
      have e2 : wRw.size = 7 := rfl
      have e3 : wGr.size = 6 := rfl
      rcases hs with rfl | rfl | rfl
      · have := lineF_len wMu P.mu (by omega) (by omega); omega
      · have := lineF_len wRw P.rw (by omega) (by omega); omega
      · have := lineF_len wGr P.gr (by omega) (by omega); omega
    · obtain ⟨f, hf, hs⟩ := List.mem_flatMap.1 hs
      have hN := hN2 f hf
      unfold fnLines at hs
      rcases List.mem_cons.1 hs with rfl | hs
      · have e4 : wFn.size = 4 := rfl
        have := lineF_len wFn f.regs (by omega) (by omega); omega
      · obtain ⟨x, hx, rfl⟩ := List.mem_map.1 hs
        obtain ⟨k, hk, rfl⟩ := List.getElem_of_mem hf
        obtain ⟨j, hj, rfl⟩ := List.getElem_of_mem hx
        have h2 := haf k j _ _ (List.getElem?_eq_getElem hk) (List.getElem?_eq_getElem hj)
        unfold fineF fitsF at h2
        simp only [Bool.and_eq_true] at h2
        have h3 := textF_len (hP.imm _ (List.getElem_mem hk) _ (List.getElem_mem hj)) h2.1.1
        unfold insTx
        simp only [ByteArray.size, List.size_toArray]
        omega
theorem joined_small {P : ProgM} (hP : P.Fits) (hR : rightP P = true) : (joinedF (linesF P)).length ≤ 10000000 := by
  obtain ⟨h1, h2⟩ := lines_small hP hR
  have := joinedF_len _ 300 h2
  have : (linesF P).length * 301 ≤ 20000 * 301 := Nat.mul_le_mul_right _ h1
  omega

/-- A program's text. -/
noncomputable def printS (P : ProgM) : ByteArray := if rightP P = true then ⟨(joinedF (linesF P)).toArray⟩ else ⟨#[]⟩

set_option maxRecDepth 100000 in
set_option maxHeartbeats 2000000 in
theorem asmPrint_any (P : ProgM) (hP : P.Fits) (hl0 : P.funcs.length ≤ 100000) (v : Value) (w : World) (hE : Env w) (h : ArgP w v P) :
    Calls Tryz.prog 25 #[v] w fun e w' => e = .returned (.tuple #[.string (printS P), .int .i64 (checkP P)]) ∧ Below w.heap.size w w' := by
  have CC := Lib.hid fun v W h => pgCheck_any P hP hl0 v W h
  obtain ⟨vf, rfl, hF⟩ := h
  have HPG := Lib.hid (PrgB.new w 58 hF)
  have HB := Lib.hid (bel1 (W := w) (.cells #[vf, .int .i64 P.mu, .int .i64 P.rw, .int .i64 P.gr] 58))
  obtain ⟨c0, c1, c2, c3, -⟩ := HPG.out
  unfold printS
  unfold checkP at CC ⊢
  cases hR : rightP P with
  | false =>
    rw [hR, if_neg (by decide)] at CC
    rw [if_neg (by decide), if_neg (by decide)]
    clear hR
    go_enter Tryz.func25, Tryz.ntmps25
    go_wp2_with fail
    refine (CC.out _ _ HPG.out.arg).mono ?_
    rintro e w1 ⟨rfl, hb1⟩
    go_wp2_with fail
    go_ret2
    exact ⟨rfl, belT HB.out hb1⟩
  | true =>
    rw [hR, if_pos rfl] at CC
    rw [if_pos rfl, if_pos rfl]
    have CA := Lib.hid fun v W hE h => asmAll_any P hP hR v W hE h
    have hsm := joined_small hP hR
    have hln := (lines_small hP hR).1
    have hne : linesF P ≠ [] := by unfold linesF headLines; simp
    have CJ := Lib.hid fun v W h => asmJoined_any (linesF P) hne (by omega) (by omega) v W h
    clear hR hsm hln hne
    generalize linesF P = L at CA CJ ⊢
    go_enter Tryz.func25, Tryz.ntmps25
    go_wp2_with fail
    refine (CC.out _ _ HPG.out.arg).mono ?_
    rintro e w1 ⟨rfl, hb1⟩
    clear c0 c1 c2 c3
    have HPG1 := Lib.hid (HPG.out.bel hb1)
    have HB1 := Lib.hid (belT HB.out hb1)
    obtain ⟨c0, c1, c2, c3, -⟩ := HPG1.out
    go_wp2_with fail
    refine (CA.out _ _ (hE.on HB1.out) HPG1.out.arg).mono ?_
    rintro e w2 ⟨v', rfl, ho, hb2⟩
    obtain ⟨a2, d2, h9⟩ := ho.form
    subst h9
    have HO := Lib.hid (ho.arg rowS.len)
    clear ho c0 c1 c2 c3
    go_wp2_with fail
    refine (CJ.out _ _ HO.out).mono ?_
    rintro e w3 ⟨rfl, hb3⟩
    go_wp2_with fail
    go_ret2
    exact ⟨rfl, belT (belT HB1.out hb2) hb3⟩
end Go.Proofs.YtfnfcngkaepnjaaGreatDoor

/- strconv.Atoi at every text: some int and an error or none; of a numeral without a sign or a leading zero its number. -/
namespace Go.Proofs.YtfnfcngkaepnjaaGreatDoor
set_option linter.unusedVariables false
open Go Go.Proofs Go.RowKit

theorem pu10_append : ∀ (l1 l2 : List UInt8) (acc a : Nat), Lib.parseUint10 acc l1 = .ok a → Lib.parseUint10 acc (l1 ++ l2) = Lib.parseUint10 a l2 := by
  intro l1
  induction l1 with
  | nil => intro l2 acc a h; simp only [Lib.parseUint10] at h; injection h with h; subst h; rfl
  | cons c l ih =>
    intro l2 acc a h
    simp only [List.cons_append, Lib.parseUint10] at h ⊢
    split at h
    · rename_i hd
      rw [if_pos hd]
      split at h
      · cases h
      · rename_i h2
        rw [if_neg h2]
        split at h
        · cases h
        · rename_i h3
          rw [if_neg h3]
          exact ih _ _ _ h
    · cases h

theorem pu10_dec : ∀ u : Nat, u < 1000000000 → Lib.parseUint10 0 (Lib.decDigits u) = .ok u := by
  intro u
  induction u using Nat.strongRecOn with
  | _ u ih =>
    intro hu
    by_cases h : u < 10
    · rw [Lib.decDigits, dif_pos h]
      simp only [Lib.parseUint10, dig_toNat u h]
      rw [if_pos (by omega), if_neg (by omega), if_neg (by omega)]
      congr 1; omega
    · rw [Lib.decDigits, dif_neg h, pu10_append _ _ _ _ (ih (u / 10) (by omega) (by omega))]
      simp only [Lib.parseUint10, dig_toNat (u % 10) (by omega)]
      rw [if_pos (by omega), if_neg (by omega), if_neg (by omega)]
      congr 1; omega

theorem atoi_dec (u : Nat) (hu : u < 1000000000) : Lib.atoiAll (Lib.decDigits u) = .ok (u : Int) := by
  have h1 := pu10_dec u hu
  have h2 := dec_digit u
  have h3 := dec_ne u
  generalize Lib.decDigits u = l at h1 h2 h3
  cases l with
  | nil => exact absurd rfl h3
  | cons c r =>
    have hc := h2 c (by simp)
    unfold Lib.atoiAll
    have hn : ¬ (c.toNat = 43 ∨ c.toNat = 45) := by omega
    have hm : Lib.parseMag (c :: r) = .ok u := by unfold Lib.parseMag; rw [if_neg (by simp)]; exact h1
    simp only
    rw [if_neg hn, hm]
    simp only
    rw [if_neg (by omega), if_neg (by omega), if_neg (by omega)]

/-- What strconv.Atoi tells of a text. -/
def atoiOut (l : List UInt8) (e : Ending) : Prop :=
  ∃ (v : Int) (er : Value), e = .returned (.tuple #[.int .i64 v, er]) ∧ (er = .nilIface ∨ ∃ t x, er = .iface t x) ∧ -9223372036854775808 ≤ v ∧ v ≤ 9223372036854775807 ∧
    ∀ n : Nat, n < 1000000000 → l = Lib.decDigits n → v = n ∧ er = .nilIface

theorem bytesWorld_bel (w : World) (e : TypeId) (s : ByteArray) : Below w.heap.size w (Lib.bytesWorld w e s) := Lib.bytesWorld_below w e s

theorem atoi_any (s : ByteArray) (hlim : s.size ≤ 281474976710656) (w : World) (hE : Env w) :
    Calls Tryz.prog 111 #[.string s] w fun e w' => atoiOut s.data.toList e ∧ Below w.heap.size w w' := by
  rcases h : Lib.atoiAll s.data.toList with v | _ | _
  · refine (Tryz.strconv_Atoi_ok s (by omega) v h w).mono ?_
    rintro e w' ⟨rfl, hw⟩
    have hb := Lib.atoiAll_bounds h
    refine ⟨⟨v, .nilIface, rfl, Or.inl rfl, hb.1, hb.2, ?_⟩, ?_⟩
    · intro n hn he
      rw [he, atoi_dec n hn] at h
      injection h with h
      exact ⟨h.symm, rfl⟩
    · rcases hw with rfl | ⟨t, rfl⟩
      · exact Below.refl _ _
      · exact bytesWorld_bel _ _ _
  · obtain ⟨ev, h1, h2⟩ := hE.syn
    refine (Any.strconv_Atoi_syntax Tryz.laysC172 s hlim h ev w h1 h2).mono ?_
    rintro e w' ⟨N, rfl, _, _, hb⟩
    refine ⟨⟨_, _, rfl, Or.inr ⟨_, _, rfl⟩, by omega, by omega, ?_⟩, hb⟩
    intro n hn he
    rw [he, atoi_dec n hn] at h
    cases h
  · obtain ⟨ev, h1, h2⟩ := hE.rng
    refine (Any.strconv_Atoi_range Tryz.laysC172 s hlim h ev w h1 h2).mono ?_
    rintro e w' ⟨N, rfl, _, _, hb⟩
    refine ⟨⟨_, _, rfl, Or.inr ⟨_, _, rfl⟩, ?_, ?_, ?_⟩, hb⟩
    · unfold Lib.atoiSat; split <;> omega
    · unfold Lib.atoiSat; split <;> omega
    · intro n hn he
      rw [he, atoi_dec n hn] at h
      cases h
end Go.Proofs.YtfnfcngkaepnjaaGreatDoor

/- Package asm: must; the number of a line. -/
namespace Go.Proofs.YtfnfcngkaepnjaaGreatDoor
set_option linter.unusedVariables false
set_option linter.unusedSimpArgs false
open Go Go.Proofs Go.RowKit Go.Sort

theorem asmMust_yes (n : Int) (w : World) : Calls Tryz.prog 68 #[.bool true, .int .i64 n] w fun e w' => e = .returned (.tuple #[]) ∧ w = w' := by
  go_enter Tryz.func68, Tryz.ntmps68
  go_wp2
  go_end0
  exact ⟨rfl, rfl⟩

/-- A line at which it is given up. -/
abbrev gaveAt (n : Int) : Ending := .panicked [{ v := .iface 202 (.agg #[.int .i64 n]), recovered := false }]
theorem asmMust_no (n : Int) (w : World) : Calls Tryz.prog 68 #[.bool false, .int .i64 n] w fun e w' => e = gaveAt n ∧ w = w' := by
  go_enter Tryz.func68, Tryz.ntmps68
  go_wp2
  exact ⟨rfl, rfl, rfl⟩

/-- Is a line a word and this number? -/
structure NumL (word s : ByteArray) (n : Int) (f : Bool) : Prop where
  yes : f = true → 0 ≤ n ∧ n ≤ 999 ∧ s = lineF word n
  no : f = false → ∀ m : Int, 0 ≤ m → m ≤ 999 → s ≠ lineF word m
def NumLQ (word s : ByteArray) (w : World) (e : Ending) (w' : World) : Prop := ∃ n f, NumL word s n f ∧ e = .returned (.tuple #[.int .i64 n, .bool f]) ∧ Below w.heap.size w w'

theorem itoa_nat {m : Int} (h : 0 ≤ m) : Lib.itoa m = Lib.decDigits m.toNat := by
  unfold Lib.itoa
  rw [if_neg (by omega)]

theorem trim_line (word s : ByteArray) (m : Int) (h0 : 0 ≤ m) (h : s = lineF word m) : Lib.trimPrefix s.data.toList (word ++ ⟨#[32]⟩).data.toList = Lib.decDigits m.toNat := by
  have h1 : s = (word ++ ⟨#[32]⟩) ++ ⟨(Lib.itoa m).toArray⟩ := h
  rw [itoa_nat h0] at h1
  exact (cut_word _ _ _ h1).2

set_option maxRecDepth 100000 in
set_option maxHeartbeats 2000000 in
theorem asmNumber1_any (b1 b2 : Nat) (word s : ByteArray) (hw : word.size ≤ 900) (hs : s.size ≤ 281474976710656) (w : World) (hE : Env w)
    (hS : w.cell? ⟨b1, 0, none⟩ = some (.string s)) (hW : w.cell? ⟨b2, 0, none⟩ = some (.string word)) :
    Calls Tryz.prog 176 #[.pointer (some ⟨b1, 0, none⟩), .pointer (some ⟨b2, 0, none⟩)] w (NumLQ word s w) := by
  have CT := Tryz.strings_TrimPrefix s (word ++ ⟨#[32]⟩)
  have HT := trim_line word s
  have n1 : ¬ 9223372036854775807 < word.size + 1 := by omega
  have hts : (⟨(Lib.trimPrefix s.data.toList (word ++ ⟨#[32]⟩).data.toList).toArray⟩ : ByteArray).size ≤ 281474976710656 := by
    have h1 := trim_le s.data.toList (word ++ ⟨#[32]⟩).data.toList
    rw [← Lib.size_eq] at h1
    simp only [ByteArray.size, List.size_toArray] at h1 ⊢
    exact Nat.le_trans h1 hs
  have CA := fun W hE => atoi_any ⟨(Lib.trimPrefix s.data.toList (word ++ ⟨#[32]⟩).data.toList).toArray⟩ hts W hE
  generalize Lib.trimPrefix s.data.toList (word ++ ⟨#[32]⟩).data.toList = rest at CT CA HT hts
  have CT' := Lib.hid CT
  have CA' := Lib.hid CA
  have HT' := Lib.hid HT
  have hE' := Lib.hid hE
  have CL := Lib.hid fun n h0 h1 W hE => asmLine_any word (by omega) n h0 h1 W hE
  clear CT CA HT hts hE hs
  go_enter Tryz.func176, Tryz.ntmps176
  go_wp2_with fail
  refine (CT'.out _).mono ?_
  rintro e w1 ⟨rfl, rfl⟩
  go_wp2_with fail
  refine (CA'.out _ hE'.out).mono ?_
  rintro e w2 ⟨⟨v, er, rfl, her, hv0, hv1, hdec⟩, hb2⟩
  have HD := Lib.hid hdec
  have s2 := cell_bel hS hb2
  have d2 := cell_bel hW hb2
  have HB2 := Lib.hid hb2
  have hnn : ∀ w, (binOp .eql 159 .nilIface .nilIface).run Tryz.prog w = .ok (.bool true) w := fun _ => by kernel_rfl
  have hni : ∀ t x w, (binOp .eql 159 (.iface t x) .nilIface).run Tryz.prog w = .ok (.bool false) w := fun _ _ _ => by kernel_rfl
  clear hS hW hdec hb2 n1
  rcases her with rfl | ⟨t, x, rfl⟩
  · have hl : ∀ m : Int, 0 ≤ m → m ≤ 999 → s = lineF word m → v = m := fun m h0 h9 h => by
      have h1 := (HD.out m.toNat (by omega) (HT'.out m h0 h)).1
      omega
    have CL := Lib.hid (fun W hE => CL.out v hv0 hv1 W hE)
    by_cases h0 : 0 ≤ v
    · by_cases h9 : v ≤ 999
      · by_cases hls : lineF word v = s
        · have HR := Lib.hid (show NumL word s v true from ⟨fun _ => ⟨h0, h9, hls.symm⟩, fun h => (by cases h)⟩)
          rw [hls] at CL
          clear hl hls
          have s2 := cell_regrown s2
          have d2 := cell_regrown d2
          have CL2 := Lib.hid fun (d' : Nat) os => Calls.regrown_of (CL.out (grow (redrawn w2 d') os) ((hE'.out.on HB2.out).on (below_regrown w2 d' os)))
          clear HD CL hw
          go_wp2_with fail
          refine wp_region_quiet_below (by kernel_rfl) (by kernel_rfl) ?_
          repeat (go_big_quiet_step (with_reducible exact CL2.out _ _))
          refine wpQuiet_nil ?_
          intro _ hw'
          obtain ⟨⟨dq, osq⟩, hw''⟩ := hw'
          subst hw''
          go_wp2_with fail
          go_ret2
          exact ⟨v, true, HR.out, rfl, belT HB2.out (below_regrown w2 dq osq)⟩
        · have HR := Lib.hid (show NumL word s v false from ⟨fun h => (by cases h), fun _ m m0 m9 h => hls (by rw [hl m m0 m9 h, h])⟩)
          have e1 : ((lineF word v).toList == s.toList) = false := str_ne hls
          clear hl hls
          have s2 := cell_regrown s2
          have d2 := cell_regrown d2
          have CL2 := Lib.hid fun (d' : Nat) os => Calls.regrown_of (CL.out (grow (redrawn w2 d') os) ((hE'.out.on HB2.out).on (below_regrown w2 d' os)))
          clear HD CL hw
          go_wp2_with fail
          refine wp_region_quiet_below (by kernel_rfl) (by kernel_rfl) ?_
          repeat (go_big_quiet_step (with_reducible exact CL2.out _ _))
          refine wpQuiet_nil ?_
          intro _ hw'
          obtain ⟨⟨dq, osq⟩, hw''⟩ := hw'
          subst hw''
          go_wp2_with fail
          go_ret2
          exact ⟨v, false, HR.out, rfl, belT HB2.out (below_regrown w2 dq osq)⟩
      · have HR := Lib.hid (show NumL word s v false from ⟨fun h => (by cases h), fun _ m m0 m9 h => h9 (by rw [hl m m0 m9 h]; exact m9)⟩)
        have e1 : decide (v ≤ 999) = false := decide_eq_false h9
        clear hl
        have s2 := cell_regrown s2
        have d2 := cell_regrown d2
        have CL2 := Lib.hid fun (d' : Nat) os => Calls.regrown_of (CL.out (grow (redrawn w2 d') os) ((hE'.out.on HB2.out).on (below_regrown w2 d' os)))
        clear HD CL hw
        go_wp2_with fail
        refine wp_region_quiet_below (by kernel_rfl) (by kernel_rfl) ?_
        repeat (go_big_quiet_step (with_reducible exact CL2.out _ _))
        refine wpQuiet_nil ?_
        intro _ hw'
        obtain ⟨⟨dq, osq⟩, hw''⟩ := hw'
        subst hw''
        go_wp2_with fail
        go_ret2
        exact ⟨v, false, HR.out, rfl, belT HB2.out (below_regrown w2 dq osq)⟩
    · have HR := Lib.hid (show NumL word s v false from ⟨fun h => (by cases h), fun _ m m0 m9 h => h0 (by rw [hl m m0 m9 h]; exact m0)⟩)
      have e1 : decide (0 ≤ v) = false := decide_eq_false h0
      clear hl
      have s2 := cell_regrown s2
      have d2 := cell_regrown d2
      have CL2 := Lib.hid fun (d' : Nat) os => Calls.regrown_of (CL.out (grow (redrawn w2 d') os) ((hE'.out.on HB2.out).on (below_regrown w2 d' os)))
      clear HD CL hw
      go_wp2_with fail
      refine wp_region_quiet_below (by kernel_rfl) (by kernel_rfl) ?_
      repeat (go_big_quiet_step (with_reducible exact CL2.out _ _))
      refine wpQuiet_nil ?_
      intro _ hw'
      obtain ⟨⟨dq, osq⟩, hw''⟩ := hw'
      subst hw''
      go_wp2_with fail
      go_ret2
      exact ⟨v, false, HR.out, rfl, belT HB2.out (below_regrown w2 dq osq)⟩
  · have CL := Lib.hid (fun W hE => CL.out v hv0 hv1 W hE)
    have HR := Lib.hid (show NumL word s v false from ⟨fun h => (by cases h), fun _ m m0 m9 h => by
      have h1 := (HD.out m.toNat (by omega) (HT'.out m m0 h)).2
      cases h1⟩)
    have s2 := cell_regrown s2
    have d2 := cell_regrown d2
    have CL2 := Lib.hid fun (d' : Nat) os => Calls.regrown_of (CL.out (grow (redrawn w2 d') os) ((hE'.out.on HB2.out).on (below_regrown w2 d' os)))
    clear HD CL hw
    go_wp2_with fail
    refine wp_region_quiet_below (by kernel_rfl) (by kernel_rfl) ?_
    repeat (go_big_quiet_step (with_reducible exact CL2.out _ _))
    refine wpQuiet_nil ?_
    intro _ hw'
    obtain ⟨⟨dq, osq⟩, hw''⟩ := hw'
    subst hw''
    go_wp2_with fail
    go_ret2
    exact ⟨v, false, HR.out, rfl, belT HB2.out (below_regrown w2 dq osq)⟩
end Go.Proofs.YtfnfcngkaepnjaaGreatDoor

/- Package asm: read, number; an instruction of a line. -/
namespace Go.Proofs.YtfnfcngkaepnjaaGreatDoor
set_option linter.unusedVariables false
set_option linter.unusedSimpArgs false
open Go Go.Proofs Go.RowKit Go.Sort

def NumRL (word s : ByteArray) (at_ : Int) (w : World) (e : Ending) (w' : World) : Prop :=
  ((∃ n, NumL word s n true ∧ e = .returned (.int .i64 n)) ∨ ((∃ n, NumL word s n false) ∧ e = gaveAt at_)) ∧ Below w.heap.size w w'

set_option maxRecDepth 100000 in
theorem asmReadInt_any (at_ : Int) (b1 b2 : Nat) (word s : ByteArray) (w : World) (h : Calls Tryz.prog 176 #[.pointer (some ⟨b1, 0, none⟩), .pointer (some ⟨b2, 0, none⟩)] w (NumLQ word s w)) :
    Calls Tryz.prog 175 #[.int .i64 at_, .func (.func 176) #[] #[.pointer (some ⟨b1, 0, none⟩), .pointer (some ⟨b2, 0, none⟩)]] w (NumRL word s at_ w) := by
  have H := Lib.hid h
  clear h
  go_enter Tryz.func175, Tryz.ntmps175
  go_wp2_with fail
  refine H.out.mono ?_
  rintro e w1 ⟨n, f, hn, rfl, hb1⟩
  have HN := Lib.hid hn
  cases f with
  | false =>
    clear hn
    go_wp2_with (go_at_call 68; refine (asmMust_no _ _).mono ?_; rintro e w3 ⟨rfl, rfl⟩)
    exact ⟨rfl, Or.inr ⟨⟨n, HN.out⟩, rfl⟩, hb1⟩
  | true =>
    clear hn
    go_wp2_with (go_at_call 68; refine (asmMust_yes _ _).mono ?_; rintro e w3 ⟨rfl, rfl⟩)
    go_ret
    exact ⟨Or.inl ⟨n, HN.out, rfl⟩, hb1⟩

set_option maxRecDepth 100000 in
theorem asmNumber_any (at_ : Int) (word s : ByteArray) (hw : word.size ≤ 900) (hs : s.size ≤ 281474976710656) (w : World) (hE : Env w) :
    Calls Tryz.prog 127 #[.int .i64 at_, .string s, .string word] w (NumRL word s at_ w) := by
  have hB := belA (bel1 (W := w) (.cells #[.string s] 9)) (.cells #[.string word] 9)
  have h1 := cell_al (cell_new w #[.string s] 9 0) (.cells #[.string word] 9)
  have h2 := cell_new (w.alloc (.cells #[.string s] 9)) #[.string word] 9 0
  simp only [World.size_alloc] at h2
  have HR := Lib.hid (asmReadInt_any at_ _ _ word s _ (asmNumber1_any _ _ word s hw hs _ (hE.on hB) h1 h2))
  have HB := Lib.hid hB
  clear h1 h2 hw hs hE hB
  go_enter Tryz.func127, Tryz.ntmps127
  go_wp2_with fail
  refine HR.out.mono ?_
  rintro e w1 ⟨hn, hb1⟩
  have hB1 := belT HB.out hb1
  rcases hn with ⟨n, hn, rfl⟩ | ⟨hn, rfl⟩
  · have HN := Lib.hid hn
    clear hn
    go_wp2_with fail
    go_ret
    exact ⟨Or.inl ⟨n, HN.out, rfl⟩, hB1⟩
  · have HN := Lib.hid hn
    clear hn
    go_wp2_with fail
    exact ⟨rfl, Or.inr ⟨HN.out, rfl⟩, hB1⟩

def InsLQ (s : ByteArray) (w : World) (e : Ending) (w' : World) : Prop :=
  ∃ op a b c m f, ((f = true ∧ IsT s op a b c m) ∨ (f = false ∧ ∀ op a b c m, ¬ IsT s op a b c m)) ∧ e = .returned (.tuple #[.agg #[.int .i64 op, .int .i64 a, .int .i64 b, .int .i64 c, .int .u32 m], .bool f]) ∧ Below w.heap.size w w'

set_option maxRecDepth 100000 in
set_option maxHeartbeats 2000000 in
theorem asmLine1_any (b1 : Nat) (s : ByteArray) (hs : s.size < 4294967281) (w : World) (hE : EnvM w) (hS : w.cell? ⟨b1, 0, none⟩ = some (.string s)) :
    Calls Tryz.prog 130 #[.pointer (some ⟨b1, 0, none⟩)] w (InsLQ s w) := by
  have hb0 := bel1 (W := w) (.cells #[.int .i64 0, .int .i64 0, .int .i64 0, .int .i64 0, .int .u32 0] 29)
  have CP := Lib.hid (insParse_any s hs _ (hE.on hb0))
  have S1 := cell_bel hS hb0
  have HI := Lib.hid (Bare.new 0 0 0 0 0 w 29)
  have f0 := cell_new w #[.int .i64 0, .int .i64 0, .int .i64 0, .int .i64 0, .int .u32 0] 29 0
  have HB := Lib.hid hb0
  clear hs hE hb0
  go_enter Tryz.func130, Tryz.ntmps130
  go_wp2_with fail
  refine CP.out.mono ?_
  rintro e w1 ⟨hp, hb1⟩
  have hI := HI.out.bel hb1
  have f1 := froz_bel f0 (World.frozen?_alloc_new _ _ _ _) hb1
  have hB1 := belT HB.out hb1
  have hp : ∃ op a b c m n f, ((f = true ∧ IsT s op a b c m) ∨ (f = false ∧ ∀ op a b c m, ¬ IsT s op a b c m)) ∧ f = (n == (0 : Int)) ∧ e = .returned (parseV op a b c m n) := by
    rcases hp with ⟨op, a, b, c, m, h, rfl⟩ | ⟨h, rfl⟩
    · exact ⟨op, a, b, c, m, 0, true, Or.inl ⟨rfl, h⟩, rfl, rfl⟩
    · exact ⟨0, 0, 0, 0, 0, 180, false, Or.inr ⟨rfl, h⟩, rfl, rfl⟩
  obtain ⟨op, a, b, c, m, n, f, hr, hf, rfl⟩ := hp
  have HR := Lib.hid hr
  have HF := Lib.hid hf
  unfold parseV insV
  have hI' := hI.bel (bel1 (.cells #[.int .i64 op, .int .i64 a, .int .i64 b, .int .i64 c, .int .u32 m] 29))
  have f0' := froz_bel hI.c0 f1 (bel1 (.cells #[.int .i64 op, .int .i64 a, .int .i64 b, .int .i64 c, .int .u32 m] 29))
  have hB2 := belA hB1 (.cells #[.int .i64 op, .int .i64 a, .int .i64 b, .int .i64 c, .int .u32 m] 29)
  have HSET := Lib.hid (Bare.set hI' op a b c m)
  have HBS := Lib.hid (show Below w.heap.size w ((((((w1.alloc (.cells #[.int .i64 op, .int .i64 a, .int .i64 b, .int .i64 c, .int .u32 m] 29)).setCell ⟨w.heap.size, 0, none⟩ (.int .i64 op)).setCell ⟨w.heap.size, 1, none⟩ (.int .i64 a)).setCell ⟨w.heap.size, 2, none⟩ (.int .i64 b)).setCell ⟨w.heap.size, 3, none⟩ (.int .i64 c)).setCell ⟨w.heap.size, 4, none⟩ (.int .u32 m)) from (((((hB2.setCell (p := ⟨w.heap.size, 0, none⟩) (Nat.le_refl _) _).setCell (p := ⟨w.heap.size, 1, none⟩) (Nat.le_refl _) _).setCell (p := ⟨w.heap.size, 2, none⟩) (Nat.le_refl _) _).setCell (p := ⟨w.heap.size, 3, none⟩) (Nat.le_refl _) _).setCell (p := ⟨w.heap.size, 4, none⟩) (Nat.le_refl _) _))
  have hN := Bare.new op a b c m w1 29
  clear hr hf hb1 hB2 f0 f1 S1 hS hI
  obtain ⟨i0, i1, i2, i3, i4, j1, j2, j3, j4⟩ := hI'
  obtain ⟨n0, n1, n2, n3, n4, -, -, -, -⟩ := hN
  dsimp only at i1 i2 i3 i4 n1 n2 n3 n4
  go_wp2_with fail
  obtain ⟨e0, e1, e2, e3, e4, -, -, -, -⟩ := HSET.out
  have hBS := HBS.out
  generalize ((((World.setCell _ _ _).setCell _ _).setCell _ _).setCell _ _).setCell _ _ = W5 at e0 e1 e2 e3 e4 hBS ⊢
  exact bodyPost_ret (v := .tuple #[.agg #[.int .i64 op, .int .i64 a, .int .i64 b, .int .i64 c, .int .u32 m], .bool (n == 0)]) (by simp [results, Tryz.results130, go_sem, e0, e1, e2, e3, e4]) rfl ⟨op, a, b, c, m, f, HR.out, by rw [HF.out], hBS⟩

def InsRL (s : ByteArray) (at_ : Int) (w : World) (e : Ending) (w' : World) : Prop :=
  ((∃ op a b c m, IsT s op a b c m ∧ e = .returned (.agg #[.int .i64 op, .int .i64 a, .int .i64 b, .int .i64 c, .int .u32 m])) ∨ ((∀ op a b c m, ¬ IsT s op a b c m) ∧ e = gaveAt at_)) ∧ Below w.heap.size w w'

set_option maxRecDepth 100000 in
set_option maxHeartbeats 2000000 in
theorem asmReadIns_any (at_ : Int) (b1 : Nat) (s : ByteArray) (hs : s.size < 4294967281) (w : World) (hE : EnvM w) (hS : w.cell? ⟨b1, 0, none⟩ = some (.string s)) :
    Calls Tryz.prog 129 #[.int .i64 at_, .func (.func 130) #[] #[.pointer (some ⟨b1, 0, none⟩)]] w (InsRL s at_ w) := by
  have hb0 := bel1 (W := w) (.cells #[.int .i64 0, .int .i64 0, .int .i64 0, .int .i64 0, .int .u32 0] 29)
  have CP := Lib.hid (asmLine1_any b1 s hs _ (hE.on hb0) (cell_bel hS hb0))
  have HI := Lib.hid (Bare.new 0 0 0 0 0 w 29)
  have f0 := cell_new w #[.int .i64 0, .int .i64 0, .int .i64 0, .int .i64 0, .int .u32 0] 29 0
  have HB := Lib.hid hb0
  clear hs hE hb0
  go_enter Tryz.func129, Tryz.ntmps129
  go_wp2_with fail
  refine CP.out.mono ?_
  rintro e w1 ⟨op, a, b, c, m, f, hr, rfl, hb1⟩
  have hI := HI.out.bel hb1
  have f1 := froz_bel f0 (World.frozen?_alloc_new _ _ _ _) hb1
  have hB1 := belT HB.out hb1
  have HR := Lib.hid hr
  have hI' := hI.bel (bel1 (.cells #[.int .i64 op, .int .i64 a, .int .i64 b, .int .i64 c, .int .u32 m] 29))
  have f0' := froz_bel hI.c0 f1 (bel1 (.cells #[.int .i64 op, .int .i64 a, .int .i64 b, .int .i64 c, .int .u32 m] 29))
  have hB2 := belA hB1 (.cells #[.int .i64 op, .int .i64 a, .int .i64 b, .int .i64 c, .int .u32 m] 29)
  have HSET := Lib.hid (Bare.set hI' op a b c m)
  have HBS := Lib.hid (show Below w.heap.size w ((((((w1.alloc (.cells #[.int .i64 op, .int .i64 a, .int .i64 b, .int .i64 c, .int .u32 m] 29)).setCell ⟨w.heap.size, 0, none⟩ (.int .i64 op)).setCell ⟨w.heap.size, 1, none⟩ (.int .i64 a)).setCell ⟨w.heap.size, 2, none⟩ (.int .i64 b)).setCell ⟨w.heap.size, 3, none⟩ (.int .i64 c)).setCell ⟨w.heap.size, 4, none⟩ (.int .u32 m)) from (((((hB2.setCell (p := ⟨w.heap.size, 0, none⟩) (Nat.le_refl _) _).setCell (p := ⟨w.heap.size, 1, none⟩) (Nat.le_refl _) _).setCell (p := ⟨w.heap.size, 2, none⟩) (Nat.le_refl _) _).setCell (p := ⟨w.heap.size, 3, none⟩) (Nat.le_refl _) _).setCell (p := ⟨w.heap.size, 4, none⟩) (Nat.le_refl _) _))
  have HB2 := Lib.hid hB2
  have hN := Bare.new op a b c m w1 29
  clear hr hb1 hB2 f0 f1 hS hI
  obtain ⟨i0, i1, i2, i3, i4, j1, j2, j3, j4⟩ := hI'
  obtain ⟨n0, n1, n2, n3, n4, -, -, -, -⟩ := hN
  dsimp only at i1 i2 i3 i4 n1 n2 n3 n4
  cases f with
  | false =>
    go_wp2_with (go_at_call 68; refine (asmMust_no _ _).mono ?_; rintro e w3 ⟨rfl, rfl⟩)
    refine ⟨rfl, Or.inr ⟨?_, rfl⟩, HB2.out⟩
    rcases HR.out with ⟨h, _⟩ | ⟨_, h⟩
    · cases h
    · exact h
  | true =>
    go_wp2_with (go_at_call 68; refine (asmMust_yes _ _).mono ?_; rintro e w3 ⟨rfl, rfl⟩)
    obtain ⟨e0, e1, e2, e3, e4, -, -, -, -⟩ := HSET.out
    have hBS := HBS.out
    generalize ((((World.setCell _ _ _).setCell _ _).setCell _ _).setCell _ _).setCell _ _ = W5 at e0 e1 e2 e3 e4 hBS ⊢
    refine bodyPost_ret (v := .agg #[.int .i64 op, .int .i64 a, .int .i64 b, .int .i64 c, .int .u32 m]) (by simp [results, Tryz.results129, go_sem, e0, e1, e2, e3, e4]) rfl ⟨Or.inl ⟨op, a, b, c, m, ?_, rfl⟩, hBS⟩
    rcases HR.out with ⟨_, h⟩ | ⟨h, _⟩
    · exact h
    · cases h
end Go.Proofs.YtfnfcngkaepnjaaGreatDoor

/- Package asm: what was given up with is caught; Parse's endings. -/
namespace Go.Proofs.YtfnfcngkaepnjaaGreatDoor
set_option linter.unusedVariables false
set_option linter.unusedSimpArgs false
open Go Go.Proofs Go.RowKit Go.Sort

/-- What Parse tells lies in its results' blocks. -/
structure PaP (w0 : World) (vf : Value) (mu rw gr n e : Int) (w : World) : Prop where
  c0 : w.cell? ⟨w0.heap.size, 0, none⟩ = some vf
  c1 : w.cell? ⟨w0.heap.size, 1, none⟩ = some (.int .i64 mu)
  c2 : w.cell? ⟨w0.heap.size, 2, none⟩ = some (.int .i64 rw)
  c3 : w.cell? ⟨w0.heap.size, 3, none⟩ = some (.int .i64 gr)
  cn : w.cell? ⟨w0.heap.size + 1, 0, none⟩ = some (.int .i64 n)
  ce : w.cell? ⟨w0.heap.size + 1 + 1, 0, none⟩ = some (.int .i64 e)
  f0 : w.frozen? ⟨w0.heap.size, 0, none⟩ = false
  f1 : w.frozen? ⟨w0.heap.size, 1, none⟩ = false
  f2 : w.frozen? ⟨w0.heap.size, 2, none⟩ = false
  f3 : w.frozen? ⟨w0.heap.size, 3, none⟩ = false
  fn : w.frozen? ⟨w0.heap.size + 1, 0, none⟩ = false
  fe : w.frozen? ⟨w0.heap.size + 1 + 1, 0, none⟩ = false
  bel : Below w0.heap.size w0 w
theorem PaP.more {w0 : World} {vf : Value} {mu rw gr n e : Int} {w w' : World} (h : PaP w0 vf mu rw gr n e w) (hb : Below w.heap.size w w') : PaP w0 vf mu rw gr n e w' :=
  ⟨cell_bel h.c0 hb, cell_bel h.c1 hb, cell_bel h.c2 hb, cell_bel h.c3 hb, cell_bel h.cn hb, cell_bel h.ce hb, froz_bel h.c0 h.f0 hb, froz_bel h.c1 h.f1 hb, froz_bel h.c2 h.f2 hb, froz_bel h.c3 h.f3 hb, froz_bel h.cn h.fn hb, froz_bel h.ce h.fe hb, h.bel.trans (hb.mono h.bel.size)⟩
theorem PaP.touch {w0 : World} {vf : Value} {mu rw gr n e : Int} {w w' : World} {T : Nat → Prop} (h : PaP w0 vf mu rw gr n e w) (ht : Touch T w w') (hb : Below w0.heap.size w w') (hT : ∀ b, T b → w0.heap.size + 1 + 1 < b) : PaP w0 vf mu rw gr n e w' :=
  have n0 : ¬ T w0.heap.size := fun h => by have := hT _ h; omega
  have n1 : ¬ T (w0.heap.size + 1) := fun h => by have := hT _ h; omega
  have n2 : ¬ T (w0.heap.size + 1 + 1) := fun h => by have := hT _ h; omega
  ⟨cell_touch h.c0 ht n0, cell_touch h.c1 ht n0, cell_touch h.c2 ht n0, cell_touch h.c3 ht n0, cell_touch h.cn ht n1, cell_touch h.ce ht n2, froz_touch h.c0 h.f0 ht n0, froz_touch h.c1 h.f1 ht n0, froz_touch h.c2 h.f2 ht n0, froz_touch h.c3 h.f3 ht n0, froz_touch h.cn h.fn ht n1, froz_touch h.ce h.fe ht n2, h.bel.trans hb⟩

/-- The program's four cells, stored. -/
abbrev setP (b : Nat) (vf : Value) (mu rw gr : Int) (w : World) : World := (((w.setCell ⟨b, 0, none⟩ vf).setCell ⟨b, 1, none⟩ (.int .i64 mu)).setCell ⟨b, 2, none⟩ (.int .i64 rw)).setCell ⟨b, 3, none⟩ (.int .i64 gr)
theorem PaP.set {w0 : World} {vf : Value} {mu rw gr n e : Int} {w : World} (h : PaP w0 vf mu rw gr n e w) (vf' : Value) (mu' rw' gr' n' e' : Int) :
    PaP w0 vf' mu' rw' gr' n' e' (((setP w0.heap.size vf' mu' rw' gr' w).setCell ⟨w0.heap.size + 1, 0, none⟩ (.int .i64 n')).setCell ⟨w0.heap.size + 1 + 1, 0, none⟩ (.int .i64 e')) := by
  obtain ⟨c0, c1, c2, c3, cn, ce, f0, f1, f2, f3, fn, fe, bel⟩ := h
  have o : ∀ (v : World) (p q : Addr) (x : Value), p ≠ q → (v.setCell p x).cell? q = v.cell? q := fun v p q x h => World.cell?_setCell_other _ _ _ _ h
  refine ⟨?_, ?_, ?_, ?_, ?_, ?_, ?_, ?_, ?_, ?_, ?_, ?_, ?_⟩
  · rw [o _ _ _ _ (by simp), o _ _ _ _ (by simp), o _ _ _ _ (by simp), o _ _ _ _ (by simp), o _ _ _ _ (by simp)]
    exact World.cell?_setCell_same _ _ _ c0
  · rw [o _ _ _ _ (by simp), o _ _ _ _ (by simp), o _ _ _ _ (by simp), o _ _ _ _ (by simp)]
    exact World.cell?_setCell_same _ _ _ ((o _ _ _ _ (by simp)).trans c1)
  · rw [o _ _ _ _ (by simp), o _ _ _ _ (by simp), o _ _ _ _ (by simp)]
    exact World.cell?_setCell_same _ _ _ ((o _ _ _ _ (by simp)).trans ((o _ _ _ _ (by simp)).trans c2))
  · rw [o _ _ _ _ (by simp), o _ _ _ _ (by simp)]
    exact World.cell?_setCell_same _ _ _ ((o _ _ _ _ (by simp)).trans ((o _ _ _ _ (by simp)).trans ((o _ _ _ _ (by simp)).trans c3)))
  · rw [o _ _ _ _ (by simp)]
    exact World.cell?_setCell_same _ _ _ ((o _ _ _ _ (by simp)).trans ((o _ _ _ _ (by simp)).trans ((o _ _ _ _ (by simp)).trans ((o _ _ _ _ (by simp)).trans cn))))
  · exact World.cell?_setCell_same _ _ _ ((o _ _ _ _ (by simp)).trans ((o _ _ _ _ (by simp)).trans ((o _ _ _ _ (by simp)).trans ((o _ _ _ _ (by simp)).trans ((o _ _ _ _ (by simp)).trans ce)))))
  · simp only [World.frozen?_setCell]; exact f0
  · simp only [World.frozen?_setCell]; exact f1
  · simp only [World.frozen?_setCell]; exact f2
  · simp only [World.frozen?_setCell]; exact f3
  · simp only [World.frozen?_setCell]; exact fn
  · simp only [World.frozen?_setCell]; exact fe
  · exact (((((bel.setCell (p := ⟨w0.heap.size, 0, none⟩) (Nat.le_refl _) _).setCell (p := ⟨w0.heap.size, 1, none⟩) (Nat.le_refl _) _).setCell (p := ⟨w0.heap.size, 2, none⟩) (Nat.le_refl _) _).setCell (p := ⟨w0.heap.size, 3, none⟩) (Nat.le_refl _) _).setCell (p := ⟨w0.heap.size + 1, 0, none⟩) (by simp) _).setCell (p := ⟨w0.heap.size + 1 + 1, 0, none⟩) (by simp; omega) _

theorem paP_start (w : World) : PaP w (.slice none 0 0) 0 0 0 0 0 (((w.alloc (.cells #[.slice none 0 0, .int .i64 0, .int .i64 0, .int .i64 0] 58)).alloc (.cells #[.int .i64 0] 3)).alloc (.cells #[.int .i64 0] 38)) := by
  have e := fun j => cell_new w #[.slice none 0 0, .int .i64 0, .int .i64 0, .int .i64 0] 58 j
  have b0 := bel1 (W := w.alloc (.cells #[.slice none 0 0, .int .i64 0, .int .i64 0, .int .i64 0] 58)) (.cells #[.int .i64 0] 3)
  have b1 := belA b0 (.cells #[.int .i64 0] 38)
  have g := fun j => World.frozen?_alloc_new w #[.slice none 0 0, .int .i64 0, .int .i64 0, .int .i64 0] 58 j
  have n1 := cell_two w (.cells #[.slice none 0 0, .int .i64 0, .int .i64 0, .int .i64 0] 58) #[.int .i64 0] 3 0
  have m1 := froz_two w (.cells #[.slice none 0 0, .int .i64 0, .int .i64 0, .int .i64 0] 58) #[.int .i64 0] 3 0
  have n2 := cell_two (w.alloc (.cells #[.slice none 0 0, .int .i64 0, .int .i64 0, .int .i64 0] 58)) (.cells #[.int .i64 0] 3) #[.int .i64 0] 38 0
  have m2 := froz_two (w.alloc (.cells #[.slice none 0 0, .int .i64 0, .int .i64 0, .int .i64 0] 58)) (.cells #[.int .i64 0] 3) #[.int .i64 0] 38 0
  have bb := bel1 (W := (w.alloc (.cells #[.slice none 0 0, .int .i64 0, .int .i64 0, .int .i64 0] 58)).alloc (.cells #[.int .i64 0] 3)) (.cells #[.int .i64 0] 38)
  simp only [World.size_alloc] at n2 m2
  exact ⟨cell_bel (e 0) b1, cell_bel (e 1) b1, cell_bel (e 2) b1, cell_bel (e 3) b1, cell_bel n1 bb, n2, froz_bel (e 0) (g 0) b1, froz_bel (e 1) (g 1) b1, froz_bel (e 2) (g 2) b1, froz_bel (e 3) (g 3) b1, froz_bel n1 m1 bb, m2, belA (belA (bel1 _) _) _⟩

theorem asmClear_any (b : Nat) (w : World) (v0 v1 v2 v3 : Value) (c0 : w.cell? ⟨b, 0, none⟩ = some v0) (c1 : w.cell? ⟨b, 1, none⟩ = some v1) (c2 : w.cell? ⟨b, 2, none⟩ = some v2) (c3 : w.cell? ⟨b, 3, none⟩ = some v3)
    (f0 : w.frozen? ⟨b, 0, none⟩ = false) (f1 : w.frozen? ⟨b, 1, none⟩ = false) (f2 : w.frozen? ⟨b, 2, none⟩ = false) (f3 : w.frozen? ⟨b, 3, none⟩ = false) :
    Calls Tryz.prog 65 #[.pointer (some ⟨b, 0, none⟩)] w fun e w' => e = .returned (.tuple #[]) ∧ w' = setP b (.slice none 0 0) 0 0 0 w := by
  go_enter Tryz.func65, Tryz.ntmps65
  go_wp2
  go_end0
  exact ⟨rfl, rfl⟩

theorem asmCaught_idle (p q : Addr) (f : Value) (w : World) :
    CallsD Tryz.prog 64 #[.pointer (some p), .pointer (some q), f] .returning w fun e u' w' => e = .returned (.tuple #[]) ∧ u' = .returning ∧ w' = w := by
  have hn : ∀ w, (binOp .neq 20 .nilIface .nilIface).run Tryz.prog w = .ok (.bool false) w := fun _ => by kernel_rfl
  refine callsD_of_wpS Tryz.func64 rfl fun c₀ cs hu => ?_
  simp only [Tryz.ntmps64, List.size_toArray, List.length_cons, List.length_nil, Nat.reduceAdd, Nat.reduceSub, Array.replicate_succ, Array.replicate_zero, List.push_toArray, List.append_toArray, List.nil_append, List.cons_append]
  apply wpS_seq
  apply wpS_region
  simp [wpOpsS, go_sem, recoverD, hu, Exit.thenS]
  refine wpS_of_wp ?_
  go_wp2
  cases c₀
  simp_all [bodyPostS, results, Tryz.results64]

set_option maxRecDepth 100000 in
set_option maxHeartbeats 4000000 in
/-- Caught with a line: the program is cleared, the line and the number 210 are stored. -/
theorem asmCaught_yes (w0 : World) (vf : Value) (mu rw gr n0 e0 n : Int) (older : List PanicEntry) (w : World) (h : PaP w0 vf mu rw gr n0 e0 w) :
    CallsD Tryz.prog 64 #[.pointer (some ⟨w0.heap.size + 1, 0, none⟩), .pointer (some ⟨w0.heap.size + 1 + 1, 0, none⟩), .func (.func 65) #[] #[.pointer (some ⟨w0.heap.size, 0, none⟩)]] (.panicking ({ v := .iface 202 (.agg #[.int .i64 n]), recovered := false } :: older)) w fun e u' w' =>
      e = .returned (.tuple #[]) ∧ u' = .panicking ({ v := .iface 202 (.agg #[.int .i64 n]), recovered := true } :: older) ∧ PaP w0 (.slice none 0 0) 0 0 0 n 210 w' := by
  have hn : ∀ w, (binOp .neq 20 (.iface 202 (.agg #[.int .i64 n])) .nilIface).run Tryz.prog w = .ok (.bool true) w := fun _ => by kernel_rfl
  have ht : ∀ w, (Instr.typeAssert (.iface 202 (.agg #[.int .i64 n])) 20 202 true).run Tryz.prog w = .ok (.tuple #[.agg #[.int .i64 n], .bool true]) w := fun _ => by kernel_rfl
  have hP := h.more (bel1 (.cells #[.int .i64 n] 202))
  have H := Lib.hid (hP.set (.slice none 0 0) 0 0 0 n 210)
  obtain ⟨c0, c1, c2, c3, cn, ce, f0, f1, f2, f3, fn, fe, -⟩ := hP
  have HC := Lib.hid (asmClear_any w0.heap.size _ _ _ _ _ c0 c1 c2 c3 f0 f1 f2 f3)
  have k0 := cell_new w #[.int .i64 n] 202 0
  have hlt : w0.heap.size + 1 + 1 < w.heap.size := lt_of_cell h.ce
  have hw0 : w0.heap.size ≠ w.heap.size := by omega
  have o : ∀ (v : World) (p q : Addr) (x : Value), p ≠ q → (v.setCell p x).cell? q = v.cell? q := fun v p q x h => World.cell?_setCell_other _ _ _ _ h
  have k1 : (setP w0.heap.size (.slice none 0 0) 0 0 0 (w.alloc (.cells #[.int .i64 n] 202))).cell? ⟨w.heap.size, 0, none⟩ = some (.int .i64 n) := by
    rw [o _ _ _ _ (by simp [hw0]), o _ _ _ _ (by simp [hw0]), o _ _ _ _ (by simp [hw0]), o _ _ _ _ (by simp [hw0])]
    exact k0
  have cn' : (setP w0.heap.size (.slice none 0 0) 0 0 0 (w.alloc (.cells #[.int .i64 n] 202))).cell? ⟨w0.heap.size + 1, 0, none⟩ = some (.int .i64 n0) := by
    rw [o _ _ _ _ (by simp), o _ _ _ _ (by simp), o _ _ _ _ (by simp), o _ _ _ _ (by simp)]
    exact cn
  have ce' : (setP w0.heap.size (.slice none 0 0) 0 0 0 (w.alloc (.cells #[.int .i64 n] 202))).cell? ⟨w0.heap.size + 1 + 1, 0, none⟩ = some (.int .i64 e0) := by
    rw [o _ _ _ _ (by simp), o _ _ _ _ (by simp), o _ _ _ _ (by simp), o _ _ _ _ (by simp)]
    exact ce
  have fn' : (setP w0.heap.size (.slice none 0 0) 0 0 0 (w.alloc (.cells #[.int .i64 n] 202))).frozen? ⟨w0.heap.size + 1, 0, none⟩ = false := by simp only [World.frozen?_setCell]; exact fn
  have fe' : (setP w0.heap.size (.slice none 0 0) 0 0 0 (w.alloc (.cells #[.int .i64 n] 202))).frozen? ⟨w0.heap.size + 1 + 1, 0, none⟩ = false := by simp only [World.frozen?_setCell]; exact fe
  clear h c0 c1 c2 c3 cn ce f0 f1 f2 f3 fn fe
  refine callsD_of_wpS Tryz.func64 rfl fun c₀ cs hu => ?_
  simp only [Tryz.ntmps64, List.size_toArray, List.length_cons, List.length_nil, Nat.reduceAdd, Nat.reduceSub, Array.replicate_succ, Array.replicate_zero, List.push_toArray, List.append_toArray, List.nil_append, List.cons_append]
  apply wpS_seq
  apply wpS_region
  simp [wpOpsS, go_sem, recoverD, hu, Exit.thenS]
  refine wpS_of_wp ?_
  go_wp2_with fail
  refine HC.out.mono ?_
  rintro e w1 ⟨rfl, rfl⟩
  generalize hgw : setP w0.heap.size (.slice none 0 0) 0 0 0 (w.alloc (.cells #[.int .i64 n] 202)) = W at *
  clear hgw
  go_wp2_with fail
  cases c₀
  simp_all [bodyPostS, results, Tryz.results64]
  exact H.out

/-- What Parse tells. -/
def asmV (vf : Value) (mu rw gr n e : Int) : Value := .tuple #[.agg #[vf, .int .i64 mu, .int .i64 rw, .int .i64 gr], .int .i64 n, .int .i64 e]
abbrev asmD (w0 : World) : Deferred := { target := Target.fn (Fn.func 64) #[], args := #[.pointer (some ⟨w0.heap.size + 1, 0, none⟩), .pointer (some ⟨w0.heap.size + 1 + 1, 0, none⟩), .func (.func 65) #[] #[.pointer (some ⟨w0.heap.size, 0, none⟩)]] }

set_option maxRecDepth 100000 in
set_option maxHeartbeats 4000000 in
theorem asmParse_panics (w0 : World) (vf : Value) (mu rw gr n0 e0 : Int) (w : World) (h : PaP w0 vf mu rw gr n0 e0 w) (n : Int) (t : Array Value)
    (h2 : t[2]? = some (.pointer (some ⟨w0.heap.size, 0, none⟩))) (h3 : t[3]? = some (.pointer (some ⟨w0.heap.size + 1, 0, none⟩))) (h4 : t[4]? = some (.pointer (some ⟨w0.heap.size + 1 + 1, 0, none⟩))) (R : Ending → World → Prop) (hR : ∀ w', Below w0.heap.size w0 w' → R (.returned (asmV (.slice none 0 0) 0 0 0 n 210)) w') :
    bodyPostD Tryz.prog Tryz.f28 R (Exit.panic [{ v := .iface 202 (.agg #[.int .i64 n]), recovered := false }])
      { tmps := t, defers := [asmD w0] } w := by
  refine leaves_cons (f := 64) (args := #[.pointer (some ⟨w0.heap.size + 1, 0, none⟩), .pointer (some ⟨w0.heap.size + 1 + 1, 0, none⟩), .func (.func 65) #[] #[.pointer (some ⟨w0.heap.size, 0, none⟩)]]) (by simp) (by simp [go_sem]) ?_
  refine (asmCaught_yes w0 vf mu rw gr n0 e0 n [] w h).mono ?_
  rintro e u' w2 ⟨rfl, rfl, h'⟩
  obtain ⟨c0, c1, c2, c3, cn, ce, -, -, -, -, -, -, bel⟩ := h'
  have hB := hR _ bel
  clear h hR bel
  unfold asmV at hB
  simp [Leaves, settle, results, Tryz.results28, go_sem, h2, h3, h4, c0, c1, c2, c3, cn, ce]
  exact hB

set_option maxRecDepth 100000 in
set_option maxHeartbeats 4000000 in
theorem asmParse_returns (w0 : World) (vf : Value) (mu rw gr n e : Int) (w : World) (h : PaP w0 vf mu rw gr n e w) (t : Array Value)
    (h2 : t[2]? = some (.pointer (some ⟨w0.heap.size, 0, none⟩))) (h3 : t[3]? = some (.pointer (some ⟨w0.heap.size + 1, 0, none⟩))) (h4 : t[4]? = some (.pointer (some ⟨w0.heap.size + 1 + 1, 0, none⟩))) (R : Ending → World → Prop) (hR : R (.returned (asmV vf mu rw gr n e)) w) :
    bodyPostD Tryz.prog Tryz.f28 R Exit.ret { tmps := t, defers := [asmD w0] } w := by
  obtain ⟨c0, c1, c2, c3, cn, ce, -, -, -, -, -, -, -⟩ := h
  unfold asmV at hR
  refine leaves_cons (f := 64) (args := #[.pointer (some ⟨w0.heap.size + 1, 0, none⟩), .pointer (some ⟨w0.heap.size + 1 + 1, 0, none⟩), .func (.func 65) #[] #[.pointer (some ⟨w0.heap.size, 0, none⟩)]]) (by simp) (by simp [go_sem]) ?_
  refine (asmCaught_idle _ _ _ w).mono ?_
  rintro e u' w2 ⟨rfl, rfl, rfl⟩
  simp [Leaves, settle, results, Tryz.results28, go_sem, h2, h3, h4, c0, c1, c2, c3, cn, ce]
  exact hR
end Go.Proofs.YtfnfcngkaepnjaaGreatDoor
