/- Joined texts: Layer 11: plain laws: a program's text is read back; texts tell programs apart.; Layer 11: plain: lines of a program give it back; its text's lines are these; texts tell programs apart.; Layer 11: plain: lines that are read are the program's lines.; The reference of layer 8: words. -/
import Derived.Test.YtfnfcngkaepnjaaGreatDoorQZ39
import Derived.Test.YtfnfcngkaepnjaaGreatDoorQZ35
import Derived.Test.YtfnfcngkaepnjaaGreatDoorQZ26
/- Layer 11: plain laws: a program's text is read back; texts tell programs apart. -/
namespace Go.Proofs.YtfnfcngkaepnjaaGreatDoor
set_option linter.unusedVariables false
set_option linter.unusedSimpArgs false
open Go Go.Proofs Go.RowKit Go.Sort

/-- No byte 10. -/
theorem insN_no10 (op m : Int) : (10 : UInt8) ∉ (insN op m).data.toList := by
  have h : ∀ x ∈ kindL, (10 : UInt8) ∉ x.data.toList := by decide +kernel
  have h' : ∀ x ∈ wordL, (10 : UInt8) ∉ x.data.toList := by decide +kernel
  unfold insN kindN wordN
  split
  · rw [List.getD_eq_getElem?_getD]
    cases hx : kindL[(m - 1).toNat]? with
    | none => simp
    | some x => exact h x (List.mem_of_getElem? hx)
  · rw [List.getD_eq_getElem?_getD]
    cases hx : wordL[op.toNat]? with
    | none => simp
    | some x => exact h' x (List.mem_of_getElem? hx)
theorem insN_func (op m : Int) : (insN op m).data.toList ≠ [102, 117, 110, 99] := by
  have h : ∀ x ∈ kindL, x.data.toList ≠ [102, 117, 110, 99] := by decide +kernel
  have h' : ∀ x ∈ wordL, x.data.toList ≠ [102, 117, 110, 99] := by decide +kernel
  unfold insN kindN wordN
  split
  · rw [List.getD_eq_getElem?_getD]
    cases hx : kindL[(m - 1).toNat]? with
    | none => simp
    | some x => exact h x (List.mem_of_getElem? hx)
  · rw [List.getD_eq_getElem?_getD]
    cases hx : wordL[op.toNat]? with
    | none => simp
    | some x => exact h' x (List.mem_of_getElem? hx)
theorem dec_no10 (u : Nat) : (10 : UInt8) ∉ Lib.decDigits u := fun h => by
  have := (dec_digit u 10 h).1
  exact absurd this (by decide)
theorem itoa_no10 {n : Int} (h : 0 ≤ n) : (10 : UInt8) ∉ Lib.itoa n := by
  rw [itoa_nat h]
  exact dec_no10 _
theorem named_no10 (n : Int) : ∀ p ∈ (namedL.lookup n).getD [], (10 : UInt8) ∉ p.mark.data.toList := fun p hp => by
  have := named_all (fun _ p => !(p.mark.data.toList.contains 10)) (by decide +kernel) n p hp
  simpa using this
theorem textL_no10 (op a b c m : Int) : ∀ x ∈ textL op a b c m, (10 : UInt8) ∉ x.data.toList := by
  intro x hx
  unfold textL at hx
  rcases List.mem_cons.1 hx with rfl | hx
  · exact insN_no10 op m
  · obtain ⟨p, hq, rfl⟩ := List.mem_map.1 hx
    have h1 := named_no10 op p (List.mem_filter.1 hq).1
    unfold partT
    simp only [ByteArray.data_append, Array.toList_append, List.mem_append, not_or]
    exact ⟨h1, dec_no10 _⟩
theorem join_no10 : ∀ (L : List (List UInt8)), (∀ x ∈ L, (10 : UInt8) ∉ x) → (10 : UInt8) ∉ Lib.join L [32]
  | [], _ => by simp [Lib.join]
  | [x], h => by rw [Lib.join_one]; exact h x (by simp)
  | x :: y :: r, h => by
    rw [join_two]
    have h1 := h x (by simp)
    have h2 := join_no10 (y :: r) (fun z hz => h z (.tail _ hz))
    simp only [List.mem_append, List.mem_cons, not_or]
    exact ⟨h1, by decide, h2⟩
theorem textF_no10 (op a b c m : Int) : (10 : UInt8) ∉ textF op a b c m := by
  unfold textF joinS
  refine join_no10 _ (fun x hx => ?_)
  obtain ⟨y, hy, rfl⟩ := List.mem_map.1 hx
  exact textL_no10 op a b c m y hy

/-- An instruction's line begins no function. -/
theorem isFn_ins (x : InsM) : isFn (insTx x) = false := by
  cases h : isFn (insTx x) with
  | false => rfl
  | true =>
    exfalso
    unfold isFn Lib.hasPrefix at h
    have h1 : (insTx x).data.toList = textF x.op x.a x.b x.c x.m := by simp [insTx]
    rw [h1] at h
    unfold textF textL at h
    rw [joinS_cons] at h
    have hp : [102, 117, 110, 99, 32] <+: (insN x.op x.m).data.toList ++ Lib.joinTail [32] (((textP ((namedL.lookup x.op).getD [])).map (partT x.a x.b x.c x.m)).map (·.data.toList)) := by
      simpa [wFn] using h
    obtain ⟨t, ht⟩ := hp
    have hn := insN_no32 x.op x.m
    have hf := insN_func x.op x.m
    generalize (insN x.op x.m).data.toList = n at ht hn hf
    generalize ((textP ((namedL.lookup x.op).getD [])).map (partT x.a x.b x.c x.m)).map (·.data.toList) = r at ht
    have h2 := congrArg (List.takeWhile (fun c : UInt8 => c != 32)) ht
    rw [List.takeWhile_append_of_pos (l₁ := n) (fun a ha => by
      simp only [bne_iff_ne, ne_eq]
      rintro rfl
      exact hn ha)] at h2
    have h3 : (Lib.joinTail [32] r).takeWhile (fun c : UInt8 => c != 32) = [] := by
      cases r with
      | nil => rfl
      | cons y r => rfl
    rw [h3, List.append_nil] at h2
    exact hf (by rw [← h2]; rfl)
end Go.Proofs.YtfnfcngkaepnjaaGreatDoor

/- Layer 11: plain: lines of a program give it back; its text's lines are these; texts tell programs apart. -/
namespace Go.Proofs.YtfnfcngkaepnjaaGreatDoor
set_option linter.unusedVariables false
set_option linter.unusedSimpArgs false
open Go Go.Proofs Go.RowKit Go.Sort

theorem pushF_last (F : List FnM) (r : Int) (d : List InsM) (x : InsM) : pushF (F ++ [⟨r, d⟩]) x = F ++ [⟨r, d ++ [x]⟩] := by
  have h : (F ++ [(⟨r, d⟩ : FnM)]).length - 1 = F.length := by simp
  unfold pushF
  rw [h, List.getElem?_append_right (Nat.le_refl _), Nat.sub_self, List.getElem?_cons_zero]
  simp
theorem step_ins (k : Nat) (F : List FnM) (r : Int) (d : List InsM) (mu rw gr : Int) (x : InsM) (h : rightF x.op x.a x.b x.c x.m = true) (hm : 0 ≤ x.m ∧ x.m < 4294967296) :
    stepO (k + 3) (insTx x) ⟨F ++ [⟨r, d⟩], mu, rw, gr⟩ = some ⟨F ++ [⟨r, d ++ [x]⟩], mu, rw, gr⟩ := by
  have h1 : insO (insTx x) = some x := insO_yes ⟨hm, h, by simp [insTx]⟩
  simp only [stepO, isFn_ins, Bool.false_eq_true, if_false, h1, Option.map_some, pushF_last]
  rw [if_neg (by simp)]
theorem isFn_head (n : Int) : isFn (lineF wFn n) = true := by
  unfold isFn Lib.hasPrefix lineF
  simp [ByteArray.data_append, wFn]
theorem step_func (k : Nat) (F : List FnM) (n : Int) (h0 : 0 ≤ n) (h9 : n ≤ 999) (mu rw gr : Int) : stepO (k + 3) (lineF wFn n) ⟨F, mu, rw, gr⟩ = some ⟨F ++ [⟨n, []⟩], mu, rw, gr⟩ := by
  simp only [stepO, isFn_head, if_true, numO_of n h0 h9 rfl, Option.map_some]
theorem lines_code (F : List FnM) (r : Int) (mu rw gr : Int) (rest : List ByteArray) : ∀ (code d : List InsM) (k : Nat), (∀ x ∈ code, rightF x.op x.a x.b x.c x.m = true ∧ 0 ≤ x.m ∧ x.m < 4294967296) →
    linesO (k + 3) (code.map insTx ++ rest) ⟨F ++ [⟨r, d⟩], mu, rw, gr⟩ = linesO (k + code.length + 3) rest ⟨F ++ [⟨r, d ++ code⟩], mu, rw, gr⟩
  | [], d, k, _ => by simp
  | x :: code, d, k, h => by
    have hx := h x (by simp)
    have ih := lines_code F r mu rw gr rest code (d ++ [x]) (k + 1) (fun y hy => h y (by simp [hy]))
    rw [List.map_cons, List.cons_append]
    simp only [linesO, step_ins k F r d mu rw gr x hx.1 hx.2]
    rw [show k + 3 + 1 = k + 1 + 3 by omega, ih, List.length_cons, show k + 1 + code.length + 3 = k + (code.length + 1) + 3 by omega, List.append_assoc]
    rfl
theorem lines_funcs (mu rw gr : Int) (rest : List ByteArray) : ∀ (G F : List FnM) (k : Nat), (∀ f ∈ G, 0 ≤ f.regs ∧ f.regs ≤ 999 ∧ ∀ x ∈ f.code, rightF x.op x.a x.b x.c x.m = true ∧ 0 ≤ x.m ∧ x.m < 4294967296) →
    ∃ k', linesO (k + 3) (G.flatMap fnLines ++ rest) ⟨F, mu, rw, gr⟩ = linesO (k' + 3) rest ⟨F ++ G, mu, rw, gr⟩
  | [], F, k, _ => ⟨k, by simp⟩
  | f :: G, F, k, h => by
    have hf := h f (by simp)
    obtain ⟨k', ih⟩ := lines_funcs mu rw gr rest G (F ++ [f]) (k + 1 + f.code.length) (fun g hg => h g (by simp [hg]))
    refine ⟨k', ?_⟩
    rw [List.flatMap_cons, List.append_assoc]
    unfold fnLines
    rw [List.cons_append]
    simp only [linesO, step_func k F f.regs hf.1 hf.2.1 mu rw gr]
    rw [show k + 3 + 1 = k + 1 + 3 by omega, lines_code F f.regs mu rw gr _ f.code [] (k + 1) hf.2.2]
    simp only [List.nil_append]
    have e : (⟨f.regs, f.code⟩ : FnM) = f := rfl
    rw [e]
    have ih' := ih
    unfold fnLines at ih'
    rw [ih', List.append_assoc]
    rfl
theorem right_parts {P : ProgM} (hP : P.Fits) (hR : rightP P = true) : (0 ≤ P.mu ∧ P.mu ≤ 999) ∧ (0 ≤ P.rw ∧ P.rw ≤ 999) ∧ (0 ≤ P.gr ∧ P.gr ≤ 999) ∧ 1 ≤ P.funcs.length ∧ ∀ f ∈ P.funcs, 0 ≤ f.regs ∧ f.regs ≤ 999 ∧ ∀ x ∈ f.code, rightF x.op x.a x.b x.c x.m = true ∧ 0 ≤ x.m ∧ x.m < 4294967296 := by
  obtain ⟨hn, haf⟩ := right_fits hR
  obtain ⟨⟨⟨hl1, hl32⟩, hmu, hrw, hgr⟩, hN2⟩ := (numbersF_iff P).1 hn
  refine ⟨by omega, by omega, by omega, by omega, fun f hf => ⟨?_, ?_, fun x hx => ⟨?_, hP.imm f hf x hx⟩⟩⟩
  · have := hN2 f hf; omega
  · have := hN2 f hf; omega
  · obtain ⟨k, hk, rfl⟩ := List.getElem_of_mem hf
    obtain ⟨j, hj, rfl⟩ := List.getElem_of_mem hx
    have h2 := haf k j _ _ (List.getElem?_eq_getElem hk) (List.getElem?_eq_getElem hj)
    unfold fineF fitsF at h2
    simp only [Bool.and_eq_true] at h2
    exact h2.1.1
/-- A program's lines give it back. -/
theorem lines_back {P : ProgM} (hP : P.Fits) (hR : rightP P = true) : linesO 0 (linesF P) zeroP = .ok P := by
  obtain ⟨hmu, hrw, hgr, _, hf⟩ := right_parts hP hR
  obtain ⟨k', hk⟩ := lines_funcs P.mu P.rw P.gr [] P.funcs [] 0 hf
  rw [List.append_nil, List.nil_append] at hk
  unfold linesF headLines
  simp only [List.cons_append, List.nil_append, linesO, stepO, numO_of P.mu hmu.1 hmu.2 rfl, numO_of P.rw hrw.1 hrw.2 rfl, numO_of P.gr hgr.1 hgr.2 rfl, Option.map_some]
  exact hk
theorem read_back {P : ProgM} (hP : P.Fits) (hR : rightP P = true) : readO (linesF P) true = .ok P := by
  obtain ⟨_, _, _, hl, _⟩ := right_parts hP hR
  have hw : wrongP P = none := by
    unfold rightP at hR
    unfold wrongP
    rw [Bool.and_eq_true] at hR
    rw [if_pos hR.1]
    simpa using hR.2
  unfold readO
  rw [lines_back hP hR]
  simp only [hw, hR]
  rw [if_neg (by omega)]
  simp

/-- Lines' text, split again. -/
theorem joined_join : ∀ (L : List ByteArray), joinedF L = joinS (L ++ [⟨#[]⟩]) 10
  | [] => rfl
  | x :: L => by
    have ih := joined_join L
    unfold joinS at ih ⊢
    rw [List.cons_append, List.map_cons]
    cases hL : (L ++ [(⟨#[]⟩ : ByteArray)]).map (·.data.toList) with
    | nil => simp at hL
    | cons y r =>
      rw [join_two, ← hL, ← ih]
      unfold joinedF
      rw [List.flatMap_cons]
      simp
theorem lines_no10 {P : ProgM} (hP : P.Fits) (hR : rightP P = true) : ∀ s ∈ linesF P, (10 : UInt8) ∉ s.data.toList := by
  obtain ⟨hmu, hrw, hgr, _, hf⟩ := right_parts hP hR
  have hl : ∀ (word : ByteArray) (n : Int), (10 : UInt8) ∉ word.data.toList → 0 ≤ n → (10 : UInt8) ∉ (lineF word n).data.toList := fun word n h h0 => by
    unfold lineF
    simp only [ByteArray.data_append, Array.toList_append, List.mem_append, not_or]
    exact ⟨⟨h, by decide⟩, itoa_no10 h0⟩
  intro s hs
  unfold linesF headLines at hs
  rcases List.mem_append.1 hs with hs | hs
  · simp only [List.mem_cons, List.not_mem_nil, or_false] at hs
    rcases hs with rfl | rfl | rfl
    · exact hl _ _ (by decide) hmu.1
    · exact hl _ _ (by decide) hrw.1
    · exact hl _ _ (by decide) hgr.1
  · obtain ⟨f, hff, hs⟩ := List.mem_flatMap.1 hs
    unfold fnLines at hs
    rcases List.mem_cons.1 hs with rfl | hs
    · exact hl _ _ (by decide) (hf f hff).1
    · obtain ⟨x, hx, rfl⟩ := List.mem_map.1 hs
      have := textF_no10 x.op x.a x.b x.c x.m
      simpa [insTx] using this
theorem nl_print {P : ProgM} (hP : P.Fits) (hR : rightP P = true) : nlF (printS P) = linesF P ++ [⟨#[]⟩] := by
  have h10 := lines_no10 hP hR
  unfold printS
  rw [if_pos hR]
  refine splitB_join 10 (linesF P ++ [⟨#[]⟩]) (by simp) (fun x hx => ?_) ⟨(joinedF (linesF P)).toArray⟩ (by rw [← joined_join])
  rcases List.mem_append.1 hx with hx | hx
  · exact h10 x hx
  · simp only [List.mem_cons, List.not_mem_nil, or_false] at hx
    subst hx
    simp
theorem lns_print {P : ProgM} (hP : P.Fits) (hR : rightP P = true) : lnsO (nlF (printS P)) = linesF P ∧ endO (nlF (printS P)) = true := by
  rw [nl_print hP hR]
  have hl : (linesF P ++ [(⟨#[]⟩ : ByteArray)])[(linesF P ++ [(⟨#[]⟩ : ByteArray)]).length - 1]? = some ⟨#[]⟩ := by simp
  obtain ⟨h1, h2⟩ := lnsO_on hl (by rw [toList_data]; rfl)
  refine ⟨?_, h1⟩
  rw [h2]
  simp
end Go.Proofs.YtfnfcngkaepnjaaGreatDoor

/- Layer 11: plain: lines that are read are the program's lines. -/
namespace Go.Proofs.YtfnfcngkaepnjaaGreatDoor
set_option linter.unusedVariables false
set_option linter.unusedSimpArgs false
open Go Go.Proofs Go.RowKit Go.Sort

theorem numO_text {word s : ByteArray} {n : Int} (h : numO word s = some n) : s = lineF word n := by
  unfold numO at h
  split at h
  · rename_i hex
    have h2 := hex.choose_spec
    rw [Option.some.inj h] at h2
    exact h2.2.2
  · cases h
theorem insO_text {s : ByteArray} {x : InsM} (h : insO s = some x) : s = insTx x := by
  unfold insO at h
  split at h
  · rename_i hex
    have h2 := hex.choose_spec
    rw [Option.some.inj h] at h2
    have h3 := h2.text
    unfold insTx
    rw [h3]
  · cases h
theorem linesF_func (F : List FnM) (mu rw gr n : Int) : linesF ⟨F ++ [⟨n, []⟩], mu, rw, gr⟩ = linesF ⟨F, mu, rw, gr⟩ ++ [lineF wFn n] := by
  unfold linesF headLines
  rw [List.flatMap_append, ← List.append_assoc]
  simp [fnLines]
theorem linesF_push (F : List FnM) (mu rw gr : Int) (x : InsM) (h : F.length ≠ 0) : linesF ⟨pushF F x, mu, rw, gr⟩ = linesF ⟨F, mu, rw, gr⟩ ++ [insTx x] := by
  obtain ⟨G, f, rfl⟩ : ∃ G f, F = G ++ [f] := ⟨F.dropLast, F.getLast (by rintro rfl; exact h rfl), (List.dropLast_concat_getLast _).symm⟩
  obtain ⟨r, d⟩ := f
  rw [pushF_last]
  unfold linesF headLines
  rw [List.flatMap_append, List.flatMap_append, ← List.append_assoc]
  simp [fnLines]
theorem step_lines {k : Nat} {s : ByteArray} {P P' : ProgM} (h : stepO (k + 3) s P = some P') : linesF P' = linesF P ++ [s] := by
  obtain ⟨F, mu, rw0, gr⟩ := P
  simp only [stepO] at h
  split at h
  · rw [Option.map_eq_some_iff] at h
    obtain ⟨n, hn, rfl⟩ := h
    rw [numO_text hn]
    exact linesF_func F mu rw0 gr n
  · split at h
    · cases h
    · rename_i h0
      rw [Option.map_eq_some_iff] at h
      obtain ⟨x, hx, rfl⟩ := h
      rw [insO_text hx]
      exact linesF_push F mu rw0 gr x h0
theorem lines_tail : ∀ (L : List ByteArray) (k : Nat) (P P' : ProgM), linesO (k + 3) L P = .ok P' → linesF P' = linesF P ++ L
  | [], k, P, P', h => by
    simp only [linesO] at h
    cases h
    simp
  | s :: L, k, P, P', h => by
    simp only [linesO] at h
    split at h
    · rename_i P1 h1
      rw [lines_tail L (k + 1) P1 P' h, step_lines h1]
      simp
    · cases h
/-- Lines that were read are the program's. -/
theorem lines_of {L : List ByteArray} {P : ProgM} (h : linesO 0 L zeroP = .ok P) (h0 : P.funcs.length ≠ 0) : linesF P = L := by
  match L, h with
  | [], h =>
    simp only [linesO] at h
    cases h
    exact absurd rfl h0
  | [a], h =>
    simp only [linesO, stepO] at h
    cases ha : numO wMu a with
    | none => rw [ha] at h; cases h
    | some n =>
      rw [ha] at h
      simp only [Option.map_some] at h
      cases h
      exact absurd rfl h0
  | [a, b], h =>
    simp only [linesO, stepO] at h
    cases ha : numO wMu a with
    | none => rw [ha] at h; cases h
    | some n =>
      rw [ha] at h
      simp only [Option.map_some] at h
      cases hb : numO wRw b with
      | none => rw [hb] at h; cases h
      | some m =>
        rw [hb] at h
        simp only [Option.map_some] at h
        cases h
        exact absurd rfl h0
  | a :: b :: c :: L, h =>
    rw [linesO] at h
    simp only [stepO] at h
    cases ha : numO wMu a with
    | none => rw [ha] at h; cases h
    | some n =>
      rw [ha] at h
      simp only [Option.map_some] at h
      rw [linesO] at h
      simp only [stepO] at h
      cases hb : numO wRw b with
      | none => rw [hb] at h; cases h
      | some m =>
        rw [hb] at h
        simp only [Option.map_some] at h
        rw [linesO] at h
        simp only [stepO] at h
        cases hc : numO wGr c with
        | none => rw [hc] at h; cases h
        | some q =>
          rw [hc] at h
          simp only [Option.map_some] at h
          have h1 := lines_tail L 0 _ _ h
          rw [h1, numO_text ha, numO_text hb, numO_text hc]
          rfl
theorem read_ok {L : List ByteArray} {ends : Bool} {P : ProgM} (h : readO L ends = .ok P) : linesO 0 L zeroP = .ok P ∧ P.funcs.length ≠ 0 ∧ rightP P = true ∧ ends = true := by
  unfold readO at h
  split at h
  · cases h
  · rename_i P1 h1
    split at h
    · cases h
    · rename_i h2
      split at h
      · cases h
      · split at h
        · rename_i h3
          cases h
          exact ⟨h1, h2, h3⟩
        · cases h
theorem lines_fits : ∀ (L : List ByteArray) (k n : Nat) (P P' : ProgM), Small n P → linesO k L P = .ok P' → Small (n + L.length) P'
  | [], k, n, P, P', hS, h => by
    simp only [linesO] at h
    cases h
    exact hS
  | s :: L, k, n, P, P', hS, h => by
    simp only [linesO] at h
    split at h
    · rename_i P1 h1
      have := lines_fits L (k + 1) (n + 1) P1 P' (stepO_small hS h1) h
      rw [List.length_cons, show n + (L.length + 1) = n + 1 + L.length by omega]
      exact this
    · cases h
/-- The text of a program that was read is the text. -/
theorem print_read {s : ByteArray} {P : ProgM} (h : readO (lnsO (nlF s)) (endO (nlF s)) = .ok P) : P.Fits ∧ rightP P = true ∧ printS P = s ∧ P.funcs.length ≤ (lnsO (nlF s)).length := by
  obtain ⟨h1, h2, h3, h4⟩ := read_ok h
  have h5 := lines_fits _ 0 0 _ _ small_zero h1
  refine ⟨h5.fits, h3, ?_, by have := h5.len; omega⟩
  unfold printS
  rw [if_pos h3, lines_of h1 h2, text_back s h4]
end Go.Proofs.YtfnfcngkaepnjaaGreatDoor

/- The reference of layer 8: words. -/
namespace Go.Proofs.YtfnfcngkaepnjaaGreatDoor
set_option linter.unusedVariables false
open Go Go.Proofs Go.RowKit

/-- Where words stands. -/
structure WdI (s : ByteArray) (i f : Nat) (done : List ByteArray) : Prop where
  le : i ≤ s.size + 1
  len : done.length ≤ i
  fle : f ≤ i
  on : i ≤ s.size → done ++ piecesF (s.extract f s.size) = piecesF s ∧ ∀ j (hj : f ≤ j ∧ j < i) (h : j < s.size), s[j] ≠ 32
  off : i = s.size + 1 → done = piecesF s

theorem wdI_start (s : ByteArray) : WdI s 0 0 [] := ⟨by omega, Nat.le_refl _, Nat.le_refl _, fun _ => ⟨by rw [ByteArray.extract_zero_size]; rfl, fun j hj => by omega⟩, fun h => by omega⟩
theorem WdI.cut {s : ByteArray} {i f : Nat} {done : List ByteArray} (h : WdI s i f done) (hi : i < s.size) (hc : s[i] = 32) : WdI s (i + 1) (i + 1) (done ++ [s.extract f i]) := by
  obtain ⟨h1, h2⟩ := h.on (by omega)
  refine ⟨by omega, by rw [List.length_append]; have := h.len; simp; omega, Nat.le_refl _, fun _ => ⟨?_, fun j hj => by omega⟩, fun h => by omega⟩
  rw [← h1, pieces_step s f i h.fle hi hc (fun j hj => h2 j hj (by omega)), List.append_assoc]
  rfl
theorem WdI.on1 {s : ByteArray} {i f : Nat} {done : List ByteArray} (h : WdI s i f done) (hi : i < s.size) (hc : s[i] ≠ 32) : WdI s (i + 1) f done := by
  obtain ⟨h1, h2⟩ := h.on (by omega)
  refine ⟨by omega, by have := h.len; omega, by have := h.fle; omega, fun _ => ⟨h1, fun j hj hjs => ?_⟩, fun h => by omega⟩
  by_cases e : j = i
  · subst e; exact hc
  · exact h2 j (by omega) hjs
theorem WdI.last {s : ByteArray} {f : Nat} {done : List ByteArray} (h : WdI s s.size f done) : WdI s (s.size + 1) (s.size + 1) (done ++ [s.extract f s.size]) := by
  obtain ⟨h1, h2⟩ := h.on (Nat.le_refl _)
  refine ⟨Nat.le_refl _, by rw [List.length_append]; have := h.len; simp; omega, Nat.le_refl _, fun h => by omega, fun _ => ?_⟩
  rw [← h1, pieces_last s f h.fle (fun j hj => h2 j hj hj.2)]

set_option maxRecDepth 100000 in
set_option maxHeartbeats 4000000 in
theorem rPieces_any (s : ByteArray) (hs : s.size ≤ 999990) (w : World) : Calls Tryz.prog 136 #[.string s] w fun e w' => ∃ v, e = .returned v ∧ OwnS w.heap.size v (piecesF s) w' ∧ Below w.heap.size w w' := by
  go_enter Tryz.func136, Tryz.ntmps136
  go_wp2_with fail
  go_loopw [3, 4, 5] (fun vo vf vi wr => ∃ (i f : Nat) (done : List ByteArray), vi = .int .i64 i ∧ vf = .int .i64 f ∧ Hid (WdI s i f done) ∧ OwnS w.heap.size vo done wr ∧ Below w.heap.size w wr) (fun _ _ vi _ => s.size + 1 - (intOf vi).toNat)
  case atStart => exact ⟨0, 0, [], rfl, rfl, Lib.hid (wdI_start s), OwnS.nil _ _, Below.refl _ _⟩
  case round =>
    obtain ⟨i, f, done, rfl, rfl, hI, hO, hB⟩ := hrel
    have h1 := hI.out.le
    have h2 := hI.out.len
    have h3 := hI.out.fle
    by_cases hlt : i < s.size
    · obtain ⟨x, hx⟩ : ∃ x, s[i] = x := ⟨_, rfl⟩
      by_cases h32 : x = 32
      · have hI2 := Lib.hid (hI.out.cut hlt (by rw [hx]; exact h32))
        have e1 : ((x.toNat : Int) == 32) = true := by rw [h32]; rfl
        have e0 : ((i : Int) == (s.size : Int)) = false := beq_eq_false_iff_ne.2 (by omega)
        clear h32 hI
        go_wp2_with (at_builtin; refine append_S rfl _ _ rfl w.heap.size _ _ rfl (hO.bel (bel1 _)) ⟨wr.heap.size, 0, none⟩ 1 _ rfl (cell_new wr _ _ 0) rfl (by omega) (Nat.le_trans hB.size (by simp)) ?_; intro vo wo hO2 hg2 hb2)
        refine ⟨⟨i + 1, i + 1, _, by go_num, by go_num, hI2, hO2, (belA hB _).trans hb2⟩, by simp [intOf]; omega⟩
      · have hI2 := Lib.hid (hI.out.on1 hlt (by rw [hx]; exact h32))
        have e1 : ((x.toNat : Int) == 32) = false := beq_eq_false_iff_ne.2 (fun h => h32 (UInt8.toNat_inj.1 (by have : (32 : UInt8).toNat = 32 := rfl; omega)))
        have e0 : ((i : Int) == (s.size : Int)) = false := beq_eq_false_iff_ne.2 (by omega)
        clear h32 hI
        go_wp2
        exact ⟨⟨i + 1, f, done, by go_num, rfl, hI2, hO, hB⟩, by simp [intOf]; omega⟩
    · by_cases he : i = s.size
      · subst he
        have hI2 := Lib.hid hI.out.last
        clear hI
        go_wp2_with (at_builtin; refine append_S rfl _ _ rfl w.heap.size _ _ rfl (hO.bel (bel1 _)) ⟨wr.heap.size, 0, none⟩ 1 _ rfl (cell_new wr _ _ 0) rfl (by omega) (Nat.le_trans hB.size (by simp)) ?_; intro vo wo hO2 hg2 hb2)
        refine ⟨⟨s.size + 1, s.size + 1, _, by go_num, by go_num, hI2, hO2, (belA hB _).trans hb2⟩, by simp [intOf]⟩
      · have he2 : i = s.size + 1 := by omega
        have hF := Lib.hid (hI.out.off he2)
        subst he2
        clear hI
        go_wp2
        go_ret
        exact ⟨_, rfl, by rw [← hF.out]; exact hO, hB⟩
end Go.Proofs.YtfnfcngkaepnjaaGreatDoor
