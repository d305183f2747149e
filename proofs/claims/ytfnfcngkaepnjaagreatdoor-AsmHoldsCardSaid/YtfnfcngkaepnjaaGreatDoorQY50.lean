/- Joined texts: Layer 11: plain: lines of a program give it back; its text's lines are these; texts tell programs apart.; Layer 11: the walks as the rows call them. -/
import Derived.Test.YtfnfcngkaepnjaaGreatDoorQY49
/- Layer 11: plain: lines of a program give it back; its text's lines are these; texts tell programs apart. -/
namespace Go.Proofs.YtfnfcngkaepnjaaGreatDoor
set_option linter.unusedVariables false
set_option linter.unusedSimpArgs false
open Go Go.Proofs Go.RowKit Go.Sort

theorem pushF_last (F : List FnM) (r : Int) (d : List InsM) (x : InsM) : pushF (F ++ [⟨r, d⟩]) x = F ++ [⟨r, d ++ [x]⟩] := by
  have h : (F ++ [(⟨r, d⟩ : FnM)]).length - 1 = F.length := by simp
  unfold pushF
  rw [h, List.getElem?_append_right (Nat.le_refl _), Nat.sub_self, List.getElem?_cons_zero]
  simp
theorem step_ins (k : Nat) (F : List FnM) (r : Int) (d : List InsM) (mu rw gr : Int) (x : InsM) (h : rightF x.op x.a x.b x.c x.m = true) (hm : 0 ≤ x.m ∧ x.m < 4294967296) :
    stepO (k + 3) (insTx x) ⟨F ++ [⟨r, d⟩], mu, rw, gr⟩ = some ⟨F ++ [⟨r, d ++ [x]⟩], mu, rw, gr⟩ := by
  have h1 : insO (insTx x) = some x := insO_yes ⟨hm, h, by simp [insTx]⟩
  simp only [stepO, isFn_ins, Bool.false_eq_true, if_false, h1, Option.map_some, pushF_last]
  rw [if_neg (by simp)]
theorem isFn_head (n : Int) : isFn (lineF wFn n) = true := by
  unfold isFn Lib.hasPrefix lineF
  simp [ByteArray.data_append, wFn]
theorem step_func (k : Nat) (F : List FnM) (n : Int) (h0 : 0 ≤ n) (h9 : n ≤ 999) (mu rw gr : Int) : stepO (k + 3) (lineF wFn n) ⟨F, mu, rw, gr⟩ = some ⟨F ++ [⟨n, []⟩], mu, rw, gr⟩ := by
  simp only [stepO, isFn_head, if_true, numO_of n h0 h9 rfl, Option.map_some]
theorem lines_code (F : List FnM) (r : Int) (mu rw gr : Int) (rest : List ByteArray) : ∀ (code d : List InsM) (k : Nat), (∀ x ∈ code, rightF x.op x.a x.b x.c x.m = true ∧ 0 ≤ x.m ∧ x.m < 4294967296) →
    linesO (k + 3) (code.map insTx ++ rest) ⟨F ++ [⟨r, d⟩], mu, rw, gr⟩ = linesO (k + code.length + 3) rest ⟨F ++ [⟨r, d ++ code⟩], mu, rw, gr⟩
  | [], d, k, _ => by simp
  | x :: code, d, k, h => by
    have hx := h x (by simp)
    have ih := lines_code F r mu rw gr rest code (d ++ [x]) (k + 1) (fun y hy => h y (by simp [hy]))
    rw [List.map_cons, List.cons_append]
    simp only [linesO, step_ins k F r d mu rw gr x hx.1 hx.2]
    rw [show k + 3 + 1 = k + 1 + 3 by omega, ih, List.length_cons, show k + 1 + code.length + 3 = k + (code.length + 1) + 3 by omega, List.append_assoc]
    rfl
theorem lines_funcs (mu rw gr : Int) (rest : List ByteArray) : ∀ (G F : List FnM) (k : Nat), (∀ f ∈ G, 0 ≤ f.regs ∧ f.regs ≤ 999 ∧ ∀ x ∈ f.code, rightF x.op x.a x.b x.c x.m = true ∧ 0 ≤ x.m ∧ x.m < 4294967296) →
    ∃ k', linesO (k + 3) (G.flatMap fnLines ++ rest) ⟨F, mu, rw, gr⟩ = linesO (k' + 3) rest ⟨F ++ G, mu, rw, gr⟩
  | [], F, k, _ => ⟨k, by simp⟩
  | f :: G, F, k, h => by
    have hf := h f (by simp)
    obtain ⟨k', ih⟩ := lines_funcs mu rw gr rest G (F ++ [f]) (k + 1 + f.code.length) (fun g hg => h g (by simp [hg]))
    refine ⟨k', ?_⟩
    rw [List.flatMap_cons, List.append_assoc]
    unfold fnLines
    rw [List.cons_append]
    simp only [linesO, step_func k F f.regs hf.1 hf.2.1 mu rw gr]
    rw [show k + 3 + 1 = k + 1 + 3 by omega, lines_code F f.regs mu rw gr _ f.code [] (k + 1) hf.2.2]
    simp only [List.nil_append]
    have e : (⟨f.regs, f.code⟩ : FnM) = f := rfl
    rw [e]
    have ih' := ih
    unfold fnLines at ih'
    rw [ih', List.append_assoc]
    rfl
theorem right_parts {P : ProgM} (hP : P.Fits) (hR : rightP P = true) : (0 ≤ P.mu ∧ P.mu ≤ 999) ∧ (0 ≤ P.rw ∧ P.rw ≤ 999) ∧ (0 ≤ P.gr ∧ P.gr ≤ 999) ∧ 1 ≤ P.funcs.length ∧ ∀ f ∈ P.funcs, 0 ≤ f.regs ∧ f.regs ≤ 999 ∧ ∀ x ∈ f.code, rightF x.op x.a x.b x.c x.m = true ∧ 0 ≤ x.m ∧ x.m < 4294967296 := by
  obtain ⟨hn, haf⟩ := right_fits hR
  obtain ⟨⟨⟨hl1, hl32⟩, hmu, hrw, hgr⟩, hN2⟩ := (numbersF_iff P).1 hn
  refine ⟨by omega, by omega, by omega, by omega, fun f hf => ⟨?_, ?_, fun x hx => ⟨?_, hP.imm f hf x hx⟩⟩⟩
  · have := hN2 f hf; omega
  · have := hN2 f hf; omega
  · obtain ⟨k, hk, rfl⟩ := List.getElem_of_mem hf
    obtain ⟨j, hj, rfl⟩ := List.getElem_of_mem hx
    have h2 := haf k j _ _ (List.getElem?_eq_getElem hk) (List.getElem?_eq_getElem hj)
    unfold fineF fitsF at h2
    simp only [Bool.and_eq_true] at h2
    exact h2.1.1
/-- A program's lines give it back. -/
theorem lines_back {P : ProgM} (hP : P.Fits) (hR : rightP P = true) : linesO 0 (linesF P) zeroP = .ok P := by
  obtain ⟨hmu, hrw, hgr, _, hf⟩ := right_parts hP hR
  obtain ⟨k', hk⟩ := lines_funcs P.mu P.rw P.gr [] P.funcs [] 0 hf
  rw [List.append_nil, List.nil_append] at hk
  unfold linesF headLines
  simp only [List.cons_append, List.nil_append, linesO, stepO, numO_of P.mu hmu.1 hmu.2 rfl, numO_of P.rw hrw.1 hrw.2 rfl, numO_of P.gr hgr.1 hgr.2 rfl, Option.map_some]
  exact hk
theorem read_back {P : ProgM} (hP : P.Fits) (hR : rightP P = true) : readO (linesF P) true = .ok P := by
  obtain ⟨_, _, _, hl, _⟩ := right_parts hP hR
  have hw : wrongP P = none := by
    unfold rightP at hR
    unfold wrongP
    rw [Bool.and_eq_true] at hR
    rw [if_pos hR.1]
    simpa using hR.2
  unfold readO
  rw [lines_back hP hR]
  simp only [hw, hR]
  rw [if_neg (by omega)]
  simp

/-- Lines' text, split again. -/
theorem joined_join : ∀ (L : List ByteArray), joinedF L = joinS (L ++ [⟨#[]⟩]) 10
  | [] => rfl
  | x :: L => by
    have ih := joined_join L
    unfold joinS at ih ⊢
    rw [List.cons_append, List.map_cons]
    cases hL : (L ++ [(⟨#[]⟩ : ByteArray)]).map (·.data.toList) with
    | nil => simp at hL
    | cons y r =>
      rw [join_two, ← hL, ← ih]
      unfold joinedF
      rw [List.flatMap_cons]
      simp
theorem lines_no10 {P : ProgM} (hP : P.Fits) (hR : rightP P = true) : ∀ s ∈ linesF P, (10 : UInt8) ∉ s.data.toList := by
  obtain ⟨hmu, hrw, hgr, _, hf⟩ := right_parts hP hR
  have hl : ∀ (word : ByteArray) (n : Int), (10 : UInt8) ∉ word.data.toList → 0 ≤ n → (10 : UInt8) ∉ (lineF word n).data.toList := fun word n h h0 => by
    unfold lineF
    simp only [ByteArray.data_append, Array.toList_append, List.mem_append, not_or]
    exact ⟨⟨h, by decide⟩, itoa_no10 h0⟩
  intro s hs
  unfold linesF headLines at hs
  rcases List.mem_append.1 hs with hs | hs
  · simp only [List.mem_cons, List.not_mem_nil, or_false] at hs
    rcases hs with rfl | rfl | rfl
    · exact hl _ _ (by decide) hmu.1
    · exact hl _ _ (by decide) hrw.1
    · exact hl _ _ (by decide) hgr.1
  · obtain ⟨f, hff, hs⟩ := List.mem_flatMap.1 hs
    unfold fnLines at hs
    rcases List.mem_cons.1 hs with rfl | hs
    · exact hl _ _ (by decide) (hf f hff).1
    · obtain ⟨x, hx, rfl⟩ := List.mem_map.1 hs
      have := textF_no10 x.op x.a x.b x.c x.m
      simpa [insTx] using this
theorem nl_print {P : ProgM} (hP : P.Fits) (hR : rightP P = true) : nlF (printS P) = linesF P ++ [⟨#[]⟩] := by
  have h10 := lines_no10 hP hR
  unfold printS
  rw [if_pos hR]
  refine splitB_join 10 (linesF P ++ [⟨#[]⟩]) (by simp) (fun x hx => ?_) ⟨(joinedF (linesF P)).toArray⟩ (by rw [← joined_join])
  rcases List.mem_append.1 hx with hx | hx
  · exact h10 x hx
  · simp only [List.mem_cons, List.not_mem_nil, or_false] at hx
    subst hx
    simp
theorem lns_print {P : ProgM} (hP : P.Fits) (hR : rightP P = true) : lnsO (nlF (printS P)) = linesF P ∧ endO (nlF (printS P)) = true := by
  rw [nl_print hP hR]
  have hl : (linesF P ++ [(⟨#[]⟩ : ByteArray)])[(linesF P ++ [(⟨#[]⟩ : ByteArray)]).length - 1]? = some ⟨#[]⟩ := by simp
  obtain ⟨h1, h2⟩ := lnsO_on hl (by rw [toList_data]; rfl)
  refine ⟨?_, h1⟩
  rw [h2]
  simp
/-- Texts tell programs apart. -/
theorem print_inj {P Q : ProgM} (hP : P.Fits) (hQ : Q.Fits) (h1 : rightP P = true) (h2 : rightP Q = true) (h : printS P = printS Q) : P = Q := by
  have e1 := (lns_print hP h1).1
  have e2 := (lns_print hQ h2).1
  rw [h, e2] at e1
  have r1 := lines_back hP h1
  have r2 := lines_back hQ h2
  rw [← e1, r2] at r1
  injection r1 with r1
  exact r1.symm
end Go.Proofs.YtfnfcngkaepnjaaGreatDoor

/- Layer 11: the walks as the rows call them. -/
namespace Go.Proofs.YtfnfcngkaepnjaaGreatDoor
set_option linter.unusedVariables false
open Go Go.Proofs Go.RowKit

theorem asmHolds_row (u : Value) (P : ProgM) (v : Value) (Q : ProgM) (w : World) (hE : EnvM w) (hu : ArgP w u P) (hP : P.Fits) (hsP : fewSum (P.funcs.take 40) ≤ 4611686018427387904) (hv : ArgP w v Q) (hQ : Q.Fits) (hsQ : fewSum (Q.funcs.take 40) ≤ 4611686018427387904) :
    Calls Tryz.prog 8 #[u, v] w fun e w' => e = .returned (.bool true) ∧ Below w.heap.size w w' :=
  asmHolds_any P Q hP hQ hsP hsQ (fun h1 h2 h => print_inj hP hQ h1 h2 h) u v w hE hu hv
end Go.Proofs.YtfnfcngkaepnjaaGreatDoor
