/- Walk of the reference of layer 7: Parse. -/
import Derived.Test.YtgjibnfdaigpkaaDoorSiP
namespace Go.Proofs.YtgjibnfdaigpkaaDoor
set_option linter.unusedVariables false
open Go Go.Proofs Go.RowKit Go.Sort

/-- A site's text: where its letter and its colon stand; what stands between, and behind. -/
theorem text_parts (s : ByteArray) (f p : Nat) (h : textS f p = s.data.toList) :
    s.data.toList[0]? = some (102 : UInt8) ∧ s.data.toList[(Lib.decDigits f).length + 1]? = some (58 : UInt8) ∧ (Lib.decDigits f).length + 1 < s.size ∧
      (s.extract 1 ((Lib.decDigits f).length + 1)).data.toList = Lib.decDigits f ∧ (s.extract ((Lib.decDigits f).length + 1 + 1) s.size).data.toList = Lib.decDigits p := by
  have hl : s.data.toList.length = s.size := by rw [Lib.size_eq]
  have h0 : s.size = (Lib.decDigits f).length + (Lib.decDigits p).length + 2 := by rw [← hl, ← h]; simp [textS]; omega
  refine ⟨by rw [← h]; rfl, ?_, by omega, ?_, ?_⟩
  · rw [← h]; simp [textS]
  · rw [Lib.extract_data, ← h]; simp [textS]
  · rw [Lib.extract_data, ← hl, ← h]
    simp [textS]
    rw [List.take_of_length_le (by omega)]

/-- No text of a site has its colon ahead of k. -/
def lateS (s : ByteArray) (k : Nat) : Prop := ∀ f p : Nat, f < 32 → p < 512 → textS f p = s.data.toList → k ≤ (Lib.decDigits f).length + 1

theorem late_one (s : ByteArray) : lateS s 1 := fun f p _ _ _ => by omega
theorem late_end (s : ByteArray) (k : Nat) (h : s.size ≤ k) (hl : lateS s k) : ∀ f p : Nat, f < 32 → p < 512 → textS f p ≠ s.data.toList := by
  intro f p hf hp he
  have := hl f p hf hp he
  have := (text_parts s f p he).2.2.1
  omega
theorem late_step (s : ByteArray) (k : Nat) (hl : lateS s k) (h : s.data.toList[0]? ≠ some (102 : UInt8) ∨ s.data.toList[k]? ≠ some (58 : UInt8)) : lateS s (k + 1) := by
  intro f p hf hp he
  have h1 := hl f p hf hp he
  obtain ⟨h2, h3, _⟩ := text_parts s f p he
  rcases Nat.lt_or_ge k ((Lib.decDigits f).length + 1) with h4 | h4
  · omega
  · exfalso
    obtain rfl : k = (Lib.decDigits f).length + 1 := by omega
    rcases h with h | h
    · exact h h2
    · exact h h3
theorem late_stop (s : ByteArray) (k : Nat) (hl : lateS s k) (h : ∀ f p : Nat, f < 32 → p < 512 → textS f p = s.data.toList → dgF 0 (s.extract 1 k).data.toList = some f → dgF 0 (s.extract (k + 1) s.size).data.toList = some p → (s.extract 1 k).data.toList ≠ [] → (s.extract (k + 1) s.size).data.toList ≠ [] → False) : lateS s (k + 1) := by
  intro f p hf hp he
  have h1 := hl f p hf hp he
  obtain ⟨h2, h3, h4, h5, h6⟩ := text_parts s f p he
  rcases Nat.lt_or_ge k ((Lib.decDigits f).length + 1) with h7 | h7
  · omega
  · exfalso
    obtain rfl : k = (Lib.decDigits f).length + 1 := by omega
    refine h f p hf hp he ?_ ?_ ?_ ?_
    · rw [h5]; exact dgF_dec f (by omega)
    · rw [h6]; exact dgF_dec p (by omega)
    · rw [h5]; exact dec_ne f
    · rw [h6]; exact dec_ne p

theorem rRight_yes (f p : Nat) (hf : f < 32) (hp : p < 512) (w : World) :
    Calls Tryd.prog 11 #[.agg #[.int .i64 f, .int .i64 p]] w fun e w' => e = .returned (.bool true) ∧ Below w.heap.size w w' := by
  have h := rRight_any f p w
  rw [show rgF f p = true from decide_eq_true (by omega)] at h
  exact h
theorem rRight_no (f p : Int) (h : ¬ (0 ≤ f ∧ f < 32 ∧ 0 ≤ p ∧ p < 512)) (w : World) :
    Calls Tryd.prog 11 #[.agg #[.int .i64 f, .int .i64 p]] w fun e w' => e = .returned (.bool false) ∧ Below w.heap.size w w' := by
  have h' := rRight_any f p w
  rw [show rgF f p = false from decide_eq_false h] at h'
  exact h'

/-- A byte that is another one. -/
theorem byte_ne (c d : UInt8) (h : c ≠ d) : ((c.toNat : Int) == (d.toNat : Int)) = false := by
  rw [beq_eq_false_iff_ne]
  intro h2
  exact h (UInt8.toNat_inj.1 (by omega))

theorem froz_al {w : World} {b o : Nat} {v : Value} (h : w.cell? ⟨b, o, none⟩ = some v) (hf : w.frozen? ⟨b, o, none⟩ = false) (x : Obj) : (w.alloc x).frozen? ⟨b, o, none⟩ = false := froz_bel h hf (bel1 x)
theorem toList_data (s : ByteArray) : s.toList = s.data.toList := ByteArray.toList_eq ..

set_option maxRecDepth 100000 in
set_option maxHeartbeats 2000000 in
theorem rParse_any (s : ByteArray) (hs : s.size ≤ 1000) (w : World) (hE : Env w) :
    Calls Tryd.prog 9 #[.string s] w fun e w' => sitePost s e ∧ Below w.heap.size w w' := by
  have hat : ∀ k (h : k < s.size), s[k]'h = s.data.toList[k]'(by rw [← Lib.size_eq]; exact h) := fun k h => rfl
  have HAT := Lib.hid hat
  clear hat
  go_enter Tryd.func9, Tryd.ntmps9
  go_wp2
  go_loopw [4] (fun vi wr => ∃ k : Nat, vi = .int .i64 k ∧ 1 ≤ k ∧ k ≤ s.size + 1 ∧ Hid (lateS s k) ∧ wr.cell? ⟨w.heap.size, 0, none⟩ = some (.int .i64 0) ∧ wr.cell? ⟨w.heap.size, 1, none⟩ = some (.int .i64 0) ∧ wr.frozen? ⟨w.heap.size, 0, none⟩ = false ∧ wr.frozen? ⟨w.heap.size, 1, none⟩ = false ∧ Below w.heap.size w wr)
    (fun vi _ => s.size + 1 - (intOf vi).toNat)
  case atStart => exact ⟨1, rfl, by omega, by omega, Lib.hid (late_one s), cell_new w _ _ 0, cell_new w _ _ 1, by simp, by simp, bel1 _⟩
  case round =>
    obtain ⟨k, rfl, hk0, hk1, hb, q0, q1, qf, qg, hB⟩ := hrel
    by_cases hkn : k < s.size
    · have hc := HAT.out k hkn
      have hz0 : 0 < s.size := by omega
      have hc0 := HAT.out 0 hz0
      obtain ⟨c, hcc⟩ : ∃ c, c = s.data.toList[k]'(by rw [← Lib.size_eq]; exact hkn) := ⟨_, rfl⟩
      obtain ⟨c', hcc'⟩ : ∃ c, c = s.data.toList[0]'(by rw [← Lib.size_eq]; exact hz0) := ⟨_, rfl⟩
      rw [← hcc] at hc
      rw [← hcc'] at hc0
      have HC := Lib.hid (show s.data.toList[k]? = some c by rw [hcc, List.getElem?_eq_getElem])
      have HC0 := Lib.hid (show s.data.toList[0]? = some c' by rw [hcc', List.getElem?_eq_getElem])
      clear hcc hcc'
      have hc256 : c.toNat < 256 := c.toNat_lt
      by_cases h102 : c' = 102
      · subst h102
        by_cases h58 : c = 58
        · subst h58
          have b1 : 0 ≤ (k : Int) + 1 := by omega
          have b2 : (k : Int) + 1 ≤ s.size := by omega
          have z1 : (s.extract 1 k).size ≤ 1000000 := by rw [ByteArray.size_extract]; omega
          have z2 : (s.extract (k + 1) s.size).size ≤ 1000000 := by rw [ByteArray.size_extract]; omega
          have D1 := Lib.hid fun w => digits_any (s.extract 1 k) z1 w
          have D2 := Lib.hid fun w => digits_any (s.extract (k + 1) s.size) z2 w
          have HG := Lib.hid (late_stop s k hb.out)
          clear hb HAT
          go_wp2_with fail
          refine (D1.out _).mono ?_
          rintro e w1 ⟨p1, rfl⟩
          generalize hsa : s.extract 1 k = sa at HG D1 z1 p1 ⊢
          clear hsa D1 z1
          rcases p1 with ⟨n1, q1', q2', q3', rfl⟩ | ⟨q1', v1, hv1, rfl⟩
          · have Q1 := Lib.hid q1'
            clear q1' q2'
            go_wp2_with fail
            refine (D2.out _).mono ?_
            rintro e w2 ⟨p2, rfl⟩
            generalize hsb : s.extract (k + 1) s.size = sb at HG D2 z2 p2 ⊢
            clear hsb D2 z2
            rcases p2 with ⟨n2, r1', r2', r3', rfl⟩ | ⟨r1', v2, hv2, rfl⟩
            · have R1 := Lib.hid r1'
              clear r1' r2'
              have hEr := hE.on hB
              by_cases hg : n1 < 32 ∧ n2 < 512
              · obtain ⟨g1, g2⟩ := hg
                go_wp2_with (first
                  | (go_at_call 11; refine (rRight_yes n1 n2 g1 g2 _).mono ?_; rintro e w3 ⟨rfl, hb3⟩; have m0 := cell_bel (cell_new wr #[.int .i64 n1, .int .i64 n2] 23 0) hb3; have m1 := cell_bel (cell_new wr #[.int .i64 n1, .int .i64 n2] 23 1) hb3; have qf := froz_bel (cell_al q0 _) (froz_al q0 qf _) hb3; have qg := froz_bel (cell_al q1 _) (froz_al q1 qg _) hb3; have q0 := cell_bel (cell_al q0 _) hb3; have q1 := cell_bel (cell_al q1 _) hb3; have hE3 := hEr.on (belT (bel1 _) hb3); have hB := belT (belA hB _) hb3; clear hb3 hEr)
                  | (go_at_call 13; refine (rText_any n1 n2 g1 g2 _ hE3).mono ?_; rintro e w4 ⟨rfl, hb4⟩; have m0 := cell_bel m0 hb4; have m1 := cell_bel m1 hb4; have qf := froz_bel q0 qf hb4; have qg := froz_bel q1 qg hb4; have q0 := cell_bel q0 hb4; have q1 := cell_bel q1 hb4; have hB := belT hB hb4; clear hb4 hE3))
                · have hx : (textS n1 n2 == s.toList) = true := by assumption
                  obtain ⟨r0, r1⟩ := two_stored q0 q1 (.int .i64 n1) (.int .i64 n2)
                  have hB7 := (hB.setCell (p := ⟨w.heap.size, 0, none⟩) (Nat.le_refl _) (.int .i64 n1)).setCell (p := ⟨w.heap.size, 1, none⟩) (Nat.le_refl _) (.int .i64 n2)
                  generalize (w4.setCell _ _).setCell _ _ = w7 at r0 r1 hB7 ⊢
                  refine bodyPost_ret (v := .tuple #[.agg #[.int .i64 n1, .int .i64 n2], .int .i64 0]) (by simp [results, Tryd.results9, go_sem, r0, r1]) rfl ?_
                  refine ⟨Or.inl ⟨n1, n2, g1, g2, ?_, rfl⟩, hB7⟩
                  rw [toList_data] at hx; simpa using hx
                · have hx : (textS n1 n2 == s.toList) = false := by assumption
                  have HL : Hid (lateS s (k + 1)) := Lib.hid (HG.out fun f p _ _ he e1 e2 _ _ => by
                    obtain rfl := Option.some.inj (Q1.out.symm.trans e1)
                    obtain rfl := Option.some.inj (R1.out.symm.trans e2)
                    rw [he, toList_data] at hx
                    simp at hx)
                  exact ⟨⟨k + 1, by go_num, by omega, by omega, HL, q0, q1, qf, qg, hB⟩, by simp [intOf]; omega⟩
              · have HL : Hid (lateS s (k + 1)) := Lib.hid (HG.out fun f p hf hp he e1 e2 _ _ => by
                    obtain rfl := Option.some.inj (Q1.out.symm.trans e1)
                    obtain rfl := Option.some.inj (R1.out.symm.trans e2)
                    exact hg ⟨hf, hp⟩)
                have hg' : ¬ (0 ≤ (n1 : Int) ∧ (n1 : Int) < 32 ∧ 0 ≤ (n2 : Int) ∧ (n2 : Int) < 512) := by omega
                have HN := Lib.hid hg'
                clear hg hg'
                go_wp2_with (first
                  | (go_at_call 11; refine (rRight_no n1 n2 HN.out _).mono ?_; rintro e w3 ⟨rfl, hb3⟩; have qf := froz_bel (cell_al q0 _) (froz_al q0 qf _) hb3; have qg := froz_bel (cell_al q1 _) (froz_al q1 qg _) hb3; have q0 := cell_bel (cell_al q0 _) hb3; have q1 := cell_bel (cell_al q1 _) hb3; have hB := belT (belA hB _) hb3; clear hb3 hEr))
                exact ⟨⟨k + 1, by go_num, by omega, by omega, HL, q0, q1, qf, qg, hB⟩, by simp [intOf]; omega⟩
            · have HL : Hid (lateS s (k + 1)) := Lib.hid (HG.out fun f p hf hp he e1 e2 e3 e4 => by
                    rcases r1' with h | h
                    · rw [h] at e2; cases e2
                    · exact e4 h)
              clear r1'
              go_wp2_with fail
              exact ⟨⟨k + 1, by go_num, by omega, by omega, HL, cell_al q0 _, cell_al q1 _, froz_al q0 qf _, froz_al q1 qg _, belA hB _⟩, by simp [intOf]; omega⟩
          · have HL : Hid (lateS s (k + 1)) := Lib.hid (HG.out fun f p hf hp he e1 e2 e3 e4 => by
                    rcases q1' with h | h
                    · rw [h] at e1; cases e1
                    · exact e3 h)
            clear q1' HG
            go_wp2_with fail
            refine (D2.out _).mono ?_
            rintro e w2 ⟨p2, rfl⟩
            generalize hsb : s.extract (k + 1) s.size = sb at D2 z2 p2 ⊢
            clear hsb D2 z2
            rcases p2 with ⟨n2, r1', r2', r3', rfl⟩ | ⟨r1', v2, hv2, rfl⟩
            · clear r1' r2'
              go_wp2_with fail
              exact ⟨⟨k + 1, by go_num, by omega, by omega, HL, cell_al q0 _, cell_al q1 _, froz_al q0 qf _, froz_al q1 qg _, belA hB _⟩, by simp [intOf]; omega⟩
            · clear r1'
              go_wp2_with fail
              exact ⟨⟨k + 1, by go_num, by omega, by omega, HL, cell_al q0 _, cell_al q1 _, froz_al q0 qf _, froz_al q1 qg _, belA hB _⟩, by simp [intOf]; omega⟩
        · have e58 : ((c.toNat : Int) == 58) = false := byte_ne c 58 h58
          have HL := Lib.hid (late_step s k hb.out (Or.inr (by rw [HC.out]; intro h; exact h58 (Option.some.inj h))))
          clear hb h58 HAT
          go_wp2
          exact ⟨⟨k + 1, by go_num, by omega, by omega, HL, q0, q1, qf, qg, hB⟩, by simp [intOf]; omega⟩
      · have e102 : ((c'.toNat : Int) == 102) = false := byte_ne c' 102 h102
        have HL := Lib.hid (late_step s k hb.out (Or.inl (by rw [HC0.out]; intro h; exact h102 (Option.some.inj h))))
        clear hb h102 HAT
        go_wp2
        exact ⟨⟨k + 1, by go_num, by omega, by omega, HL, q0, q1, qf, qg, hB⟩, by simp [intOf]; omega⟩
    · have HN := Lib.hid (late_end s k (by omega) hb.out)
      clear hb HAT
      go_wp2
      obtain ⟨r0, r1⟩ := two_stored q0 q1 (.int .i64 0) (.int .i64 0)
      have hB7 := (hB.setCell (p := ⟨w.heap.size, 0, none⟩) (Nat.le_refl _) (.int .i64 0)).setCell (p := ⟨w.heap.size, 1, none⟩) (Nat.le_refl _) (.int .i64 0)
      generalize (wr.setCell _ _).setCell _ _ = w7 at r0 r1 hB7 ⊢
      refine bodyPost_ret (v := .tuple #[.agg #[.int .i64 0, .int .i64 0], .int .i64 170]) (by simp [results, Tryd.results9, go_sem, r0, r1]) rfl ?_
      exact ⟨Or.inr ⟨HN.out, rfl⟩, hB7⟩
end Go.Proofs.YtgjibnfdaigpkaaDoor
