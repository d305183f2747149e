/- Joined texts: Package program: Check.; The reference of layer 8: plain laws of texts, of what stands between blanks, of numbers.; The reference of layers 5 and 8: lists of words; what a word is; numbers. -/
import Derived.Test.YtfnfcngkaepnjaaGreatDoorQY40
import Derived.Test.YtfnfcngkaepnjaaGreatDoorQY25
import Derived.Test.YtfnfcngkaepnjaaGreatDoorQY19
import Derived.Test.YtfnfcngkaepnjaaGreatDoorQY18
import Derived.Test.YtfnfcngkaepnjaaGreatDoorQY12
/- Package program: Check. -/
namespace Go.Proofs.YtfnfcngkaepnjaaGreatDoor
set_option linter.unusedVariables false
set_option linter.unusedSimpArgs false
open Go Go.Proofs Go.RowKit

noncomputable def checkP (P : ProgM) : Int := if rightP P = true then 0 else 2

set_option maxRecDepth 100000 in
set_option maxHeartbeats 2000000 in
theorem pgCheck_any (P : ProgM) (hP : P.Fits) (hl0 : P.funcs.length ≤ 100000) (v : Value) (w : World) (h : ArgP w v P) :
    Calls Tryz.prog 61 #[v] w fun e w' => e = .returned (.int .i64 (checkP P)) ∧ Below w.heap.size w w' := by
  have CN := Lib.hid fun v W h => pgNumbers_any P hl0 v W h
  have CW := Lib.hid fun v W h => pgWrong_any P hP hl0 v W h
  obtain ⟨vf, rfl, hF⟩ := h
  have HPG := Lib.hid (PrgB.new w 58 hF)
  have HB := Lib.hid (bel1 (W := w) (.cells #[vf, .int .i64 P.mu, .int .i64 P.rw, .int .i64 P.gr] 58))
  obtain ⟨c0, c1, c2, c3, _⟩ := HPG.out
  have HQ : Hid (numbersF P = false ∧ rightP P = false ∨ numbersF P = true ∧ wrongP P = none ∧ rightP P = true ∨ ∃ f pc, numbersF P = true ∧ wrongP P = some (f, pc) ∧ rightP P = false) := Lib.hid (by
    unfold wrongP rightP
    cases numbersF P with
    | false => exact Or.inl ⟨rfl, rfl⟩
    | true =>
      cases wrongF P.funcs with
      | none => exact Or.inr (Or.inl ⟨rfl, rfl, rfl⟩)
      | some q => exact Or.inr (Or.inr ⟨q.1, q.2, rfl, rfl, rfl⟩))
  unfold checkP
  rcases HQ.out with ⟨h1, h3⟩ | ⟨h1, h2, h3⟩ | ⟨f, pc, h1, h2, h3⟩
  · rw [h1] at CN
    rw [h3, if_neg (by decide)]
    clear h1 h3 HQ CW
    go_enter Tryz.func61, Tryz.ntmps61
    go_wp2
    refine wp_scope_fwd 0 rfl ?_
    go_wp2_with (refine (CN.out _ _ HPG.out.arg).mono ?_; rintro e w1 ⟨rfl, hb1⟩)
    go_step3
    refine ⟨rfl, ?_⟩
    go_wp2
    rw [Exit.noGoto_ret]
    go_ret
    exact ⟨rfl, belT HB.out hb1⟩
  · rw [h1] at CN
    rw [h2] at CW
    rw [h3, if_pos rfl]
    clear h1 h2 h3 HQ
    unfold wrongV at CW
    go_enter Tryz.func61, Tryz.ntmps61
    go_wp2
    refine wp_scope_fwd 0 rfl ?_
    go_wp2_with (fail)
    refine (CN.out _ _ HPG.out.arg).mono ?_
    rintro e w1 ⟨rfl, hb1⟩
    clear c0 c1 c2 c3
    have HPG1 := Lib.hid (HPG.out.bel hb1)
    obtain ⟨c0, c1, c2, c3, _⟩ := HPG1.out
    go_wp2_with (fail)
    refine (CW.out _ _ HPG1.out.arg).mono ?_
    rintro e w2 ⟨rfl, hb2⟩
    go_wp2_with (fail)
    rw [fwd_ret]
    go_ret
    exact ⟨rfl, belA (belT (belT HB.out hb1) hb2) _⟩
  · rw [h1] at CN
    rw [h2] at CW
    rw [h3, if_neg (by decide)]
    clear h1 h2 h3 HQ
    unfold wrongV at CW
    dsimp only at CW
    go_enter Tryz.func61, Tryz.ntmps61
    go_wp2
    refine wp_scope_fwd 0 rfl ?_
    go_wp2_with (fail)
    refine (CN.out _ _ HPG.out.arg).mono ?_
    rintro e w1 ⟨rfl, hb1⟩
    clear c0 c1 c2 c3
    have HPG1 := Lib.hid (HPG.out.bel hb1)
    obtain ⟨c0, c1, c2, c3, _⟩ := HPG1.out
    go_wp2_with (fail)
    refine (CW.out _ _ HPG1.out.arg).mono ?_
    rintro e w2 ⟨rfl, hb2⟩
    go_wp2_with (fail)
    go_step3
    refine ⟨rfl, ?_⟩
    go_wp2
    rw [Exit.noGoto_ret]
    go_ret
    exact ⟨rfl, belA (belT (belT HB.out hb1) hb2) _⟩
end Go.Proofs.YtfnfcngkaepnjaaGreatDoor

/- The reference of layer 8: plain laws of texts, of what stands between blanks, of numbers. -/
namespace Go.Proofs.YtfnfcngkaepnjaaGreatDoor
set_option linter.unusedVariables false
set_option linter.unusedSimpArgs false
open Go Go.Proofs Go.RowKit

/-- What a letter adds to a text. -/
def letT (x : Nat) (a b c m : Int) : List UInt8 :=
  if x = 97 then [32, 114] ++ Lib.decDigits a.toNat else if x = 98 then [32, 114] ++ Lib.decDigits b.toNat else if x = 99 then [32, 114] ++ Lib.decDigits c.toNat
  else if x = 110 then [32] ++ Lib.decDigits c.toNat else if x = 105 then [32] ++ Lib.decDigits m.toNat else if x = 102 then [32, 102] ++ Lib.decDigits m.toNat else []
def textR (op a b c m : Int) : List UInt8 := (insN op m).data.toList ++ (namesR op).data.toList.flatMap fun x => letT x.toNat a b c m

theorem join_flat : ∀ (r : List (List UInt8)) (x : List UInt8) (c : UInt8), Lib.join (x :: r) [c] = x ++ r.flatMap fun y => [c] ++ y
  | [], x, c => by simp [Lib.join_one]
  | y :: r, x, c => by rw [join_two, join_flat r y c]; simp

def partX (a b c m : Int) (p : Part) : List UInt8 := [32] ++ (p.mark.data.toList ++ Lib.decDigits (getF p a b c m).toNat)
theorem partX_eq (a b c m : Int) (p : Part) : [32] ++ (partT a b c m p).data.toList = partX a b c m p := by
  unfold partT partX
  simp only [ByteArray.data_append, Array.toList_append]
theorem textF_flat (op a b c m : Int) : textF op a b c m = (insN op m).data.toList ++ (textP ((namedL.lookup op).getD [])).flatMap (partX a b c m) := by
  unfold textF textL joinS
  rw [List.map_cons, join_flat, List.map_map, List.flatMap_map]
  congr 1

theorem flat_eq (a b c m : Int) : ∀ k : Nat, k < 19 → (textP ((namedL.lookup ((k : Int) + 1)).getD [])).flatMap (partX a b c m) = (namesR ((k : Int) + 1)).data.toList.flatMap (fun x => letT x.toNat a b c m)
  | 0, _ => by kernel_rfl
  | 1, _ => by kernel_rfl
  | 2, _ => by kernel_rfl
  | 3, _ => by kernel_rfl
  | 4, _ => by kernel_rfl
  | 5, _ => by kernel_rfl
  | 6, _ => by kernel_rfl
  | 7, _ => by kernel_rfl
  | 8, _ => by kernel_rfl
  | 9, _ => by kernel_rfl
  | 10, _ => by kernel_rfl
  | 11, _ => by kernel_rfl
  | 12, _ => by kernel_rfl
  | 13, _ => by kernel_rfl
  | 14, _ => by kernel_rfl
  | 15, _ => by kernel_rfl
  | 16, _ => by kernel_rfl
  | 17, _ => by kernel_rfl
  | 18, _ => by kernel_rfl
  | n + 19, h => absurd h (by omega)

theorem textR_F (op a b c m : Int) (h : 1 ≤ op ∧ op ≤ 19) : textR op a b c m = textF op a b c m := by
  obtain ⟨k, rfl⟩ : ∃ k : Nat, op = (k : Int) + 1 := ⟨(op - 1).toNat, by omega⟩
  rw [textF_flat, flat_eq a b c m k (by omega)]
  rfl

/-- Pieces: the first one, and those behind it. -/
theorem pieces_hit (s : ByteArray) (i : Nat) (hi : Lib.indexB s ⟨#[32]⟩ = i) : piecesF s = s.extract 0 i :: piecesF (s.extract (i + 1) s.size) := by
  unfold piecesF
  rw [Lib.countB_hit s ⟨#[32]⟩ i (by show 1 ≤ 1; omega) hi, Nat.add_comm 1, Lib.splitB_hit _ _ _ _ i hi]
  rfl
theorem pieces_miss (s : ByteArray) (hi : Lib.indexB s ⟨#[32]⟩ = -1) : piecesF s = [s] := by
  unfold piecesF
  exact Lib.splitB_miss _ _ _ _ hi

theorem ext_list (s : ByteArray) (i j : Nat) : (s.extract i j).data.toList = (s.data.toList.take j).drop i := by
  simp [ByteArray.data_extract, Array.toList_extract, List.drop_take]

theorem index_at (l : List UInt8) (k : Nat) (h : k < l.length) (hk : l[k] = 32) (hn : ∀ j (hj : j < k), l[j]'(by omega) ≠ 32) : Lib.indexByte l 32 = k := by
  have e : l = l.take k ++ 32 :: l.drop (k + 1) := by
    conv => lhs; rw [← List.take_append_drop k l, List.drop_eq_getElem_cons h, hk]
  rw [e, index_behind 32 (l.take k) _ (fun hm => by
    obtain ⟨j, hj, he⟩ := List.mem_iff_getElem.1 hm
    rw [List.length_take] at hj
    rw [List.getElem_take] at he
    exact hn j (by omega) he), List.length_take]
  omega

/-- One step of going over a string's pieces. -/
theorem pieces_step (s : ByteArray) (f i : Nat) (hf : f ≤ i) (hi : i < s.size) (h : s[i] = 32) (hn : ∀ j (hj : f ≤ j ∧ j < i), s[j]'(by omega) ≠ 32) :
    piecesF (s.extract f s.size) = s.extract f i :: piecesF (s.extract (i + 1) s.size) := by
  have hl : (s.extract f s.size).data.toList = s.data.toList.drop f := by
    rw [ext_list, List.take_of_length_le (by rw [← Lib.size_eq]; exact Nat.le_refl _)]
  have hix : Lib.indexB (s.extract f s.size) ⟨#[32]⟩ = ((i - f : Nat) : Int) := by
    show Lib.index (s.extract f s.size).data.toList [32] = _
    rw [Lib.index_one, hl]
    refine index_at _ _ (by rw [List.length_drop, ← Lib.size_eq]; omega) ?_ ?_
    · rw [List.getElem_drop]
      have : f + (i - f) = i := by omega
      simp only [this]
      exact h
    · intro j hj
      rw [List.getElem_drop]
      exact hn (f + j) ⟨by omega, by omega⟩
  rw [pieces_hit _ _ hix]
  congr 1
  · rw [ByteArray.extract_extract]
    congr 1
    · omega
  · congr 1
    rw [ByteArray.extract_extract, ByteArray.size_extract]
    congr 1 <;> omega
theorem pieces_last (s : ByteArray) (f : Nat) (hf : f ≤ s.size) (hn : ∀ j (hj : f ≤ j ∧ j < s.size), s[j]'(hj.2) ≠ 32) : piecesF (s.extract f s.size) = [s.extract f s.size] := by
  refine pieces_miss _ ?_
  show Lib.index (s.extract f s.size).data.toList [32] = _
  have hl : (s.extract f s.size).data.toList = s.data.toList.drop f := by
    rw [ext_list, List.take_of_length_le (by rw [← Lib.size_eq]; exact Nat.le_refl _)]
  rw [Lib.index_one, hl]
  refine index_not _ _ (fun hm => ?_)
  obtain ⟨j, hj, he⟩ := List.mem_iff_getElem.1 hm
  rw [List.length_drop, ← Lib.size_eq] at hj
  rw [List.getElem_drop] at he
  exact hn (f + j) ⟨by omega, by omega⟩ he

/-- A number's digits, as far as they were read. -/
theorem puF_step {M n x : Nat} {ch : UInt8} {l : List UInt8} (h : puF M n (ch :: l) = some x) : (48 ≤ ch.toNat ∧ ch.toNat ≤ 57) ∧ n * 10 + (ch.toNat - 48) ≤ M ∧ puF M (n * 10 + (ch.toNat - 48)) l = some x := by
  simp only [puF] at h
  split at h
  · split at h
    · cases h
    · exact ⟨‹_›, by omega, h⟩
  · cases h
end Go.Proofs.YtfnfcngkaepnjaaGreatDoor

/- The reference of layers 5 and 8: lists of words; what a word is; numbers. -/
namespace Go.Proofs.YtfnfcngkaepnjaaGreatDoor
set_option linter.unusedVariables false
open Go Go.Proofs Go.RowKit

/-- A row of strings. -/
def RowS (B : Nat) (L : List ByteArray) (w : World) : Prop := ∀ j x, L[j]? = some x → w.cell? ⟨B, j, none⟩ = some (.string x)
theorem RowS.bel {B : Nat} {L : List ByteArray} {w w' : World} (h : RowS B L w) (hb : Below w.heap.size w w') : RowS B L w' := fun j x hj => cell_bel (h j x hj) hb
theorem rowS_new (L : List ByteArray) (w : World) (t : TypeId) : RowS w.heap.size L (w.alloc (.cells (L.map Value.string).toArray t)) := fun j x hj => by
  refine (cell_new w _ t j).trans ?_
  simp [hj]

def wordRL : List ByteArray := wordL.drop 1
/-- What Words and Names tell. -/
def RowQ (L : List ByteArray) (w : World) (e : Ending) (w' : World) : Prop := ∃ B, e = .returned (.slice (some ⟨B, 0, none⟩) L.length L.length) ∧ RowS B L w' ∧ Below w.heap.size w w'

theorem rWords_any (w : World) : Calls Tryz.prog 134 #[] w (RowQ wordRL w) := by
  have HR := Lib.hid (rowS_new wordRL w 9)
  go_enter Tryz.func134, Tryz.ntmps134
  go_wp2
  go_ret
  exact ⟨_, rfl, HR.out, bel1 _⟩
theorem rKinds_any (w : World) : Calls Tryz.prog 135 #[] w (RowQ kindL w) := by
  have HR := Lib.hid (rowS_new kindL w 9)
  go_enter Tryz.func135, Tryz.ntmps135
  go_wp2
  go_ret
  exact ⟨_, rfl, HR.out, bel1 _⟩

theorem rWords19 (w : World) : Calls Tryz.prog 134 #[] w fun e w' => ∃ B, e = .returned (.slice (some ⟨B, 0, none⟩) 19 19) ∧ RowS B wordRL w' ∧ Below w.heap.size w w' := rWords_any w
theorem rKinds12 (w : World) : Calls Tryz.prog 135 #[] w fun e w' => ∃ B, e = .returned (.slice (some ⟨B, 0, none⟩) 12 12) ∧ RowS B kindL w' ∧ Below w.heap.size w w' := rKinds_any w

/-- The kind that a word is; 0: of none. -/
def KindP (s : ByteArray) (k : Int) : Prop := (∃ j : Nat, j < 12 ∧ kindN j = s ∧ k = (j : Int) + 1) ∨ ((∀ j : Nat, j < 12 → kindN j ≠ s) ∧ k = 0)
def KindQ (s : ByteArray) (w : World) (e : Ending) (w' : World) : Prop := ∃ k, KindP s k ∧ e = .returned (.int .i64 k) ∧ Below w.heap.size w w'

theorem kindN_at (j : Nat) (h : j < 12) : kindL[j]? = some (kindN j) := by
  unfold kindN
  rw [List.getD_eq_getElem?_getD, List.getElem?_eq_getElem (show j < kindL.length from h)]
  rfl

set_option maxRecDepth 100000 in
set_option maxHeartbeats 1000000 in
theorem rKind_any (s : ByteArray) (w : World) : Calls Tryz.prog 137 #[.string s] w (KindQ s w) := by
  have CN := Lib.hid fun W => rKinds12 W
  have HAT := Lib.hid kindN_at
  generalize kindL = KL at CN HAT
  go_enter Tryz.func137, Tryz.ntmps137
  go_wp2_with fail
  refine (CN.out _).mono ?_
  rintro e w1 ⟨B, rfl, hR, hb1⟩
  have HR := Lib.hid hR
  clear hR
  go_wp2_with fail
  go_loop [4] (fun vi => ∃ k : Nat, vi = .int .i64 k ∧ k ≤ 12 ∧ Hid (∀ j : Nat, j < k → kindN j ≠ s)) (fun vi => 12 - (intOf vi).toNat)
  case atStart => exact ⟨0, rfl, by omega, Lib.hid (fun j h => absurd h (Nat.not_lt_zero _))⟩
  case round =>
    obtain ⟨k, rfl, hk, hh⟩ := hrel
    by_cases hlt : k < 12
    · have x0 := HR.out k _ (HAT.out k hlt)
      by_cases he : kindN k = s
      · have e1 : ((kindN k).toList == s.toList) = true := by rw [he]; simp
        have HK := Lib.hid (show KindP s ((k : Int) + 1) from Or.inl ⟨k, hlt, he, rfl⟩)
        clear he
        generalize kindN k = x at x0 e1
        go_wp2
        go_ret
        exact ⟨_, HK.out, rfl, hb1⟩
      · have e1 := str_ne he
        have HN : Hid (∀ j : Nat, j < k + 1 → kindN j ≠ s) := Lib.hid (fun j hj => by
          by_cases h : j < k
          · exact hh.out j h
          · have : j = k := by omega
            subst this
            exact he)
        clear he hh
        generalize kindN k = x at x0 e1
        go_wp2
        exact ⟨⟨k + 1, by go_num, by omega, HN⟩, by simp [intOf]; omega⟩
    · have hk2 : k = 12 := by omega
      subst hk2
      go_wp2
      go_ret
      exact ⟨_, Or.inr ⟨hh.out, rfl⟩, rfl, hb1⟩

/-- The mark of a letter. -/
def markR (letter : Nat) : ByteArray := if letter = 0 then ⟨#[]⟩ else ⟨#[UInt8.ofNat letter]⟩

/-- What is read of digits. -/
def NumR (rest : List UInt8) (n : Int) (f : Bool) : Prop := (f = true → 0 ≤ n ∧ n < 4294967296) ∧ ∀ x : Nat, x < 4294967296 → rest = Lib.decDigits x → f = true ∧ n = x
end Go.Proofs.YtfnfcngkaepnjaaGreatDoor
