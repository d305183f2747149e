/- Joined texts: The reference of layer 8: plain laws of Parse. -/
import Derived.Test.YtgjibnfdaigpkaaGreatDoorQT44
/- The reference of layer 8: plain laws of Parse. -/
namespace Go.Proofs.YtgjibnfdaigpkaaGreatDoor
set_option linter.unusedVariables false
open Go Go.Proofs Go.RowKit

/-- The letters of an instruction's text; the mark, the value, the store of one. -/
def lR (op : Int) : ByteArray := if op = 3 then ⟨#[97, 98, 99]⟩ else namesR op
def mkL (x : Nat) : Nat := if x = 110 ∨ x = 105 then 0 else if x = 102 then 102 else 114
def getL (x : Nat) (a b c m : Int) : Int := if x = 97 then a else if x = 98 then b else if x = 99 ∨ x = 110 then c else m
def stepL (x : Nat) (n : Int) (st : Int × Int × Int × Int) : Int × Int × Int × Int :=
  if x = 97 then (n, st.2.1, st.2.2.1, st.2.2.2) else if x = 98 then (st.1, n, st.2.2.1, st.2.2.2) else if x = 99 ∨ x = 110 then (st.1, st.2.1, n, st.2.2.2) else (st.1, st.2.1, st.2.2.1, n)
def foldL (a b c m : Int) (st : Int × Int × Int × Int) (l : List UInt8) : Int × Int × Int × Int := l.foldl (fun s x => stepL x.toNat (getL x.toNat a b c m) s) st
def letB (a b c m : Int) (x : UInt8) : List UInt8 := (if mkL x.toNat = 0 then [] else [UInt8.ofNat (mkL x.toNat)]) ++ Lib.decDigits (getL x.toNat a b c m).toNat

theorem lR_size (op : Int) : (lR op).size ≤ 4 := by
  unfold lR
  split
  · decide
  · exact namesR_size op

theorem tail_k (a b c m : Int) : ∀ k : Nat, k < 19 → ((textP ((namedL.lookup ((k : Int) + 1)).getD [])).map fun p => p.mark.data.toList ++ Lib.decDigits (getF p a b c m).toNat) = (lR ((k : Int) + 1)).data.toList.map (letB a b c m)
  | 0, _ => by kernel_rfl
  | 1, _ => by kernel_rfl
  | 2, _ => by kernel_rfl
  | 3, _ => by kernel_rfl
  | 4, _ => by kernel_rfl
  | 5, _ => by kernel_rfl
  | 6, _ => by kernel_rfl
  | 7, _ => by kernel_rfl
  | 8, _ => by kernel_rfl
  | 9, _ => by kernel_rfl
  | 10, _ => by kernel_rfl
  | 11, _ => by kernel_rfl
  | 12, _ => by kernel_rfl
  | 13, _ => by kernel_rfl
  | 14, _ => by kernel_rfl
  | 15, _ => by kernel_rfl
  | 16, _ => by kernel_rfl
  | 17, _ => by kernel_rfl
  | 18, _ => by kernel_rfl
  | n + 19, h => absurd h (by omega)
theorem fold_k (a b c m : Int) : ∀ k : Nat, k < 19 → foldF ((k : Int) + 1) a b c m (textP ((namedL.lookup ((k : Int) + 1)).getD [])) = foldL a b c m (0, 0, 0, if (k : Int) + 1 = 3 then m else 0) (lR ((k : Int) + 1)).data.toList
  | 0, _ => by kernel_rfl
  | 1, _ => by kernel_rfl
  | 2, _ => by kernel_rfl
  | 3, _ => by kernel_rfl
  | 4, _ => by kernel_rfl
  | 5, _ => by kernel_rfl
  | 6, _ => by kernel_rfl
  | 7, _ => by kernel_rfl
  | 8, _ => by kernel_rfl
  | 9, _ => by kernel_rfl
  | 10, _ => by kernel_rfl
  | 11, _ => by kernel_rfl
  | 12, _ => by kernel_rfl
  | 13, _ => by kernel_rfl
  | 14, _ => by kernel_rfl
  | 15, _ => by kernel_rfl
  | 16, _ => by kernel_rfl
  | 17, _ => by kernel_rfl
  | 18, _ => by kernel_rfl
  | n + 19, h => absurd h (by omega)

/-- What a text that is an instruction's lets see. -/
structure SeenT (s0 : ByteArray) (L : List ByteArray) (op a b c m : Int) : Prop where
  h19 : 1 ≤ op ∧ op ≤ 19
  h3 : op = 3 → 1 ≤ m ∧ m ≤ 12
  hd : s0 = insN op m
  len : L.length = (lR op).size
  at_ : ∀ (k : Nat) (x : ByteArray) (y : UInt8), L[k]? = some x → (lR op).data.toList[k]? = some y → x.data.toList = letB a b c m y
  bd : ∀ y, 0 ≤ getL y a b c m ∧ getL y a b c m < 4294967296
  all : foldL a b c m (0, 0, 0, if op = 3 then m else 0) (lR op).data.toList = (a, b, c, m)

theorem seenT {s s0 : ByteArray} {L : List ByteArray} {op a b c m : Int} (hp : piecesF s = s0 :: L) (h : IsT s op a b c m) : SeenT s0 L op a b c m := by
  obtain ⟨h19, h3⟩ := right_op h.right
  obtain ⟨_, ha, hb, hc⟩ := rightF_bd h.right
  have h1 := hp.symm.trans (pieces_text h)
  unfold textL at h1
  obtain ⟨h2, h4⟩ := List.cons.inj h1
  obtain ⟨k, rfl⟩ : ∃ k : Nat, op = (k : Int) + 1 := ⟨(op - 1).toNat, by omega⟩
  have ht := tail_k a b c m k (by omega)
  have hf := fold_k a b c m k (by omega)
  rw [foldF_all h.right] at hf
  have hL : L.map (·.data.toList) = (lR ((k : Int) + 1)).data.toList.map (letB a b c m) := by
    rw [h4, ← ht, List.map_map]
    congr 1
  refine ⟨h19, h3, h2, ?_, ?_, ?_, hf.symm⟩
  · have := congrArg List.length hL
    rw [List.length_map, List.length_map, ← Lib.size_eq] at this
    exact this
  · intro j x y hx hy
    have := congrArg (fun l => l[j]?) hL
    simp only [List.getElem?_map, hx, hy, Option.map_some] at this
    exact Option.some.inj this
  · intro y
    have := h.imm
    unfold getL
    split
    · omega
    · split
      · omega
      · split <;> omega

theorem wordR_apart : ∀ i j : Nat, i < 19 → j < 19 → i ≠ 2 → j ≠ 2 → wordN (i + 1) = wordN (j + 1) → i = j := by
  have h : ((List.range 19).all fun i => (List.range 19).all fun j => decide (i = 2) || decide (j = 2) || decide (i = j) || !decide (wordN (i + 1) = wordN (j + 1))) = true := by decide +kernel
  intro i j hi hj h1 h2 h3
  have := List.all_eq_true.1 (List.all_eq_true.1 h i (List.mem_range.2 hi)) j (List.mem_range.2 hj)
  rw [decide_eq_false h1, decide_eq_false h2, decide_eq_true h3] at this
  simpa using this
theorem kindR_apart : ∀ i j : Nat, i < 12 → j < 12 → kindN i = kindN j → i = j := by
  have h : ((List.range 12).all fun i => (List.range 12).all fun j => decide (i = j) || !decide (kindN i = kindN j)) = true := by decide +kernel
  intro i j hi hj h3
  have := List.all_eq_true.1 (List.all_eq_true.1 h i (List.mem_range.2 hi)) j (List.mem_range.2 hj)
  rw [decide_eq_true h3] at this
  simpa using this
theorem kind_word : ∀ i j : Nat, i < 12 → j < 20 → kindN i ≠ wordN j := by
  have h : ((List.range 12).all fun i => (List.range 20).all fun j => !decide (kindN i = wordN j)) = true := by decide +kernel
  intro i j hi hj h3
  have := List.all_eq_true.1 (List.all_eq_true.1 h i (List.mem_range.2 hi)) j (List.mem_range.2 hj)
  rw [decide_eq_true h3] at this
  cases this

/-- The Op whose word a text begins with, among the first i. -/
def WordP (s0 : ByteArray) (i : Nat) (o : Int) : Prop := (0 ≤ o ∧ o ≤ i ∧ o ≠ 3) ∧ ∀ j : Nat, j < i → j ≠ 2 → wordN (j + 1) = s0 → o = (j : Int) + 1
theorem wordP_start (s0 : ByteArray) : WordP s0 0 0 := ⟨by omega, fun j h => absurd h (Nat.not_lt_zero _)⟩
theorem WordP.hit {s0 : ByteArray} {i : Nat} {o : Int} (h : WordP s0 i o) (hi : i < 19) (h2 : i ≠ 2) (he : wordN (i + 1) = s0) : WordP s0 (i + 1) ((i : Int) + 1) :=
  ⟨by omega, fun j hj hj2 hjs => by
    have := wordR_apart i j hi (by omega) h2 hj2 (by rw [he, hjs])
    omega⟩
theorem WordP.miss {s0 : ByteArray} {i : Nat} {o : Int} (h : WordP s0 i o) (hn : i = 2 ∨ wordN (i + 1) ≠ s0) : WordP s0 (i + 1) o :=
  ⟨by have := h.1; omega, fun j hj hj2 hjs => by
    by_cases e : j = i
    · subst e
      rcases hn with hn | hn
      · exact absurd hn hj2
      · exact absurd hjs hn
    · exact h.2 j (by omega) hj2 hjs⟩

/-- The Op and the number that a text's first word tells. -/
theorem start_kind {s0 : ByteArray} {k : Int} (hk : KindP s0 k) (hp : 0 < k) {L : List ByteArray} {op a b c m : Int} (h : SeenT s0 L op a b c m) : op = 3 ∧ k = m := by
  rcases hk with ⟨j, hj, he, rfl⟩ | ⟨_, rfl⟩
  · have hd := h.hd
    obtain ⟨h1, h2⟩ := h.h19
    by_cases h3 : op = 3
    · have hm := h.h3 h3
      refine ⟨h3, ?_⟩
      rw [insN, if_pos h3] at hd
      have := kindR_apart j (m - 1).toNat hj (by omega) (he.trans hd)
      omega
    · rw [insN, if_neg h3] at hd
      exact absurd (he.trans hd) (kind_word j op.toNat hj (by omega))
  · omega
theorem start_word {s0 : ByteArray} {k o : Int} (hk : KindP s0 k) (hp : k ≤ 0) (hw : WordP s0 19 o) {L : List ByteArray} {op a b c m : Int} (h : SeenT s0 L op a b c m) : o = op ∧ op ≠ 3 := by
  have hd := h.hd
  obtain ⟨h1, h2⟩ := h.h19
  have h3 : op ≠ 3 := by
    intro h3
    have hm := h.h3 h3
    rw [insN, if_pos h3] at hd
    rcases hk with ⟨j, hj, he, rfl⟩ | ⟨hall, _⟩
    · omega
    · exact hall (m - 1).toNat (by omega) hd.symm
  rw [insN, if_neg h3] at hd
  have := hw.2 (op - 1).toNat (by omega) (by omega) (by rw [show (op - 1).toNat + 1 = op.toNat by omega]; exact hd.symm)
  exact ⟨by omega, h3⟩
theorem KindP.bd {s0 : ByteArray} {k : Int} (hk : KindP s0 k) : 0 ≤ k ∧ k ≤ 12 := by
  rcases hk with ⟨j, hj, _, rfl⟩ | ⟨_, rfl⟩ <;> omega

theorem foldL_take (a b c m : Int) (st : Int × Int × Int × Int) (l : List UInt8) (k : Nat) (y : UInt8) (hy : l[k]? = some y) : foldL a b c m st (l.take (k + 1)) = stepL y.toNat (getL y.toNat a b c m) (foldL a b c m st (l.take k)) := by
  obtain ⟨hk, rfl⟩ := List.getElem?_eq_some_iff.1 hy
  unfold foldL
  rw [← List.take_append_getElem hk, List.foldl_append]
  rfl

/-- A letter of a word that is a number of an instruction's. -/
theorem letB_mark {a b c m : Int} {y : UInt8} {x : ByteArray} (h : x.data.toList = letB a b c m y) : MarkY x (mkL y.toNat) (getL y.toNat a b c m).toNat := h
end Go.Proofs.YtgjibnfdaigpkaaGreatDoor
