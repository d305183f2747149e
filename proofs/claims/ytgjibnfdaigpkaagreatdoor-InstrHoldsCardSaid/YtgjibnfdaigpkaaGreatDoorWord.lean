/- Plain laws of words: what is split at a byte is what was joined. -/
import Derived.Test.YtgjibnfdaigpkaaGreatDoorJoin
import Derived.Lib.IndexBytes
import Derived.Lib.Split
namespace Go.Proofs.YtgjibnfdaigpkaaGreatDoor
set_option linter.unusedVariables false
open Go Go.Proofs Go.RowKit

theorem index_behind (c : UInt8) : ∀ (l r : List UInt8), c ∉ l → Lib.indexByte (l ++ c :: r) c = l.length := by
  intro l
  induction l with
  | nil => intro r _; simp [Lib.indexByte]
  | cons b l ih =>
    intro r h
    have hb : (b == c) = false := by
      have : b ≠ c := fun e => h (by simp [e])
      simpa using this
    have := ih r (fun hx => h (by simp [hx]))
    simp only [List.cons_append, Lib.indexByte, hb, this]
    simp
theorem index_not (c : UInt8) : ∀ (l : List UInt8), c ∉ l → Lib.indexByte l c = -1 := by
  intro l
  induction l with
  | nil => intro _; rfl
  | cons b l ih =>
    intro h
    have hb : (b == c) = false := by
      have : b ≠ c := fun e => h (by simp [e])
      simpa using this
    have := ih (fun hx => h (by simp [hx]))
    simp only [Lib.indexByte, hb, this]
    simp

theorem join_two (x y : List UInt8) (r : List (List UInt8)) (c : UInt8) : Lib.join (x :: y :: r) [c] = x ++ c :: Lib.join (y :: r) [c] := by
  simp [Lib.join, List.intercalate]

theorem split_join (c : UInt8) : ∀ (L : List (List UInt8)), L ≠ [] → (∀ x ∈ L, c ∉ x) → Lib.splitK [c] 0 (Lib.count (Lib.join L [c]) [c]) (Lib.join L [c]) = L
  | [], h, _ => absurd rfl h
  | [x], _, h => by
    rw [Lib.join_one]
    have hi : Lib.index x [c] = -1 := by rw [Lib.index_one]; exact index_not c x (h x (.head _))
    rw [Lib.count_miss hi]
    rfl
  | x :: y :: r, _, h => by
    have ih := split_join c (y :: r) (by simp) (fun z hz => h z (.tail _ hz))
    rw [join_two]
    have hi : Lib.index (x ++ c :: Lib.join (y :: r) [c]) [c] = (x.length : Nat) := by rw [Lib.index_one]; exact index_behind c x _ (h x (.head _))
    have hd : (x ++ c :: Lib.join (y :: r) [c]).drop (x.length + 1) = Lib.join (y :: r) [c] := by
      rw [← List.drop_drop]
      simp
    have hc := Lib.count_hit (s := x ++ c :: Lib.join (y :: r) [c]) (sub := [c]) (i := x.length) (by simp) hi
    rw [show x.length + [c].length = x.length + 1 from rfl, hd] at hc
    rw [hc, Nat.add_comm]
    unfold Lib.splitK
    rw [hi]
    have e1 : ((x.length : Int) == -1) = false := beq_eq_false_iff_ne.2 (by omega)
    simp only [e1, Int.toNat_natCast, Nat.add_zero, List.length_cons, List.length_nil, Nat.zero_add, hd, ih]
    simp

/-- The same, of strings. -/
theorem splitB_join (c : UInt8) (L : List ByteArray) (hL : L ≠ []) (h : ∀ x ∈ L, c ∉ x.data.toList) (s : ByteArray) (hs : s.data.toList = joinS L c) : Lib.splitB ⟨#[c]⟩ 0 (Lib.countB s ⟨#[c]⟩) s = L := by
  have h1 := Lib.splitB_data ⟨#[c]⟩ 0 (Lib.countB s ⟨#[c]⟩) s
  have h2 : Lib.countB s ⟨#[c]⟩ = Lib.count (joinS L c) [c] := by rw [← hs]; try rfl
  rw [hs, h2] at h1
  have h3 := split_join c (L.map (·.data.toList)) (by simpa using hL) (by
    intro x hx
    obtain ⟨y, hy, rfl⟩ := List.mem_map.1 hx
    exact h y hy)
  rw [show (⟨#[c]⟩ : ByteArray).data.toList = [c] from rfl] at h1
  have h4 := h1.trans h3
  rw [h2]
  have inj : ∀ (A B : List ByteArray), A.map (·.data.toList) = B.map (·.data.toList) → A = B := by
    intro A
    induction A with
    | nil => intro B hB; cases B with | nil => rfl | cons b B => simp at hB
    | cons a A ih =>
      intro B hB
      cases B with
      | nil => simp at hB
      | cons b B =>
        simp only [List.map_cons, List.cons.injEq] at hB
        have e : a = b := by
          apply ByteArray.ext
          exact Array.toList_inj.1 hB.1
        rw [e, ih B hB.2]
  exact inj _ _ h4

theorem splitB_length (c : UInt8) : ∀ (n : Nat) (s : ByteArray), s.size ≤ n → (Lib.splitB ⟨#[c]⟩ 0 (Lib.countB s ⟨#[c]⟩) s).length = Lib.countB s ⟨#[c]⟩ + 1 := by
  intro n
  induction n with
  | zero =>
    intro s hs
    have h0 : s.data.toList = [] := by
      have := Lib.size_eq s
      exact List.eq_nil_of_length_eq_zero (by omega)
    have hi : Lib.indexB s ⟨#[c]⟩ = -1 := by
      show Lib.index s.data.toList [c] = -1
      rw [h0]; rfl
    rw [Lib.countB_miss _ _ hi]; rfl
  | succ n ih =>
    intro s hs
    have hge := Lib.indexByte_ge s.data.toList c
    rcases Decidable.em (Lib.indexByte s.data.toList c = -1) with hm | hm
    · have hi : Lib.indexB s ⟨#[c]⟩ = -1 := by
        show Lib.index s.data.toList [c] = -1
        rw [Lib.index_one]; exact hm
      rw [Lib.countB_miss _ _ hi]; rfl
    · obtain ⟨i, hi⟩ : ∃ i : Nat, Lib.indexByte s.data.toList c = i := ⟨(Lib.indexByte s.data.toList c).toNat, by omega⟩
      have hi' : Lib.indexB s ⟨#[c]⟩ = (i : Nat) := by
        show Lib.index s.data.toList [c] = _
        rw [Lib.index_one]; exact hi
      have hlt : i < s.size := by
        have := (Lib.indexByte_some hi).1
        have := (List.getElem?_eq_some_iff.1 this).1
        rw [← Lib.size_eq] at this
        exact this
      have hc := Lib.countB_hit s ⟨#[c]⟩ i (by show 1 ≤ 1; omega) hi'
      rw [hc, Nat.add_comm 1, Lib.splitB_hit _ _ _ _ i hi', List.length_cons]
      have h1 : (⟨#[c]⟩ : ByteArray).size = 1 := rfl
      rw [ih _ (by rw [ByteArray.size_extract, h1]; omega)]
end Go.Proofs.YtgjibnfdaigpkaaGreatDoor
