/- Joined texts: Plain laws of instructions' texts: no two have the same.; Bytes as strings. -/
import Derived.Test.YtgjibnfdaigpkaaGreatDoorQT36
import Derived.Test.YtgjibnfdaigpkaaGreatDoorQT14
import Derived.Laws.IdiomStrings
/- Plain laws of instructions' texts: no two have the same. -/
namespace Go.Proofs.YtgjibnfdaigpkaaGreatDoor
set_option linter.unusedVariables false
open Go Go.Proofs Go.RowKit

theorem begP_ex (s : ByteArray) : ∃ o k f, BegP s o k f := by
  by_cases h : ∃ j : Nat, j < 12 ∧ kindN j = s
  · obtain ⟨j, hj, rfl⟩ := h
    exact ⟨_, _, _, begP_kind j hj⟩
  · exact ⟨_, _, _, begP_word s (fun j hj e => h ⟨j, hj, e⟩)⟩

theorem dec_inj32 {a b : Nat} (ha : a < 4294967296) (h : Lib.decDigits a = Lib.decDigits b) (hb : b < 4294967296) : a = b := by
  have h1 := puG_dec 4294967295 a (by omega)
  have h2 := puG_dec 4294967295 b (by omega)
  rw [h, h2] at h1
  exact (Option.some.inj h1).symm

theorem partT_inj {a b c m a' b' c' m' : Int} {p : Part} (h : partT a b c m p = partT a' b' c' m' p) (h1 : 0 ≤ getF p a b c m ∧ getF p a b c m < 4294967296) (h2 : 0 ≤ getF p a' b' c' m' ∧ getF p a' b' c' m' < 4294967296) : getF p a b c m = getF p a' b' c' m' := by
  unfold partT at h
  have h3 := congrArg (fun x : ByteArray => x.data.toList) h
  simp only [ByteArray.data_append, Array.toList_append] at h3
  have h4 := List.append_cancel_left h3
  have := dec_inj32 (by omega) h4 (by omega)
  omega

theorem fold_same {a b c m a' b' c' m' : Int} : ∀ (ps : List Part) (st : Int × Int × Int × Int), (∀ p ∈ ps, getF p a b c m = getF p a' b' c' m') → ps.foldl (fun s p => putF p (a, b, c, m) s) st = ps.foldl (fun s p => putF p (a', b', c', m') s) st
  | [], _, _ => rfl
  | p :: ps, st, h => by
    simp only [List.foldl_cons]
    rw [putF_N, putF_N, h p (.head _)]
    exact fold_same ps _ (fun q hq => h q (.tail _ hq))

theorem map_at {α β : Type} {f g : α → β} : ∀ {l : List α}, l.map f = l.map g → ∀ x ∈ l, f x = g x
  | [], _, x, hx => by cases hx
  | y :: l, h, x, hx => by
    simp only [List.map_cons, List.cons.injEq] at h
    rcases List.mem_cons.1 hx with rfl | hx
    · exact h.1
    · exact map_at h.2 x hx

theorem isT_inj {s : ByteArray} {op a b c m op' a' b' c' m' : Int} (h : IsT s op a b c m) (h' : IsT s op' a' b' c' m') : op = op' ∧ a = a' ∧ b = b' ∧ c = c' ∧ m = m' := by
  have h1 := (pieces_text h).symm.trans (pieces_text h')
  unfold textL at h1
  obtain ⟨h2, h3⟩ := List.cons.inj h1
  obtain ⟨o, k, f, hb⟩ := begP_ex (insN op m)
  obtain ⟨g1, g2⟩ := right_op h.right
  obtain ⟨g1', g2'⟩ := right_op h'.right
  obtain ⟨_, r2, r3⟩ := hb.name op m g1.1 g1.2 g2 rfl
  obtain ⟨_, r2', r3'⟩ := hb.name op' m' g1'.1 g1'.2 g2' h2
  have ho : op = op' := r2.symm.trans r2'
  subst ho
  obtain ⟨_, ha, hb, hc⟩ := rightF_bd h.right
  obtain ⟨_, ha', hb', hc'⟩ := rightF_bd h'.right
  have hg := map_at h3
  have hg2 : ∀ p ∈ textP ((namedL.lookup op).getD []), getF p a b c m = getF p a' b' c' m' := fun p hp => partT_inj (hg p hp) (getF_bd p a b c m ⟨by omega, by omega⟩ ⟨by omega, by omega⟩ ⟨by omega, by omega⟩ h.imm) (getF_bd p a' b' c' m' ⟨by omega, by omega⟩ ⟨by omega, by omega⟩ ⟨by omega, by omega⟩ h'.imm)
  have f1 := foldF_all h.right
  have f2 := foldF_all h'.right
  unfold foldF at f1 f2
  rw [fold_same _ _ hg2, ← r3, r3', f2] at f1
  simp only [Prod.mk.injEq] at f1
  obtain ⟨rfl, rfl, rfl, rfl⟩ := f1
  exact ⟨rfl, rfl, rfl, rfl, rfl⟩

/-- No two instructions have the same text. -/
theorem text_inj {op a b c m op' a' b' c' m' : Int} (hm : 0 ≤ m ∧ m < 4294967296) (hr : rightF op a b c m = true) (hm' : 0 ≤ m' ∧ m' < 4294967296) (hr' : rightF op' a' b' c' m' = true) (h : textF op a b c m = textF op' a' b' c' m') :
    op = op' ∧ a = a' ∧ b = b' ∧ c = c' ∧ m = m' :=
  isT_inj (s := ⟨(textF op a b c m).toArray⟩) ⟨hm, hr, by simp⟩ ⟨hm', hr', by simp [h]⟩
end Go.Proofs.YtgjibnfdaigpkaaGreatDoor

/- Bytes as strings. -/
namespace Go.Proofs.YtgjibnfdaigpkaaGreatDoor
set_option linter.unusedVariables false
open Go Go.Proofs Go.RowKit

def bytesS (l : List Nat) : ByteArray := ⟨(l.map UInt8.ofNat).toArray⟩
theorem bytesS_inj {l l' : List Nat} (h : ∀ x ∈ l, x < 256) (h' : ∀ x ∈ l', x < 256) (e : bytesS l = bytesS l') : l = l' := by
  have e1 : l.map UInt8.ofNat = l'.map UInt8.ofNat := by
    have := congrArg (fun x : ByteArray => x.data.toList) e
    simpa [bytesS] using this
  clear e
  induction l generalizing l' with
  | nil => cases l' with | nil => rfl | cons y l' => simp at e1
  | cons x l ih =>
    cases l' with
    | nil => simp at e1
    | cons y l' =>
      simp only [List.map_cons, List.cons.injEq] at e1
      have hx := h x (.head _)
      have hy := h' y (.head _)
      have e2 := congrArg UInt8.toNat e1.1
      rw [UInt8.toNat_ofNat', UInt8.toNat_ofNat'] at e2
      rw [ih (fun z hz => h z (.tail _ hz)) (fun z hz => h' z (.tail _ hz)) e1.2, show x = y by omega]
theorem bytesS_eq {l l' : List Nat} (h : ∀ x ∈ l, x < 256) (h' : ∀ x ∈ l', x < 256) : bytesS l = bytesS l' ↔ l = l' := ⟨bytesS_inj h h', fun e => by rw [e]⟩

theorem conv_nil (w : World) : (convert 26 9 (.slice none 0 0)).run Tryz.prog w = .ok (.string ⟨#[]⟩) w := by kernel_rfl
theorem conv_arg {v : Value} {l : List Nat} {w : World} (h : ArgB w v l) : (convert 26 9 v).run Tryz.prog w = .ok (.string (bytesS l)) w := by
  rcases h with ⟨rfl, rfl⟩ | ⟨ad, c, rfl, h1, h2, h3⟩
  · exact conv_nil w
  · have := run_convert_bytes_back (P := Tryz.prog) w 26 9 5 ad c (l.map UInt8.ofNat) Tryz.underlying26 Tryz.underlying5 Tryz.underlying9 (by
      intro j hj
      rw [List.length_map] at hj
      obtain ⟨b, o, rfl, hB⟩ := h3 (by intro e; rw [e] at hj; simp at hj)
      have hlt := hB.1 l[j] (List.getElem_mem _)
      have := hB.2 j hj
      rw [List.getD_eq_getElem?_getD, List.getElem?_eq_getElem hj] at this
      rw [WideShapes.add_plain, this]
      simp only [List.getElem_map, Option.getD_some, UInt8.toNat_ofNat']
      rw [Nat.mod_eq_of_lt hlt])
    rw [List.length_map] at this
    exact this
end Go.Proofs.YtgjibnfdaigpkaaGreatDoor
