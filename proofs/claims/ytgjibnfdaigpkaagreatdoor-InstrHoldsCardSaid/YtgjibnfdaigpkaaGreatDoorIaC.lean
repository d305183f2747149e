/- Bytes as strings. -/
import Derived.Test.YtgjibnfdaigpkaaGreatDoorOwn
import Derived.Laws.IdiomStrings
namespace Go.Proofs.YtgjibnfdaigpkaaGreatDoor
set_option linter.unusedVariables false
open Go Go.Proofs Go.RowKit

def bytesS (l : List Nat) : ByteArray := ⟨(l.map UInt8.ofNat).toArray⟩
theorem bytesS_inj {l l' : List Nat} (h : ∀ x ∈ l, x < 256) (h' : ∀ x ∈ l', x < 256) (e : bytesS l = bytesS l') : l = l' := by
  have e1 : l.map UInt8.ofNat = l'.map UInt8.ofNat := by
    have := congrArg (fun x : ByteArray => x.data.toList) e
    simpa [bytesS] using this
  clear e
  induction l generalizing l' with
  | nil => cases l' with | nil => rfl | cons y l' => simp at e1
  | cons x l ih =>
    cases l' with
    | nil => simp at e1
    | cons y l' =>
      simp only [List.map_cons, List.cons.injEq] at e1
      have hx := h x (.head _)
      have hy := h' y (.head _)
      have e2 := congrArg UInt8.toNat e1.1
      rw [UInt8.toNat_ofNat', UInt8.toNat_ofNat'] at e2
      rw [ih (fun z hz => h z (.tail _ hz)) (fun z hz => h' z (.tail _ hz)) e1.2, show x = y by omega]
theorem bytesS_eq {l l' : List Nat} (h : ∀ x ∈ l, x < 256) (h' : ∀ x ∈ l', x < 256) : bytesS l = bytesS l' ↔ l = l' := ⟨bytesS_inj h h', fun e => by rw [e]⟩

theorem conv_nil (w : World) : (convert 26 9 (.slice none 0 0)).run Tryz.prog w = .ok (.string ⟨#[]⟩) w := by kernel_rfl
theorem conv_arg {v : Value} {l : List Nat} {w : World} (h : ArgB w v l) : (convert 26 9 v).run Tryz.prog w = .ok (.string (bytesS l)) w := by
  rcases h with ⟨rfl, rfl⟩ | ⟨ad, c, rfl, h1, h2, h3⟩
  · exact conv_nil w
  · have := run_convert_bytes_back (P := Tryz.prog) w 26 9 5 ad c (l.map UInt8.ofNat) Tryz.underlying26 Tryz.underlying5 Tryz.underlying9 (by
      intro j hj
      rw [List.length_map] at hj
      obtain ⟨b, o, rfl, hB⟩ := h3 (by intro e; rw [e] at hj; simp at hj)
      have hlt := hB.1 l[j] (List.getElem_mem _)
      have := hB.2 j hj
      rw [List.getD_eq_getElem?_getD, List.getElem?_eq_getElem hj] at this
      rw [WideShapes.add_plain, this]
      simp only [List.getElem_map, Option.getD_some, UInt8.toNat_ofNat']
      rw [Nat.mod_eq_of_lt hlt])
    rw [List.length_map] at this
    exact this
end Go.Proofs.YtgjibnfdaigpkaaGreatDoor
