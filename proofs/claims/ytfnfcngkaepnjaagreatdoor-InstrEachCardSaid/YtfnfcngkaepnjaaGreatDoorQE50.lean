/- Joined texts: A slice of bytes that came in: opened. -/
import Derived.Test.YtfnfcngkaepnjaaGreatDoorQE12
import Derived.ChangeSlices
import Derived.Carry
/- A slice of bytes that came in: opened. -/
namespace Go.Proofs.YtfnfcngkaepnjaaGreatDoor
set_option linter.unusedVariables false
open Go Go.Proofs Go.ChangeShapes Go.WideShapes Go.RowKit

theorem plain_addr {w : World} {a : Addr} {v : Value} (h : w.cell? a = some v) : ∃ b o, a = ⟨b, o, none⟩ := by
  obtain ⟨b, o, sp⟩ := a
  cases sp with
  | none => exact ⟨b, o, rfl⟩
  | some s =>
    exfalso
    unfold World.cell? at h
    split at h <;> simp at h

theorem argB_open {H : Type} {enc : TypeId × Value → H} {W : World} {v : Value} {d : DataW H} {p : List MemPlace} (hok : ∃ a len cap, v = .slice a len cap) (h : DataW.Trod enc Tryz.prog W 0 (fun _ => true) true 22 v d p) : ∃ l, ArgB W v l ∧ l.length ≤ 9223372036854775807 := by
  obtain ⟨a0, len, cap, rfl⟩ := hok
  obtain ⟨fuel, hf⟩ := h
  rcases open_ints Tryz.underlying22 Tryz.underlying5 (by kernel_rfl) hf with ⟨hcs, _⟩ | ⟨a, len', cap', zs, hcs, _, hl, hm, hz, _, hcell, hwz⟩
  · have e : Value.slice a0 len cap = .slice none 0 0 := by simpa [Value.cells] using hcs
    rw [e]
    exact ⟨[], Or.inl ⟨rfl, rfl⟩, by simp⟩
  · have e : Value.slice a0 len cap = .slice (some a) len' cap' := by simpa [Value.cells] using hcs
    rw [e]
    have hz' : zs.length = cap' := by simpa using hz
    have hlen : ((zs.take len').map Int.toNat).length = len' := by simp; omega
    have hw : ∀ n ∈ zs, 0 ≤ n ∧ n < 256 := by
      intro n hn
      have h1 := hwz n hn
      have e1 : IntKind.u8.min = 0 := rfl
      have e2 : IntKind.u8.max = 255 := rfl
      simp [Lit.wf, e1, e2] at h1
      omega
    refine ⟨(zs.take len').map Int.toNat, Or.inr ⟨a, cap', by rw [hlen], by omega, by unfold maxLen at hm; omega, fun hne => ?_⟩, by unfold maxLen at hm; omega⟩
    have hpos : 0 < len' := by
      rcases Nat.eq_zero_or_pos len' with h0 | h0
      · exfalso; apply hne; rw [h0]; simp
      · exact h0
    obtain ⟨b, o, rfl⟩ := plain_addr (by have := hcell 0 (by omega); simpa [Addr.add] using this)
    refine ⟨b, o, rfl, fun x hx => ?_, fun j hj => ?_⟩
    · obtain ⟨n, hn, rfl⟩ := List.mem_map.1 hx
      have := hw n (List.mem_of_mem_take hn)
      omega
    · rw [hlen] at hj
      have h1 := hcell j (by omega)
      rw [add_plain] at h1
      rw [h1]
      have hj2 : j < zs.length := by omega
      have h2 := hw zs[j] (List.getElem_mem hj2)
      congr 2
      simp [List.getD, hj, hj2]
      omega
end Go.Proofs.YtfnfcngkaepnjaaGreatDoor
