/- Joined texts: The reference of layer 8: words. -/
import Derived.Test.YtgjibnfdaigpkaaGreatDoorQT41
/- The reference of layer 8: words. -/
namespace Go.Proofs.YtgjibnfdaigpkaaGreatDoor
set_option linter.unusedVariables false
open Go Go.Proofs Go.RowKit

/-- Where words stands. -/
structure WdI (s : ByteArray) (i f : Nat) (done : List ByteArray) : Prop where
  le : i ≤ s.size + 1
  len : done.length ≤ i
  fle : f ≤ i
  on : i ≤ s.size → done ++ piecesF (s.extract f s.size) = piecesF s ∧ ∀ j (hj : f ≤ j ∧ j < i) (h : j < s.size), s[j] ≠ 32
  off : i = s.size + 1 → done = piecesF s

theorem wdI_start (s : ByteArray) : WdI s 0 0 [] := ⟨by omega, Nat.le_refl _, Nat.le_refl _, fun _ => ⟨by rw [ByteArray.extract_zero_size]; rfl, fun j hj => by omega⟩, fun h => by omega⟩
theorem WdI.cut {s : ByteArray} {i f : Nat} {done : List ByteArray} (h : WdI s i f done) (hi : i < s.size) (hc : s[i] = 32) : WdI s (i + 1) (i + 1) (done ++ [s.extract f i]) := by
  obtain ⟨h1, h2⟩ := h.on (by omega)
  refine ⟨by omega, by rw [List.length_append]; have := h.len; simp; omega, Nat.le_refl _, fun _ => ⟨?_, fun j hj => by omega⟩, fun h => by omega⟩
  rw [← h1, pieces_step s f i h.fle hi hc (fun j hj => h2 j hj (by omega)), List.append_assoc]
  rfl
theorem WdI.on1 {s : ByteArray} {i f : Nat} {done : List ByteArray} (h : WdI s i f done) (hi : i < s.size) (hc : s[i] ≠ 32) : WdI s (i + 1) f done := by
  obtain ⟨h1, h2⟩ := h.on (by omega)
  refine ⟨by omega, by have := h.len; omega, by have := h.fle; omega, fun _ => ⟨h1, fun j hj hjs => ?_⟩, fun h => by omega⟩
  by_cases e : j = i
  · subst e; exact hc
  · exact h2 j (by omega) hjs
theorem WdI.last {s : ByteArray} {f : Nat} {done : List ByteArray} (h : WdI s s.size f done) : WdI s (s.size + 1) (s.size + 1) (done ++ [s.extract f s.size]) := by
  obtain ⟨h1, h2⟩ := h.on (Nat.le_refl _)
  refine ⟨Nat.le_refl _, by rw [List.length_append]; have := h.len; simp; omega, Nat.le_refl _, fun h => by omega, fun _ => ?_⟩
  rw [← h1, pieces_last s f h.fle (fun j hj => h2 j hj hj.2)]

set_option maxRecDepth 100000 in
set_option maxHeartbeats 4000000 in
theorem rPieces_any (s : ByteArray) (hs : s.size ≤ 999990) (w : World) : Calls Tryz.prog 58 #[.string s] w fun e w' => ∃ v, e = .returned v ∧ OwnS w.heap.size v (piecesF s) w' ∧ Below w.heap.size w w' := by
  go_enter Tryz.func58, Tryz.ntmps58
  go_wp2_with fail
  go_loopw [3, 4, 5] (fun vo vf vi wr => ∃ (i f : Nat) (done : List ByteArray), vi = .int .i64 i ∧ vf = .int .i64 f ∧ Hid (WdI s i f done) ∧ OwnS w.heap.size vo done wr ∧ Below w.heap.size w wr) (fun _ _ vi _ => s.size + 1 - (intOf vi).toNat)
  case atStart => exact ⟨0, 0, [], rfl, rfl, Lib.hid (wdI_start s), OwnS.nil _ _, Below.refl _ _⟩
  case round =>
    obtain ⟨i, f, done, rfl, rfl, hI, hO, hB⟩ := hrel
    have h1 := hI.out.le
    have h2 := hI.out.len
    have h3 := hI.out.fle
    by_cases hlt : i < s.size
    · obtain ⟨x, hx⟩ : ∃ x, s[i] = x := ⟨_, rfl⟩
      by_cases h32 : x = 32
      · have hI2 := Lib.hid (hI.out.cut hlt (by rw [hx]; exact h32))
        have e1 : ((x.toNat : Int) == 32) = true := by rw [h32]; rfl
        have e0 : ((i : Int) == (s.size : Int)) = false := beq_eq_false_iff_ne.2 (by omega)
        clear h32 hI
        go_wp2_with (at_builtin; refine append_S rfl _ _ rfl w.heap.size _ _ rfl (hO.bel (bel1 _)) ⟨wr.heap.size, 0, none⟩ 1 _ rfl (cell_new wr _ _ 0) rfl (by omega) (Nat.le_trans hB.size (by simp)) ?_; intro vo wo hO2 hg2 hb2)
        refine ⟨⟨i + 1, i + 1, _, by go_num, by go_num, hI2, hO2, (belA hB _).trans hb2⟩, by simp [intOf]; omega⟩
      · have hI2 := Lib.hid (hI.out.on1 hlt (by rw [hx]; exact h32))
        have e1 : ((x.toNat : Int) == 32) = false := beq_eq_false_iff_ne.2 (fun h => h32 (UInt8.toNat_inj.1 (by have : (32 : UInt8).toNat = 32 := rfl; omega)))
        have e0 : ((i : Int) == (s.size : Int)) = false := beq_eq_false_iff_ne.2 (by omega)
        clear h32 hI
        go_wp2
        exact ⟨⟨i + 1, f, done, by go_num, rfl, hI2, hO, hB⟩, by simp [intOf]; omega⟩
    · by_cases he : i = s.size
      · subst he
        have hI2 := Lib.hid hI.out.last
        clear hI
        go_wp2_with (at_builtin; refine append_S rfl _ _ rfl w.heap.size _ _ rfl (hO.bel (bel1 _)) ⟨wr.heap.size, 0, none⟩ 1 _ rfl (cell_new wr _ _ 0) rfl (by omega) (Nat.le_trans hB.size (by simp)) ?_; intro vo wo hO2 hg2 hb2)
        refine ⟨⟨s.size + 1, s.size + 1, _, by go_num, by go_num, hI2, hO2, (belA hB _).trans hb2⟩, by simp [intOf]⟩
      · have he2 : i = s.size + 1 := by omega
        have hF := Lib.hid (hI.out.off he2)
        subst he2
        clear hI
        go_wp2
        go_ret
        exact ⟨_, rfl, by rw [← hF.out]; exact hO, hB⟩
end Go.Proofs.YtgjibnfdaigpkaaGreatDoor
