/- Walk of package epoch: the epoch of any text. -/
import Derived.Test.YtigepikfbpodpaaDoorEpP
namespace Go.Proofs.YtigepikfbpodpaaDoor
set_option linter.unusedVariables false
open Go Go.Proofs Go.RowKit

theorem toList_data (s : ByteArray) : s.toList = s.data.toList := ByteArray.toList_eq s

set_option maxRecDepth 100000 in
set_option maxHeartbeats 2000000 in
theorem parse_any (s : ByteArray) (hs : s.size ≤ 1000000) (w : World) (hE : Env w) :
    Calls Tryd.prog 13 #[.string s] w fun e w' => parsePost s e ∧ Below w.heap.size w w' := by
  obtain ⟨z1, z2⟩ := cut_size s 64
  have hF := text_reads s
  have hcut := Lib.hid (cut_any s 64 (by omega))
  generalize cutBytes s 64 = q at z1 z2 hF hcut
  obtain ⟨a, b, f⟩ := q
  simp only at z1 z2 hF hcut
  have HF := Lib.hid hF
  clear hF
  go_enter Tryd.func13, Tryd.ntmps13
  go_wp2_with fail
  go_at_call 27
  refine (hcut.out w).mono ?_
  rintro e w1 ⟨rfl, hb1⟩
  have hE1 := hE.on hb1
  go_wp2_with fail
  go_at_call 28
  refine (parseUint_any a (by omega) w1 16 65535 (by omega) (by omega) (by omega) (by omega) (by rw [IntKind.wrap_u64]; decide) hE1).mono ?_
  rintro e w2 ⟨p2, hb2⟩
  have hE2 := hE1.on hb2
  have hB2 := belT hb1 hb2
  rcases p2 with ⟨n, hn, rfl⟩ | ⟨hn, v, t, x, hv0, hv1, rfl⟩
  · have bn := puG_le hn
    have HN := Lib.hid hn
    clear hn
    go_wp2_with fail
    go_at_call 28
    refine (parseUint_any b (by omega) w2 48 281474976710655 (by omega) (by omega) (by omega) (by omega) (by rw [IntKind.wrap_u64]; decide) hE2).mono ?_
    rintro e w3 ⟨p3, hb3⟩
    have hE3 := hE2.on hb3
    have hB3 := belT hB2 hb3
    rcases p3 with ⟨c, hc, rfl⟩ | ⟨hc, v', t', x', hv0, hv1, rfl⟩
    · have bc := puG_le hc
      have HC := Lib.hid hc
      clear hc
      go_wp2_with (go_at_call 17; refine (pack_yes _ _ _ (by omega) (by omega) (by omega) (by omega)).mono ?_; rintro e w4 ⟨rfl, hb4⟩; refine Hid.out ?_)
      refine Lib.hid ?_
      have hE4 := hE3.on hb4
      have hB4 := belT hB3 hb4
      have e1 : ((n : Int) * 281474976710656 + c).toNat = n * 281474976710656 + c := by omega
      have hT := Lib.hid (text_any ((n : Int) * 281474976710656 + c) (by omega) (by omega) w4 hE4)
      rw [e1] at hT
      have HT := Lib.hid (show (⟨(textE (n * 281474976710656 + c)).toArray⟩ : ByteArray) = s ↔ textE (n * 281474976710656 + c) = s.data.toList from by
        constructor
        · intro h; rw [← h]
        · intro h; rw [h])
      clear e1
      go_wp2_with (go_at_call 12; refine hT.out.mono ?_; rintro e w5 ⟨rfl, hb5⟩)
      · have hx : (!textE (n * 281474976710656 + c) == s.toList) = true := by assumption
        go_ret2
        refine ⟨Or.inr ⟨?_, rfl⟩, belT hB4 hb5⟩
        intro x hx0 hx1
        obtain ⟨h3, h4⟩ := HF.out x hx0 hx1
        have h5 := Option.some.inj (HN.out.symm.trans h3)
        have h6 := Option.some.inj (HC.out.symm.trans h4)
        have h7 : n * 281474976710656 + c = x := by omega
        rw [h7, hx1, toList_data] at hx
        simp at hx
      · have hx : (!textE (n * 281474976710656 + c) == s.toList) = false := by assumption
        go_ret2
        refine ⟨Or.inl ⟨n * 281474976710656 + c, by omega, ?_, ?_⟩, belT hB4 hb5⟩
        · rw [toList_data] at hx; simpa using hx
        · congr 1
    · have HC := Lib.hid hc
      clear hc
      have hp := Lib.hid (pack_any n v' w3 (by omega) (by omega) (by omega) (by omega))
      generalize packF n v' = r at hp
      go_wp2_with (first | (go_at_call 17; refine hp.out.mono ?_; rintro e w4 ⟨rfl, hb4⟩))
      go_ret2
      refine ⟨Or.inr ⟨?_, rfl⟩, belT hB3 hb4⟩
      intro x hx0 hx1
      have h4 := (HF.out x hx0 hx1).2
      rw [HC.out] at h4
      cases h4
  · have HN := Lib.hid hn
    clear hn
    go_wp2_with fail
    go_at_call 28
    refine (parseUint_any b (by omega) w2 48 281474976710655 (by omega) (by omega) (by omega) (by omega) (by rw [IntKind.wrap_u64]; decide) hE2).mono ?_
    rintro e w3 ⟨p3, hb3⟩
    have hB3 := belT hB2 hb3
    have fin : ∀ x : Nat, x < 18446744073709551616 → textE x ≠ s.data.toList := by
      intro x hx0 hx1
      have h3 := (HF.out x hx0 hx1).1
      rw [HN.out] at h3
      cases h3
    have Fin := Lib.hid fin
    clear fin
    rcases p3 with ⟨c, hc, rfl⟩ | ⟨hc, v', t', x', hv2, hv3, rfl⟩
    · have bc := puG_le hc
      clear hc
      have hp := Lib.hid (pack_any v c w3 (by omega) (by omega) (by omega) (by omega))
      generalize packF v c = r at hp
      go_wp2_with (go_at_call 17; refine hp.out.mono ?_; rintro e w4 ⟨rfl, hb4⟩)
      go_ret2
      exact ⟨Or.inr ⟨Fin.out, rfl⟩, belT hB3 hb4⟩
    · clear hc
      have hp := Lib.hid (pack_any v v' w3 (by omega) (by omega) (by omega) (by omega))
      generalize packF v v' = r at hp
      go_wp2_with (go_at_call 17; refine hp.out.mono ?_; rintro e w4 ⟨rfl, hb4⟩)
      go_ret2
      exact ⟨Or.inr ⟨Fin.out, rfl⟩, belT hB3 hb4⟩
end Go.Proofs.YtigepikfbpodpaaDoor
