/- Joined texts: Walks of package site: Bytes.; Walks of the statements' own helpers of layer 7: num; works, the chapter's rows. -/
import Derived.Test.YtnefpiohmokkiaaGreatDoorQS6
import Derived.Test.YtnefpiohmokkiaaGreatDoorQS11
import Derived.Test.YtnefpiohmokkiaaGreatDoorQS7
import Derived.Test.YtnefpiohmokkiaaGreatDoorQS3
import Derived.Test.YtnefpiohmokkiaaGreatDoorQS28
import Derived.Test.YtnefpiohmokkiaaGreatDoorQS29
import Derived.Test.YtnefpiohmokkiaaGreatDoorQS8
/- Walks of package site: Bytes. -/
namespace Go.Proofs.YtnefpiohmokkiaaGreatDoor
set_option linter.unusedVariables false
open Go Go.Proofs Go.RowKit




set_option maxRecDepth 100000 in
set_option maxHeartbeats 1000000 in
theorem siBytes_yes (f p : Nat) (hf : f < 32) (hp : p < 512) (w : World) :
    Calls Tryz.prog 32 #[.agg #[.int .i64 f, .int .i64 p]] w fun e w' => ∃ v, e = .returned (.tuple #[v, .int .i64 0]) ∧ w'.ownsRowF w.heap.size 5 1 v 3 (leB f 1 ++ leB p 2) ∧ Below w.heap.size w w' := by
  obtain ⟨i0, hi, hz0, hz1, hz2⟩ := info_of info_octet
  have c1 := check_any f p
  have h1 : chkF f p = 0 := by unfold chkF; rw [if_pos (by omega)]
  rw [h1] at c1
  have C1 := Lib.hid c1
  clear c1 h1
  have k0 := cell_new w #[.int .i64 f, .int .i64 p] 30 0
  have k1 := cell_new w #[.int .i64 f, .int .i64 p] 30 1
  go_enter Tryz.func32, Tryz.ntmps32
  go_wp2_with fail
  refine (C1.out _).mono ?_
  rintro e w1 ⟨rfl, hb1⟩
  have m0 := cell_bel k0 hb1
  have m1 := cell_bel k1 hb1
  have hB1 := belT (bel1 _) hb1
  clear k0 k1 hb1
  go_wp2_with fail
  refine (fixed_yes f 1 (by simp) (by omega) _).mono ?_
  rintro e w2 ⟨v, rfl, hown, hb2⟩
  have n0 := cell_bel m0 hb2
  have n1 := cell_bel m1 hb2
  have hB2 := belT hB1 hb2
  go_wp2_with fail
  refine (fixed_yes p 2 (by simp) (by omega) _).mono ?_
  rintro e w3 ⟨v', rfl, hown', hb3⟩
  have hB3 := belT hB2 hb3
  have hownA := own_below hown hb3
  obtain ⟨g, cap, rfl, hg1, hg2, hg3, hg4⟩ := own_slice hown (by omega)
  obtain ⟨g', cap', rfl, hg1', hg2', hg3', hg4'⟩ := own_slice hown' (by omega)
  have hsz := hB1.size
  have hsz2 := hB2.size
  have hle := hown.1
  go_wp2_with (at_builtin; refine wpList_append_ownF _ rfl _ _ 80 rfl w1.heap.size 5 i0 (.int .u8 0) 1 1 Tryz.underlying80 hi hz0 hz1 hz2 rfl (by decide) _ _ _ rfl hownA ⟨g', 0, none⟩ 2 cap' (leB p 2) rfl (by rw [leB_length]) ?c1 ?c2 ?c3 ?c4 ?c5 ?_)
  case c1 =>
    intro j u hj
    exact hown'.cells rfl j u hj
  case c2 =>
    intro u hu
    simp only [leB, List.mem_map] at hu
    obtain ⟨i, _, rfl⟩ := hu
    rfl
  case c3 => unfold maxLen; omega
  case c4 => omega
  case c5 => have := hb2.size; have := hb3.size; omega
  intro v' w4 hown4 hgrow _
  have hB4 : Below w.heap.size w w4 := hB3.grown hgrow hB3.size (fun k hk => by have := (hownA.lt k hk).1; omega)
  go_wp2
  go_ret2
  exact ⟨_, rfl, own_base hown4 hsz, hB4⟩

end Go.Proofs.YtnefpiohmokkiaaGreatDoor

/- Walks of the statements' own helpers of layer 7: num; works, the chapter's rows. -/
namespace Go.Proofs.YtnefpiohmokkiaaGreatDoor
set_option linter.unusedVariables false
open Go Go.Proofs Go.RowKit

theorem num_any (n : Int) (w : World) : Calls Tryz.prog 10 #[.int .i64 n] w fun e w' => e = .returned (.int .i64 n) ∧ w = w' := by
  go_enter Tryz.func10, Tryz.ntmps10
  go_wp2
  go_ret
  exact ⟨rfl, rfl⟩

theorem dec_inj {a b : Nat} (ha : a < 1000000000) (hb : b < 1000000000) (h : Lib.decDigits a = Lib.decDigits b) : a = b := by
  have h1 := atoi_dec a ha
  have h2 := atoi_dec b hb
  rw [h, h2] at h1
  injection h1 with h1
  omega

theorem textS_inj {f p f' p' : Nat} (hf : f < 32) (hp : p < 512) (hf' : f' < 32) (hp' : p' < 512) (h : textS f p = textS f' p') : f = f' ∧ p = p' := by
  have e : textS f p = (⟨(textS f' p').toArray⟩ : ByteArray).data.toList := h
  obtain ⟨_, h1, h2⟩ := site_cut _ f p e
  obtain ⟨_, h3, h4⟩ := site_cut ⟨(textS f' p').toArray⟩ f' p' rfl
  exact ⟨dec_inj (by omega) (by omega) (h1.symm.trans h3), dec_inj (by omega) (by omega) (h2.symm.trans h4)⟩

theorem text_a : textS 1 12 = [102, 49, 58, 49, 50] := by simp [textS, Lib.decDigits]

theorem text_b (f p : Nat) (hf : f < 32) (hp : p < 512) : textS f p ≠ [102, 48, 49, 58, 50] := by
  intro h
  have e : textS f p = (⟨#[102, 48, 49, 58, 50]⟩ : ByteArray).data.toList := h
  obtain ⟨_, h1, _⟩ := site_cut _ f p e
  have e2 : (cutBytes ⟨(Lib.trimPrefix (⟨#[102, 48, 49, 58, 50]⟩ : ByteArray).data.toList [102]).toArray⟩ 58).1.data.toList = [48, 49] := by decide +kernel
  rw [e2] at h1
  have h3 := atoi_dec f (by omega)
  rw [← h1] at h3
  have h4 : Lib.atoiAll [48, 49] = .ok 1 := by decide +kernel
  have h5 : f = 1 := by
    rw [h4] at h3
    injection h3 with h3
    omega
  rw [h5] at h1
  simp [Lib.decDigits] at h1

theorem of_a : ofF 2 0 1 5 = .tuple #[.agg #[.int .i64 1, .int .i64 5, .int .i64 2, .int .i64 0], .int .i64 0] := by kernel_rfl
theorem right_a : rightF 1 5 2 0 = true := by decide +kernel
theorem key_a : (keyOf Tryz.prog 32 (.agg #[.int .i64 1, .int .i64 5, .int .i64 2, .int .i64 0])).isSome = true := by kernel_rfl

theorem leB_a : leB 1 1 ++ leB 258 2 = [.int .u8 1, .int .u8 2, .int .u8 1] := by kernel_rfl

set_option maxRecDepth 100000 in
set_option maxHeartbeats 2000000 in
theorem works_any (w : World) (hE : Env w) : Calls Tryz.prog 5 #[] w fun e w' => e = .returned (.bool true) ∧ Below w.heap.size w w' := by
  have c1 := siText_yes 1 12 (by omega) (by omega) w hE
  rw [text_a] at c1
  have C1 := Lib.hid c1
  clear c1
  go_enter Tryz.func5, Tryz.ntmps5
  go_wp2_with fail
  refine (C1.out).mono ?_
  rintro e w1 ⟨rfl, hb1⟩
  have c2 := siParse_any ⟨#[102, 49, 58, 49, 50]⟩ (by decide) w1 (hE.on hb1)
  have C2 := Lib.hid c2
  clear c2 C1
  go_wp2_with fail
  refine C2.out.mono ?_
  rintro e w2 ⟨hq, hb2⟩
  obtain rfl : e = .returned (.tuple #[.agg #[.int .i64 1, .int .i64 12], .int .i64 0]) := by
    rcases hq with ⟨f, p, hf, hp, h, rfl⟩ | ⟨h, _⟩
    · obtain ⟨rfl, rfl⟩ := textS_inj hf hp (by omega) (by omega) (h.trans text_a.symm)
      rfl
    · exact absurd text_a (h 1 12 (by omega) (by omega))
  clear hq C2
  have B2 := belT hb1 hb2
  have c3 := siParse_any ⟨#[102, 48, 49, 58, 50]⟩ (by decide) _ (hE.on (belA B2 (.cells #[.int .i64 1, .int .i64 12] 30)))
  have C3 := Lib.hid c3
  clear c3 hb1 hb2
  go_wp2_with fail
  refine C3.out.mono ?_
  rintro e w3 ⟨hq, hb3⟩
  obtain rfl : e = .returned (.tuple #[.agg #[.int .i64 0, .int .i64 0], .int .i64 170]) := by
    rcases hq with ⟨f, p, hf, hp, h, rfl⟩ | ⟨_, h⟩
    · exact absurd h (text_b f p hf hp)
    · exact h
  clear hq C3
  have B3 := belT (belA B2 _) hb3
  have y0 := cell_bel (cell_new w2 #[.int .i64 1, .int .i64 12] 30 0) hb3
  have y1 := cell_bel (cell_new w2 #[.int .i64 1, .int .i64 12] 30 1) hb3
  clear hb3
  go_wp2_with fail
  refine (siBytes_yes 1 258 (by omega) (by omega) _).mono ?_
  rintro e w4 ⟨v, rfl, hown, hb4⟩
  have y0 := cell_bel (cell_al y0 _) hb4
  have y1 := cell_bel (cell_al y1 _) hb4
  have B4 := belT (belA B3 _) hb4
  rw [leB_a] at hown
  obtain ⟨g, cap, rfl, _, hg2, hg3, hg4⟩ := own_slice hown (by omega)
  have g0 : w4.cell? ⟨g, 0, none⟩ = some (.int .u8 1) := hown.cells rfl 0 _ rfl
  have g1 : w4.cell? ⟨g, 1, none⟩ = some (.int .u8 2) := by simpa [Addr.add] using hown.cells (g := g) rfl 1 _ rfl
  have g2 : w4.cell? ⟨g, 2, none⟩ = some (.int .u8 1) := by simpa [Addr.add] using hown.cells (g := g) rfl 2 _ rfl
  clear hown hb4
  have c5 := of_any 2 0 1 5 w4
  rw [of_a] at c5
  go_wp2_with fail
  refine c5.mono ?_
  rintro e w5 ⟨rfl, hb5⟩
  have B5 := belT B4 hb5
  have y0 := cell_bel y0 hb5
  have y1 := cell_bel y1 hb5
  have g0 := cell_bel g0 hb5
  have g1 := cell_bel g1 hb5
  have g2 := cell_bel g2 hb5
  have ly5 := lt_of_cell y0
  have lg5 := lt_of_cell g0
  clear c5 hb5
  go_wp2_with fail
  refine (siNew_none _).mono ?_
  rintro e w6 ⟨B, M, rfl, hc, hm, hM, hb6⟩
  have p0 := cell_bel (cell_new w5 #[.int .i64 1, .int .i64 5, .int .i64 2, .int .i64 0] 32 0) hb6
  have p1 := cell_bel (cell_new w5 #[.int .i64 1, .int .i64 5, .int .i64 2, .int .i64 0] 32 1) hb6
  have p2 := cell_bel (cell_new w5 #[.int .i64 1, .int .i64 5, .int .i64 2, .int .i64 0] 32 2) hb6
  have p3 := cell_bel (cell_new w5 #[.int .i64 1, .int .i64 5, .int .i64 2, .int .i64 0] 32 3) hb6
  have y0 := cell_bel (cell_al y0 _) hb6
  have y1 := cell_bel (cell_al y1 _) hb6
  have g0 := cell_bel (cell_al g0 _) hb6
  have g1 := cell_bel (cell_al g1 _) hb6
  have g2 := cell_bel (cell_al g2 _) hb6
  have B6 := belT (belA B5 _) hb6
  have ly : w2.heap.size < w5.heap.size := ly5
  have lg : g < w5.heap.size := lg5
  have hsz : (w5.alloc (.cells #[.int .i64 1, .int .i64 5, .int .i64 2, .int .i64 0] 32)).heap.size = w5.heap.size + 1 := by simp
  rw [hsz] at hM
  clear hb6 hsz hg2
  obtain ⟨kl, hkey⟩ := Option.isSome_iff_exists.1 key_a
  go_wp2_with fail
  refine (siAdd_any B M (w5.heap.size + 1) 1 5 2 0 0 right_a hkey (by omega) (by omega) #[] 0 (Or.inl ⟨rfl, rfl, rfl⟩) _ hc hm hM).mono ?_
  rintro e w7 ⟨rfl, hc7, hm7, hb7⟩
  have y0 := cell_belB y0 hb7 (by omega)
  have y1 := cell_belB y1 hb7 (by omega)
  have g0 := cell_belB g0 hb7 (by omega)
  have g1 := cell_belB g1 hb7 (by omega)
  have g2 := cell_belB g2 hb7 (by omega)
  have p0 := cell_belB p0 hb7 (by omega)
  have p1 := cell_belB p1 hb7 (by omega)
  have p2 := cell_belB p2 hb7 (by omega)
  have p3 := cell_belB p3 hb7 (by omega)
  have B7 := B6.trans (hb7.mono (by have := B5.size; omega))
  clear hb7 hc hm
  go_wp2_with fail
  refine (siAdd_any B M (w5.heap.size + 1) 1 5 2 0 1 right_a hkey (by omega) (by omega) _ 1 (Or.inr ⟨rfl, rfl⟩) _ hc7 hm7 hM).mono ?_
  rintro e w8 ⟨rfl, hc8, hm8, hb8⟩
  have y0 := cell_belB y0 hb8 (by omega)
  have y1 := cell_belB y1 hb8 (by omega)
  have g0 := cell_belB g0 hb8 (by omega)
  have g1 := cell_belB g1 hb8 (by omega)
  have g2 := cell_belB g2 hb8 (by omega)
  have p0 := cell_belB p0 hb8 (by omega)
  have p1 := cell_belB p1 hb8 (by omega)
  have p2 := cell_belB p2 hb8 (by omega)
  have p3 := cell_belB p3 hb8 (by omega)
  have B8 := B7.trans (hb8.mono (by have := B5.size; omega))
  clear hb8 hc7 hm7 hkey
  have hcv : (convert 80 9 (.slice (some ⟨g, 0, none⟩) 3 cap)).run Tryz.prog w8 = .ok (.string ⟨#[1, 2, 1]⟩) w8 := by
    have := run_convert_bytes_back (P := Tryz.prog) w8 80 9 5 ⟨g, 0, none⟩ cap [1, 2, 1] Tryz.underlying80 Tryz.underlying5 Tryz.underlying9 (by
      intro j hj
      match j, hj with
      | 0, _ => simpa [Addr.add] using g0
      | 1, _ => simpa [Addr.add] using g1
      | 2, _ => simpa [Addr.add] using g2)
    exact this
  have HL := Lib.hid (siLen_any B M _ _ w8 hc8 hm8)
  go_wp2_with (first
    | (go_at_call 10; refine (num_any _ _).mono ?_; rintro e wn ⟨rfl, rfl⟩)
    | (go_at_call 13; refine HL.out.mono ?_; rintro e wn ⟨rfl, rfl⟩))
  go_ret
  exact ⟨rfl, B8⟩
end Go.Proofs.YtnefpiohmokkiaaGreatDoor
