/- Joined texts: The instruction that a text's first word begins.; Walks of internal/strconv.ParseUint in base 10, at whatever width up to 48.; Walks of strconv.ParseUint in base 10.; Plain laws of decimals. -/
import Derived.Test.YtfnfcngkaepnjaaGreatDoorQZ10
import Derived.Test.YtfnfcngkaepnjaaGreatDoorQZ6
import Derived.Test.YtfnfcngkaepnjaaGreatDoorQZ1
import Derived.Lib.Strings
import Derived.Lib.Walk
import Derived.Lib.ConvBytes
import Derived.Lib.AtoiErrMem
import Derived.Laws.Strings3
import Derived.Laws.Closers25
import Derived.Laws.Closers25b
import Derived.Test.YtfnfcngkaepnjaaGreatDoorQZ9
import Derived.Lib.ItoaLen
/- The instruction that a text's first word begins. -/
namespace Go.Proofs.YtfnfcngkaepnjaaGreatDoor
set_option linter.unusedVariables false
open Go Go.Proofs Go.RowKit

theorem idx_cases (x : ByteArray) : ∀ (zs : List ByteArray) (i : Nat), (Lib.idxFromS zs x i = -1 ∧ ∀ k, k < zs.length → zs.getD k ByteArray.empty ≠ x) ∨ ∃ k, k < zs.length ∧ Lib.idxFromS zs x i = ((i + k : Nat) : Int) ∧ zs.getD k ByteArray.empty = x ∧ ∀ j, j < k → zs.getD j ByteArray.empty ≠ x
  | [], i => Or.inl ⟨rfl, fun k hk => absurd hk (Nat.not_lt_zero _)⟩
  | z :: zs, i => by
    by_cases hz : z = x
    · refine Or.inr ⟨0, by simp, by simp [Lib.idxFromS, hz], by simpa using hz, fun j hj => absurd hj (Nat.not_lt_zero _)⟩
    · rcases idx_cases x zs (i + 1) with ⟨h1, h2⟩ | ⟨k, h1, h2, h3, h4⟩
      · refine Or.inl ⟨by simp [Lib.idxFromS, hz, h1], fun k hk => ?_⟩
        cases k with
        | zero => simpa using hz
        | succ k => simpa using h2 k (by simpa using hk)
      · refine Or.inr ⟨k + 1, by simpa using h1, by simp only [Lib.idxFromS, if_neg hz, h2]; congr 1; omega, by simpa using h3, fun j hj => ?_⟩
        cases j with
        | zero => simpa using hz
        | succ j => simpa using h4 j (by omega)

def wordI (s : ByteArray) : Int := Lib.idxOfS wordL s
theorem wordL_length : wordL.length = 20 := rfl
theorem word_cases (s : ByteArray) : (wordI s = -1 ∧ ∀ k : Nat, k < 20 → wordN k ≠ s) ∨ ∃ k : Nat, k < 20 ∧ wordI s = (k : Int) ∧ wordN k = s ∧ ∀ j : Nat, j < k → wordN j ≠ s := by
  rcases idx_cases s wordL 0 with ⟨h1, h2⟩ | ⟨k, h1, h2, h3, h4⟩
  · exact Or.inl ⟨h1, h2⟩
  · exact Or.inr ⟨k, h1, by rw [Nat.zero_add] at h2; exact h2, h3, h4⟩

theorem words_apart : ∀ k, 1 ≤ k → k < 20 → k ≠ 3 → ∀ j, j < 20 → j ≠ k → wordN j ≠ wordN k := by
  have h : ((List.range 20).all fun k => decide (k = 0 ∨ k = 3) || (List.range 20).all fun j => decide (j = k) || !(decide (wordN j = wordN k))) = true := by decide +kernel
  intro k h1 h2 h3 j hj hjk e
  have a := List.all_eq_true.1 h k (List.mem_range.2 h2)
  rw [decide_eq_false (by omega), Bool.false_or] at a
  have b := List.all_eq_true.1 a j (List.mem_range.2 hj)
  rw [decide_eq_false hjk, Bool.false_or, decide_eq_true e] at b
  cases b
theorem kinds_apart : ∀ k, k < 12 → ∀ j, j < 12 → kindN j = kindN k → j = k := by
  have h : ((List.range 12).all fun k => (List.range 12).all fun j => decide (j = k) || !(decide (kindN j = kindN k))) = true := by decide +kernel
  intro k hk j hj e
  have a := List.all_eq_true.1 (List.all_eq_true.1 h k (List.mem_range.2 hk)) j (List.mem_range.2 hj)
  rw [decide_eq_true e] at a
  simpa using a
theorem word_kind : ∀ k, k < 20 → ∀ j, j < 12 → kindN j ≠ wordN k := by
  have h : ((List.range 20).all fun k => (List.range 12).all fun j => !(decide (kindN j = wordN k))) = true := by decide +kernel
  intro k hk j hj e
  have a := List.all_eq_true.1 (List.all_eq_true.1 h k (List.mem_range.2 hk)) j (List.mem_range.2 hj)
  rw [decide_eq_true e] at a
  cases a
theorem word_empty : ∀ k, k < 20 → wordN k = ⟨#[]⟩ → k = 0 ∨ k = 3 := by
  have h : ((List.range 20).all fun k => decide (k = 0 ∨ k = 3) || !(decide (wordN k = ⟨#[]⟩))) = true := by decide +kernel
  intro k hk e
  have a := List.all_eq_true.1 h k (List.mem_range.2 hk)
  rw [decide_eq_true e] at a
  simpa using a

/-- What a first word begins: an Op, Imm, is it one? -/
structure BegP (s : ByteArray) (o k : Int) (f : Bool) : Prop where
  fits : f = true → (1 ≤ o ∧ o ≤ 19) ∧ (0 ≤ k ∧ k ≤ 12)
  name : ∀ op m, 1 ≤ op → op ≤ 19 → (op = 3 → 1 ≤ m ∧ m ≤ 12) → s = insN op m → f = true ∧ o = op ∧ k = if op = 3 then m else 0

theorem begP_kind (j : Nat) (hj : j < 12) : BegP (kindN j) 3 ((j : Int) + 1) true := by
  refine ⟨fun _ => ⟨by omega, by omega⟩, fun op m h1 h2 h3 hs => ?_⟩
  unfold insN at hs
  by_cases hop : op = 3
  · rw [if_pos hop] at hs
    obtain ⟨m1, m2⟩ := h3 hop
    have := kinds_apart _ (by omega) _ hj hs
    exact ⟨rfl, hop.symm, by rw [if_pos hop]; omega⟩
  · rw [if_neg hop] at hs
    exact absurd hs (word_kind _ (by omega) _ hj)
theorem begP_word (s : ByteArray) (hk : ∀ j : Nat, j < 12 → kindN j ≠ s) : BegP s (wordI s) 0 (decide (0 < wordI s) && decide (s ≠ ⟨#[]⟩)) := by
  refine ⟨fun hf => ?_, fun op m h1 h2 h3 hs => ?_⟩
  · simp only [Bool.and_eq_true, decide_eq_true_eq] at hf
    rcases word_cases s with ⟨h1, _⟩ | ⟨k, h1, h2, _⟩
    · omega
    · omega
  · unfold insN at hs
    by_cases hop : op = 3
    · rw [if_pos hop] at hs
      obtain ⟨m1, m2⟩ := h3 hop
      exact absurd hs.symm (hk _ (by omega))
    · rw [if_neg hop] at hs
      have hne : s ≠ ⟨#[]⟩ := by
        intro e
        rcases word_empty op.toNat (by omega) (hs.symm.trans e) with h | h <;> omega
      have hi : wordI s = op := by
        rcases word_cases s with ⟨_, h⟩ | ⟨k, h4, h5, h6, h7⟩
        · exact absurd hs.symm (h op.toNat (by omega))
        · by_cases hkk : k = op.toNat
          · omega
          · exact absurd (h6.trans hs) (words_apart op.toNat (by omega) (by omega) (by omega) k h4 hkk)
      rw [hi]
      exact ⟨by simp [hne]; omega, rfl, by rw [if_neg hop]⟩

def BegQ (s : ByteArray) (w : World) (e : Ending) (w' : World) : Prop := ∃ o k f, BegP s o k f ∧ e = .returned (.tuple #[insV o 0 0 0 k, .bool f]) ∧ Below w.heap.size w w'

set_option maxRecDepth 100000 in
set_option maxHeartbeats 1000000 in
theorem begun_any (s : ByteArray) (w : World) :
    Calls Tryz.prog 91 #[.string s] w (BegQ s w) := by
  go_enter Tryz.func91, Tryz.ntmps91
  go_wp2_with fail
  refine (kindParse_any s _).mono ?_
  rintro e w1 ⟨k, n, hp, rfl, hb1⟩
  have hI := Bare.bel (Bare.new 0 0 0 0 0 w 29) hb1
  have f0 := froz_bel (cell_new w #[.int .i64 0, .int .i64 0, .int .i64 0, .int .i64 0, .int .u32 0] 29 0) (World.frozen?_alloc_new _ _ _ _) hb1
  have hB1 := belT (bel1 _) hb1
  have hlt1 := lt_of_cell hI.c0
  clear hb1
  rcases hp with ⟨j, hj, rfl, rfl, rfl⟩ | ⟨hk, rfl, rfl⟩
  · have HB := Lib.hid (begP_kind j hj)
    have hset := Bare.set hI 3 0 0 0 ((j : Int) + 1)
    have hBs : Below w.heap.size w (((((w1.setCell ⟨w.heap.size, 0, none⟩ (.int .i64 3)).setCell ⟨w.heap.size, 1, none⟩ (.int .i64 0)).setCell ⟨w.heap.size, 2, none⟩ (.int .i64 0)).setCell ⟨w.heap.size, 3, none⟩ (.int .i64 0)).setCell ⟨w.heap.size, 4, none⟩ (.int .u32 ((j : Int) + 1))) := (((((hB1.setCell (p := ⟨w.heap.size, 0, none⟩) (Nat.le_refl _) _).setCell (p := ⟨w.heap.size, 1, none⟩) (Nat.le_refl _) _).setCell (p := ⟨w.heap.size, 2, none⟩) (Nat.le_refl _) _).setCell (p := ⟨w.heap.size, 3, none⟩) (Nat.le_refl _) _).setCell (p := ⟨w.heap.size, 4, none⟩) (Nat.le_refl _) _)
    have HSET := Lib.hid hset
    have HBS := Lib.hid hBs
    obtain ⟨i0, i1, i2, i3, i4, j1, j2, j3, j4⟩ := hI
    dsimp only at i1 i2 i3 i4
    clear hset hBs
    go_wp2_with fail
    obtain ⟨e0, e1, e2, e3, e4, _, _, _, _⟩ := HSET.out
    have hBS := HBS.out
    generalize ((((w1.setCell _ _).setCell _ _).setCell _ _).setCell _ _).setCell _ _ = W5 at e0 e1 e2 e3 e4 hBS ⊢
    exact bodyPost_ret (v := .tuple #[.agg #[.int .i64 3, .int .i64 0, .int .i64 0, .int .i64 0, .int .u32 ((j : Int) + 1)], .bool true]) (by simp [results, Tryz.results91, go_sem, e0, e1, e2, e3, e4]) rfl ⟨3, (j : Int) + 1, true, HB.out, rfl, hBS⟩
  · have HB := Lib.hid (begP_word s hk)
    have CW := Lib.hid words_any
    have hWi : Hid ((Tryz.prog.info? 221).map (·.size) = some wordA.size) := Lib.hid (by kernel_rfl)
    have hW1 : Hid (wordA.all (·.oneCell') = true) := Lib.hid (by kernel_rfl)
    have hW20 : Hid ((20 : Nat) = wordA.size) := Lib.hid (by kernel_rfl)
    have hWc : Hid (∀ j, j < 20 → wordA[j]? = some (.string (wordL.getD j ByteArray.empty))) := Lib.hid (by
      intro j hj
      have hl : j < wordL.length := hj
      simp [wordA, List.getD, hl])
    have CW' : Hid (∀ W, Calls Tryz.prog 142 #[] W fun e w' => e = .returned (.agg wordA) ∧ Below W.heap.size W w') := CW
    clear hk CW
    generalize wordA = WA at hWi hW1 hW20 hWc CW'
    go_wp2_with fail
    refine (CW'.out _).mono ?_
    rintro e w2 ⟨rfl, hb2⟩
    have f0 := froz_bel hI.c0 f0 hb2
    have hI := hI.bel hb2
    have hB2 := belT hB1 hb2
    have hlt2 := lt_of_cell hI.c0
    clear hb2 hlt1 hB1
    go_wp2_with (refine wpList_store_row rfl 221 _ _ rfl w2.heap.size WA rfl rfl 221 (Array.replicate 20 (.string ⟨#[]⟩)) (heap_alloc_new w2 _) hWi.out (by rw [Array.size_replicate]; exact hW20.out) hW1.out ?_)
    obtain ⟨W3, hW3⟩ : ∃ W3, W3 = (w2.alloc (.cells (Array.replicate 20 (.string ⟨#[]⟩)) 221)).setRow w2.heap.size WA := ⟨_, rfl⟩
    have hcW : ∀ j, j < 20 → W3.cell? ⟨w2.heap.size, 0 + j, none⟩ = some (.string (wordL.getD j ByteArray.empty)) := fun j hj => by
      rw [hW3, Nat.zero_add]
      exact (cell_setRow_same _ _ _ _ _ _ _ (heap_alloc_new w2 _)).trans (hWc.out j hj)
    have hbW : Below w2.heap.size w2 W3 := by rw [hW3]; exact below_setRow (bel1 _) (Nat.le_refl _) _
    have CI := Tryz.slices_Index_string w2.heap.size 0 20 20 wordL s W3 (by rw [wordL_length]; exact Nat.le_refl _) (by omega) hcW
    rw [List.take_of_length_le (by rw [wordL_length]; exact Nat.le_refl _), show Lib.idxOfS wordL s = wordI s from rfl] at CI
    have CI' := Lib.hid CI
    change Calls _ _ _ ((w2.alloc (.cells (Array.replicate 20 (.string ⟨#[]⟩)) 221)).setRow w2.heap.size WA) _
    rw [← hW3]
    clear hW3 hcW CI
    refine CI'.out.mono ?_
    rintro e w3 ⟨rfl, rfl⟩
    have f0 := froz_bel hI.c0 f0 hbW
    have hI := hI.bel hbW
    have hB3 := belT hB2 hbW
    have hlt3 := lt_of_cell hI.c0
    have hr : -1 ≤ wordI s ∧ wordI s ≤ 19 := by rcases word_cases s with ⟨h1, _⟩ | ⟨k, h1, h2, _⟩ <;> omega
    obtain ⟨r1, r2⟩ := hr
    generalize wordI s = ix at HB r1 r2 ⊢
    clear hbW hlt2 hB2 CI' CW'
    have hset := Bare.set hI ix 0 0 0 0
    have hBs : Below w.heap.size w (((((w3.setCell ⟨w.heap.size, 0, none⟩ (.int .i64 ix)).setCell ⟨w.heap.size, 1, none⟩ (.int .i64 0)).setCell ⟨w.heap.size, 2, none⟩ (.int .i64 0)).setCell ⟨w.heap.size, 3, none⟩ (.int .i64 0)).setCell ⟨w.heap.size, 4, none⟩ (.int .u32 0)) := (((((hB3.setCell (p := ⟨w.heap.size, 0, none⟩) (Nat.le_refl _) _).setCell (p := ⟨w.heap.size, 1, none⟩) (Nat.le_refl _) _).setCell (p := ⟨w.heap.size, 2, none⟩) (Nat.le_refl _) _).setCell (p := ⟨w.heap.size, 3, none⟩) (Nat.le_refl _) _).setCell (p := ⟨w.heap.size, 4, none⟩) (Nat.le_refl _) _)
    have HSET := Lib.hid hset
    have HBS := Lib.hid hBs
    obtain ⟨i0, i1, i2, i3, i4, j1, j2, j3, j4⟩ := hI
    dsimp only at i1 i2 i3 i4
    clear hset hBs
    by_cases hix : 0 < ix
    · by_cases hs : s = ⟨#[]⟩
      · have hs' : (s.toList == []) = true := by rw [hs, toList_data]; rfl
        rw [decide_eq_true hix, decide_eq_false (by simpa using hs)] at HB
        clear hs
        go_wp2_with fail
        obtain ⟨e0, e1, e2, e3, e4, _, _, _, _⟩ := HSET.out
        have hBS := HBS.out
        generalize ((((World.setCell _ _ _).setCell _ _).setCell _ _).setCell _ _).setCell _ _ = W5 at e0 e1 e2 e3 e4 hBS ⊢
        exact bodyPost_ret (v := .tuple #[.agg #[.int .i64 ix, .int .i64 0, .int .i64 0, .int .i64 0, .int .u32 0], .bool false]) (by simp [results, Tryz.results91, go_sem, e0, e1, e2, e3, e4]) rfl ⟨ix, 0, false, HB.out, rfl, hBS⟩
      · have hs' : (s.toList == []) = false := by have h0 := str_ne hs; rw [toList_data ⟨#[]⟩] at h0; exact h0
        rw [decide_eq_true hix, decide_eq_true hs] at HB
        clear hs
        go_wp2_with fail
        obtain ⟨e0, e1, e2, e3, e4, _, _, _, _⟩ := HSET.out
        have hBS := HBS.out
        generalize ((((World.setCell _ _ _).setCell _ _).setCell _ _).setCell _ _).setCell _ _ = W5 at e0 e1 e2 e3 e4 hBS ⊢
        exact bodyPost_ret (v := .tuple #[.agg #[.int .i64 ix, .int .i64 0, .int .i64 0, .int .i64 0, .int .u32 0], .bool true]) (by simp [results, Tryz.results91, go_sem, e0, e1, e2, e3, e4]) rfl ⟨ix, 0, true, HB.out, rfl, hBS⟩
    · rw [decide_eq_false hix, Bool.false_and] at HB
      have hix' : ix ≤ 0 := by omega
      go_wp2_with fail
      obtain ⟨e0, e1, e2, e3, e4, _, _, _, _⟩ := HSET.out
      have hBS := HBS.out
      generalize ((((World.setCell _ _ _).setCell _ _).setCell _ _).setCell _ _).setCell _ _ = W5 at e0 e1 e2 e3 e4 hBS ⊢
      exact bodyPost_ret (v := .tuple #[.agg #[.int .i64 ix, .int .i64 0, .int .i64 0, .int .i64 0, .int .u32 0], .bool false]) (by simp [results, Tryz.results91, go_sem, e0, e1, e2, e3, e4]) rfl ⟨ix, 0, false, HB.out, rfl, hBS⟩
end Go.Proofs.YtfnfcngkaepnjaaGreatDoor

/- Walks of internal/strconv.ParseUint in base 10, at whatever width up to 48. -/
namespace Go.Proofs.YtfnfcngkaepnjaaGreatDoor
set_option linter.unusedVariables false
open Go Go.Proofs Go.RowKit

theorem lower_any (c : Int) (w : World) :
    Calls Tryz.prog 201 #[.int .u8 c] w fun e w' => e = .returned (.int .u8 (bits .or .u8 c 32)) ∧ w' = w := by
  go_enter Tryz.func201, Tryz.ntmps201
  go_wp2
  go_ret
  exact ⟨rfl, rfl⟩

/-- The number of digits, none above m; behind acc. -/
def puF (m : Nat) : Nat → List UInt8 → Option Nat
  | acc, [] => some acc
  | acc, c :: l => if 48 ≤ c.toNat ∧ c.toNat ≤ 57 then (if m < acc * 10 + (c.toNat - 48) then none else puF m (acc * 10 + (c.toNat - 48)) l) else none

/-- What ParseUint tells of a text in base 10: the number; or some number and an error, of kind 1 or 2. -/
def puPost (m : Nat) (r : Option Nat) (e : Ending) : Prop :=
  (∃ n, r = some n ∧ e = .returned (.tuple #[.int .u64 n, .nilIface])) ∨
    (r = none ∧ ∃ v k : Int, 0 ≤ v ∧ v ≤ m ∧ (k = 1 ∨ k = 2) ∧ e = .returned (.tuple #[.int .u64 v, .iface 268 (.int .i64 k)]))

set_option maxHeartbeats 2000000 in
set_option maxRecDepth 100000 in
theorem parseUint_in (t : ByteArray) (hne : t.size ≠ 0) (hmax : t.size ≤ 9223372036854775806) (w : World) (b : Int) (m : Nat) (hb0 : 1 ≤ b) (hb1 : b ≤ 48) (hm0 : 9 ≤ m) (hm1 : m ≤ 281474976710655)
    (hsh : IntKind.u64.wrap (2 ^ b.toNat) = m + 1) :
    Calls Tryz.prog 154 #[.string t, .int .i64 10, .int .i64 b] w fun e w' => puPost m (puF m 0 t.data.toList) e ∧ Below w.heap.size w w' := by
  have hemp : t.toList.isEmpty = false := by
    rw [← decide_eq_emptyBytes]
    exact decide_eq_false (fun h => hne (by rw [h]; rfl))
  have hcv := Lib.run_convert_string_bytes (P := Tryz.prog) w 9 22 5 t (u := .string) Tryz.underlying9 Tryz.underlying22 Tryz.underlying5
  have hB : ∀ j, j < t.size → (Lib.bytesWorld w 5 t).cell? ⟨w.heap.size, j, none⟩ = some (.int .u8 (t.data.toList.getD j 0).toNat) := fun j hj => Lib.bytesWorld_cell w 5 t j hj
  have hbw : Below w.heap.size w (Lib.bytesWorld w 5 t) := Lib.bytesWorld_below _ _ _
  obtain ⟨W1, hW1⟩ : ∃ W1, W1 = Lib.bytesWorld w 5 t := ⟨_, rfl⟩
  rw [← hW1] at hcv hB hbw
  clear hW1
  obtain ⟨bs, hL⟩ : ∃ bs, bs = t.data.toList := ⟨_, rfl⟩
  have hLn : bs.length = t.size := by rw [hL, Lib.size_eq]
  rw [← hL] at hB ⊢
  clear hL
  have hmw : IntKind.u64.wrap (m : Int) = m := by rw [IntKind.wrap_u64]; omega
  go_enter Tryz.func154, Tryz.ntmps154
  go_wp2
  go_loop [12, 13, 101] (fun vu vn vi => ∃ (k acc : Nat) (a : Int), vu = .bool false ∧ vn = .int .u64 a ∧ vi = .int .i64 k ∧ k ≤ t.size ∧ Hid (a = (acc : Int) ∧ acc ≤ m ∧ puF m 0 bs = puF m acc (bs.drop k)))
    (fun _ _ vi => t.size - (intOf vi).toNat)
  case atStart => exact ⟨0, 0, 0, rfl, rfl, rfl, by omega, rfl, by omega, rfl⟩
  case round =>
    obtain ⟨k, acc, a, rfl, rfl, rfl, hk, hh⟩ := hrel
    obtain ⟨ha, hacc, hdec⟩ := hh.out
    clear hh
    have a0 : 0 ≤ a := by omega
    have a1 : a ≤ 281474976710655 := by omega
    by_cases hkn : k < t.size
    · have hc := hB k hkn
      have hdrop : bs.drop k = bs[k]'(by omega) :: bs.drop (k + 1) := List.drop_eq_getElem_cons (by omega)
      have hget : bs.getD k 0 = bs[k]'(by omega) := by simp [List.getD, List.getElem?_eq_getElem (show k < bs.length by omega)]
      rw [hdrop] at hdec
      rw [hget] at hc
      generalize bs[k]'(by omega) = c at hc hdec
      have hc256 : c.toNat < 256 := c.toNat_lt
      clear hB hdrop hget
      by_cases hdig : 48 ≤ c.toNat ∧ c.toNat ≤ 57
      · obtain ⟨hd0, hd1⟩ := hdig
        have hcut : ¬ 1844674407370955162 ≤ acc := by omega
        by_cases hov : m < acc * 10 + (c.toNat - 48)
        · have hF : puF m acc (c :: bs.drop (k + 1)) = none := by simp [puF, hd0, hd1, hov]
          rw [hF] at hdec
          have HD := Lib.hid hdec
          have iov : (m : Int) < a * 10 + ((c.toNat : Int) - 48) := by omega
          clear hcut hacc hF hov ha hdec
          go_wp2
          go_ret2
          exact ⟨Or.inr ⟨HD.out, _, _, by omega, by omega, Or.inl rfl, rfl⟩, hbw⟩
        · have hF : puF m acc (c :: bs.drop (k + 1)) = puF m (acc * 10 + (c.toNat - 48)) (bs.drop (k + 1)) := by simp [puF, hd0, hd1, hov]
          have HN : Hid (a * 10 + ((c.toNat : Int) - 48) = ((acc * 10 + (c.toNat - 48) : Nat) : Int) ∧ acc * 10 + (c.toNat - 48) ≤ m ∧ puF m 0 bs = puF m (acc * 10 + (c.toNat - 48)) (bs.drop (k + 1))) := Lib.hid ⟨by omega, by omega, hdec.trans hF⟩
          have iov : a * 10 + ((c.toNat : Int) - 48) ≤ m := by omega
          clear hcut hacc hF hov hdec ha
          go_wp2
          refine ⟨⟨k + 1, acc * 10 + (c.toNat - 48), a * 10 + ((c.toNat : Int) - 48), rfl, (by first | rfl | (congr 1; omega)), (by first | rfl | (congr 1; omega)), by omega, HN⟩, by simp [intOf]; omega⟩
      · have hF : puF m acc (c :: bs.drop (k + 1)) = none := by simp [puF, hdig]
        rw [hF] at hdec
        have HD := Lib.hid hdec
        clear hacc hF ha hdec
        have hv0 := bits_lo_u8 .or (c.toNat : Int) 32
        have hv1 := bits_hi_u8 .or (c.toNat : Int) 32
        have hu0 := bits_lo_u8 .or 95 32
        have hu1 := bits_hi_u8 .or 95 32
        go_wp2_with (go_at_call 201; refine (lower_any _ _).mono ?_; rintro e w' ⟨rfl, rfl⟩)
        all_goals go_ret2
        all_goals exact ⟨Or.inr ⟨HD.out, _, _, by omega, by omega, Or.inr rfl, rfl⟩, hbw⟩
    · have hkk : k = t.size := by omega
      subst hkk
      have hF : puF m acc (bs.drop t.size) = some acc := by rw [List.drop_eq_nil_of_le (by omega)]; rfl
      rw [hF] at hdec
      have HD := Lib.hid hdec
      subst ha
      clear hacc hF a0 a1 hdec
      go_wp2
      go_ret2
      exact ⟨Or.inl ⟨acc, HD.out, rfl⟩, hbw⟩
end Go.Proofs.YtfnfcngkaepnjaaGreatDoor

/- Walks of strconv.ParseUint in base 10. -/
namespace Go.Proofs.YtfnfcngkaepnjaaGreatDoor
set_option linter.unusedVariables false
open Go Go.Proofs Go.RowKit Go.Sort Go.Lib

/-- What strconv.ParseUint tells: the number and no error; or some number and an error. -/
def puOut (m : Nat) (r : Option Nat) (e : Ending) : Prop :=
  (∃ n, r = some n ∧ e = .returned (.tuple #[.int .u64 n, .nilIface])) ∨
    (r = none ∧ ∃ (v : Int) (t : TypeId) (x : Value), 0 ≤ v ∧ v ≤ m ∧ e = .returned (.tuple #[.int .u64 v, .iface t x]))

set_option maxRecDepth 100000 in
/-- ParseUint's own text at the empty string. -/
theorem parseUint_nil (w : World) (b : Int) :
    Calls Tryz.prog 154 #[.string ⟨#[]⟩, .int .i64 10, .int .i64 b] w fun e w' => e = .returned (.tuple #[.int .u64 0, .iface 268 (.int .i64 2)]) ∧ w' = w := by
  go_enter Tryz.func154, Tryz.ntmps154
  go_wp2
  go_ret2
  exact ⟨rfl, rfl⟩

/-- The number of a text: digits, at least one, none above m. -/
def puG (m : Nat) (l : List UInt8) : Option Nat := if l = [] then none else puF m 0 l

set_option maxRecDepth 100000 in
set_option maxHeartbeats 1000000 in
theorem parseUint_any (t : ByteArray) (hlim : t.size ≤ 281474976710656) (w : World) (b : Int) (m : Nat) (hb0 : 1 ≤ b) (hb1 : b ≤ 48) (hm0 : 9 ≤ m) (hm1 : m ≤ 281474976710655)
    (hsh : IntKind.u64.wrap (2 ^ b.toNat) = m + 1) (hE : Env w) :
    Calls Tryz.prog 98 #[.string t, .int .i64 10, .int .i64 b] w fun e w' => puOut m (puG m t.data.toList) e ∧ Below w.heap.size w w' := by
  have key : Calls Tryz.prog 154 #[.string t, .int .i64 10, .int .i64 b] w fun e w' => puPost m (puG m t.data.toList) e ∧ Below w.heap.size w w' := by
    by_cases h0 : t.size = 0
    · have ht : t = ⟨#[]⟩ := by
        apply ByteArray.ext
        exact Array.eq_empty_of_size_eq_zero h0
      subst ht
      refine (parseUint_nil w b).mono ?_
      rintro e w' ⟨rfl, rfl⟩
      exact ⟨Or.inr ⟨rfl, 0, 2, by omega, by omega, Or.inr rfl, rfl⟩, Below.refl _ _⟩
    · have hne : t.data.toList ≠ [] := fun h => h0 (by rw [Lib.size_eq, h]; rfl)
      unfold puG
      rw [if_neg hne]
      exact parseUint_in t h0 (by omega) w b m hb0 hb1 hm0 hm1 hsh
  clear hsh
  generalize puG m t.data.toList = r at key ⊢
  go_enter Tryz.func98, Tryz.ntmps98
  go_wp2_with fail
  go_at_call 154
  refine key.mono ?_
  rintro e w1 ⟨hp, hb⟩
  rcases hp with ⟨n, hr, rfl⟩ | ⟨hr, v, k, hv0, hv1, hk, rfl⟩
  · have HR := Lib.hid hr
    clear hr
    go_wp2_with fail
    go_ret2
    exact ⟨Or.inl ⟨n, HR.out, rfl⟩, hb⟩
  · have HR := Lib.hid hr
    have HK := Lib.hid hk
    clear hr hk
    go_wp2_with (go_at_call 155; refine (toError_any _ _ _ _ HK.out _ hlim (hE.on hb)).mono ?_; rintro e w2 ⟨t', x, rfl, hb2⟩)
    go_ret2
    exact ⟨Or.inr ⟨HR.out, v, t', x, hv0, hv1, rfl⟩, belT hb hb2⟩
end Go.Proofs.YtfnfcngkaepnjaaGreatDoor

/- Plain laws of decimals. -/
namespace Go.Proofs.YtfnfcngkaepnjaaGreatDoor
set_option linter.unusedVariables false
open Go Go.Proofs Go.RowKit

theorem puF_append (m : Nat) : ∀ (l1 l2 : List UInt8) (acc : Nat), puF m acc (l1 ++ l2) = (puF m acc l1).bind fun a => puF m a l2 := by
  intro l1
  induction l1 with
  | nil => intro l2 acc; rfl
  | cons c l ih =>
    intro l2 acc
    simp only [List.cons_append, puF]
    split
    · split
      · rfl
      · exact ih _ _
    · rfl

theorem puF_le (m : Nat) : ∀ (l : List UInt8) (acc n : Nat), acc ≤ m → puF m acc l = some n → n ≤ m := by
  intro l
  induction l with
  | nil => intro acc n h e; simp [puF] at e; omega
  | cons c l ih =>
    intro acc n h e
    simp only [puF] at e
    split at e
    · split at e
      · cases e
      · exact ih _ _ (by omega) e
    · cases e

theorem puG_le {m n : Nat} {l : List UInt8} (h : puG m l = some n) : n ≤ m := by
  unfold puG at h
  split at h
  · cases h
  · exact puF_le m l 0 n (Nat.zero_le _) h

theorem dig_toNat (d : Nat) (h : d < 10) : (UInt8.ofNat (48 + d)).toNat = 48 + d := by
  rw [UInt8.toNat_ofNat']; omega

theorem puF_dec (m : Nat) : ∀ u : Nat, u ≤ m → puF m 0 (Lib.decDigits u) = some u := by
  intro u
  induction u using Nat.strongRecOn with
  | _ u ih =>
    intro hu
    by_cases h : u < 10
    · rw [Lib.decDigits, dif_pos h]
      simp only [puF, dig_toNat u h]
      rw [if_pos (by omega), if_neg (by omega)]
      congr 1; omega
    · rw [Lib.decDigits, dif_neg h, puF_append, ih (u / 10) (by omega) (by omega)]
      simp only [Option.bind_some, puF, dig_toNat (u % 10) (by omega)]
      rw [if_pos (by omega), if_neg (by omega)]
      congr 1; omega

theorem dec_ne (u : Nat) : Lib.decDigits u ≠ [] := by
  have h1 := Lib.nDigits_pos u
  have h2 := Lib.decDigits_length u
  intro h
  rw [h] at h2
  simp at h2
  omega

theorem puG_dec (m u : Nat) (h : u ≤ m) : puG m (Lib.decDigits u) = some u := by
  unfold puG
  rw [if_neg (dec_ne u), puF_dec m u h]

theorem dec_digit (u : Nat) : ∀ c ∈ Lib.decDigits u, 48 ≤ c.toNat ∧ c.toNat ≤ 57 := by
  induction u using Nat.strongRecOn with
  | _ u ih =>
    intro c hc
    by_cases h : u < 10
    · rw [Lib.decDigits, dif_pos h] at hc
      rw [List.mem_singleton] at hc
      subst hc
      rw [dig_toNat u h]; omega
    · rw [Lib.decDigits, dif_neg h] at hc
      rcases List.mem_append.1 hc with h1 | h1
      · exact ih (u / 10) (by omega) c h1
      · rw [List.mem_singleton] at h1
        subst h1
        rw [dig_toNat (u % 10) (by omega)]; omega
end Go.Proofs.YtfnfcngkaepnjaaGreatDoor
