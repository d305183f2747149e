/- Joined texts: Walks of internal/strconv.ParseUint in base 10, at whatever width up to 48.; Walks of strconv.ParseUint in base 10.; Plain laws of decimals.; Closures of Parse, and what is found by them.; The number in a word, behind a mark. -/
import Derived.Test.YtfnfcngkaepnjaaGreatDoorQL1
import Derived.Lib.Strings
import Derived.Lib.Walk
import Derived.Lib.ConvBytes
import Derived.Lib.AtoiErrMem
import Derived.Laws.Strings3
import Derived.Laws.Closers25
import Derived.Laws.Closers25b
import Derived.Test.YtfnfcngkaepnjaaGreatDoorQL9
import Derived.Lib.ItoaLen
import Derived.Test.YtfnfcngkaepnjaaGreatDoorQL11
/- Walks of internal/strconv.ParseUint in base 10, at whatever width up to 48. -/
namespace Go.Proofs.YtfnfcngkaepnjaaGreatDoor
set_option linter.unusedVariables false
open Go Go.Proofs Go.RowKit

theorem lower_any (c : Int) (w : World) :
    Calls Tryz.prog 201 #[.int .u8 c] w fun e w' => e = .returned (.int .u8 (bits .or .u8 c 32)) ∧ w' = w := by
  go_enter Tryz.func201, Tryz.ntmps201
  go_wp2
  go_ret
  exact ⟨rfl, rfl⟩

/-- The number of digits, none above m; behind acc. -/
def puF (m : Nat) : Nat → List UInt8 → Option Nat
  | acc, [] => some acc
  | acc, c :: l => if 48 ≤ c.toNat ∧ c.toNat ≤ 57 then (if m < acc * 10 + (c.toNat - 48) then none else puF m (acc * 10 + (c.toNat - 48)) l) else none

/-- What ParseUint tells of a text in base 10: the number; or some number and an error, of kind 1 or 2. -/
def puPost (m : Nat) (r : Option Nat) (e : Ending) : Prop :=
  (∃ n, r = some n ∧ e = .returned (.tuple #[.int .u64 n, .nilIface])) ∨
    (r = none ∧ ∃ v k : Int, 0 ≤ v ∧ v ≤ m ∧ (k = 1 ∨ k = 2) ∧ e = .returned (.tuple #[.int .u64 v, .iface 268 (.int .i64 k)]))

set_option maxHeartbeats 2000000 in
set_option maxRecDepth 100000 in
theorem parseUint_in (t : ByteArray) (hne : t.size ≠ 0) (hmax : t.size ≤ 9223372036854775806) (w : World) (b : Int) (m : Nat) (hb0 : 1 ≤ b) (hb1 : b ≤ 48) (hm0 : 9 ≤ m) (hm1 : m ≤ 281474976710655)
    (hsh : IntKind.u64.wrap (2 ^ b.toNat) = m + 1) :
    Calls Tryz.prog 154 #[.string t, .int .i64 10, .int .i64 b] w fun e w' => puPost m (puF m 0 t.data.toList) e ∧ Below w.heap.size w w' := by
  have hemp : t.toList.isEmpty = false := by
    rw [← decide_eq_emptyBytes]
    exact decide_eq_false (fun h => hne (by rw [h]; rfl))
  have hcv := Lib.run_convert_string_bytes (P := Tryz.prog) w 9 22 5 t (u := .string) Tryz.underlying9 Tryz.underlying22 Tryz.underlying5
  have hB : ∀ j, j < t.size → (Lib.bytesWorld w 5 t).cell? ⟨w.heap.size, j, none⟩ = some (.int .u8 (t.data.toList.getD j 0).toNat) := fun j hj => Lib.bytesWorld_cell w 5 t j hj
  have hbw : Below w.heap.size w (Lib.bytesWorld w 5 t) := Lib.bytesWorld_below _ _ _
  obtain ⟨W1, hW1⟩ : ∃ W1, W1 = Lib.bytesWorld w 5 t := ⟨_, rfl⟩
  rw [← hW1] at hcv hB hbw
  clear hW1
  obtain ⟨bs, hL⟩ : ∃ bs, bs = t.data.toList := ⟨_, rfl⟩
  have hLn : bs.length = t.size := by rw [hL, Lib.size_eq]
  rw [← hL] at hB ⊢
  clear hL
  have hmw : IntKind.u64.wrap (m : Int) = m := by rw [IntKind.wrap_u64]; omega
  go_enter Tryz.func154, Tryz.ntmps154
  go_wp2
  go_loop [12, 13, 101] (fun vu vn vi => ∃ (k acc : Nat) (a : Int), vu = .bool false ∧ vn = .int .u64 a ∧ vi = .int .i64 k ∧ k ≤ t.size ∧ Hid (a = (acc : Int) ∧ acc ≤ m ∧ puF m 0 bs = puF m acc (bs.drop k)))
    (fun _ _ vi => t.size - (intOf vi).toNat)
  case atStart => exact ⟨0, 0, 0, rfl, rfl, rfl, by omega, rfl, by omega, rfl⟩
  case round =>
    obtain ⟨k, acc, a, rfl, rfl, rfl, hk, hh⟩ := hrel
    obtain ⟨ha, hacc, hdec⟩ := hh.out
    clear hh
    have a0 : 0 ≤ a := by omega
    have a1 : a ≤ 281474976710655 := by omega
    by_cases hkn : k < t.size
    · have hc := hB k hkn
      have hdrop : bs.drop k = bs[k]'(by omega) :: bs.drop (k + 1) := List.drop_eq_getElem_cons (by omega)
      have hget : bs.getD k 0 = bs[k]'(by omega) := by simp [List.getD, List.getElem?_eq_getElem (show k < bs.length by omega)]
      rw [hdrop] at hdec
      rw [hget] at hc
      generalize bs[k]'(by omega) = c at hc hdec
      have hc256 : c.toNat < 256 := c.toNat_lt
      clear hB hdrop hget
      by_cases hdig : 48 ≤ c.toNat ∧ c.toNat ≤ 57
      · obtain ⟨hd0, hd1⟩ := hdig
        have hcut : ¬ 1844674407370955162 ≤ acc := by omega
        by_cases hov : m < acc * 10 + (c.toNat - 48)
        · have hF : puF m acc (c :: bs.drop (k + 1)) = none := by simp [puF, hd0, hd1, hov]
          rw [hF] at hdec
          have HD := Lib.hid hdec
          have iov : (m : Int) < a * 10 + ((c.toNat : Int) - 48) := by omega
          clear hcut hacc hF hov ha hdec
          go_wp2
          go_ret2
          exact ⟨Or.inr ⟨HD.out, _, _, by omega, by omega, Or.inl rfl, rfl⟩, hbw⟩
        · have hF : puF m acc (c :: bs.drop (k + 1)) = puF m (acc * 10 + (c.toNat - 48)) (bs.drop (k + 1)) := by simp [puF, hd0, hd1, hov]
          have HN : Hid (a * 10 + ((c.toNat : Int) - 48) = ((acc * 10 + (c.toNat - 48) : Nat) : Int) ∧ acc * 10 + (c.toNat - 48) ≤ m ∧ puF m 0 bs = puF m (acc * 10 + (c.toNat - 48)) (bs.drop (k + 1))) := Lib.hid ⟨by omega, by omega, hdec.trans hF⟩
          have iov : a * 10 + ((c.toNat : Int) - 48) ≤ m := by omega
          clear hcut hacc hF hov hdec ha
          go_wp2
          refine ⟨⟨k + 1, acc * 10 + (c.toNat - 48), a * 10 + ((c.toNat : Int) - 48), rfl, (by first | rfl | (congr 1; omega)), (by first | rfl | (congr 1; omega)), by omega, HN⟩, by simp [intOf]; omega⟩
      · have hF : puF m acc (c :: bs.drop (k + 1)) = none := by simp [puF, hdig]
        rw [hF] at hdec
        have HD := Lib.hid hdec
        clear hacc hF ha hdec
        have hv0 := bits_lo_u8 .or (c.toNat : Int) 32
        have hv1 := bits_hi_u8 .or (c.toNat : Int) 32
        have hu0 := bits_lo_u8 .or 95 32
        have hu1 := bits_hi_u8 .or 95 32
        go_wp2_with (go_at_call 201; refine (lower_any _ _).mono ?_; rintro e w' ⟨rfl, rfl⟩)
        all_goals go_ret2
        all_goals exact ⟨Or.inr ⟨HD.out, _, _, by omega, by omega, Or.inr rfl, rfl⟩, hbw⟩
    · have hkk : k = t.size := by omega
      subst hkk
      have hF : puF m acc (bs.drop t.size) = some acc := by rw [List.drop_eq_nil_of_le (by omega)]; rfl
      rw [hF] at hdec
      have HD := Lib.hid hdec
      subst ha
      clear hacc hF a0 a1 hdec
      go_wp2
      go_ret2
      exact ⟨Or.inl ⟨acc, HD.out, rfl⟩, hbw⟩
end Go.Proofs.YtfnfcngkaepnjaaGreatDoor

/- Walks of strconv.ParseUint in base 10. -/
namespace Go.Proofs.YtfnfcngkaepnjaaGreatDoor
set_option linter.unusedVariables false
open Go Go.Proofs Go.RowKit Go.Sort Go.Lib

/-- What strconv.ParseUint tells: the number and no error; or some number and an error. -/
def puOut (m : Nat) (r : Option Nat) (e : Ending) : Prop :=
  (∃ n, r = some n ∧ e = .returned (.tuple #[.int .u64 n, .nilIface])) ∨
    (r = none ∧ ∃ (v : Int) (t : TypeId) (x : Value), 0 ≤ v ∧ v ≤ m ∧ e = .returned (.tuple #[.int .u64 v, .iface t x]))

set_option maxRecDepth 100000 in
/-- ParseUint's own text at the empty string. -/
theorem parseUint_nil (w : World) (b : Int) :
    Calls Tryz.prog 154 #[.string ⟨#[]⟩, .int .i64 10, .int .i64 b] w fun e w' => e = .returned (.tuple #[.int .u64 0, .iface 268 (.int .i64 2)]) ∧ w' = w := by
  go_enter Tryz.func154, Tryz.ntmps154
  go_wp2
  go_ret2
  exact ⟨rfl, rfl⟩

/-- The number of a text: digits, at least one, none above m. -/
def puG (m : Nat) (l : List UInt8) : Option Nat := if l = [] then none else puF m 0 l

set_option maxRecDepth 100000 in
set_option maxHeartbeats 1000000 in
theorem parseUint_any (t : ByteArray) (hlim : t.size ≤ 281474976710656) (w : World) (b : Int) (m : Nat) (hb0 : 1 ≤ b) (hb1 : b ≤ 48) (hm0 : 9 ≤ m) (hm1 : m ≤ 281474976710655)
    (hsh : IntKind.u64.wrap (2 ^ b.toNat) = m + 1) (hE : Env w) :
    Calls Tryz.prog 98 #[.string t, .int .i64 10, .int .i64 b] w fun e w' => puOut m (puG m t.data.toList) e ∧ Below w.heap.size w w' := by
  have key : Calls Tryz.prog 154 #[.string t, .int .i64 10, .int .i64 b] w fun e w' => puPost m (puG m t.data.toList) e ∧ Below w.heap.size w w' := by
    by_cases h0 : t.size = 0
    · have ht : t = ⟨#[]⟩ := by
        apply ByteArray.ext
        exact Array.eq_empty_of_size_eq_zero h0
      subst ht
      refine (parseUint_nil w b).mono ?_
      rintro e w' ⟨rfl, rfl⟩
      exact ⟨Or.inr ⟨rfl, 0, 2, by omega, by omega, Or.inr rfl, rfl⟩, Below.refl _ _⟩
    · have hne : t.data.toList ≠ [] := fun h => h0 (by rw [Lib.size_eq, h]; rfl)
      unfold puG
      rw [if_neg hne]
      exact parseUint_in t h0 (by omega) w b m hb0 hb1 hm0 hm1 hsh
  clear hsh
  generalize puG m t.data.toList = r at key ⊢
  go_enter Tryz.func98, Tryz.ntmps98
  go_wp2_with fail
  go_at_call 154
  refine key.mono ?_
  rintro e w1 ⟨hp, hb⟩
  rcases hp with ⟨n, hr, rfl⟩ | ⟨hr, v, k, hv0, hv1, hk, rfl⟩
  · have HR := Lib.hid hr
    clear hr
    go_wp2_with fail
    go_ret2
    exact ⟨Or.inl ⟨n, HR.out, rfl⟩, hb⟩
  · have HR := Lib.hid hr
    have HK := Lib.hid hk
    clear hr hk
    go_wp2_with (go_at_call 155; refine (toError_any _ _ _ _ HK.out _ hlim (hE.on hb)).mono ?_; rintro e w2 ⟨t', x, rfl, hb2⟩)
    go_ret2
    exact ⟨Or.inr ⟨HR.out, v, t', x, hv0, hv1, rfl⟩, belT hb hb2⟩
end Go.Proofs.YtfnfcngkaepnjaaGreatDoor

/- Plain laws of decimals. -/
namespace Go.Proofs.YtfnfcngkaepnjaaGreatDoor
set_option linter.unusedVariables false
open Go Go.Proofs Go.RowKit

theorem puF_append (m : Nat) : ∀ (l1 l2 : List UInt8) (acc : Nat), puF m acc (l1 ++ l2) = (puF m acc l1).bind fun a => puF m a l2 := by
  intro l1
  induction l1 with
  | nil => intro l2 acc; rfl
  | cons c l ih =>
    intro l2 acc
    simp only [List.cons_append, puF]
    split
    · split
      · rfl
      · exact ih _ _
    · rfl

theorem puF_le (m : Nat) : ∀ (l : List UInt8) (acc n : Nat), acc ≤ m → puF m acc l = some n → n ≤ m := by
  intro l
  induction l with
  | nil => intro acc n h e; simp [puF] at e; omega
  | cons c l ih =>
    intro acc n h e
    simp only [puF] at e
    split at e
    · split at e
      · cases e
      · exact ih _ _ (by omega) e
    · cases e

theorem puG_le {m n : Nat} {l : List UInt8} (h : puG m l = some n) : n ≤ m := by
  unfold puG at h
  split at h
  · cases h
  · exact puF_le m l 0 n (Nat.zero_le _) h

theorem dig_toNat (d : Nat) (h : d < 10) : (UInt8.ofNat (48 + d)).toNat = 48 + d := by
  rw [UInt8.toNat_ofNat']; omega

theorem puF_dec (m : Nat) : ∀ u : Nat, u ≤ m → puF m 0 (Lib.decDigits u) = some u := by
  intro u
  induction u using Nat.strongRecOn with
  | _ u ih =>
    intro hu
    by_cases h : u < 10
    · rw [Lib.decDigits, dif_pos h]
      simp only [puF, dig_toNat u h]
      rw [if_pos (by omega), if_neg (by omega)]
      congr 1; omega
    · rw [Lib.decDigits, dif_neg h, puF_append, ih (u / 10) (by omega) (by omega)]
      simp only [Option.bind_some, puF, dig_toNat (u % 10) (by omega)]
      rw [if_pos (by omega), if_neg (by omega)]
      congr 1; omega

theorem dec_ne (u : Nat) : Lib.decDigits u ≠ [] := by
  have h1 := Lib.nDigits_pos u
  have h2 := Lib.decDigits_length u
  intro h
  rw [h] at h2
  simp at h2
  omega

theorem puG_dec (m u : Nat) (h : u ≤ m) : puG m (Lib.decDigits u) = some u := by
  unfold puG
  rw [if_neg (dec_ne u), puF_dec m u h]

theorem dec_digit (u : Nat) : ∀ c ∈ Lib.decDigits u, 48 ≤ c.toNat ∧ c.toNat ≤ 57 := by
  induction u using Nat.strongRecOn with
  | _ u ih =>
    intro c hc
    by_cases h : u < 10
    · rw [Lib.decDigits, dif_pos h] at hc
      rw [List.mem_singleton] at hc
      subst hc
      rw [dig_toNat u h]; omega
    · rw [Lib.decDigits, dif_neg h] at hc
      rcases List.mem_append.1 hc with h1 | h1
      · exact ih (u / 10) (by omega) c h1
      · rw [List.mem_singleton] at h1
        subst h1
        rw [dig_toNat (u % 10) (by omega)]; omega
end Go.Proofs.YtfnfcngkaepnjaaGreatDoor

/- Closures of Parse, and what is found by them. -/
namespace Go.Proofs.YtfnfcngkaepnjaaGreatDoor
set_option linter.unusedVariables false
open Go Go.Proofs Go.RowKit

/-- A variable that holds words: its block; the words' block. -/
structure Wds (V P : Nat) (L : List ByteArray) (w : World) : Prop where
  var : w.cell? ⟨V, 0, none⟩ = some (.slice (some ⟨P, 0, none⟩) L.length L.length)
  at_ : ∀ j x, L[j]? = some x → w.cell? ⟨P, j, none⟩ = some (.string x)
theorem Wds.bel {V P : Nat} {L : List ByteArray} {w w' : World} (h : Wds V P L w) (hb : Below w.heap.size w w') : Wds V P L w' := ⟨cell_bel h.var hb, fun j x hj => cell_bel (h.at_ j x hj) hb⟩
theorem Wds.touch {V P : Nat} {L : List ByteArray} {w w' : World} {T : Nat → Prop} (h : Wds V P L w) (hb : Touch T w w') (h1 : ¬ T V) (h2 : ¬ T P) : Wds V P L w' := ⟨cell_touch h.var hb h1, fun j x hj => cell_touch (h.at_ j x hj) hb h2⟩
theorem Wds.drew {V P : Nat} {L : List ByteArray} {w : World} (h : Wds V P L w) : Wds V P L w.drew := h.bel (Below.refl _ _).drew

set_option maxRecDepth 100000 in
set_option maxHeartbeats 1000000 in
theorem parseBegun_any (V P : Nat) (s : ByteArray) (L : List ByteArray) (hL : L.length ≤ 9223372036854775807) (w : World) (h : Wds V P (s :: L) w) :
    Calls Tryz.prog 90 #[.pointer (some ⟨V, 0, none⟩)] w (BegQ s w) := by
  have v0 := h.var
  have v1 := h.at_ 0 s rfl
  rw [List.length_cons] at v0
  have lv := lt_of_cell v0
  have lp := lt_of_cell v1
  clear h
  go_enter Tryz.func90, Tryz.ntmps90
  go_wp2_with fail
  refine (begun_any s _).mono ?_
  rintro e w1 ⟨o, k, f, hb, rfl, hb1⟩
  have hI := Bare.bel (Bare.new 0 0 0 0 0 w 29) hb1
  have f0 := froz_bel (cell_new w #[.int .i64 0, .int .i64 0, .int .i64 0, .int .i64 0, .int .u32 0] 29 0) (World.frozen?_alloc_new _ _ _ _) hb1
  have hB1 := belT (bel1 _) hb1
  have HB := Lib.hid hb
  have hset := Bare.set hI o 0 0 0 k
  have hBs : Below w.heap.size w (((((w1.setCell ⟨w.heap.size, 0, none⟩ (.int .i64 o)).setCell ⟨w.heap.size, 1, none⟩ (.int .i64 0)).setCell ⟨w.heap.size, 2, none⟩ (.int .i64 0)).setCell ⟨w.heap.size, 3, none⟩ (.int .i64 0)).setCell ⟨w.heap.size, 4, none⟩ (.int .u32 k)) := (((((hB1.setCell (p := ⟨w.heap.size, 0, none⟩) (Nat.le_refl _) _).setCell (p := ⟨w.heap.size, 1, none⟩) (Nat.le_refl _) _).setCell (p := ⟨w.heap.size, 2, none⟩) (Nat.le_refl _) _).setCell (p := ⟨w.heap.size, 3, none⟩) (Nat.le_refl _) _).setCell (p := ⟨w.heap.size, 4, none⟩) (Nat.le_refl _) _)
  have HSET := Lib.hid hset
  have HBS := Lib.hid hBs
  obtain ⟨i0, i1, i2, i3, i4, j1, j2, j3, j4⟩ := hI
  dsimp only at i1 i2 i3 i4
  unfold insV
  clear hset hBs hb hb1
  go_wp2_with fail
  obtain ⟨e0, e1, e2, e3, e4, _, _, _, _⟩ := HSET.out
  have hBS := HBS.out
  generalize ((((World.setCell _ _ _).setCell _ _).setCell _ _).setCell _ _).setCell _ _ = W5 at e0 e1 e2 e3 e4 hBS ⊢
  exact bodyPost_ret (v := .tuple #[.agg #[.int .i64 o, .int .i64 0, .int .i64 0, .int .i64 0, .int .u32 k], .bool f]) (by simp [results, Tryz.results90, go_sem, e0, e1, e2, e3, e4]) rfl ⟨o, k, f, HB.out, rfl, hBS⟩

def FndQ (s : ByteArray) (w : World) (e : Ending) (w' : World) : Prop := ((∃ o k, BegP s o k true ∧ e = .returned (insV o 0 0 0 k)) ∨ ((∃ o k, BegP s o k false) ∧ e = gaveUp 180)) ∧ Below w.heap.size w w'

set_option maxRecDepth 100000 in
set_option maxHeartbeats 1000000 in
theorem foundIns_any (V P : Nat) (s : ByteArray) (L : List ByteArray) (hL : L.length ≤ 9223372036854775806) (w : World) (h : Wds V P (s :: L) w) :
    Calls Tryz.prog 89 #[.func (.func 90) #[] #[.pointer (some ⟨V, 0, none⟩)]] w (FndQ s w) := by
  have CB := Lib.hid fun W h => parseBegun_any V P s L (by omega) W h
  have HW := Lib.hid h
  clear h
  go_enter Tryz.func89, Tryz.ntmps89
  go_wp2_with fail
  refine (CB.out _ (HW.out.bel (bel1 _))).mono ?_
  rintro e w1 ⟨o, k, f, hb, rfl, hb1⟩
  have hI := Bare.bel (Bare.new 0 0 0 0 0 w 29) hb1
  have f0 := froz_bel (cell_new w #[.int .i64 0, .int .i64 0, .int .i64 0, .int .i64 0, .int .u32 0] 29 0) (World.frozen?_alloc_new _ _ _ _) hb1
  have hB1 := belT (bel1 _) hb1
  have hlt := lt_of_cell hI.c0
  have HB := Lib.hid hb
  unfold insV
  cases f with
  | false =>
    clear hb hb1
    go_wp2_with (go_at_call 94; refine (must_no _ _).mono ?_; rintro e w3 ⟨rfl, rfl⟩)
    exact ⟨rfl, Or.inr ⟨⟨o, k, HB.out⟩, rfl⟩, belA hB1 _⟩
  | true =>
    have hI' := hI.bel (bel1 (.cells #[.int .i64 o, .int .i64 0, .int .i64 0, .int .i64 0, .int .u32 k] 29))
    have f0' := froz_bel hI.c0 f0 (bel1 (.cells #[.int .i64 o, .int .i64 0, .int .i64 0, .int .i64 0, .int .u32 k] 29))
    have hB2 := belA hB1 (.cells #[.int .i64 o, .int .i64 0, .int .i64 0, .int .i64 0, .int .u32 k] 29)
    have hset := Bare.set hI' o 0 0 0 k
    have hBs : Below w.heap.size w ((((((w1.alloc (.cells #[.int .i64 o, .int .i64 0, .int .i64 0, .int .i64 0, .int .u32 k] 29)).setCell ⟨w.heap.size, 0, none⟩ (.int .i64 o)).setCell ⟨w.heap.size, 1, none⟩ (.int .i64 0)).setCell ⟨w.heap.size, 2, none⟩ (.int .i64 0)).setCell ⟨w.heap.size, 3, none⟩ (.int .i64 0)).setCell ⟨w.heap.size, 4, none⟩ (.int .u32 k)) := (((((hB2.setCell (p := ⟨w.heap.size, 0, none⟩) (Nat.le_refl _) _).setCell (p := ⟨w.heap.size, 1, none⟩) (Nat.le_refl _) _).setCell (p := ⟨w.heap.size, 2, none⟩) (Nat.le_refl _) _).setCell (p := ⟨w.heap.size, 3, none⟩) (Nat.le_refl _) _).setCell (p := ⟨w.heap.size, 4, none⟩) (Nat.le_refl _) _)
    have HSET := Lib.hid hset
    have HBS := Lib.hid hBs
    have hN := Bare.new o 0 0 0 k w1 29
    clear hset hBs hb hb1 hB2
    go_wp2_with (go_at_call 94; refine (must_yes _ _).mono ?_; rintro e w3 ⟨rfl, rfl⟩; generalize w1.alloc _ = W1 at hI' f0' HSET HBS hN ⊢; obtain ⟨i0, i1, i2, i3, i4, j1, j2, j3, j4⟩ := hI'; obtain ⟨n0, n1, n2, n3, n4, _, _, _, _⟩ := hN; dsimp only at i1 i2 i3 i4 n1 n2 n3 n4)
    obtain ⟨e0, e1, e2, e3, e4, _, _, _, _⟩ := HSET.out
    have hBS := HBS.out
    generalize ((((World.setCell _ _ _).setCell _ _).setCell _ _).setCell _ _).setCell _ _ = W5 at e0 e1 e2 e3 e4 hBS ⊢
    exact bodyPost_ret (v := .agg #[.int .i64 o, .int .i64 0, .int .i64 0, .int .i64 0, .int .u32 k]) (by simp [results, Tryz.results89, go_sem, e0, e1, e2, e3, e4]) rfl ⟨Or.inl ⟨o, k, HB.out, rfl⟩, hBS⟩
end Go.Proofs.YtfnfcngkaepnjaaGreatDoor

/- The number in a word, behind a mark. -/
namespace Go.Proofs.YtfnfcngkaepnjaaGreatDoor
set_option linter.unusedVariables false
open Go Go.Proofs Go.RowKit

/-- The number of a word behind a mark; is it one? -/
structure NumP (word mark : ByteArray) (n : Int) (f : Bool) : Prop where
  bd : f = true → 0 ≤ n ∧ n < 4294967296
  name : ∀ x : Nat, x < 4294967296 → word = mark ++ ⟨(Lib.decDigits x).toArray⟩ → f = true ∧ n = x
def NumQ (word mark : ByteArray) (w : World) (e : Ending) (w' : World) : Prop := ∃ n f, NumP word mark n f ∧ e = .returned (.tuple #[.int .u64 n, .bool f]) ∧ Below w.heap.size w w'

theorem cut_word (mark : ByteArray) (l : List UInt8) (word : ByteArray) (h : word = mark ++ ⟨l.toArray⟩) : Lib.hasPrefix word.data.toList mark.data.toList = true ∧ Lib.trimPrefix word.data.toList mark.data.toList = l := by
  have e : word.data.toList = mark.data.toList ++ l := by rw [h]; simp [ByteArray.data_append]
  have h1 : Lib.hasPrefix (mark.data.toList ++ l) mark.data.toList = true := by simp [Lib.hasPrefix]
  rw [e]
  refine ⟨h1, ?_⟩
  unfold Lib.trimPrefix
  rw [if_pos h1]
  simp

theorem trim_le (l p : List UInt8) : (Lib.trimPrefix l p).length ≤ l.length := by unfold Lib.trimPrefix; split <;> simp

set_option maxRecDepth 100000 in
set_option maxHeartbeats 1000000 in
theorem parseNum_any (V P KB PB : Nat) (k : Nat) (word mark : ByteArray) (L : List ByteArray) (hL : L.length ≤ 9223372036854775000) (hk : L[k + 1]? = some word) (hws : word.size ≤ 281474976710656) (w : World) (hE : Env w) (h : Wds V P L w)
    (hK : w.cell? ⟨KB, 0, none⟩ = some (.int .i64 k)) (hP : w.cell? ⟨PB, 1, none⟩ = some (.string mark)) :
    Calls Tryz.prog 96 #[.pointer (some ⟨V, 0, none⟩), .pointer (some ⟨KB, 0, none⟩), .pointer (some ⟨PB, 0, none⟩)] w (NumQ word mark w) := by
  have v0 := h.var
  have v1 := h.at_ (k + 1) word hk
  have hkl : k + 1 < L.length := (List.getElem?_eq_some_iff.1 hk).1
  have CC := Tryz.strings_CutPrefix word mark
  have HC := Lib.hid (cut_word mark · word)
  have hts : (⟨(Lib.trimPrefix word.data.toList mark.data.toList).toArray⟩ : ByteArray).size ≤ 281474976710656 := by
    have h1 := trim_le word.data.toList mark.data.toList
    rw [← Lib.size_eq] at h1
    simp only [ByteArray.size, List.size_toArray] at h1 ⊢
    exact Nat.le_trans h1 hws
  have CU := fun W hE => parseUint_any ⟨(Lib.trimPrefix word.data.toList mark.data.toList).toArray⟩ hts W 32 4294967295 (by decide) (by decide) (by decide) (by decide) (by rw [IntKind.wrap_u64]; decide) hE
  generalize Lib.trimPrefix word.data.toList mark.data.toList = rest at CC CU HC
  generalize Lib.hasPrefix word.data.toList mark.data.toList = is at CC HC
  have CU' := Lib.hid CU
  have CC' := Lib.hid CC
  have hw1 : IntKind.i64.wrap ((k : Int) + 1) = (k : Int) + 1 := by rw [IntKind.wrap_i64]; omega
  have b0 : (0 : Int) ≤ (k : Int) + 1 := by omega
  have b1 : (k : Int) + 1 < (L.length : Int) := by omega
  have b2 : ((k : Int) + 1).toNat = k + 1 := by omega
  clear h hk hws CU CC hkl hts
  go_enter Tryz.func96, Tryz.ntmps96
  go_wp2_with fail
  go_quiet ((go_at_call 97; exact Calls.quiet_of_same (CC'.out _)))
  go_wp2_with fail
  refine (CU'.out _ (hE.on (bel_drewN w nq))).mono ?_
  rintro e w1 ⟨hp, hb1⟩
  have hB1 : Below w.heap.size w w1 := (bel_drewN w nq).trans (hb1.mono (by simp))
  have hnn : ∀ w, (binOp .eql 159 .nilIface .nilIface).run Tryz.prog w = .ok (.bool true) w := fun _ => by kernel_rfl
  have hni : ∀ t x w, (binOp .eql 159 (.iface t x) .nilIface).run Tryz.prog w = .ok (.bool false) w := fun _ _ _ => by kernel_rfl
  clear v0 v1 hK hP b0 b1 b2 hw1 CC' CU' hb1
  rcases hp with ⟨n, hr, rfl⟩ | ⟨hr, v, t, x, hv0, hv1, rfl⟩
  · have HR := Lib.hid hr
    clear hr
    cases is with
    | true =>
      go_wp2_with fail
      go_quiet (fail)
      go_wp2
      go_ret2
      refine ⟨n, true, ⟨fun _ => ?_, fun y hy hw => ?_⟩, rfl, hB1.trans ((bel_drewN w1 _).mono hB1.size)⟩
      · have := puG_le HR.out; omega
      · obtain ⟨_, h2⟩ := HC.out _ hw
        have h3 := HR.out
        rw [h2, puG_dec _ _ (by omega)] at h3
        exact ⟨rfl, by have := Option.some.inj h3; omega⟩
    | false =>
      go_wp2_with fail
      go_quiet (fail)
      go_wp2
      go_ret2
      refine ⟨n, false, ⟨fun h => (by cases h), fun y hy hw => ?_⟩, rfl, hB1.trans ((bel_drewN w1 _).mono hB1.size)⟩
      exact absurd (HC.out _ hw).1 (by decide)
  · have HR := Lib.hid hr
    clear hr
    cases is with
    | true =>
      go_wp2_with fail
      go_quiet (fail)
      go_wp2
      go_ret2
      refine ⟨v, false, ⟨fun h => (by cases h), fun y hy hw => ?_⟩, rfl, hB1.trans ((bel_drewN w1 _).mono hB1.size)⟩
      obtain ⟨_, h2⟩ := HC.out _ hw
      have h3 := HR.out
      rw [h2, puG_dec _ _ (by omega)] at h3
      cases h3
    | false =>
      go_wp2_with fail
      go_quiet (fail)
      go_wp2
      go_ret2
      refine ⟨v, false, ⟨fun h => (by cases h), fun y hy hw => ?_⟩, rfl, hB1.trans ((bel_drewN w1 _).mono hB1.size)⟩
      exact absurd (HC.out _ hw).1 (by decide)

def FnuQ (word mark : ByteArray) (w : World) (e : Ending) (w' : World) : Prop := ((∃ n, NumP word mark n true ∧ e = .returned (.int .u64 n)) ∨ ((∃ n, NumP word mark n false) ∧ e = gaveUp 180)) ∧ Below w.heap.size w w'

set_option maxRecDepth 100000 in
set_option maxHeartbeats 1000000 in
theorem foundNum_any (V P KB PB : Nat) (k : Nat) (word mark : ByteArray) (L : List ByteArray) (hL : L.length ≤ 9223372036854775000) (hk : L[k + 1]? = some word) (hws : word.size ≤ 281474976710656) (w : World) (hE : Env w) (h : Wds V P L w)
    (hK : w.cell? ⟨KB, 0, none⟩ = some (.int .i64 k)) (hP : w.cell? ⟨PB, 1, none⟩ = some (.string mark)) :
    Calls Tryz.prog 95 #[.func (.func 96) #[] #[.pointer (some ⟨V, 0, none⟩), .pointer (some ⟨KB, 0, none⟩), .pointer (some ⟨PB, 0, none⟩)]] w (FnuQ word mark w) := by
  have CB := Lib.hid (parseNum_any V P KB PB k word mark L hL hk hws w hE h hK hP)
  clear h hK hP hk hws hE
  go_enter Tryz.func95, Tryz.ntmps95
  go_wp2_with fail
  refine CB.out.mono ?_
  rintro e w1 ⟨n, f, hn, rfl, hb1⟩
  have HN := Lib.hid hn
  cases f with
  | false =>
    clear hn
    go_wp2_with (go_at_call 94; refine (must_no _ _).mono ?_; rintro e w3 ⟨rfl, rfl⟩)
    exact ⟨rfl, Or.inr ⟨⟨n, HN.out⟩, rfl⟩, hb1⟩
  | true =>
    clear hn
    go_wp2_with (go_at_call 94; refine (must_yes _ _).mono ?_; rintro e w3 ⟨rfl, rfl⟩)
    go_ret
    exact ⟨Or.inl ⟨n, HN.out, rfl⟩, hb1⟩
end Go.Proofs.YtfnfcngkaepnjaaGreatDoor
