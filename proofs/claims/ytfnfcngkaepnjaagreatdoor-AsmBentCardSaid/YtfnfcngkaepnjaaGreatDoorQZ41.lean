/- Joined texts: The reference of layer 8: number.; The reference of layer 8: plain laws of Parse.; The reference's Right is the program's. -/
import Derived.Test.YtfnfcngkaepnjaaGreatDoorQZ26
import Derived.Test.YtfnfcngkaepnjaaGreatDoorQZ18
/- The reference of layer 8: number. -/
namespace Go.Proofs.YtfnfcngkaepnjaaGreatDoor
set_option linter.unusedVariables false
open Go Go.Proofs Go.RowKit

/-- What number tells, of a text of which Y says that it is a number's. -/
def NumY (Y : Nat → Prop) (n : Int) (f : Bool) : Prop := (f = true → 0 ≤ n ∧ n < 4294967296) ∧ ∀ x : Nat, x < 4294967296 → Y x → f = true ∧ n = x
def NumYQ (Y : Nat → Prop) (w : World) (e : Ending) (w' : World) : Prop := ∃ n f, Hid (NumY Y n f) ∧ e = .returned (.tuple #[.int .u64 n, .bool f]) ∧ w = w'

set_option maxRecDepth 100000 in
set_option maxHeartbeats 4000000 in
theorem rNum_bare (s : ByteArray) (hs : s.size ≤ 1000000) (Y : Nat → Prop) (HY : Hid (∀ x : Nat, x < 4294967296 → Y x → puF 4294967295 0 s.data.toList = some x ∧ s.data.toList ≠ [])) (w : World) :
    Calls Tryz.prog 138 #[.string s, .int .u8 0] w (NumYQ Y w) := by
  obtain ⟨bs, hL⟩ : ∃ bs, bs = s.data.toList := ⟨_, rfl⟩
  have hLn : bs.length = s.size := by rw [hL, Lib.size_eq]
  have hat : ∀ k (h : k < s.size), s[k]'h = bs[k]'(by omega) := fun k h => by subst hL; exact bytes_at s k h
  rw [← hL] at HY
  clear hL
  have HAT := Lib.hid hat
  have hLn := Lib.hid hLn
  clear hat
  go_enter Tryz.func138, Tryz.ntmps138
  go_wp2_with fail
  go_loop [6, 7] (fun vn vi => ∃ (k n : Nat), vi = .int .i64 k ∧ vn = .int .u64 n ∧ k ≤ (s).size ∧ n ≤ 42949672960 ∧ Hid (∀ x : Nat, x < 4294967296 → Y x → puF 4294967295 n (bs.drop k) = some x)) (fun _ vi => (s).size - (intOf vi).toNat)
  case atStart => exact ⟨0, 0, rfl, rfl, by omega, by omega, Lib.hid (fun x h1 h2 => (HY.out x h1 h2).1)⟩
  case round =>
    obtain ⟨k, n, rfl, rfl, hk, hn, hh⟩ := hrel
    by_cases hkn : k < (s).size
    · have hx := HAT.out k hkn
      have hbk : k < bs.length := by have := hLn.out; omega
      have hdk := List.drop_eq_getElem_cons hbk
      generalize bs[k] = ch at hx hdk
      have HD := Lib.hid hdk
      clear hdk hbk
      by_cases h1 : (ch.toNat : Int) < 48
      · have HN := Lib.hid (show ∀ x : Nat, x < 4294967296 → ¬ Y x from fun x hx hy => by
          have h2 := hh.out x hx hy
          rw [HD.out] at h2
          have := (puF_step h2).1.1
          omega)
        go_wp2
        go_ret2
        exact ⟨0, false, Lib.hid ⟨fun h => (by cases h), fun x h1 h2 => absurd h2 (HN.out x h1)⟩, rfl, rfl⟩
      · by_cases h2 : 57 < (ch.toNat : Int)
        · have HN := Lib.hid (show ∀ x : Nat, x < 4294967296 → ¬ Y x from fun x hx hy => by
            have h2 := hh.out x hx hy
            rw [HD.out] at h2
            have := (puF_step h2).1.2
            omega)
          go_wp2
          go_ret2
          exact ⟨0, false, Lib.hid ⟨fun h => (by cases h), fun x h1 h2 => absurd h2 (HN.out x h1)⟩, rfl, rfl⟩
        · by_cases h3 : 4294967295 < (n : Int)
          · have HN := Lib.hid (show ∀ x : Nat, x < 4294967296 → ¬ Y x from fun x hx hy => by
              have h2 := hh.out x hx hy
              rw [HD.out] at h2
              have := (puF_step h2).2.1
              omega)
            go_wp2
            go_ret2
            exact ⟨0, false, Lib.hid ⟨fun h => (by cases h), fun x h1 h2 => absurd h2 (HN.out x h1)⟩, rfl, rfl⟩
          · have HN := Lib.hid (show ∀ x : Nat, x < 4294967296 → Y x → puF 4294967295 (10 * n + (ch.toNat - 48)) (bs.drop (k + 1)) = some x from fun x hx hy => by
              have h2 := hh.out x hx hy
              rw [HD.out] at h2
              have := (puF_step h2).2.2
              rw [show 10 * n + (ch.toNat - 48) = n * 10 + (ch.toNat - 48) by omega]
              exact this)
            have g1 : (0 : Int) ≤ (ch.toNat : Int) - 48 := by omega
            have g2 : (ch.toNat : Int) - 48 ≤ 9 := by omega
            go_wp2
            refine ⟨⟨k + 1, 10 * n + (ch.toNat - 48), by go_num, ?_, by omega, by omega, HN⟩, by simp [intOf]; omega⟩
            congr 1
            omega
    · have hk2 : k = (s).size := by omega
      have HF := Lib.hid (show ∀ x : Nat, x < 4294967296 → Y x → (n : Int) = x ∧ 0 < (s).size from fun x hx hy => by
        have h2 := hh.out x hx hy
        rw [List.drop_of_length_le (by have := hLn.out; omega)] at h2
        have h4 := (HY.out x hx hy).2
        have h5 := Option.some.inj h2
        have h6 : bs.length ≠ 0 := fun h => h4 (List.eq_nil_of_length_eq_zero h)
        have := hLn.out
        exact ⟨by omega, by omega⟩)
      subst hk2
      by_cases h0 : 0 < (s).size
      · by_cases h3 : (n : Int) ≤ 4294967295
        · go_wp2
          go_ret2
          exact ⟨n, true, Lib.hid ⟨fun _ => ⟨by omega, by omega⟩, fun x h1 h2 => ⟨rfl, (HF.out x h1 h2).1⟩⟩, rfl, rfl⟩
        · have h3' : 4294967295 < (n : Int) := by omega
          go_wp2
          go_ret2
          exact ⟨n, false, Lib.hid ⟨fun h => (by cases h), fun x h1 h2 => by have := (HF.out x h1 h2).1; omega⟩, rfl, rfl⟩
      · go_wp2
        go_ret2
        exact ⟨n, false, Lib.hid ⟨fun h => (by cases h), fun x h1 h2 => absurd (HF.out x h1 h2).2 h0⟩, rfl, rfl⟩

set_option maxRecDepth 100000 in
set_option maxHeartbeats 4000000 in
theorem rNum_mark (s : ByteArray) (hs : s.size ≤ 1000000) (c : Nat) (hc : 0 < c ∧ c < 256) (Y : Nat → Prop)
    (HY' : Hid (∀ x : Nat, x < 4294967296 → Y x → ∃ l, s.data.toList = UInt8.ofNat c :: l ∧ puF 4294967295 0 l = some x ∧ l ≠ [])) (w : World) :
    Calls Tryz.prog 138 #[.string s, .int .u8 c] w (NumYQ Y w) := by
  obtain ⟨c1, c2⟩ := hc
  have ec : ((c : Int) == 0) = false := beq_eq_false_iff_ne.2 (by omega)
  have en : ((c : Int) != 0) = true := by rw [bne, ec]; rfl
  by_cases h0 : s.size = 0
  · have hse : s = ⟨#[]⟩ := ByteArray.ext (Array.eq_empty_of_size_eq_zero h0)
    subst hse
    have HN := Lib.hid (show ∀ x : Nat, x < 4294967296 → ¬ Y x from fun x hx hy => by
      obtain ⟨l, h, _⟩ := HY'.out x hx hy
      cases h)
    go_enter Tryz.func138, Tryz.ntmps138
    go_wp2
    go_ret2
    exact ⟨0, false, Lib.hid ⟨fun h => (by cases h), fun x h1 h2 => absurd h2 (HN.out x h1)⟩, rfl, rfl⟩
  · have hne : (s.toList == []) = false := by
      rw [beq_eq_false_iff_ne, toList_data]
      intro h
      have := Lib.size_eq s
      rw [h] at this
      exact h0 this
    have hp : 0 < s.size := by omega
    have h00 : s[0]'hp = s.data.toList[0]'(by rw [← Lib.size_eq]; exact hp) := bytes_at s 0 hp
    have hcons : s.data.toList = s[0] :: s.data.toList.drop 1 := by
      rw [h00]
      have := List.drop_eq_getElem_cons (l := s.data.toList) (i := 0) (by rw [← Lib.size_eq]; exact hp)
      simpa using this
    generalize hx0 : s[0] = x0 at hcons
    clear h00
    by_cases he : x0.toNat = c
    · have e1 : ((x0.toNat : Int) != (c : Int)) = false := by rw [he]; simp
      obtain ⟨t, ht⟩ : ∃ t, t = s.extract 1 s.size := ⟨_, rfl⟩
      have htl : t.data.toList = s.data.toList.drop 1 := by
        rw [ht, ext_list, List.take_of_length_le (by rw [← Lib.size_eq]; exact Nat.le_refl _)]
      have hts : t.size ≤ 1000000 := by rw [ht, ByteArray.size_extract]; omega
      have HY : Hid (∀ x : Nat, x < 4294967296 → Y x → puF 4294967295 0 t.data.toList = some x ∧ t.data.toList ≠ []) := Lib.hid (fun x hx hy => by
        obtain ⟨l, h1, h2, h3⟩ := HY'.out x hx hy
        rw [htl, h1]
        exact ⟨h2, h3⟩)
      have HT := Lib.hid ht
      have HX := Lib.hid hx0
      clear ht htl HY' hcons he
      obtain ⟨bs, hL⟩ : ∃ bs, bs = t.data.toList := ⟨_, rfl⟩
      have hLn : bs.length = t.size := by rw [hL, Lib.size_eq]
      have hat : ∀ k (h : k < t.size), t[k]'h = bs[k]'(by omega) := fun k h => by subst hL; exact bytes_at t k h
      rw [← hL] at HY
      clear hL
      have HAT := Lib.hid hat
      have hLn := Lib.hid hLn
      clear hat
      go_enter Tryz.func138, Tryz.ntmps138
      go_wp2_with fail
      rw [← HT.out]
      clear hne h0 hp hx0 HX hs
      go_loop [6, 7] (fun vn vi => ∃ (k n : Nat), vi = .int .i64 k ∧ vn = .int .u64 n ∧ k ≤ (t).size ∧ n ≤ 42949672960 ∧ Hid (∀ x : Nat, x < 4294967296 → Y x → puF 4294967295 n (bs.drop k) = some x)) (fun _ vi => (t).size - (intOf vi).toNat)
      case atStart => exact ⟨0, 0, rfl, rfl, by omega, by omega, Lib.hid (fun x h1 h2 => (HY.out x h1 h2).1)⟩
      case round =>
        obtain ⟨k, n, rfl, rfl, hk, hn, hh⟩ := hrel
        by_cases hkn : k < (t).size
        · have hx := HAT.out k hkn
          have hbk : k < bs.length := by have := hLn.out; omega
          have hdk := List.drop_eq_getElem_cons hbk
          generalize bs[k] = ch at hx hdk
          have HD := Lib.hid hdk
          clear hdk hbk
          by_cases h1 : (ch.toNat : Int) < 48
          · have HN := Lib.hid (show ∀ x : Nat, x < 4294967296 → ¬ Y x from fun x hx hy => by
              have h2 := hh.out x hx hy
              rw [HD.out] at h2
              have := (puF_step h2).1.1
              omega)
            go_wp2
            go_ret2
            exact ⟨0, false, Lib.hid ⟨fun h => (by cases h), fun x h1 h2 => absurd h2 (HN.out x h1)⟩, rfl, rfl⟩
          · by_cases h2 : 57 < (ch.toNat : Int)
            · have HN := Lib.hid (show ∀ x : Nat, x < 4294967296 → ¬ Y x from fun x hx hy => by
                have h2 := hh.out x hx hy
                rw [HD.out] at h2
                have := (puF_step h2).1.2
                omega)
              go_wp2
              go_ret2
              exact ⟨0, false, Lib.hid ⟨fun h => (by cases h), fun x h1 h2 => absurd h2 (HN.out x h1)⟩, rfl, rfl⟩
            · by_cases h3 : 4294967295 < (n : Int)
              · have HN := Lib.hid (show ∀ x : Nat, x < 4294967296 → ¬ Y x from fun x hx hy => by
                  have h2 := hh.out x hx hy
                  rw [HD.out] at h2
                  have := (puF_step h2).2.1
                  omega)
                go_wp2
                go_ret2
                exact ⟨0, false, Lib.hid ⟨fun h => (by cases h), fun x h1 h2 => absurd h2 (HN.out x h1)⟩, rfl, rfl⟩
              · have HN := Lib.hid (show ∀ x : Nat, x < 4294967296 → Y x → puF 4294967295 (10 * n + (ch.toNat - 48)) (bs.drop (k + 1)) = some x from fun x hx hy => by
                  have h2 := hh.out x hx hy
                  rw [HD.out] at h2
                  have := (puF_step h2).2.2
                  rw [show 10 * n + (ch.toNat - 48) = n * 10 + (ch.toNat - 48) by omega]
                  exact this)
                have g1 : (0 : Int) ≤ (ch.toNat : Int) - 48 := by omega
                have g2 : (ch.toNat : Int) - 48 ≤ 9 := by omega
                go_wp2
                refine ⟨⟨k + 1, 10 * n + (ch.toNat - 48), by go_num, ?_, by omega, by omega, HN⟩, by simp [intOf]; omega⟩
                congr 1
                omega
        · have hk2 : k = (t).size := by omega
          have HF := Lib.hid (show ∀ x : Nat, x < 4294967296 → Y x → (n : Int) = x ∧ 0 < (t).size from fun x hx hy => by
            have h2 := hh.out x hx hy
            rw [List.drop_of_length_le (by have := hLn.out; omega)] at h2
            have h4 := (HY.out x hx hy).2
            have h5 := Option.some.inj h2
            have h6 : bs.length ≠ 0 := fun h => h4 (List.eq_nil_of_length_eq_zero h)
            have := hLn.out
            exact ⟨by omega, by omega⟩)
          subst hk2
          by_cases h0 : 0 < (t).size
          · by_cases h3 : (n : Int) ≤ 4294967295
            · go_wp2
              go_ret2
              exact ⟨n, true, Lib.hid ⟨fun _ => ⟨by omega, by omega⟩, fun x h1 h2 => ⟨rfl, (HF.out x h1 h2).1⟩⟩, rfl, rfl⟩
            · have h3' : 4294967295 < (n : Int) := by omega
              go_wp2
              go_ret2
              exact ⟨n, false, Lib.hid ⟨fun h => (by cases h), fun x h1 h2 => by have := (HF.out x h1 h2).1; omega⟩, rfl, rfl⟩
          · go_wp2
            go_ret2
            exact ⟨n, false, Lib.hid ⟨fun h => (by cases h), fun x h1 h2 => absurd (HF.out x h1 h2).2 h0⟩, rfl, rfl⟩
    · have e1 : ((x0.toNat : Int) != (c : Int)) = true := by rw [bne, beq_eq_false_iff_ne.2 (by omega)]; rfl
      have HN := Lib.hid (show ∀ x : Nat, x < 4294967296 → ¬ Y x from fun x hx hy => by
        obtain ⟨l, h, _⟩ := HY'.out x hx hy
        rw [hcons] at h
        have := (List.cons.inj h).1
        exact he (by rw [this, UInt8.toNat_ofNat']; omega))
      clear he HY' hcons
      go_enter Tryz.func138, Tryz.ntmps138
      go_wp2
      go_ret2
      exact ⟨0, false, Lib.hid ⟨fun h => (by cases h), fun x h1 h2 => absurd h2 (HN.out x h1)⟩, rfl, rfl⟩

/-- A word that is a number behind a letter; letter 0: behind none. -/
def MarkY (s : ByteArray) (c : Nat) (x : Nat) : Prop := s.data.toList = (if c = 0 then [] else [UInt8.ofNat c]) ++ Lib.decDigits x
theorem rNum_any (s : ByteArray) (hs : s.size ≤ 1000000) (c : Nat) (hc : c < 256) (w : World) : Calls Tryz.prog 138 #[.string s, .int .u8 c] w (NumYQ (MarkY s c) w) := by
  by_cases h0 : c = 0
  · subst h0
    refine rNum_bare s hs _ (Lib.hid (fun x hx hy => ?_)) w
    rw [MarkY, if_pos rfl, List.nil_append] at hy
    rw [hy]
    exact ⟨puF_dec _ x (by omega), dec_ne x⟩
  · refine rNum_mark s hs c ⟨by omega, hc⟩ _ (Lib.hid (fun x hx hy => ?_)) w
    rw [MarkY, if_neg h0] at hy
    exact ⟨_, hy, puF_dec _ x (by omega), dec_ne x⟩
end Go.Proofs.YtfnfcngkaepnjaaGreatDoor

/- The reference of layer 8: plain laws of Parse. -/
namespace Go.Proofs.YtfnfcngkaepnjaaGreatDoor
set_option linter.unusedVariables false
open Go Go.Proofs Go.RowKit

/-- The letters of an instruction's text; the mark, the value, the store of one. -/
def lR (op : Int) : ByteArray := if op = 3 then ⟨#[97, 98, 99]⟩ else namesR op
def mkL (x : Nat) : Nat := if x = 110 ∨ x = 105 then 0 else if x = 102 then 102 else 114
def getL (x : Nat) (a b c m : Int) : Int := if x = 97 then a else if x = 98 then b else if x = 99 ∨ x = 110 then c else m
def stepL (x : Nat) (n : Int) (st : Int × Int × Int × Int) : Int × Int × Int × Int :=
  if x = 97 then (n, st.2.1, st.2.2.1, st.2.2.2) else if x = 98 then (st.1, n, st.2.2.1, st.2.2.2) else if x = 99 ∨ x = 110 then (st.1, st.2.1, n, st.2.2.2) else (st.1, st.2.1, st.2.2.1, n)
def foldL (a b c m : Int) (st : Int × Int × Int × Int) (l : List UInt8) : Int × Int × Int × Int := l.foldl (fun s x => stepL x.toNat (getL x.toNat a b c m) s) st
def letB (a b c m : Int) (x : UInt8) : List UInt8 := (if mkL x.toNat = 0 then [] else [UInt8.ofNat (mkL x.toNat)]) ++ Lib.decDigits (getL x.toNat a b c m).toNat

theorem lR_size (op : Int) : (lR op).size ≤ 4 := by
  unfold lR
  split
  · decide
  · exact namesR_size op

theorem tail_k (a b c m : Int) : ∀ k : Nat, k < 19 → ((textP ((namedL.lookup ((k : Int) + 1)).getD [])).map fun p => p.mark.data.toList ++ Lib.decDigits (getF p a b c m).toNat) = (lR ((k : Int) + 1)).data.toList.map (letB a b c m)
  | 0, _ => by kernel_rfl
  | 1, _ => by kernel_rfl
  | 2, _ => by kernel_rfl
  | 3, _ => by kernel_rfl
  | 4, _ => by kernel_rfl
  | 5, _ => by kernel_rfl
  | 6, _ => by kernel_rfl
  | 7, _ => by kernel_rfl
  | 8, _ => by kernel_rfl
  | 9, _ => by kernel_rfl
  | 10, _ => by kernel_rfl
  | 11, _ => by kernel_rfl
  | 12, _ => by kernel_rfl
  | 13, _ => by kernel_rfl
  | 14, _ => by kernel_rfl
  | 15, _ => by kernel_rfl
  | 16, _ => by kernel_rfl
  | 17, _ => by kernel_rfl
  | 18, _ => by kernel_rfl
  | n + 19, h => absurd h (by omega)
theorem fold_k (a b c m : Int) : ∀ k : Nat, k < 19 → foldF ((k : Int) + 1) a b c m (textP ((namedL.lookup ((k : Int) + 1)).getD [])) = foldL a b c m (0, 0, 0, if (k : Int) + 1 = 3 then m else 0) (lR ((k : Int) + 1)).data.toList
  | 0, _ => by kernel_rfl
  | 1, _ => by kernel_rfl
  | 2, _ => by kernel_rfl
  | 3, _ => by kernel_rfl
  | 4, _ => by kernel_rfl
  | 5, _ => by kernel_rfl
  | 6, _ => by kernel_rfl
  | 7, _ => by kernel_rfl
  | 8, _ => by kernel_rfl
  | 9, _ => by kernel_rfl
  | 10, _ => by kernel_rfl
  | 11, _ => by kernel_rfl
  | 12, _ => by kernel_rfl
  | 13, _ => by kernel_rfl
  | 14, _ => by kernel_rfl
  | 15, _ => by kernel_rfl
  | 16, _ => by kernel_rfl
  | 17, _ => by kernel_rfl
  | 18, _ => by kernel_rfl
  | n + 19, h => absurd h (by omega)

/-- What a text that is an instruction's lets see. -/
structure SeenT (s0 : ByteArray) (L : List ByteArray) (op a b c m : Int) : Prop where
  h19 : 1 ≤ op ∧ op ≤ 19
  h3 : op = 3 → 1 ≤ m ∧ m ≤ 12
  hd : s0 = insN op m
  len : L.length = (lR op).size
  at_ : ∀ (k : Nat) (x : ByteArray) (y : UInt8), L[k]? = some x → (lR op).data.toList[k]? = some y → x.data.toList = letB a b c m y
  bd : ∀ y, 0 ≤ getL y a b c m ∧ getL y a b c m < 4294967296
  all : foldL a b c m (0, 0, 0, if op = 3 then m else 0) (lR op).data.toList = (a, b, c, m)

theorem seenT {s s0 : ByteArray} {L : List ByteArray} {op a b c m : Int} (hp : piecesF s = s0 :: L) (h : IsT s op a b c m) : SeenT s0 L op a b c m := by
  obtain ⟨h19, h3⟩ := right_op h.right
  obtain ⟨_, ha, hb, hc⟩ := rightF_bd h.right
  have h1 := hp.symm.trans (pieces_text h)
  unfold textL at h1
  obtain ⟨h2, h4⟩ := List.cons.inj h1
  obtain ⟨k, rfl⟩ : ∃ k : Nat, op = (k : Int) + 1 := ⟨(op - 1).toNat, by omega⟩
  have ht := tail_k a b c m k (by omega)
  have hf := fold_k a b c m k (by omega)
  rw [foldF_all h.right] at hf
  have hL : L.map (·.data.toList) = (lR ((k : Int) + 1)).data.toList.map (letB a b c m) := by
    rw [h4, ← ht, List.map_map]
    congr 1
  refine ⟨h19, h3, h2, ?_, ?_, ?_, hf.symm⟩
  · have := congrArg List.length hL
    rw [List.length_map, List.length_map, ← Lib.size_eq] at this
    exact this
  · intro j x y hx hy
    have := congrArg (fun l => l[j]?) hL
    simp only [List.getElem?_map, hx, hy, Option.map_some] at this
    exact Option.some.inj this
  · intro y
    have := h.imm
    unfold getL
    split
    · omega
    · split
      · omega
      · split <;> omega

theorem wordR_apart : ∀ i j : Nat, i < 19 → j < 19 → i ≠ 2 → j ≠ 2 → wordN (i + 1) = wordN (j + 1) → i = j := by
  have h : ((List.range 19).all fun i => (List.range 19).all fun j => decide (i = 2) || decide (j = 2) || decide (i = j) || !decide (wordN (i + 1) = wordN (j + 1))) = true := by decide +kernel
  intro i j hi hj h1 h2 h3
  have := List.all_eq_true.1 (List.all_eq_true.1 h i (List.mem_range.2 hi)) j (List.mem_range.2 hj)
  rw [decide_eq_false h1, decide_eq_false h2, decide_eq_true h3] at this
  simpa using this
theorem kindR_apart : ∀ i j : Nat, i < 12 → j < 12 → kindN i = kindN j → i = j := by
  have h : ((List.range 12).all fun i => (List.range 12).all fun j => decide (i = j) || !decide (kindN i = kindN j)) = true := by decide +kernel
  intro i j hi hj h3
  have := List.all_eq_true.1 (List.all_eq_true.1 h i (List.mem_range.2 hi)) j (List.mem_range.2 hj)
  rw [decide_eq_true h3] at this
  simpa using this
theorem kind_word : ∀ i j : Nat, i < 12 → j < 20 → kindN i ≠ wordN j := by
  have h : ((List.range 12).all fun i => (List.range 20).all fun j => !decide (kindN i = wordN j)) = true := by decide +kernel
  intro i j hi hj h3
  have := List.all_eq_true.1 (List.all_eq_true.1 h i (List.mem_range.2 hi)) j (List.mem_range.2 hj)
  rw [decide_eq_true h3] at this
  cases this

/-- The Op whose word a text begins with, among the first i. -/
def WordP (s0 : ByteArray) (i : Nat) (o : Int) : Prop := (0 ≤ o ∧ o ≤ i ∧ o ≠ 3) ∧ ∀ j : Nat, j < i → j ≠ 2 → wordN (j + 1) = s0 → o = (j : Int) + 1
theorem wordP_start (s0 : ByteArray) : WordP s0 0 0 := ⟨by omega, fun j h => absurd h (Nat.not_lt_zero _)⟩
theorem WordP.hit {s0 : ByteArray} {i : Nat} {o : Int} (h : WordP s0 i o) (hi : i < 19) (h2 : i ≠ 2) (he : wordN (i + 1) = s0) : WordP s0 (i + 1) ((i : Int) + 1) :=
  ⟨by omega, fun j hj hj2 hjs => by
    have := wordR_apart i j hi (by omega) h2 hj2 (by rw [he, hjs])
    omega⟩
theorem WordP.miss {s0 : ByteArray} {i : Nat} {o : Int} (h : WordP s0 i o) (hn : i = 2 ∨ wordN (i + 1) ≠ s0) : WordP s0 (i + 1) o :=
  ⟨by have := h.1; omega, fun j hj hj2 hjs => by
    by_cases e : j = i
    · subst e
      rcases hn with hn | hn
      · exact absurd hn hj2
      · exact absurd hjs hn
    · exact h.2 j (by omega) hj2 hjs⟩

/-- The Op and the number that a text's first word tells. -/
theorem start_kind {s0 : ByteArray} {k : Int} (hk : KindP s0 k) (hp : 0 < k) {L : List ByteArray} {op a b c m : Int} (h : SeenT s0 L op a b c m) : op = 3 ∧ k = m := by
  rcases hk with ⟨j, hj, he, rfl⟩ | ⟨_, rfl⟩
  · have hd := h.hd
    obtain ⟨h1, h2⟩ := h.h19
    by_cases h3 : op = 3
    · have hm := h.h3 h3
      refine ⟨h3, ?_⟩
      rw [insN, if_pos h3] at hd
      have := kindR_apart j (m - 1).toNat hj (by omega) (he.trans hd)
      omega
    · rw [insN, if_neg h3] at hd
      exact absurd (he.trans hd) (kind_word j op.toNat hj (by omega))
  · omega
theorem start_word {s0 : ByteArray} {k o : Int} (hk : KindP s0 k) (hp : k ≤ 0) (hw : WordP s0 19 o) {L : List ByteArray} {op a b c m : Int} (h : SeenT s0 L op a b c m) : o = op ∧ op ≠ 3 := by
  have hd := h.hd
  obtain ⟨h1, h2⟩ := h.h19
  have h3 : op ≠ 3 := by
    intro h3
    have hm := h.h3 h3
    rw [insN, if_pos h3] at hd
    rcases hk with ⟨j, hj, he, rfl⟩ | ⟨hall, _⟩
    · omega
    · exact hall (m - 1).toNat (by omega) hd.symm
  rw [insN, if_neg h3] at hd
  have := hw.2 (op - 1).toNat (by omega) (by omega) (by rw [show (op - 1).toNat + 1 = op.toNat by omega]; exact hd.symm)
  exact ⟨by omega, h3⟩
theorem KindP.bd {s0 : ByteArray} {k : Int} (hk : KindP s0 k) : 0 ≤ k ∧ k ≤ 12 := by
  rcases hk with ⟨j, hj, _, rfl⟩ | ⟨_, rfl⟩ <;> omega

theorem foldL_take (a b c m : Int) (st : Int × Int × Int × Int) (l : List UInt8) (k : Nat) (y : UInt8) (hy : l[k]? = some y) : foldL a b c m st (l.take (k + 1)) = stepL y.toNat (getL y.toNat a b c m) (foldL a b c m st (l.take k)) := by
  obtain ⟨hk, rfl⟩ := List.getElem?_eq_some_iff.1 hy
  unfold foldL
  rw [← List.take_append_getElem hk, List.foldl_append]
  rfl

/-- A letter of a word that is a number of an instruction's. -/
theorem letB_mark {a b c m : Int} {y : UInt8} {x : ByteArray} (h : x.data.toList = letB a b c m y) : MarkY x (mkL y.toNat) (getL y.toNat a b c m).toNat := h
end Go.Proofs.YtfnfcngkaepnjaaGreatDoor

/- The reference's Right is the program's. -/
namespace Go.Proofs.YtfnfcngkaepnjaaGreatDoor
set_option linter.unusedVariables false
open Go Go.Proofs Go.RowKit

theorem rRight_P (op a b c m : Int) (hm : 0 ≤ m ∧ m < 4294967296) (w : World) :
    Calls Tryz.prog 46 #[insV op a b c m] w fun e w' => e = .returned (.bool (rightF op a b c m)) ∧ Below w.heap.size w w' := by
  have := rRight_any op a b c m hm w
  rwa [rightR_F op a b c m hm.1] at this
end Go.Proofs.YtfnfcngkaepnjaaGreatDoor
