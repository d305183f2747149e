/- Walks of package epoch: an epoch's text, and the epoch of a text. -/
import Derived.Test.YtigepikfbpodpaaDoorEpB
import Derived.Test.YtigepikfbpodpaaDoorCut
import Derived.Test.YtigepikfbpodpaaDoorNumB
import Derived.Test.YtigepikfbpodpaaDoorBld
import Derived.Deep.RegionWith
import Derived.Lib.ItoaLen
import Derived.Lib.AppendIntMem
namespace Go.Proofs.YtigepikfbpodpaaDoor
set_option linter.unusedVariables false
open Go Go.Proofs Go.RowKit

theorem oth_of_bel {e : TypeId} {b : Option Nat} {w w' : World} (h : Below w.heap.size w w') : Lib.OthersKept e b w w' := by
  intro k o hk _ _
  rw [h.block k (by
    rcases Nat.lt_or_ge k w.heap.size with h' | h'
    · exact h'
    · simp [Array.getElem?_eq_none h'] at hk)]
  exact hk

theorem grown_of_bel {w w' : World} (h : Below w.heap.size w w') : w.grownBy w' none := ⟨h.os, h.tape, h.output, h.size, fun k hk _ => h.block k hk⟩

theorem bld_bel {T e : TypeId} {B b : Nat} {bs : List Value} {w w' : World} (h : Lib.IsBuilderF T e B b bs w) (hb : Below w.heap.size w w') : Lib.IsBuilderF T e B b bs w' := by
  have key : ∀ p, Lib.BuilderAtF T e B b p bs w → Lib.BuilderAtF T e B b p bs w' := by
    intro p hp
    have hlt := hp.lt
    obtain ⟨hB, v, hbk, hown, hne⟩ := hp
    exact ⟨hB, v, (hb.block b hlt).trans hbk, hown.kept (grown_of_bel hb) (by
      rcases h' : v.ownBlock with _ | k
      · exact Or.inl rfl
      · exact Or.inr (by simp)), hne⟩
  rcases h with h | h
  · exact Or.inl (key _ h)
  · exact Or.inr (key _ h)

theorem bld_lt {T e : TypeId} {B b : Nat} {bs : List Value} {w : World} (h : Lib.IsBuilderF T e B b bs w) : b < w.heap.size := by
  rcases h with h | h <;> exact h.lt

theorem tellT : BldT 60 := ⟨by kernel_rfl, by decide⟩

theorem oth_size {e : TypeId} {b : Option Nat} {B : Nat} {w w' : World} (_h : Lib.OthersKept e b w w') (hb : Below B w w') : w.heap.size ≤ w'.heap.size := hb.size

theorem dig_size (n : Nat) (h : n < 18446744073709551616) : (⟨(Lib.decDigits n).toArray⟩ : ByteArray).size ≤ 20 := by
  have := Lib.nDigits_le20 n h
  rw [← Lib.decDigits_length] at this
  simpa [ByteArray.size] using this

set_option maxRecDepth 100000 in
set_option maxHeartbeats 1000000 in
theorem number_any (B b : Nat) (bs : List Value) (n : Int) (h0 : 0 ≤ n) (h1 : n < 18446744073709551616) (w : World) (hE : Env w) (h : Lib.IsBuilderF 60 5 B b bs w) (hlen : bs.length ≤ 1000) (hBw : B ≤ w.heap.size) :
    Calls Tryd.prog 24 #[.pointer (some ⟨b, 0, none⟩), .int .u64 n] w fun e w' => e = .returned (.tuple #[]) ∧ Lib.IsBuilderF 60 5 B b (bs ++ Lib.byteCells (Lib.decDigits n.toNat)) w' ∧ Below B w w' ∧ Lib.OthersKept 5 (some b) w w' := by
  have hsz := dig_size n.toNat (by omega)
  go_enter Tryd.func24, Tryd.ntmps24
  go_wp2
  go_region_with (first
    | (go_at_call 31; refine (formatUint_any n h0 h1 _ (hE.on (Below.refl _ _).drew)).mono ?_; rintro e w1 ⟨rfl, hb⟩)
    | (go_at_call 36; refine (writeString_any tellT B b bs _ _ (bld_bel h (((Below.refl _ _).drew).trans hb)) (by omega) (by have := hb.size; simp at this; omega)).mono ?_; rintro e w2 ⟨rfl, h2, hb2, ho2⟩))
  go_wp2
  go_end0
  refine ⟨rfl, ?_, (((Below.refl B w).drew).trans (hb.mono (by simpa using hBw))).trans hb2, ((oth_of_bel (((Below.refl _ w).drew).trans hb)).trans ho2)⟩
  rw [Lib.strCells_toArray] at h2
  exact h2

theorem oth_cell {e : TypeId} {b : Option Nat} {w w' : World} (h : Lib.OthersKept e b w w') {k : Nat} {c : Array Value} {t : TypeId} {fz : Nat × Nat} (hk : w.heap[k]? = some (.cells c t fz)) (hb : some k ≠ b) (ht : t ≠ e) (o : Nat) : w'.cell? ⟨k, o, none⟩ = c[o]? := by
  have := h k _ hk hb (by intro c' fz' e'; cases e'; exact ht rfl)
  simp [World.cell?, this]

theorem fresh_bld (w : World) (T e : TypeId) : Lib.IsBuilderF T e w.heap.size w.heap.size [] (w.alloc (.cells #[.pointer none, .slice none 0 0] T)) :=
  Lib.IsBuilderF.of (Lib.fresh_isBuilder T e w)

theorem alloc_new (w : World) (o : Obj) : (w.alloc o).heap[w.heap.size]? = some o := by
  show (w.heap.push o)[w.heap.size]? = some o
  simp

/-- An epoch's text. -/
def textE (x : Nat) : List UInt8 := Lib.decDigits (x / 281474976710656) ++ 64 :: Lib.decDigits (x % 281474976710656)

set_option maxRecDepth 100000 in
set_option maxHeartbeats 1000000 in
theorem text_any (x : Int) (h0 : 0 ≤ x) (h1 : x < 18446744073709551616) (w : World) (hE : Env w) :
    Calls Tryd.prog 12 #[.int .u64 x] w fun e w' => e = .returned (.string ⟨(textE x.toNat).toArray⟩) ∧ Below w.heap.size w w' := by
  go_enter Tryd.func12, Tryd.ntmps12
  go_wp2_with (go_at_call 23; refine (parts_any _ _ h0 h1).mono ?_; rintro e w' ⟨rfl, hb1⟩)
  have hs1 : w.heap.size + 1 ≤ w'.heap.size := by have := hb1.size; simpa using this
  have hbB : Below w.heap.size w w' := (bel1 _).trans (hb1.mono (by simp))
  have k0 : Lib.IsBuilderF 60 5 w.heap.size w.heap.size [] w' := bld_bel (fresh_bld w _ _) hb1
  have k1 := bld_bel k0 (bel1 (.cells #[.int .u64 (x / 281474976710656), .int .u64 (x % 281474976710656)] 50))
  have hp1 : (w'.alloc (.cells #[.int .u64 (x / 281474976710656), .int .u64 (x % 281474976710656)] 50)).heap[w'.heap.size]? = some (.cells #[.int .u64 (x / 281474976710656), .int .u64 (x % 281474976710656)] 50 (0, 0)) := alloc_new _ _
  have hE1 := (hE.on hbB).on (bel1 (.cells #[.int .u64 (x / 281474976710656), .int .u64 (x % 281474976710656)] 50))
  have hB1 := belA hbB (.cells #[.int .u64 (x / 281474976710656), .int .u64 (x % 281474976710656)] 50)
  have hlt1 : w.heap.size ≤ (w'.alloc (.cells #[.int .u64 (x / 281474976710656), .int .u64 (x % 281474976710656)] 50)).heap.size := hB1.size
  obtain ⟨p, hp⟩ : ∃ p, p = w'.heap.size := ⟨_, rfl⟩
  rw [← hp] at hp1 hs1 ⊢
  obtain ⟨W2, hW2⟩ : ∃ W2, W2 = w'.alloc (.cells #[.int .u64 (x / 281474976710656), .int .u64 (x % 281474976710656)] 50) := ⟨_, rfl⟩
  rw [← hW2] at k1 hp1 hE1 hB1 hlt1 ⊢
  clear hb1 hbB k0 hp hW2
  refine (number_any w.heap.size w.heap.size [] _ (by omega) (by omega) W2 hE1 k1 (by simp) hlt1).mono ?_
  rintro e w3 ⟨rfl, k3, hb3, ho3⟩
  have c1 : w3.cell? ⟨p, 1, none⟩ = some (.int .u64 (x % 281474976710656)) := oth_cell ho3 hp1 (by simp; omega) (by decide) 1
  have hB3 := hB1.trans hb3
  have hE3 := hE.on hB3
  have hs3 := hB3.size
  have hl1 := dig_size (x / 281474976710656).toNat (by omega)
  have hl2 := dig_size (x % 281474976710656).toNat (by omega)
  have hlc1 : (Lib.byteCells (Lib.decDigits (x / 281474976710656).toNat)).length ≤ 20 := by rw [Lib.byteCells_length]; simpa [ByteArray.size] using hl1
  have hp3 : w3.heap[p]? = some (.cells #[.int .u64 (x / 281474976710656), .int .u64 (x % 281474976710656)] 50 (0, 0)) := ho3 p _ hp1 (by simp; omega) (by intro c fz e'; cases e')
  go_wp2_with (go_at_call 25; refine (writeByte_any tellT w.heap.size w.heap.size _ _ w3 k3 (by simp; omega) hs3).mono ?_; rintro e w4 ⟨rfl, k4, hb4, ho4⟩; refine Hid.out ?_)
  refine Lib.hid ?_
  have hp4 : w4.heap[p]? = some (.cells #[.int .u64 (x / 281474976710656), .int .u64 (x % 281474976710656)] 50 (0, 0)) := ho4 p _ hp3 (by simp; omega) (by intro c fz e'; cases e')
  have c4 : w4.cell? ⟨p, 1, none⟩ = some (.int .u64 (x % 281474976710656)) := by rw [Lib.cell_of_heap hp4]; rfl
  have hB4 := hB3.trans hb4
  have hE4 := hE.on hB4
  have hs4 := hB4.size
  go_wp2_with (go_at_call 24; refine (number_any w.heap.size w.heap.size _ _ (by omega) (by omega) w4 hE4 k4 (by simp; omega) hs4).mono ?_; rintro e w5 ⟨rfl, k5, hb5, ho5⟩; refine Hid.out ?_)
  refine Lib.hid ?_
  have ek : (([] ++ Lib.byteCells (Lib.decDigits (x / 281474976710656).toNat)) ++ [Value.int .u8 64]) ++ Lib.byteCells (Lib.decDigits (x % 281474976710656).toNat) = Lib.byteCells (textE x.toNat) := by
    unfold textE
    rw [show (x / 281474976710656).toNat = x.toNat / 281474976710656 by omega, show (x % 281474976710656).toNat = x.toNat % 281474976710656 by omega]
    simp [Lib.byteCells]
  rw [ek] at k5
  have hB5 := hB4.trans hb5
  clear ek
  go_wp2_with (go_at_call 26; refine (bldString_any w.heap.size w.heap.size (textE x.toNat) w5 k5 (by simp [textE])).mono ?_; rintro e w6 ⟨rfl, hb6⟩)
  go_ret
  exact ⟨rfl, hB5.trans hb6⟩
end Go.Proofs.YtigepikfbpodpaaDoor
