/- What the library's listed variables hold, and that a call keeps it; strconv.Itoa, strconv.toError. -/
import Derived.Test.YtgjibnfdaigpkaaGreatDoorKit
import Derived.Test.YtgjibnfdaigpkaaGreatDoorShelf
import Derived.Lib.ItoaMem
import Derived.Lib.ItoaNum
import Derived.Lib.CutLaws
namespace Go.Proofs.YtgjibnfdaigpkaaGreatDoor
set_option linter.unusedVariables false
open Go Go.Proofs Go.RowKit Go.Sort Go.Lib

/-- What the library's variables hold: the table of powers of ten; the two errors are errors. -/
structure Env (w : World) : Prop where
  tab : Lib.TabIs Tryz.prog w "internal/strconv.uint64pow10" .u64 Lib.pow10Tab
  syn : ∃ ev, w.cell? ⟨1, 0, none⟩ = some ev ∧ (ev = .nilIface ∨ ∃ te pe, ev = .iface te pe)
  rng : ∃ ev, w.cell? ⟨2, 0, none⟩ = some ev ∧ (ev = .nilIface ∨ ∃ te pe, ev = .iface te pe)

theorem tabIs_bel {P : Program} {w w' : World} {name : String} {k : IntKind} {zs : List Int} (h : Lib.TabIs P w name k zs) (hb : Below w.heap.size w w') : Lib.TabIs P w' name k zs := by
  unfold Lib.TabIs World.var? at *
  cases hg : P.globalNamed name with
  | none => simp [hg] at h
  | some g =>
    simp only [hg, Option.bind_some] at h ⊢
    have hlt : g < w.heap.size := by
      rcases Nat.lt_or_ge g w.heap.size with h' | h'
      · exact h'
      · rw [Array.getElem?_eq_none h'] at h; simp at h
    rw [hb.block g hlt]
    exact h

theorem Env.on {w w' : World} (h : Env w) (hb : Below w.heap.size w w') : Env w' := by
  refine ⟨tabIs_bel h.tab hb, ?_, ?_⟩
  · obtain ⟨ev, h1, h2⟩ := h.syn
    exact ⟨ev, ((bcell hb).1 _ _ (lt_of_cell h1)).trans h1, h2⟩
  · obtain ⟨ev, h1, h2⟩ := h.rng
    exact ⟨ev, ((bcell hb).1 _ _ (lt_of_cell h1)).trans h1, h2⟩

theorem bel_grow (w : World) (k : Nat) (os : Array Obj) : Below w.heap.size w (grow (w.drewN k) os) := by
  refine ⟨rfl, rfl, rfl, by simp [grow], fun i hi => ?_⟩
  rw [heap_grow_old _ _ (by simpa using hi)]
  rfl

theorem bel_drewN (w : World) (k : Nat) : Below w.heap.size w (w.drewN k) := ⟨rfl, rfl, rfl, Nat.le_refl _, fun _ _ => rfl⟩

theorem itoa_any (n : Int) (h0 : -9223372036854775808 ≤ n) (h1 : n ≤ 9223372036854775807) (w : World) (hE : Env w) :
    Calls Tryz.prog 64 #[.int .i64 n] w fun e w' => e = .returned (.string ⟨(Lib.itoa n).toArray⟩) ∧ Below w.heap.size w w' := by
  refine (Tryz.strconv_Itoa n h0 h1 w hE.tab).mono ?_
  rintro e w' ⟨rfl, k, os, rfl⟩
  exact ⟨rfl, bel_grow _ _ _⟩

theorem toError_any (fn s : ByteArray) (b k : Int) (hk : k = 1 ∨ k = 2) (w : World) (hlim : s.size ≤ 281474976710656) (hE : Env w) :
    Calls Tryz.prog 101 #[.string fn, .string s, .int .i64 10, .int .i64 b, .iface 194 (.int .i64 k)] w fun e w' => ∃ t x, e = .returned (.iface t x) ∧ Below w.heap.size w w' := by
  rcases hk with rfl | rfl
  · obtain ⟨ev, h1, h2⟩ := hE.rng
    refine (Tryz.strconv_toError_range fn s 10 b ev w hlim h1 h2).mono ?_
    rintro e w' ⟨N, rfl, _, _, hb⟩
    exact ⟨_, _, rfl, hb⟩
  · obtain ⟨ev, h1, h2⟩ := hE.syn
    refine (Tryz.strconv_toError_syntax fn s 10 b ev w hlim h1 h2).mono ?_
    rintro e w' ⟨N, rfl, _, _, hb⟩
    exact ⟨_, _, rfl, hb⟩

end Go.Proofs.YtgjibnfdaigpkaaGreatDoor
