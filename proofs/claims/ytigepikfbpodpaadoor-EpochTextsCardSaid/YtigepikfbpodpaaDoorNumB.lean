/- Walks of strings.Cut at one byte; strconv.ParseUint in base 10; strconv.FormatUint in base 10; strconv.Itoa. -/
import Derived.Test.YtigepikfbpodpaaDoorNumA
import Derived.Test.YtigepikfbpodpaaDoorShelf
import Derived.Lib.ItoaMem
import Derived.Lib.ItoaNum
import Derived.Lib.CutLaws
namespace Go.Proofs.YtigepikfbpodpaaDoor
open Go Go.Proofs Go.RowKit Go.Sort Go.Lib

/-- What the library's variables hold: the table of powers of ten; the two errors are errors. -/
structure Env (w : World) : Prop where
  tab : Lib.TabIs Tryd.prog w "internal/strconv.uint64pow10" .u64 Lib.pow10Tab
  syn : ∃ ev, w.cell? ⟨1, 0, none⟩ = some ev ∧ (ev = .nilIface ∨ ∃ te pe, ev = .iface te pe)
  rng : ∃ ev, w.cell? ⟨2, 0, none⟩ = some ev ∧ (ev = .nilIface ∨ ∃ te pe, ev = .iface te pe)

theorem lt_of_cell {w : World} {b o : Nat} {v : Value} (h : w.cell? ⟨b, o, none⟩ = some v) : b < w.heap.size := by
  rcases Nat.lt_or_ge b w.heap.size with h' | h'
  · exact h'
  · simp [World.cell?, Array.getElem?_eq_none h'] at h

theorem tabIs_bel {P : Program} {w w' : World} {name : String} {k : IntKind} {zs : List Int} (h : Lib.TabIs P w name k zs) (hb : Below w.heap.size w w') : Lib.TabIs P w' name k zs := by
  unfold Lib.TabIs World.var? at *
  cases hg : P.globalNamed name with
  | none => simp [hg] at h
  | some g =>
    simp only [hg, Option.bind_some] at h ⊢
    have hlt : g < w.heap.size := by
      rcases Nat.lt_or_ge g w.heap.size with h' | h'
      · exact h'
      · rw [Array.getElem?_eq_none h'] at h; simp at h
    rw [hb.block g hlt]
    exact h

theorem Env.on {w w' : World} (h : Env w) (hb : Below w.heap.size w w') : Env w' := by
  refine ⟨tabIs_bel h.tab hb, ?_, ?_⟩
  · obtain ⟨ev, h1, h2⟩ := h.syn
    exact ⟨ev, ((bcell hb).1 _ _ (lt_of_cell h1)).trans h1, h2⟩
  · obtain ⟨ev, h1, h2⟩ := h.rng
    exact ⟨ev, ((bcell hb).1 _ _ (lt_of_cell h1)).trans h1, h2⟩

theorem bel_grow (w : World) (k : Nat) (os : Array Obj) : Below w.heap.size w (grow (w.drewN k) os) := by
  refine ⟨rfl, rfl, rfl, by simp [grow], fun i hi => ?_⟩
  rw [heap_grow_old _ _ (by simpa using hi)]
  rfl

theorem bel_drewN (w : World) (k : Nat) : Below w.heap.size w (w.drewN k) := ⟨rfl, rfl, rfl, Nat.le_refl _, fun _ _ => rfl⟩

theorem holds_zero0 (w : World) (T : TypeId) (nd : Nat) (hs : nd ≤ 24) : Holds (fun (b : UInt8) => Value.int .u8 (b.toNat : Int)) (w.alloc (.cells zeros24 T)) w.heap.size 0 (Array.replicate nd (0 : UInt8)) := fun j hj => by
  have hj' : j < nd := by simpa using hj
  refine ⟨?_, World.frozen?_alloc_new _ _ _ _⟩
  rw [World.cell?_alloc_new, zeros24_at _ (by omega), getElem!_pos _ j hj]
  simp

theorem fin_pos0 (w : World) (o : Obj) (dk : Array UInt8) (k : Nat) : ∃ os, (putRow (fun (b : UInt8) => Value.int .u8 (b.toNat : Int)) (w.alloc o) w.heap.size 0 dk).drewN k = grow (w.drewN k) os := by
  rw [alloc_eq_grow]
  obtain ⟨os', _, e⟩ := putRow_grow_new (fun (b : UInt8) => Value.int .u8 (b.toNat : Int)) w #[o] w.heap.size 0 dk (Nat.le_refl _)
  exact ⟨os', by rw [e]; rfl⟩

set_option maxRecDepth 100000 in
set_option maxHeartbeats 1000000 in
theorem formatUint_in (u : Nat) (hu64 : u < 18446744073709551616) (w : World) (htab : Lib.TabIs Tryd.prog w "internal/strconv.uint64pow10" .u64 Lib.pow10Tab) :
    Calls Tryd.prog 42 #[.int .u64 u, .int .i64 10] w fun e w' => e = .returned (.string ⟨(Lib.decDigits u).toArray⟩) ∧ Below w.heap.size w w' := by
  by_cases hs : u < 100
  · go_enter Tryd.func42, Tryd.ntmps42
    go_wp2_with (go_at_call 55; refine (Tryd.internal_strconv_small u hs _).mono ?_; rintro e w' ⟨rfl, rfl⟩)
    go_ret
    exact ⟨rfl, Below.refl _ _⟩
  · have hu1 : 1 ≤ u := by omega
    have hnd20 : Lib.nDigits u ≤ 20 := by have := Lib.numDigits_eq u hu1 hu64; split at this <;> omega
    have hal : Tryd.prog.arrayLen 94 = 24 := by kernel_rfl
    have hsl1 : ∀ W, (Instr.sliceAt 94 (.pointer (some ⟨w.heap.size, 0, none⟩)) none (some (.int .i64 (Lib.nDigits u : Int))) none).run Tryd.prog W = .ok (.slice (some ⟨w.heap.size, 0, none⟩) (Lib.nDigits u) 24) W := fun W => by
      rw [run_sliceAt_array_h W 94 ⟨w.heap.size, 0, none⟩ (by simp [Program.arrayLen, Program.elem, Tryd.underlying94]) .i64 (Lib.nDigits u : Int) (by omega) (by rw [hal]; omega)]
      rw [hal]
      go_simp
    have hH0 := holds_zero0 w 94 (Lib.nDigits u) (by omega)
    have hfmt := Tryd.internal_strconv_formatBase10 w.heap.size 0 24 u (Array.replicate (Lib.nDigits u) 0) (w.alloc (.cells Lib.zeros24 94)) hH0 (by rw [Array.size_replicate]; exact Lib.lt_pow_nDigits u) hu64 (by rw [Array.size_replicate]; omega)
    rw [Array.size_replicate] at hfmt
    have HH0 := Lib.hid hH0
    clear hH0 hal
    go_enter Tryd.func42, Tryd.ntmps42
    go_wp2_with (go_at_call 56; refine (Tryd.internal_strconv_numDigits u hu1 hu64 _ (Lib.tabIs_alloc htab _)).mono ?_; rintro e w' ⟨rfl, rfl⟩)
    go_at_call 57
    refine hfmt.mono ?_
    rintro e w' ⟨rfl, k, v', dk, rfl, hF⟩
    have hcv : (convert 56 9 (.slice (some ⟨w.heap.size, 0, none⟩) (Lib.nDigits u) 24)).run Tryd.prog ((putRow (fun (b : UInt8) => Value.int .u8 (b.toNat : Int)) (w.alloc (.cells Lib.zeros24 94)) w.heap.size 0 dk).drewN k) = .ok (.string ⟨(Lib.decDigits u).toArray⟩) ((putRow (fun (b : UInt8) => Value.int .u8 (b.toNat : Int)) (w.alloc (.cells Lib.zeros24 94)) w.heap.size 0 dk).drewN k) := by
      have h := run_convert_bytes_back (P := Tryd.prog) ((putRow (fun (b : UInt8) => Value.int .u8 (b.toNat : Int)) (w.alloc (.cells Lib.zeros24 94)) w.heap.size 0 dk).drewN k) 56 9 5 ⟨w.heap.size, 0, none⟩ 24 (Lib.decDigits u) Tryd.underlying56 Tryd.underlying5 Tryd.underlying9 (fun j hj => by
        rw [Lib.row_is_numeral hF j hj, Lib.add_plain, World.cell?_drewN]
        exact cell?_putRow (fun (b : UInt8) => Value.int .u8 (b.toNat : Int)) _ w.heap.size 0 _ dk HH0.out (by rw [hF.size, Array.size_replicate]) j (by rw [hF.size]; rw [Lib.decDigits_length] at hj; exact hj))
      rw [Lib.decDigits_length] at h
      exact h
    go_wp2_with (go_at_call 56; refine (Tryd.internal_strconv_numDigits u hu1 hu64 _ (Lib.tabIs_alloc htab _)).mono ?_; rintro e w' ⟨rfl, rfl⟩)
    go_ret
    obtain ⟨os, eo⟩ := fin_pos0 w (.cells Lib.zeros24 94) dk k
    exact ⟨rfl, by rw [eo]; exact bel_grow _ _ _⟩

set_option maxRecDepth 100000 in
set_option maxHeartbeats 1000000 in
theorem formatUint_any (u : Int) (h0 : 0 ≤ u) (hu64 : u < 18446744073709551616) (w : World) (hE : Env w) :
    Calls Tryd.prog 31 #[.int .u64 u, .int .i64 10] w fun e w' => e = .returned (.string ⟨(Lib.decDigits u.toNat).toArray⟩) ∧ Below w.heap.size w w' := by
  obtain ⟨n, rfl⟩ := Int.eq_ofNat_of_zero_le h0
  rw [Int.toNat_natCast]
  have hn : n < 18446744073709551616 := by omega
  go_enter Tryd.func31, Tryd.ntmps31
  go_wp2_with (go_at_call 42; refine (formatUint_in n hn _ hE.tab).mono ?_; rintro e w' ⟨rfl, hb⟩)
  go_ret
  exact ⟨rfl, hb⟩

theorem itoa_any (n : Int) (h0 : -9223372036854775808 ≤ n) (h1 : n ≤ 9223372036854775807) (w : World) (hE : Env w) :
    Calls Tryd.prog 30 #[.int .i64 n] w fun e w' => e = .returned (.string ⟨(Lib.itoa n).toArray⟩) ∧ Below w.heap.size w w' := by
  refine (Tryd.strconv_Itoa n h0 h1 w hE.tab).mono ?_
  rintro e w' ⟨rfl, k, os, rfl⟩
  exact ⟨rfl, bel_grow _ _ _⟩

/-- What strconv.ParseUint tells: the number and no error; or some number and an error. -/
def puOut (m : Nat) (r : Option Nat) (e : Ending) : Prop :=
  (∃ n, r = some n ∧ e = .returned (.tuple #[.int .u64 n, .nilIface])) ∨
    (r = none ∧ ∃ (v : Int) (t : TypeId) (x : Value), 0 ≤ v ∧ v ≤ m ∧ e = .returned (.tuple #[.int .u64 v, .iface t x]))

theorem toError_any (fn s : ByteArray) (b k : Int) (hk : k = 1 ∨ k = 2) (w : World) (hlim : s.size ≤ 281474976710656) (hE : Env w) :
    Calls Tryd.prog 40 #[.string fn, .string s, .int .i64 10, .int .i64 b, .iface 87 (.int .i64 k)] w fun e w' => ∃ t x, e = .returned (.iface t x) ∧ Below w.heap.size w w' := by
  rcases hk with rfl | rfl
  · obtain ⟨ev, h1, h2⟩ := hE.rng
    refine (Tryd.strconv_toError_range fn s 10 b ev w hlim h1 h2).mono ?_
    rintro e w' ⟨N, rfl, _, _, hb⟩
    exact ⟨_, _, rfl, hb⟩
  · obtain ⟨ev, h1, h2⟩ := hE.syn
    refine (Tryd.strconv_toError_syntax fn s 10 b ev w hlim h1 h2).mono ?_
    rintro e w' ⟨N, rfl, _, _, hb⟩
    exact ⟨_, _, rfl, hb⟩

set_option maxRecDepth 100000 in
/-- ParseUint's own text at the empty string. -/
theorem parseUint_nil (w : World) (b : Int) :
    Calls Tryd.prog 39 #[.string ⟨#[]⟩, .int .i64 10, .int .i64 b] w fun e w' => e = .returned (.tuple #[.int .u64 0, .iface 87 (.int .i64 2)]) ∧ w' = w := by
  go_enter Tryd.func39, Tryd.ntmps39
  go_wp2
  go_ret2
  exact ⟨rfl, rfl⟩

/-- The number of a text: digits, at least one, none above m. -/
def puG (m : Nat) (l : List UInt8) : Option Nat := if l = [] then none else puF m 0 l

set_option maxRecDepth 100000 in
set_option maxHeartbeats 1000000 in
theorem parseUint_any (t : ByteArray) (hlim : t.size ≤ 281474976710656) (w : World) (b : Int) (m : Nat) (hb0 : 1 ≤ b) (hb1 : b ≤ 48) (hm0 : 9 ≤ m) (hm1 : m ≤ 281474976710655)
    (hsh : IntKind.u64.wrap (2 ^ b.toNat) = m + 1) (hE : Env w) :
    Calls Tryd.prog 28 #[.string t, .int .i64 10, .int .i64 b] w fun e w' => puOut m (puG m t.data.toList) e ∧ Below w.heap.size w w' := by
  have key : Calls Tryd.prog 39 #[.string t, .int .i64 10, .int .i64 b] w fun e w' => puPost m (puG m t.data.toList) e ∧ Below w.heap.size w w' := by
    by_cases h0 : t.size = 0
    · have ht : t = ⟨#[]⟩ := by
        apply ByteArray.ext
        exact Array.eq_empty_of_size_eq_zero h0
      subst ht
      refine (parseUint_nil w b).mono ?_
      rintro e w' ⟨rfl, rfl⟩
      exact ⟨Or.inr ⟨rfl, 0, 2, by omega, by omega, Or.inr rfl, rfl⟩, Below.refl _ _⟩
    · have hne : t.data.toList ≠ [] := fun h => h0 (by rw [Lib.size_eq, h]; rfl)
      unfold puG
      rw [if_neg hne]
      exact parseUint_in t h0 (by omega) w b m hb0 hb1 hm0 hm1 hsh
  clear hsh
  generalize puG m t.data.toList = r at key ⊢
  go_enter Tryd.func28, Tryd.ntmps28
  go_wp2_with fail
  go_at_call 39
  refine key.mono ?_
  rintro e w1 ⟨hp, hb⟩
  rcases hp with ⟨n, hr, rfl⟩ | ⟨hr, v, k, hv0, hv1, hk, rfl⟩
  · have HR := Lib.hid hr
    clear hr
    go_wp2_with fail
    go_ret2
    exact ⟨Or.inl ⟨n, HR.out, rfl⟩, hb⟩
  · have HR := Lib.hid hr
    have HK := Lib.hid hk
    clear hr hk
    go_wp2_with (go_at_call 40; refine (toError_any _ _ _ _ HK.out _ hlim (hE.on hb)).mono ?_; rintro e w2 ⟨t', x, rfl, hb2⟩)
    go_ret2
    exact ⟨Or.inr ⟨HR.out, v, t', x, hv0, hv1, rfl⟩, belT hb hb2⟩
end Go.Proofs.YtigepikfbpodpaaDoor
