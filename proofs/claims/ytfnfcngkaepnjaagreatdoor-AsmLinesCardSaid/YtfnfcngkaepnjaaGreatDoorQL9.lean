/- Joined texts: strings.Join at a separator of one byte.; What the library's listed variables hold, and that a call keeps it; strconv.Itoa, strconv.toError.; Walks of strconv.FormatUint in base 10.; An instruction's name; Text. -/
import Derived.Test.YtfnfcngkaepnjaaGreatDoorQL8
import Derived.Test.YtfnfcngkaepnjaaGreatDoorQL1
import Derived.Test.YtfnfcngkaepnjaaGreatDoorQL6
import Derived.Lib.ItoaMem
import Derived.Lib.ItoaNum
import Derived.Lib.CutLaws
import Derived.Test.YtfnfcngkaepnjaaGreatDoorQL7
import Derived.Test.YtfnfcngkaepnjaaGreatDoorQL4
import Derived.Laws.CopyOwn
/- strings.Join at a separator of one byte. -/
namespace Go.Proofs.YtfnfcngkaepnjaaGreatDoor
set_option linter.unusedVariables false
open Go Go.Proofs Go.RowKit

def sepC (c : UInt8) : ByteArray := ⟨#[c]⟩
/-- Strings, joined. -/
def joinS (xs : List ByteArray) (c : UInt8) : List UInt8 := Lib.join (xs.map (·.data.toList)) [c]

theorem joinS_cons (x : ByteArray) (r : List ByteArray) (c : UInt8) : joinS (x :: r) c = x.data.toList ++ Lib.joinTail [c] (r.map (·.data.toList)) := by
  simp only [joinS, List.map_cons, Lib.join_cons]
theorem joinS_length (x : ByteArray) (r : List ByteArray) (c : UInt8) : (joinS (x :: r) c).length = r.length + Lib.lens ((x :: r).map (·.data.toList)) := by
  simp only [joinS, List.map_cons]
  rw [Lib.join_length]
  simp

theorem join_single (bk o cp : Nat) (x sep : ByteArray) (w : World) (hc : w.cell? ⟨bk, o, none⟩ = some (.string x)) : Calls Tryz.prog 86 #[.slice (some ⟨bk, o, none⟩) 1 cp, .string sep] w fun e w' => e = .returned (.string x) ∧ w = w' := by
  go_enter Tryz.func86, Tryz.ntmps86
  go_wp2
  go_ret
  exact ⟨rfl, rfl⟩

set_option maxRecDepth 100000 in
set_option maxHeartbeats 4000000 in
theorem join_many (bk o cp : Nat) (x0 : ByteArray) (r : List ByteArray) (c : UInt8) (w : World) (hcells : ∀ (j : Nat) x, (x0 :: r)[j]? = some x → w.cell? ⟨bk, o + j, none⟩ = some (.string x)) (hbk : bk < w.heap.size)
    (h1 : 1 ≤ r.length) (hN : r.length ≤ 1000000000) (hcap : r.length + 1 ≤ cp) (hlen : (joinS (x0 :: r) c).length ≤ 140737488355328) :
    Calls Tryz.prog 86 #[.slice (some ⟨bk, o, none⟩) (r.length + 1 : Nat) cp, .string (sepC c)] w fun e w' => e = .returned (.string ⟨(joinS (x0 :: r) c).toArray⟩) ∧ Below w.heap.size w w' := by
  have HC := Lib.hid hcells
  clear hcells
  have hjl := joinS_length x0 r c
  rw [hjl] at hlen
  generalize hxs : (x0 :: r).map (·.data.toList) = ls at hlen
  have hll : ls.length = r.length + 1 := by rw [← hxs]; simp
  have Hxs := Lib.hid hxs
  have Hcons := Lib.hid (joinS_cons x0 r c)
  have hne : joinS (x0 :: r) c ≠ [] := by intro e; rw [e] at hjl; simp at hjl; omega
  have Hne := Lib.hid hne
  have Hjl := Lib.hid (by rw [hjl, hxs] : (joinS (x0 :: r) c).length = r.length + Lib.lens ls)
  generalize joinS (x0 :: r) c = J at Hcons Hne Hjl ⊢
  have hdv : ¬ (9223372036854775807 / (r.length : Int) ≤ 1) := by
    have e : (9223372036854775807 : Int) / (r.length : Int) = ((9223372036854775807 / r.length : Nat) : Int) := IntWalk.up_div (x := 9223372036854775807) rfl rfl
    rw [e]
    have : 2 ≤ 9223372036854775807 / r.length := by rw [Nat.le_div_iff_mul_le (by omega)]; omega
    omega
  have e0 : ((r.length : Int) + 1 == 0) = false := beq_eq_false_iff_ne.2 (by omega)
  have e1 : ((r.length : Int) + 1 == 1) = false := beq_eq_false_iff_ne.2 (by omega)
  have e2 : ((r.length : Int) == 0) = false := beq_eq_false_iff_ne.2 (by omega)
  have hssz : Hid ((sepC c).data.toList = [c]) := Lib.hid rfl
  clear hjl hxs hne
  unfold sepC
  go_enter Tryz.func86, Tryz.ntmps86
  go_wp2_with fail
  go_loop [5, 41] (fun n i => ∃ k : Nat, k ≤ r.length + 1 ∧ i = .int .i64 k ∧ n = .int .i64 ((r.length + Lib.lens (ls.take k) : Nat) : Int)) (fun _ i => r.length + 1 - (intOf i).toNat)
  case atStart => exact ⟨0, Nat.zero_le _, rfl, by simp [Lib.lens]⟩
  case round =>
    obtain ⟨k, hk, rfl, rfl⟩ := hrel
    by_cases hkn : k < r.length + 1
    · obtain ⟨x, hx⟩ : ∃ x, (x0 :: r)[k]? = some x := ⟨(x0 :: r)[k]'(by simpa using hkn), List.getElem?_eq_getElem _⟩
      have hc := HC.out k x hx
      have hstep := Lib.lens_take_succ ls k x.data.toList (by rw [← Hxs.out, List.getElem?_map, hx]; rfl)
      have hbound := Lib.lens_take_le ls (k + 1)
      rw [← Lib.size_eq] at hstep
      generalize hA1 : Lib.lens (ls.take (k + 1)) = A1 at hstep hbound
      generalize Lib.lens (ls.take k) = A0 at hstep
      have HA1 := Lib.hid hA1
      clear hA1
      go_wp2
      exact ⟨⟨k + 1, by omega, by go_num, by rw [HA1.out]; refine congrArg _ ?_; omega⟩, by simp [intOf]; omega⟩
    · have hke : k = r.length + 1 := by omega
      subst hke
      rw [List.take_of_length_le (by rw [hll]; exact Nat.le_refl _)]
      generalize Lib.lens ls = T at hlen Hjl
      clear hkn hk
      go_wp2_with fail
      have hMT : ((r.length : Int) + (T : Int)) = ((r.length + T : Nat) : Int) := by omega
      rw [hMT]
      refine (bldGrow_fresh w.heap.size w.heap.size (r.length + T) _ (Nat.le_refl _) (heap_alloc_new w _) (by simp) (by omega)).mono ?_
      rintro e w1 ⟨rfl, b1, hb1⟩
      have hb1' : Below w.heap.size w w1 := (bel1 _).trans hb1
      have hc0 : w1.cell? ⟨bk, o, none⟩ = some (.string x0) := by
        rw [hb1'.cell (p := ⟨bk, o, none⟩) hbk]
        exact HC.out 0 x0 rfl
      have H1 := Lib.hid (Or.inr (Lib.BuilderAtF.of b1) : Lib.IsBuilderF 191 5 w.heap.size w.heap.size [] w1)
      have Hb1 := Lib.hid hb1'
      have hBw1 : w.heap.size ≤ w1.heap.size := hb1'.size
      clear b1 hb1 hb1' hMT
      have hCle : ∀ k, (x0.data.toList ++ Lib.joinTail [c] ((r.map (·.data.toList)).take k)).length ≤ r.length + T := fun k => by
        have h1 := Hjl.out
        rw [Hcons.out, List.length_append] at h1
        have h2 := Lib.joinTail_take_le [c] (r.map (·.data.toList)) k
        rw [List.length_append]
        omega
      have HCle := Lib.hid hCle
      clear hCle
      go_wp2_with fail
      refine (writeString_any bldSelf w.heap.size w.heap.size [] x0 w1 H1.out (by have := HCle.out 0; simp [Lib.joinTail] at this ⊢; rw [Lib.size_eq]; simp; omega) hBw1).mono ?_
      rintro e w2 ⟨rfl, b2, hb2, _⟩
      have hstart : ([] : List Value) ++ Lib.strCells x0 = Lib.byteCells (x0.data.toList ++ Lib.joinTail [c] ((r.map (·.data.toList)).take 0)) := by
        simp [Lib.joinTail, Lib.strCells_eq]
      rw [hstart] at b2
      have H2 := Lib.hid b2
      have Hb2 := Lib.hid (Hb1.out.trans hb2)
      clear b2 hb2 hstart
      go_wp2_with fail
      go_loopw [65] (fun i wr => ∃ k : Nat, k ≤ r.length ∧ i = .int .i64 k ∧ Hid (Lib.IsBuilderF 191 5 w.heap.size w.heap.size (Lib.byteCells (x0.data.toList ++ Lib.joinTail [c] ((r.map (·.data.toList)).take k))) wr) ∧ Hid (Below w.heap.size w wr)) (fun i _ => r.length - (intOf i).toNat)
      case atStart => exact ⟨0, Nat.zero_le _, rfl, H2, Hb2⟩
      case round =>
        obtain ⟨k, hk', rfl, HB, HW⟩ := hrel
        by_cases hkr : k < r.length
        · have hcy : wr.cell? ⟨bk, o + 1 + k, none⟩ = some (.string r[k]) := by
            rw [HW.out.cell (p := ⟨bk, o + 1 + k, none⟩) hbk, show o + 1 + k = o + (k + 1) by omega]
            exact HC.out (k + 1) r[k] (by simp [hkr])
          have hBw : w.heap.size ≤ wr.heap.size := HW.out.size
          have htk := Lib.joinTail_take_succ [c] (r.map (·.data.toList)) k r[k].data.toList (by simp [hkr])
          generalize r[k] = y at hcy htk
          have hnext : Lib.byteCells (x0.data.toList ++ Lib.joinTail [c] ((r.map (·.data.toList)).take k)) ++ Lib.strCells ⟨#[c]⟩ ++ Lib.strCells y = Lib.byteCells (x0.data.toList ++ Lib.joinTail [c] ((r.map (·.data.toList)).take (k + 1))) := by
            rw [htk, Lib.strCells_eq, Lib.strCells_eq, ← Lib.byteCells_append, ← Lib.byteCells_append, List.append_assoc, List.append_assoc, List.append_assoc]
          have hl1 := HCle.out (k + 1)
          rw [htk] at hl1
          simp only [List.length_append, List.length_cons, List.length_nil, ← Lib.size_eq] at hl1
          have hl0 : (Lib.byteCells (x0.data.toList ++ Lib.joinTail [c] ((r.map (·.data.toList)).take k))).length = x0.size + (Lib.joinTail [c] ((r.map (·.data.toList)).take k)).length := by
            rw [Lib.byteCells_length, List.length_append, ← Lib.size_eq]
          generalize (Lib.joinTail [c] ((r.map (·.data.toList)).take k)).length = Jl at hl0 hl1
          have Hn := Lib.hid hnext
          have Hl0 := Lib.hid hl0
          clear hnext htk hl0
          go_wp2_with fail
          refine (writeString_any bldSelf w.heap.size w.heap.size _ ⟨#[c]⟩ wr HB.out (by rw [Hl0.out]; have h1 : (⟨#[c]⟩ : ByteArray).size = 1 := rfl; omega) hBw).mono ?_
          rintro e w3 ⟨rfl, b3, hb3, _⟩
          have hBw3 : w.heap.size ≤ w3.heap.size := Nat.le_trans hBw hb3.size
          have hcy3 : w3.cell? ⟨bk, o + 1 + k, none⟩ = some (.string y) := (hb3.cell (p := ⟨bk, o + 1 + k, none⟩) hbk).trans hcy
          have H3 := Lib.hid b3
          have Hb3 := Lib.hid hb3
          clear b3 hb3
          go_wp2_with fail
          refine (writeString_any bldSelf w.heap.size w.heap.size _ y w3 H3.out (by rw [List.length_append, Hl0.out, Lib.strCells_length]; have h1 : (⟨#[c]⟩ : ByteArray).size = 1 := rfl; omega) hBw3).mono ?_
          rintro e w4 ⟨rfl, b4, hb4, _⟩
          rw [Hn.out] at b4
          have H4 := Lib.hid b4
          have Hb4 := Lib.hid ((HW.out.trans Hb3.out).trans hb4)
          clear b4 hb4
          go_wp2
          exact ⟨⟨k + 1, by omega, by go_num, H4, Hb4⟩, by simp [intOf]; omega⟩
        · have hke : k = r.length := by omega
          subst hke
          have hB' := HB.out
          rw [List.take_of_length_le (by simp), ← Hcons.out] at hB'
          have HB' := Lib.hid hB'
          clear hB' HB
          go_wp2_with fail
          refine (bldString_any w.heap.size w.heap.size _ wr HB'.out Hne.out).mono ?_
          rintro e w5 ⟨rfl, hb5⟩
          have Hb5 := Lib.hid (HW.out.trans hb5)
          clear hb5
          go_wp2
          go_ret
          exact ⟨rfl, Hb5.out⟩
end Go.Proofs.YtfnfcngkaepnjaaGreatDoor

/- What the library's listed variables hold, and that a call keeps it; strconv.Itoa, strconv.toError. -/
namespace Go.Proofs.YtfnfcngkaepnjaaGreatDoor
set_option linter.unusedVariables false
open Go Go.Proofs Go.RowKit Go.Sort Go.Lib

/-- What the library's variables hold: the table of powers of ten; the two errors are errors. -/
structure Env (w : World) : Prop where
  tab : Lib.TabIs Tryz.prog w "internal/strconv.uint64pow10" .u64 Lib.pow10Tab
  syn : ∃ ev, w.cell? ⟨1, 0, none⟩ = some ev ∧ (ev = .nilIface ∨ ∃ te pe, ev = .iface te pe)
  rng : ∃ ev, w.cell? ⟨2, 0, none⟩ = some ev ∧ (ev = .nilIface ∨ ∃ te pe, ev = .iface te pe)

theorem tabIs_bel {P : Program} {w w' : World} {name : String} {k : IntKind} {zs : List Int} (h : Lib.TabIs P w name k zs) (hb : Below w.heap.size w w') : Lib.TabIs P w' name k zs := by
  unfold Lib.TabIs World.var? at *
  cases hg : P.globalNamed name with
  | none => simp [hg] at h
  | some g =>
    simp only [hg, Option.bind_some] at h ⊢
    have hlt : g < w.heap.size := by
      rcases Nat.lt_or_ge g w.heap.size with h' | h'
      · exact h'
      · rw [Array.getElem?_eq_none h'] at h; simp at h
    rw [hb.block g hlt]
    exact h

theorem Env.on {w w' : World} (h : Env w) (hb : Below w.heap.size w w') : Env w' := by
  refine ⟨tabIs_bel h.tab hb, ?_, ?_⟩
  · obtain ⟨ev, h1, h2⟩ := h.syn
    exact ⟨ev, ((bcell hb).1 _ _ (lt_of_cell h1)).trans h1, h2⟩
  · obtain ⟨ev, h1, h2⟩ := h.rng
    exact ⟨ev, ((bcell hb).1 _ _ (lt_of_cell h1)).trans h1, h2⟩

theorem bel_grow (w : World) (k : Nat) (os : Array Obj) : Below w.heap.size w (grow (w.drewN k) os) := by
  refine ⟨rfl, rfl, rfl, by simp [grow], fun i hi => ?_⟩
  rw [heap_grow_old _ _ (by simpa using hi)]
  rfl

theorem bel_drewN (w : World) (k : Nat) : Below w.heap.size w (w.drewN k) := ⟨rfl, rfl, rfl, Nat.le_refl _, fun _ _ => rfl⟩

theorem itoa_any (n : Int) (h0 : -9223372036854775808 ≤ n) (h1 : n ≤ 9223372036854775807) (w : World) (hE : Env w) :
    Calls Tryz.prog 71 #[.int .i64 n] w fun e w' => e = .returned (.string ⟨(Lib.itoa n).toArray⟩) ∧ Below w.heap.size w w' := by
  refine (Tryz.strconv_Itoa n h0 h1 w hE.tab).mono ?_
  rintro e w' ⟨rfl, k, os, rfl⟩
  exact ⟨rfl, bel_grow _ _ _⟩

theorem toError_any (fn s : ByteArray) (b k : Int) (hk : k = 1 ∨ k = 2) (w : World) (hlim : s.size ≤ 281474976710656) (hE : Env w) :
    Calls Tryz.prog 155 #[.string fn, .string s, .int .i64 10, .int .i64 b, .iface 268 (.int .i64 k)] w fun e w' => ∃ t x, e = .returned (.iface t x) ∧ Below w.heap.size w w' := by
  rcases hk with rfl | rfl
  · obtain ⟨ev, h1, h2⟩ := hE.rng
    refine (Tryz.strconv_toError_range fn s 10 b ev w hlim h1 h2).mono ?_
    rintro e w' ⟨N, rfl, _, _, hb⟩
    exact ⟨_, _, rfl, hb⟩
  · obtain ⟨ev, h1, h2⟩ := hE.syn
    refine (Tryz.strconv_toError_syntax fn s 10 b ev w hlim h1 h2).mono ?_
    rintro e w' ⟨N, rfl, _, _, hb⟩
    exact ⟨_, _, rfl, hb⟩

end Go.Proofs.YtfnfcngkaepnjaaGreatDoor

/- Walks of strconv.FormatUint in base 10. -/
namespace Go.Proofs.YtfnfcngkaepnjaaGreatDoor
set_option linter.unusedVariables false
open Go Go.Proofs Go.RowKit Go.Sort Go.Lib

theorem holds_zero0 (w : World) (T : TypeId) (nd : Nat) (hs : nd ≤ 24) : Holds (fun (b : UInt8) => Value.int .u8 (b.toNat : Int)) (w.alloc (.cells zeros24 T)) w.heap.size 0 (Array.replicate nd (0 : UInt8)) := fun j hj => by
  have hj' : j < nd := by simpa using hj
  refine ⟨?_, World.frozen?_alloc_new _ _ _ _⟩
  rw [World.cell?_alloc_new, zeros24_at _ (by omega), getElem!_pos _ j hj]
  simp

theorem fin_pos0 (w : World) (o : Obj) (dk : Array UInt8) (k : Nat) : ∃ os, (putRow (fun (b : UInt8) => Value.int .u8 (b.toNat : Int)) (w.alloc o) w.heap.size 0 dk).drewN k = grow (w.drewN k) os := by
  rw [alloc_eq_grow]
  obtain ⟨os', _, e⟩ := putRow_grow_new (fun (b : UInt8) => Value.int .u8 (b.toNat : Int)) w #[o] w.heap.size 0 dk (Nat.le_refl _)
  exact ⟨os', by rw [e]; rfl⟩

set_option maxRecDepth 100000 in
set_option maxHeartbeats 1000000 in
theorem formatUint_in (u : Nat) (hu64 : u < 18446744073709551616) (w : World) (htab : Lib.TabIs Tryz.prog w "internal/strconv.uint64pow10" .u64 Lib.pow10Tab) :
    Calls Tryz.prog 148 #[.int .u64 u, .int .i64 10] w fun e w' => e = .returned (.string ⟨(Lib.decDigits u).toArray⟩) ∧ Below w.heap.size w w' := by
  by_cases hs : u < 100
  · go_enter Tryz.func148, Tryz.ntmps148
    go_wp2_with (go_at_call 196; refine (Tryz.internal_strconv_small u hs _).mono ?_; rintro e w' ⟨rfl, rfl⟩)
    go_ret
    exact ⟨rfl, Below.refl _ _⟩
  · have hu1 : 1 ≤ u := by omega
    have hnd20 : Lib.nDigits u ≤ 20 := by have := Lib.numDigits_eq u hu1 hu64; split at this <;> omega
    have hal : Tryz.prog.arrayLen 263 = 24 := by kernel_rfl
    have hsl1 : ∀ W, (Instr.sliceAt 263 (.pointer (some ⟨w.heap.size, 0, none⟩)) none (some (.int .i64 (Lib.nDigits u : Int))) none).run Tryz.prog W = .ok (.slice (some ⟨w.heap.size, 0, none⟩) (Lib.nDigits u) 24) W := fun W => by
      rw [run_sliceAt_array_h W 263 ⟨w.heap.size, 0, none⟩ (by simp [Program.arrayLen, Program.elem, Tryz.underlying263]) .i64 (Lib.nDigits u : Int) (by omega) (by rw [hal]; omega)]
      rw [hal]
      go_simp
    have hH0 := holds_zero0 w 263 (Lib.nDigits u) (by omega)
    have hfmt := Tryz.internal_strconv_formatBase10 w.heap.size 0 24 u (Array.replicate (Lib.nDigits u) 0) (w.alloc (.cells Lib.zeros24 263)) hH0 (by rw [Array.size_replicate]; exact Lib.lt_pow_nDigits u) hu64 (by rw [Array.size_replicate]; omega)
    rw [Array.size_replicate] at hfmt
    have HH0 := Lib.hid hH0
    clear hH0 hal
    go_enter Tryz.func148, Tryz.ntmps148
    go_wp2_with (go_at_call 197; refine (Tryz.internal_strconv_numDigits u hu1 hu64 _ (Lib.tabIs_alloc htab _)).mono ?_; rintro e w' ⟨rfl, rfl⟩)
    go_at_call 198
    refine hfmt.mono ?_
    rintro e w' ⟨rfl, k, v', dk, rfl, hF⟩
    have hcv : (convert 22 9 (.slice (some ⟨w.heap.size, 0, none⟩) (Lib.nDigits u) 24)).run Tryz.prog ((putRow (fun (b : UInt8) => Value.int .u8 (b.toNat : Int)) (w.alloc (.cells Lib.zeros24 263)) w.heap.size 0 dk).drewN k) = .ok (.string ⟨(Lib.decDigits u).toArray⟩) ((putRow (fun (b : UInt8) => Value.int .u8 (b.toNat : Int)) (w.alloc (.cells Lib.zeros24 263)) w.heap.size 0 dk).drewN k) := by
      have h := run_convert_bytes_back (P := Tryz.prog) ((putRow (fun (b : UInt8) => Value.int .u8 (b.toNat : Int)) (w.alloc (.cells Lib.zeros24 263)) w.heap.size 0 dk).drewN k) 22 9 5 ⟨w.heap.size, 0, none⟩ 24 (Lib.decDigits u) Tryz.underlying22 Tryz.underlying5 Tryz.underlying9 (fun j hj => by
        rw [Lib.row_is_numeral hF j hj, Lib.add_plain, World.cell?_drewN]
        exact cell?_putRow (fun (b : UInt8) => Value.int .u8 (b.toNat : Int)) _ w.heap.size 0 _ dk HH0.out (by rw [hF.size, Array.size_replicate]) j (by rw [hF.size]; rw [Lib.decDigits_length] at hj; exact hj))
      rw [Lib.decDigits_length] at h
      exact h
    go_wp2_with (go_at_call 197; refine (Tryz.internal_strconv_numDigits u hu1 hu64 _ (Lib.tabIs_alloc htab _)).mono ?_; rintro e w' ⟨rfl, rfl⟩)
    go_ret
    obtain ⟨os, eo⟩ := fin_pos0 w (.cells Lib.zeros24 263) dk k
    exact ⟨rfl, by rw [eo]; exact bel_grow _ _ _⟩

set_option maxRecDepth 100000 in
set_option maxHeartbeats 1000000 in
theorem formatUint_any (u : Int) (h0 : 0 ≤ u) (hu64 : u < 18446744073709551616) (w : World) (hE : Env w) :
    Calls Tryz.prog 85 #[.int .u64 u, .int .i64 10] w fun e w' => e = .returned (.string ⟨(Lib.decDigits u.toNat).toArray⟩) ∧ Below w.heap.size w w' := by
  obtain ⟨n, rfl⟩ := Int.eq_ofNat_of_zero_le h0
  rw [Int.toNat_natCast]
  have hn : n < 18446744073709551616 := by omega
  go_enter Tryz.func85, Tryz.ntmps85
  go_wp2_with (go_at_call 148; refine (formatUint_in n hn _ hE.tab).mono ?_; rintro e w' ⟨rfl, hb⟩)
  go_ret
  exact ⟨rfl, hb⟩

end Go.Proofs.YtfnfcngkaepnjaaGreatDoor

/- An instruction's name; Text. -/
namespace Go.Proofs.YtfnfcngkaepnjaaGreatDoor
set_option linter.unusedVariables false
open Go Go.Proofs Go.RowKit

/-- The Ops' words. -/
def wordL : List ByteArray := [⟨#[]⟩, ⟨#[99, 111, 110, 115, 116]⟩, ⟨#[109, 111, 118, 101]⟩, ⟨#[]⟩, ⟨#[106, 117, 109, 112]⟩, ⟨#[105, 102]⟩, ⟨#[108, 111, 97, 100]⟩, ⟨#[115, 116, 111, 114, 101]⟩, ⟨#[99, 97, 108, 108]⟩, ⟨#[114, 101, 116, 117, 114, 110]⟩, ⟨#[103, 111]⟩, ⟨#[108, 111, 99, 107]⟩, ⟨#[117, 110, 108, 111, 99, 107]⟩, ⟨#[114, 108, 111, 99, 107]⟩, ⟨#[114, 117, 110, 108, 111, 99, 107]⟩, ⟨#[119, 108, 111, 99, 107]⟩, ⟨#[119, 117, 110, 108, 111, 99, 107]⟩, ⟨#[99, 111, 117, 110, 116]⟩, ⟨#[119, 97, 105, 116]⟩, ⟨#[121, 105, 101, 108, 100]⟩]
def wordN (k : Nat) : ByteArray := wordL.getD k ⟨#[]⟩
def wordV : Value := .agg (wordL.map Value.string).toArray

theorem wpList_build' {P : Program} {ops : Array Oper} {rest : List Oper} {o : Oper} {a : Act} {w : World} {Q : Exit → Act → World → Prop} (hg : o.guard = none) (t : TypeId) (parts : Array (Nat × Operand)) (ho : o.op = .build t parts) (cs : Array Value)
    (hf : P.built t (parts.map fun (i, x) => (i, a.eval x)).toList = some cs) (h : wpList P ops Q rest (a.put o.dst (.agg cs)) w) : wpList P ops Q (o :: rest) a w :=
  wpList_build hg t parts ho (by rw [hf]; rfl) (by rw [hf]; exact h)

def wordA : Array Value := (wordL.map Value.string).toArray
theorem words_any (w : World) : Calls Tryz.prog 142 #[] w fun e w' => e = .returned wordV ∧ Below w.heap.size w w' := by
  have HA := Lib.hid (show wordV = .agg wordA from rfl)
  have hi : Hid ((Tryz.prog.info? 221).map (·.size) = some wordA.size) := Lib.hid (by kernel_rfl)
  have h1 : Hid (wordA.all (·.oneCell') = true) := Lib.hid (by kernel_rfl)
  have h20 : Hid ((20 : Nat) = wordA.size) := Lib.hid (by kernel_rfl)
  go_enter Tryz.func142, Tryz.ntmps142
  go_wp2_with (first
    | (refine wpList_build' rfl 221 _ rfl wordA (by kernel_rfl) ?_; generalize wordA = WA at *)
    | (refine wpList_store_row rfl 221 _ _ rfl w.heap.size WA rfl rfl 221 (Array.replicate 20 (.string ⟨#[]⟩)) (heap_alloc_new w _) hi.out (by rw [Array.size_replicate]; exact h20.out) h1.out ?_))
  refine bodyPost_ret (v := wordV) ?_ rfl ⟨rfl, below_setRow (bel1 _) (Nat.le_refl _) _⟩
  rw [HA.out]
  exact results_cell_row rfl _ _ w.heap.size 221 WA (0, 0) _ rfl (setRow_heap _ _ _ _ _ _ (heap_alloc_new w _)) Tryz.underlying221 rfl hi.out

theorem word_index (w : World) : ∀ (k : Nat), k < 20 → (Instr.index 221 wordV (.int .i64 (k : Int))).run Tryz.prog w = .ok (.string (wordN k)) w
  | 0, _ => by kernel_rfl
  | 1, _ => by kernel_rfl
  | 2, _ => by kernel_rfl
  | 3, _ => by kernel_rfl
  | 4, _ => by kernel_rfl
  | 5, _ => by kernel_rfl
  | 6, _ => by kernel_rfl
  | 7, _ => by kernel_rfl
  | 8, _ => by kernel_rfl
  | 9, _ => by kernel_rfl
  | 10, _ => by kernel_rfl
  | 11, _ => by kernel_rfl
  | 12, _ => by kernel_rfl
  | 13, _ => by kernel_rfl
  | 14, _ => by kernel_rfl
  | 15, _ => by kernel_rfl
  | 16, _ => by kernel_rfl
  | 17, _ => by kernel_rfl
  | 18, _ => by kernel_rfl
  | 19, _ => by kernel_rfl
  | n + 20, h => absurd h (by omega)

/-- An instruction's name. -/
def insN (op m : Int) : ByteArray := if op = 3 then kindN (m - 1).toNat else wordN op.toNat

set_option maxRecDepth 100000 in
set_option maxHeartbeats 1000000 in
theorem insName_any (op a b c m : Int) (h : 1 ≤ op ∧ op ≤ 19) (h3 : op = 3 → 1 ≤ m ∧ m ≤ 12) (hm : 0 ≤ m ∧ m < 4294967296) (w : World) :
    Calls Tryz.prog 83 #[insV op a b c m] w fun e w' => e = .returned (.string (insN op m)) ∧ Below w.heap.size w w' := by
  obtain ⟨h1, h2⟩ := h
  obtain ⟨m1, m2⟩ := hm
  unfold insV
  by_cases hop : op = 3
  · subst hop
    obtain ⟨k1, k2⟩ := h3 rfl
    have hN : insN 3 m = kindN (m - 1).toNat := rfl
    rw [hN]
    go_enter Tryz.func83, Tryz.ntmps83
    go_wp2_with fail
    refine (kindName_any _ _).mono ?_
    rintro e w1 ⟨s, n, hs, rfl, hb1⟩
    go_wp2_with fail
    go_ret
    rcases hs with ⟨j, hj, e1, rfl, _⟩ | ⟨hall, _, _⟩
    · exact ⟨by rw [show (m - 1).toNat = j by omega]; rfl, belT (bel1 _) hb1⟩
    · exact absurd (show (((m - 1).toNat : Nat) : Int) + 1 = m by omega) (hall (m - 1).toNat (by omega))
  · obtain ⟨k, rfl⟩ := Int.eq_ofNat_of_zero_le (show 0 ≤ op by omega)
    have hN : insN k m = wordN k := by unfold insN; rw [if_neg hop]; simp
    rw [hN]
    have e3 : ((k : Int) == 3) = false := beq_eq_false_iff_ne.2 hop
    have hix := fun w => word_index w k (by omega)
    have b0 := Bare.new k a b c m w 29
    have c0 := b0.c0
    have CW := Lib.hid words_any
    clear hop h3
    generalize wordV = WV at hix CW
    go_enter Tryz.func83, Tryz.ntmps83
    go_wp2_with fail
    go_region_with (go_at_call 142; refine (CW.out _).mono ?_; rintro e w1 ⟨rfl, hb1⟩; have c0 := cell_bel (w := (w.alloc (.cells #[.int .i64 k, .int .i64 a, .int .i64 b, .int .i64 c, .int .u32 m] 29)).drew) c0 hb1)
    all_goals
      go_wp2
      go_ret
      exact ⟨rfl, (bel1 _).drew.trans (hb1.mono (by simp))⟩
end Go.Proofs.YtfnfcngkaepnjaaGreatDoor
