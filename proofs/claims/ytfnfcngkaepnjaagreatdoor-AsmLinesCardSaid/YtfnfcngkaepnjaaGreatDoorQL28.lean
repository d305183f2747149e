/- Joined texts: Package asm: strings.Builder.WriteByte; line; joined.; What Bytes and Text tell of any instruction; x[:k].; Package asm: heads; all lines of a program. -/
import Derived.Test.YtfnfcngkaepnjaaGreatDoorQL26
import Derived.Test.YtfnfcngkaepnjaaGreatDoorQL8
import Derived.Test.YtfnfcngkaepnjaaGreatDoorQL27
import Derived.Test.YtfnfcngkaepnjaaGreatDoorQL20
import Derived.BigQuiet
/- Package asm: strings.Builder.WriteByte; line; joined. -/
namespace Go.Proofs.YtfnfcngkaepnjaaGreatDoor
set_option linter.unusedVariables false
set_option linter.unusedSimpArgs false
open Go Go.Proofs Go.RowKit

set_option maxHeartbeats 2000000 in
set_option maxRecDepth 100000 in
theorem writeByte_any {T : TypeId} (hT : BldT T) (B b : Nat) (bs : List Value) (c : Int) (w : World) (h : Lib.IsBuilderF T 5 B b bs w) (hlen : bs.length + 1 ≤ 140737488355328) (hBw : B ≤ w.heap.size) :
    Calls Tryz.prog 122 #[.pointer (some ⟨b, 0, none⟩), .int .u8 c] w fun e w' => e = .returned .nilIface ∧ Lib.IsBuilderF T 5 B b (bs ++ [.int .u8 c]) w' ∧ Below B w w' ∧ Lib.OthersKept 5 (some b) w w' := by
  obtain ⟨i0, hi, hz0, hz1, hz2⟩ := info_parts info_byte
  go_enter Tryz.func122, Tryz.ntmps122
  go_wp2_with (go_at_call 168; refine (copyCheck_any hT B b bs _ h).mono ?_)
  rintro e w1 ⟨rfl, h1, hb1, hk1⟩
  obtain ⟨hB, v, hbk, hown, hne⟩ := h1
  have c0 : w1.cell? ⟨b, 0, none⟩ = some (.pointer (some ⟨b, 0, none⟩)) := by rw [Lib.cell_of_heap hbk]; rfl
  have c1 : w1.cell? ⟨b, 1, none⟩ = some v := by rw [Lib.cell_of_heap hbk]; rfl
  go_wp2_with (at_builtin; refine wpList_append_ownF _ rfl _ _ 22 rfl B 5 i0 (.int .u8 0) 1 1 Tryz.underlying22 hi hz0 hz1 hz2 rfl (by decide) _ _ _ rfl (hown.alloc _) ⟨w1.heap.size, 0, none⟩ 1 1 [.int .u8 c] rfl rfl ?c1 ?c2 ?c3 ?c4 ?c5 ?_)
  case c1 =>
    intro j u hj
    match j, hj with
    | 0, hj => simp at hj; subst hj; simp [Addr.add]
  case c2 => intro u hu; simp at hu; subst hu; rfl
  case c3 => unfold maxLen; omega
  case c4 => omega
  case c5 => have := hb1.size; simp; omega
  intro v' w2 hown' hgrow _
  have hlt : b < w1.heap.size := by
    rcases Nat.lt_or_ge b w1.heap.size with h' | h'
    · exact h'
    · simp [Array.getElem?_eq_none h'] at hbk
  have hb2 : w2.heap[b]? = some (.cells #[.pointer (some ⟨b, 0, none⟩), v] T (0, 0)) := by
    rw [hgrow.block b (by simp; omega) (fun e => hne e.symm), Lib.alloc_old w1 _ b hlt]
    exact hbk
  have d0 : w2.cell? ⟨b, 0, none⟩ = some (.pointer (some ⟨b, 0, none⟩)) := by rw [Lib.cell_of_heap hb2]; rfl
  have d1 : w2.cell? ⟨b, 1, none⟩ = some v := by rw [Lib.cell_of_heap hb2]; rfl
  have f1 : w2.frozen? ⟨b, 1, none⟩ = false := Lib.frozen_of_heap hb2 1
  obtain ⟨g, cap, rfl⟩ : ∃ g cap, v' = .slice (some ⟨g, 0, none⟩) (bs.length + 1) cap := by
    rcases hown'.2 with ⟨_, h0⟩ | ⟨g, cap, cur, fz, hv, _⟩
    · omega
    · exact ⟨g, cap, hv⟩
  go_wp2
  go_ret
  refine ⟨rfl, ?_, ?_, ((hk1.alloc _).grown hgrow (Lib.ownsRowF_kind (hown.alloc _))).setCell ⟨b, 1, none⟩ rfl _⟩
  · exact .inr (Lib.BuilderAtF.put (T := T) (e := 5) hB hb2 (bs' := bs ++ [.int .u8 c]) (by simpa using hown') hT.ne)
  · exact ((hb1.alloc (by have := hb1.size; omega) _).grown hgrow (by have := hb1.size; simp; omega) (fun k hk => (hown.lt k hk).1)).setCell (p := ⟨b, 1, none⟩) hB _

abbrev encS (x : ByteArray) : List Value := [.string x]
theorem rowS : RowTy 67 9 1 16 (.string ⟨#[]⟩) encS :=
  ⟨Tryz.underlying67, by kernel_rfl, rfl, by decide, by decide, fun _ => rfl, fun x u hu => by simp at hu; subst hu; rfl⟩

/-- A word, a blank and a number. -/
def lineF (word : ByteArray) (n : Int) : ByteArray := word ++ ⟨#[32]⟩ ++ ⟨(Lib.itoa n).toArray⟩
theorem asmLine_any (word : ByteArray) (hw : word.size ≤ 1000) (n : Int) (h0 : -9223372036854775808 ≤ n) (h1 : n ≤ 9223372036854775807) (w : World) (hE : Env w) :
    Calls Tryz.prog 125 #[.string word, .int .i64 n] w fun e w' => e = .returned (.string (lineF word n)) ∧ Below w.heap.size w w' := by
  have CI := Lib.hid (itoa_any n h0 h1 w hE)
  have ld := Lib.itoa_length_le n h0 h1
  have n1 : ¬ 9223372036854775807 < word.size + 1 := by omega
  have n2 : ¬ 9223372036854775807 < word.size + 1 + (Lib.itoa n).length := by omega
  unfold lineF
  clear h0 h1
  go_enter Tryz.func125, Tryz.ntmps125
  go_wp2_with fail
  refine CI.out.mono ?_
  rintro e w1 ⟨rfl, hb1⟩
  go_wp2_with fail
  go_ret
  exact ⟨rfl, hb1⟩

/-- Texts, a byte 10 behind each. -/
def joinedF (L : List ByteArray) : List UInt8 := L.flatMap fun s => s.data.toList ++ [10]
theorem joinedF_take (L : List ByteArray) (k : Nat) (x : ByteArray) (h : L[k]? = some x) : joinedF (L.take (k + 1)) = joinedF (L.take k) ++ x.data.toList ++ [10] := by
  obtain ⟨h1, h2⟩ := List.getElem?_eq_some_iff.1 h
  unfold joinedF
  rw [← List.take_append_getElem h1, List.flatMap_append, h2]
  simp
theorem joinedF_le (L : List ByteArray) (k : Nat) : (joinedF (L.take k)).length ≤ (joinedF L).length := by
  conv => rhs; rw [← List.take_append_drop k L]
  unfold joinedF
  rw [List.flatMap_append, List.length_append]
  omega

set_option maxRecDepth 100000 in
set_option maxHeartbeats 2000000 in
theorem asmJoined_any (L : List ByteArray) (h0 : L ≠ []) (hL : L.length ≤ 1000000) (hs : (joinedF L).length ≤ 140737488355328) (v : Value) (w : World) (h : ArgW 1 encS w v L) :
    Calls Tryz.prog 62 #[v] w fun e w' => e = .returned (.string ⟨(joinedF L).toArray⟩) ∧ Below w.heap.size w w' := by
  obtain ⟨av, cv, rfl⟩ := h.form
  have H := Lib.hid h
  have HS := Lib.hid hs
  have hJ : joinedF L ≠ [] := by
    cases L with
    | nil => exact absurd rfl h0
    | cons x L => unfold joinedF; rw [List.flatMap_cons]; simp
  have HJ := Lib.hid hJ
  clear h hs h0 hJ
  go_enter Tryz.func62, Tryz.ntmps62
  go_wp2_with fail
  have HB0 := Lib.hid (Lib.IsBuilderF.of (Lib.fresh_isBuilder 191 5 w))
  have hbn := bel1 (W := w) (.cells #[.pointer none, .slice none 0 0] 191)
  go_loopw [8] (fun i wr => ∃ k : Nat, k ≤ L.length ∧ i = .int .i64 k ∧ Hid (Lib.IsBuilderF 191 5 w.heap.size w.heap.size (Lib.byteCells (joinedF (L.take k))) wr) ∧ Hid (Below w.heap.size w wr)) (fun i _ => L.length - (intOf i).toNat)
  case atStart => exact ⟨0, Nat.zero_le _, rfl, HB0, Lib.hid hbn⟩
  case round =>
    clear hbn
    obtain ⟨k, hk, rfl, HB, HW⟩ := hrel
    by_cases hlt : k < L.length
    · obtain ⟨x, hx⟩ : ∃ x, L[k]? = some x := ⟨L[k], List.getElem?_eq_getElem hlt⟩
      obtain ⟨b, o, c', hv, -, hH⟩ := (H.out.bel HW.out).at_ hx
      simp only [Value.slice.injEq, true_and] at hv
      obtain ⟨hao, hcc⟩ := hv
      subst hao hcc
      have x0 := hH k 0 _ _ hx rfl
      simp only [Nat.add_zero, Nat.mul_one] at x0
      have htk := joinedF_take L k x hx
      have hle := joinedF_le L (k + 1)
      have hnext : Lib.byteCells (joinedF (L.take k)) ++ Lib.strCells x ++ [Value.int .u8 10] = Lib.byteCells (joinedF (L.take (k + 1))) := by
        rw [htk, Lib.strCells_eq, ← Lib.byteCells_append]
        rw [Lib.byteCells_append (joinedF (L.take k) ++ x.data.toList)]
        rfl
      rw [htk] at hle
      simp only [List.length_append, List.length_cons, List.length_nil, ← Lib.size_eq] at hle
      have hl0 : (Lib.byteCells (joinedF (L.take k))).length = (joinedF (L.take k)).length := Lib.byteCells_length _
      have hl1 : (Lib.byteCells (joinedF (L.take k)) ++ Lib.strCells x).length = (joinedF (L.take k)).length + x.size := by
        rw [List.length_append, hl0, Lib.strCells_length]
      have HN := Lib.hid hnext
      have HL0 := Lib.hid hl0
      have HL1 := Lib.hid hl1
      have HLE := Lib.hid hle
      have hBw : w.heap.size ≤ wr.heap.size := HW.out.size
      clear hnext hl0 hl1 hle htk hx hH
      go_wp2_with fail
      refine (writeString_any bldSelf w.heap.size w.heap.size _ x wr HB.out (by rw [HL0.out]; have := HLE.out; have := HS.out; omega) hBw).mono ?_
      rintro e w3 ⟨rfl, b3, hb3, -⟩
      have H3 := Lib.hid b3
      have Hb3 := Lib.hid hb3
      have hBw3 : w.heap.size ≤ w3.heap.size := Nat.le_trans hBw hb3.size
      clear b3 hb3 x0
      go_wp2_with fail
      refine (writeByte_any bldSelf w.heap.size w.heap.size _ 10 w3 H3.out (by rw [HL1.out]; have := HLE.out; have := HS.out; omega) hBw3).mono ?_
      rintro e w4 ⟨rfl, b4, hb4, -⟩
      rw [HN.out] at b4
      have H4 := Lib.hid b4
      have Hb4 := Lib.hid ((HW.out.trans Hb3.out).trans hb4)
      clear b4 hb4
      go_wp2_with fail
      exact ⟨⟨k + 1, by omega, by go_num, H4, Hb4⟩, by simp [intOf]; omega⟩
    · have hk2 : k = L.length := by omega
      subst hk2
      rw [List.take_length] at HB
      go_wp2_with fail
      refine (bldString_any w.heap.size w.heap.size _ wr HB.out HJ.out).mono ?_
      rintro e w5 ⟨rfl, hb5⟩
      go_wp2_with fail
      go_ret
      exact ⟨rfl, HW.out.trans hb5⟩
end Go.Proofs.YtfnfcngkaepnjaaGreatDoor

/- What Bytes and Text tell of any instruction; x[:k]. -/
namespace Go.Proofs.YtfnfcngkaepnjaaGreatDoor
set_option linter.unusedVariables false
open Go Go.Proofs Go.RowKit

end Go.Proofs.YtfnfcngkaepnjaaGreatDoor

/- Package asm: heads; all lines of a program. -/
namespace Go.Proofs.YtfnfcngkaepnjaaGreatDoor
set_option linter.unusedVariables false
set_option linter.unusedSimpArgs false
open Go Go.Proofs Go.RowKit

def wMu : ByteArray := ⟨#[109, 117, 116, 101, 120, 101, 115]⟩
def wRw : ByteArray := ⟨#[114, 119, 108, 111, 99, 107, 115]⟩
def wGr : ByteArray := ⟨#[103, 114, 111, 117, 112, 115]⟩
def wFn : ByteArray := ⟨#[102, 117, 110, 99]⟩
abbrev hd (s : ByteArray) (f : Nat) : Value := .agg #[.string s, .func (.func f) #[] #[]]
abbrev headsV : Value := .agg #[.string ⟨#[109, 117, 116, 101, 120, 101, 115]⟩, .func (.func 169) #[] #[], .string ⟨#[114, 119, 108, 111, 99, 107, 115]⟩, .func (.func 170) #[] #[], .string ⟨#[103, 114, 111, 117, 112, 115]⟩, .func (.func 171) #[] #[]]

set_option maxRecDepth 100000 in
theorem heads_any (w : World) : Calls Tryz.prog 124 #[] w fun e w' => e = .returned headsV ∧ Below w.heap.size w w' := by
  go_enter Tryz.func124, Tryz.ntmps124
  go_wp2_with fail
  have e := fun j => cell_new w #[.string ⟨#[109, 117, 116, 101, 120, 101, 115]⟩, .func (.func 169) #[] #[], .string ⟨#[114, 119, 108, 111, 99, 107, 115]⟩, .func (.func 170) #[] #[], .string ⟨#[103, 114, 111, 117, 112, 115]⟩, .func (.func 171) #[] #[]] 197 j
  have e0 := e 0
  have e1 := e 1
  have e2 := e 2
  have e3 := e 3
  have e4 := e 4
  have e5 := e 5
  clear e
  exact bodyPost_ret (v := headsV) (by simp [results, Tryz.results124, go_sem, e0, e1, e2, e3, e4, e5]) rfl ⟨rfl, bel1 _⟩
theorem heads_at (w : World) : (Instr.index 197 headsV (.int .i64 0)).run Tryz.prog w = .ok (hd ⟨#[109, 117, 116, 101, 120, 101, 115]⟩ 169) w ∧ (Instr.index 197 headsV (.int .i64 1)).run Tryz.prog w = .ok (hd ⟨#[114, 119, 108, 111, 99, 107, 115]⟩ 170) w ∧ (Instr.index 197 headsV (.int .i64 2)).run Tryz.prog w = .ok (hd ⟨#[103, 114, 111, 117, 112, 115]⟩ 171) w :=
  ⟨by kernel_rfl, by kernel_rfl, by kernel_rfl⟩

theorem head1_any (B : Nat) (w : World) : Calls Tryz.prog 169 #[.pointer (some ⟨B, 0, none⟩)] w fun e w' => e = .returned (.pointer (some ⟨B, 1, none⟩)) ∧ w' = w := by
  go_enter Tryz.func169, Tryz.ntmps169
  go_wp2_with fail
  go_ret
  exact ⟨rfl, rfl⟩
theorem head2_any (B : Nat) (w : World) : Calls Tryz.prog 170 #[.pointer (some ⟨B, 0, none⟩)] w fun e w' => e = .returned (.pointer (some ⟨B, 2, none⟩)) ∧ w' = w := by
  go_enter Tryz.func170, Tryz.ntmps170
  go_wp2_with fail
  go_ret
  exact ⟨rfl, rfl⟩
theorem head3_any (B : Nat) (w : World) : Calls Tryz.prog 171 #[.pointer (some ⟨B, 0, none⟩)] w fun e w' => e = .returned (.pointer (some ⟨B, 3, none⟩)) ∧ w' = w := by
  go_enter Tryz.func171, Tryz.ntmps171
  go_wp2_with fail
  go_ret
  exact ⟨rfl, rfl⟩

/-- An instruction's text. -/
def insTx (x : InsM) : ByteArray := ⟨(textF x.op x.a x.b x.c x.m).toArray⟩
def fnLines (f : FnM) : List ByteArray := lineF wFn f.regs :: f.code.map insTx
/-- A program's lines. -/
def headLines (P : ProgM) : List ByteArray := [lineF wMu P.mu, lineF wRw P.rw, lineF wGr P.gr]
def linesF (P : ProgM) : List ByteArray := headLines P ++ P.funcs.flatMap fnLines
theorem fnLines_take (F : List FnM) (k : Nat) (f : FnM) (h : F[k]? = some f) : (F.take (k + 1)).flatMap fnLines = (F.take k).flatMap fnLines ++ fnLines f := by
  obtain ⟨h1, h2⟩ := List.getElem?_eq_some_iff.1 h
  rw [← List.take_append_getElem h1, List.flatMap_append, h2]
  simp
theorem insTx_take (L : List InsM) (k : Nat) (x : InsM) (h : L[k]? = some x) : (L.take (k + 1)).map insTx = (L.take k).map insTx ++ [insTx x] := by
  obtain ⟨h1, h2⟩ := List.getElem?_eq_some_iff.1 h
  rw [← List.take_append_getElem h1, List.map_append, h2]
  rfl
theorem fnLines_len (F : List FnM) (k : Nat) (h : ∀ f ∈ F, f.code.length ≤ 512) (hk : k ≤ 32) : ((F.take k).flatMap fnLines).length ≤ 513 * k := by
  induction k with
  | zero => simp
  | succ k ih =>
    cases hf : F[k]? with
    | none =>
      have : F.take (k + 1) = F.take k := by
        have := List.getElem?_eq_none_iff.1 hf
        rw [List.take_of_length_le (by omega), List.take_of_length_le (by omega)]
      rw [this]
      have := ih (by omega)
      omega
    | some f =>
      rw [fnLines_take F k f hf, List.length_append]
      have h1 := ih (by omega)
      have h2 := h f (List.mem_of_getElem? hf)
      unfold fnLines at h1 ⊢
      simp only [List.length_cons, List.length_map]
      omega

theorem least_of (p : Nat → Prop) (n : Nat) (h : p n) : ∃ m, p m ∧ ∀ k, k < m → ¬ p k := by
  induction n using Nat.strongRecOn with
  | _ n ih =>
    by_cases hk : ∃ k, k < n ∧ p k
    · obtain ⟨k, h1, h2⟩ := hk
      exact ih k h1 h2
    · exact ⟨n, h, fun k h1 h2 => hk ⟨k, h1, h2⟩⟩
/-- A right program's parts. -/
theorem right_fits {P : ProgM} (hR : rightP P = true) : numbersF P = true ∧ AllFine P.funcs := by
  unfold rightP at hR
  rw [Bool.and_eq_true] at hR
  refine ⟨hR.1, fun f' pc' fn x h1 h2 => ?_⟩
  cases hx : fineF P.funcs fn pc' x with
  | true => rfl
  | false =>
    exfalso
    have h3 := hR.2
    have : ∃ f pc, WrongAt P.funcs f pc := by
      -- the least wrong place
      have hN : ∃ n : Nat, ∃ f pc fn x, P.funcs[f]? = some fn ∧ fn.code[pc]? = some x ∧ fineF P.funcs fn pc x = false ∧ n = f := ⟨f', f', pc', fn, x, h1, h2, hx, rfl⟩
      obtain ⟨n0, hn0⟩ := hN
      obtain ⟨n, e1, e2⟩ := least_of (fun n => ∃ f pc fn x, P.funcs[f]? = some fn ∧ fn.code[pc]? = some x ∧ fineF P.funcs fn pc x = false ∧ n = f) n0 hn0
      obtain ⟨f, pc, fn1, x1, g1, g2, g3, hnf⟩ := e1
      subst hnf
      have hM : ∃ n : Nat, ∃ x, fn1.code[n]? = some x ∧ fineF P.funcs fn1 n x = false := ⟨pc, x1, g2, g3⟩
      obtain ⟨q0, hq0⟩ := hM
      obtain ⟨q, e3, e4⟩ := least_of (fun n => ∃ x, fn1.code[n]? = some x ∧ fineF P.funcs fn1 n x = false) q0 hq0
      obtain ⟨x2, g4, g5⟩ := e3
      refine ⟨_, q, ⟨fn1, x2, g1, g4, g5⟩, fun a b fn3 x3 k1 k2 k3 => ?_⟩
      cases hz : fineF P.funcs fn3 b x3 with
      | true => rfl
      | false =>
        exfalso
        rcases k3 with k3 | ⟨rfl, k3⟩
        · exact e2 a k3 ⟨a, b, fn3, x3, k1, k2, hz, rfl⟩
        · rw [g1] at k1
          cases k1
          exact e4 b k3 ⟨x3, k2, hz⟩
    obtain ⟨f, pc, hw⟩ := this
    rw [wrongF_some hw] at h3
    cases h3
end Go.Proofs.YtfnfcngkaepnjaaGreatDoor
