/- Joined texts: Bytes as strings.; The reference of layer 8: what an Op names; in; reg. -/
import Derived.Test.YtfnfcngkaepnjaaGreatDoorQE12
import Derived.Laws.IdiomStrings
import Derived.Test.YtfnfcngkaepnjaaGreatDoorQE23
/- Bytes as strings. -/
namespace Go.Proofs.YtfnfcngkaepnjaaGreatDoor
set_option linter.unusedVariables false
open Go Go.Proofs Go.RowKit

def bytesS (l : List Nat) : ByteArray := ⟨(l.map UInt8.ofNat).toArray⟩
theorem bytesS_inj {l l' : List Nat} (h : ∀ x ∈ l, x < 256) (h' : ∀ x ∈ l', x < 256) (e : bytesS l = bytesS l') : l = l' := by
  have e1 : l.map UInt8.ofNat = l'.map UInt8.ofNat := by
    have := congrArg (fun x : ByteArray => x.data.toList) e
    simpa [bytesS] using this
  clear e
  induction l generalizing l' with
  | nil => cases l' with | nil => rfl | cons y l' => simp at e1
  | cons x l ih =>
    cases l' with
    | nil => simp at e1
    | cons y l' =>
      simp only [List.map_cons, List.cons.injEq] at e1
      have hx := h x (.head _)
      have hy := h' y (.head _)
      have e2 := congrArg UInt8.toNat e1.1
      rw [UInt8.toNat_ofNat', UInt8.toNat_ofNat'] at e2
      rw [ih (fun z hz => h z (.tail _ hz)) (fun z hz => h' z (.tail _ hz)) e1.2, show x = y by omega]
theorem bytesS_eq {l l' : List Nat} (h : ∀ x ∈ l, x < 256) (h' : ∀ x ∈ l', x < 256) : bytesS l = bytesS l' ↔ l = l' := ⟨bytesS_inj h h', fun e => by rw [e]⟩

theorem conv_nil (w : World) : (convert 22 9 (.slice none 0 0)).run Tryz.prog w = .ok (.string ⟨#[]⟩) w := by kernel_rfl
theorem conv_arg {v : Value} {l : List Nat} {w : World} (h : ArgB w v l) : (convert 22 9 v).run Tryz.prog w = .ok (.string (bytesS l)) w := by
  rcases h with ⟨rfl, rfl⟩ | ⟨ad, c, rfl, h1, h2, h3⟩
  · exact conv_nil w
  · have := run_convert_bytes_back (P := Tryz.prog) w 22 9 5 ad c (l.map UInt8.ofNat) Tryz.underlying22 Tryz.underlying5 Tryz.underlying9 (by
      intro j hj
      rw [List.length_map] at hj
      obtain ⟨b, o, rfl, hB⟩ := h3 (by intro e; rw [e] at hj; simp at hj)
      have hlt := hB.1 l[j] (List.getElem_mem _)
      have := hB.2 j hj
      rw [List.getD_eq_getElem?_getD, List.getElem?_eq_getElem hj] at this
      rw [WideShapes.add_plain, this]
      simp only [List.getElem_map, Option.getD_some, UInt8.toNat_ofNat']
      rw [Nat.mod_eq_of_lt hlt])
    rw [List.length_map] at this
    exact this
end Go.Proofs.YtfnfcngkaepnjaaGreatDoor

/- The reference of layer 8: what an Op names; in; reg. -/
namespace Go.Proofs.YtfnfcngkaepnjaaGreatDoor
set_option linter.unusedVariables false
open Go Go.Proofs Go.RowKit

def namesRL : List ByteArray := [⟨#[97, 105]⟩, ⟨#[97, 98]⟩, ⟨#[97, 98, 99, 107]⟩, ⟨#[105]⟩, ⟨#[97, 105]⟩, ⟨#[97, 98]⟩, ⟨#[97, 98]⟩, ⟨#[97, 98, 110, 102]⟩, ⟨#[97]⟩, ⟨#[98, 110, 102]⟩, ⟨#[97]⟩, ⟨#[97]⟩, ⟨#[97]⟩, ⟨#[97]⟩, ⟨#[97]⟩, ⟨#[97]⟩, ⟨#[97, 98]⟩, ⟨#[97]⟩, ⟨#[]⟩]
def namesR (op : Int) : ByteArray := if 1 ≤ op ∧ op ≤ 19 then namesRL.getD (op - 1).toNat ⟨#[]⟩ else ⟨#[45]⟩
theorem namesR_size (op : Int) : (namesR op).size ≤ 4 := by
  unfold namesR
  split
  · rw [List.getD_eq_getElem?_getD]
    cases hx : namesRL[(op - 1).toNat]? with
    | none => decide
    | some x =>
      have h : ∀ x ∈ namesRL, x.size ≤ 4 := by
        have h0 : (namesRL.all fun x => decide (x.size ≤ 4)) = true := by kernel_rfl
        exact fun x hx => of_decide_eq_true (List.all_eq_true.1 h0 x hx)
      exact h x (List.mem_of_getElem? hx)
  · decide

set_option maxRecDepth 100000 in
theorem rNames_any (op : Int) (w : World) : Calls Tryz.prog 105 #[.int .i64 op] w fun e w' => e = .returned (.string (namesR op)) ∧ Below w.heap.size w w' := by
  by_cases h : 1 ≤ op ∧ op ≤ 19
  · have hn : namesR op = namesRL.getD (op - 1).toNat ⟨#[]⟩ := if_pos h
    obtain ⟨h1, h2⟩ := h
    obtain ⟨k, rfl⟩ : ∃ k : Nat, op = (k : Int) + 1 := ⟨(op - 1).toNat, by omega⟩
    have hk : k < 19 := by omega
    rw [show ((k : Int) + 1 - 1).toNat = k by omega] at hn
    have hx : (namesRL.map Value.string).toArray[k]? = some (.string (namesR ((k : Int) + 1))) := by
      rw [hn, List.getElem?_toArray, List.getElem?_map, List.getD_eq_getElem?_getD, List.getElem?_eq_getElem (show k < namesRL.length from hk)]
      rfl
    generalize namesR ((k : Int) + 1) = x at hx ⊢
    have hc := (cell_new w (namesRL.map Value.string).toArray 9 k).trans hx
    simp only [namesRL, List.map_cons, List.map_nil] at hc
    have hw1 : IntKind.i64.wrap ((k : Int) + 1 - 1) = (k : Int) := by rw [IntKind.wrap_i64]; omega
    clear hx hn
    go_enter Tryz.func105, Tryz.ntmps105
    go_wp2
    go_ret
    exact ⟨rfl, bel1 _⟩
  · have hn : namesR op = ⟨#[45]⟩ := if_neg h
    rw [hn]
    by_cases h1 : op < 1
    · clear h hn
      go_enter Tryz.func105, Tryz.ntmps105
      go_wp2
      go_ret
      exact ⟨rfl, Below.refl _ _⟩
    · have h2 : 19 < op := by omega
      clear h hn
      go_enter Tryz.func105, Tryz.ntmps105
      go_wp2
      go_ret
      exact ⟨rfl, Below.refl _ _⟩

/-- Does an Op name a letter? -/
def inR (op : Int) (c : Nat) : Bool := (namesR op).data.toList.any fun x => decide (x.toNat = c)

theorem bytes_at (t : ByteArray) (k : Nat) (h : k < t.size) : t[k]'h = t.data.toList[k]'(by rw [← Lib.size_eq]; exact h) := rfl

set_option maxRecDepth 100000 in
set_option maxHeartbeats 1000000 in
theorem rIn_any (op : Int) (c : Nat) (hc : c < 256) (w : World) : Calls Tryz.prog 44 #[.int .i64 op, .int .u8 c] w fun e w' => e = .returned (.bool (inR op c)) ∧ Below w.heap.size w w' := by
  have hs := namesR_size op
  have CN := Lib.hid fun W => rNames_any op W
  unfold inR
  generalize namesR op = t at hs CN ⊢
  obtain ⟨bs, hL⟩ : ∃ bs, bs = t.data.toList := ⟨_, rfl⟩
  have hLn : bs.length = t.size := by rw [hL, Lib.size_eq]
  have hat : ∀ k (h : k < t.size), t[k]'h = bs[k]'(by omega) := fun k h => by subst hL; exact bytes_at t k h
  rw [← hL]
  clear hL
  have HAT := Lib.hid hat
  clear hat
  obtain ⟨R, hR⟩ : ∃ R, R = bs.any fun x => decide (x.toNat = c) := ⟨_, rfl⟩
  rw [← hR]
  have HR := Lib.hid hR
  clear hR
  go_enter Tryz.func44, Tryz.ntmps44
  go_wp2_with fail
  refine (CN.out _).mono ?_
  rintro e w1 ⟨rfl, hb1⟩
  go_wp2_with fail
  go_loop [6] (fun vi => ∃ k : Nat, vi = .int .i64 k ∧ k ≤ t.size ∧ Hid ((bs.take k).any (fun x => decide (x.toNat = c)) = false)) (fun vi => t.size - (intOf vi).toNat)
  case atStart => exact ⟨0, rfl, by omega, rfl⟩
  case round =>
    obtain ⟨k, rfl, hk, hh⟩ := hrel
    by_cases hkn : k < t.size
    · have hx := HAT.out k hkn
      have hbk : k < bs.length := by omega
      have htk : bs.take (k + 1) = bs.take k ++ [bs[k]] := by rw [List.take_append_getElem hbk]
      have hmem := List.getElem_mem hbk
      generalize bs[k] = x at hx htk hmem
      by_cases he : x.toNat = c
      · have e1 : ((x.toNat : Int) == (c : Int)) = true := by rw [he]; simp
        have HT := Lib.hid (show R = true from HR.out.trans (List.any_eq_true.2 ⟨x, hmem, by simp [he]⟩))
        clear he htk hmem
        go_wp2
        go_ret
        exact ⟨by rw [HT.out]; rfl, hb1⟩
      · have e1 : ((x.toNat : Int) == (c : Int)) = false := beq_eq_false_iff_ne.2 (by omega)
        have hN : Hid ((bs.take (k + 1)).any (fun x => decide (x.toNat = c)) = false) := Lib.hid (by rw [htk, List.any_append, hh.out]; simp [he])
        clear he htk hmem
        go_wp2
        exact ⟨⟨k + 1, by go_num, by omega, hN⟩, by simp [intOf]; omega⟩
    · have hk2 : k = t.size := by omega
      have HT := Lib.hid (show R = false from HR.out.trans (by
        have := hh.out
        rwa [List.take_of_length_le (by omega)] at this))
      subst hk2
      go_wp2
      go_ret
      exact ⟨by rw [HT.out]; rfl, hb1⟩

theorem rIn97 (op : Int) (w : World) : Calls Tryz.prog 44 #[.int .i64 op, .int .u8 97] w fun e w' => e = .returned (.bool (inR op 97)) ∧ Below w.heap.size w w' := rIn_any op 97 (by decide) w
theorem rIn98 (op : Int) (w : World) : Calls Tryz.prog 44 #[.int .i64 op, .int .u8 98] w fun e w' => e = .returned (.bool (inR op 98)) ∧ Below w.heap.size w w' := rIn_any op 98 (by decide) w
theorem rIn110 (op : Int) (w : World) : Calls Tryz.prog 44 #[.int .i64 op, .int .u8 110] w fun e w' => e = .returned (.bool (inR op 110)) ∧ Below w.heap.size w w' := rIn_any op 110 (by decide) w
theorem rIn107 (op : Int) (w : World) : Calls Tryz.prog 44 #[.int .i64 op, .int .u8 107] w fun e w' => e = .returned (.bool (inR op 107)) ∧ Below w.heap.size w w' := rIn_any op 107 (by decide) w
theorem rIn105 (op : Int) (w : World) : Calls Tryz.prog 44 #[.int .i64 op, .int .u8 105] w fun e w' => e = .returned (.bool (inR op 105)) ∧ Below w.heap.size w w' := rIn_any op 105 (by decide) w
theorem rIn102 (op : Int) (w : World) : Calls Tryz.prog 44 #[.int .i64 op, .int .u8 102] w fun e w' => e = .returned (.bool (inR op 102)) ∧ Below w.heap.size w w' := rIn_any op 102 (by decide) w

def regR (n : Int) (b : Bool) : Bool := decide (n = 0) || (b && (decide (0 ≤ n) && decide (n ≤ 15)))
set_option maxRecDepth 100000 in
theorem rReg_any (n : Int) (b : Bool) (w : World) : Calls Tryz.prog 107 #[.int .i64 n, .bool b] w fun e w' => e = .returned (.bool (regR n b)) ∧ w = w' := by
  unfold regR
  by_cases h0 : n = 0
  · subst h0
    go_enter Tryz.func107, Tryz.ntmps107
    go_wp2
    go_ret
    exact ⟨by simp, rfl⟩
  · have e0 : (n == 0) = false := beq_eq_false_iff_ne.2 h0
    have d0 : decide (n = 0) = false := decide_eq_false h0
    rw [d0, Bool.false_or]
    cases b with
    | false =>
      go_enter Tryz.func107, Tryz.ntmps107
      go_wp2
      go_ret
      exact ⟨rfl, rfl⟩
    | true =>
      rw [Bool.true_and]
      by_cases h1 : 0 ≤ n
      · by_cases h2 : n ≤ 15
        · rw [decide_eq_true h1, decide_eq_true h2]
          go_enter Tryz.func107, Tryz.ntmps107
          go_wp2
          go_ret
          exact ⟨rfl, rfl⟩
        · rw [decide_eq_true h1, decide_eq_false h2]
          have h2 : 15 < n := by omega
          go_enter Tryz.func107, Tryz.ntmps107
          go_wp2
          go_ret
          exact ⟨rfl, rfl⟩
      · rw [decide_eq_false h1]
        have h1 : n < 0 := by omega
        go_enter Tryz.func107, Tryz.ntmps107
        go_wp2
        go_ret
        exact ⟨rfl, rfl⟩
end Go.Proofs.YtfnfcngkaepnjaaGreatDoor
