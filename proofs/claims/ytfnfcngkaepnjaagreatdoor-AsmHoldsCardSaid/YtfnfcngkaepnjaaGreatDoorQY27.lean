/- Joined texts: Walks of the reference of layer 1: right, Fixed, ReadFixed, at four bytes.; Plain laws of instructions' bytes: what is read of them; none's begin another one's. -/
import Derived.Test.YtfnfcngkaepnjaaGreatDoorQY8
import Derived.Deep.OwnRows
import Derived.Test.YtfnfcngkaepnjaaGreatDoorQY11
/- Walks of the reference of layer 1: right, Fixed, ReadFixed, at four bytes. -/
namespace Go.Proofs.YtfnfcngkaepnjaaGreatDoor
set_option linter.unusedVariables false
open Go Go.Proofs Go.RowKit

theorem rOct_four (w : World) : Calls Tryz.prog 106 #[.int .i64 4] w fun e w' => e = .returned (.bool true) ∧ w = w' := by
  go_enter Tryz.func106, Tryz.ntmps106
  go_wp2
  go_ret
  exact ⟨rfl, rfl⟩

theorem make_four (w : World) : (Instr.makeSlice 22 (.int .i64 4) (.int .i64 4)).run Tryz.prog w = .ok (.slice (some ⟨w.heap.size, 0, none⟩) 4 4) (w.alloc (.cells #[.int .u8 0, .int .u8 0, .int .u8 0, .int .u8 0] 5)) := by
  have := run_make_row' (P := Tryz.prog) 22 5 (.int .u8 0) 1 Tryz.underlying22 info_octet rfl .i64 .i64 4 (by omega) (by omega) w
  rw [show madeCells #[Value.int .u8 0] 4 = #[.int .u8 0, .int .u8 0, .int .u8 0, .int .u8 0] by kernel_rfl] at this
  exact this

set_option maxRecDepth 100000 in
set_option maxHeartbeats 1000000 in
theorem rFixed_raw (n : Nat) (hn : n < 4294967296) (w : World) :
    Calls Tryz.prog 104 #[.int .u64 n, .int .i64 4] w fun e w' => e = .returned (.tuple #[.slice (some ⟨w.heap.size, 0, none⟩) 4 4, .int .i64 0]) ∧
      w' = w.alloc (.cells #[.int .u8 ((n : Int) % 256), .int .u8 ((n : Int) / 256 % 256), .int .u8 ((n : Int) / 256 / 256 % 256), .int .u8 ((n : Int) / 256 / 256 / 256 % 256)] 5) := by
  have h0 : (n : Int) / 256 / 256 / 256 / 256 = 0 := by omega
  have hmk := make_four
  go_enter Tryz.func104, Tryz.ntmps104
  go_wp2_with (go_at_call 106; refine (rOct_four _).mono ?_; rintro e w1 ⟨rfl, rfl⟩)
  refine wp_loop_rounds 5 ?_
  rw [rounds_succ]
  go_wp2
  rw [rounds_succ]
  go_wp2
  rw [rounds_succ]
  go_wp2
  rw [rounds_succ]
  go_wp2
  rw [rounds_succ]
  go_wp2
  go_ret2
  exact ⟨rfl, rfl⟩

theorem rFixed_four (n : Nat) (hn : n < 4294967296) (w : World) :
    Calls Tryz.prog 104 #[.int .u64 n, .int .i64 4] w fun e w' => ∃ v, e = .returned (.tuple #[v, .int .i64 0]) ∧ OwnB w.heap.size v (leL n 4) w' ∧ Below w.heap.size w w' := by
  refine (rFixed_raw n hn w).mono ?_
  rintro e w' ⟨rfl, rfl⟩
  refine ⟨_, rfl, OwnB.made w _ (leL n 4) 4 (by rw [leL_length]) ?_ (leL_lt n 4) (by rw [leL_length]; decide), bel1 _⟩
  have e1 : ∀ x : Nat, ((x : Int)) % 256 = ((x % 256 : Nat) : Int) := fun x => by omega
  have e2 : leL n 4 = [n % 256, n / 256 % 256, n / 65536 % 256, n / 16777216 % 256] := by
    show [n / 256 ^ 0 % 256, n / 256 ^ 1 % 256, n / 256 ^ 2 % 256, n / 256 ^ 3 % 256] = _
    simp
  rw [e2]
  simp only [byteVs, List.map_cons, List.map_nil]
  rw [show (n : Int) % 256 = ((n % 256 : Nat) : Int) by omega, show (n : Int) / 256 % 256 = ((n / 256 % 256 : Nat) : Int) by omega, show (n : Int) / 256 / 256 % 256 = ((n / 65536 % 256 : Nat) : Int) by omega, show (n : Int) / 256 / 256 / 256 % 256 = ((n / 16777216 % 256 : Nat) : Int) by omega]

set_option maxRecDepth 100000 in
set_option maxHeartbeats 1000000 in
theorem rRead_raw (b o m c y z p q : Nat) (hm : 4 ≤ m) (hy : y < 256) (hz : z < 256) (hp : p < 256) (hq : q < 256) (w : World) (h0 : w.cell? ⟨b, o, none⟩ = some (.int .u8 y)) (h1 : w.cell? ⟨b, o + 1, none⟩ = some (.int .u8 z))
    (h2 : w.cell? ⟨b, o + 2, none⟩ = some (.int .u8 p)) (h3 : w.cell? ⟨b, o + 3, none⟩ = some (.int .u8 q)) :
    Calls Tryz.prog 45 #[.slice (some ⟨b, o, none⟩) m c, .int .i64 4] w fun e w' => e = .returned (.tuple #[.int .u64 (y + z * 256 + p * 65536 + q * 16777216 : Nat), .int .i64 0]) ∧ w = w' := by
  have hm1 : ¬ (m : Int) < 4 := by omega
  go_enter Tryz.func45, Tryz.ntmps45
  go_wp2_with (go_at_call 106; refine (rOct_four _).mono ?_; rintro e w1 ⟨rfl, rfl⟩)
  refine wp_loop_rounds 5 ?_
  rw [rounds_succ]
  go_wp2
  rw [rounds_succ]
  go_wp2
  rw [rounds_succ]
  go_wp2
  rw [rounds_succ]
  go_wp2
  rw [rounds_succ]
  go_wp2
  go_ret2
  refine ⟨?_, rfl⟩
  rw [show ((y + z * 256 + p * 65536 + q * 16777216 : Nat) : Int) = 256 * (256 * (256 * (q : Int) + p) + z) + y by omega]
  rfl

theorem rRead_four (b o c : Nat) (l : List Nat) (hl : 4 ≤ l.length) (w : World) (hw : HasB w b o l) :
    Calls Tryz.prog 45 #[.slice (some ⟨b, o, none⟩) l.length c, .int .i64 4] w fun e w' => e = .returned (.tuple #[.int .u64 (leN l 4 : Nat), .int .i64 0]) ∧ w = w' := by
  have hlt := getD_lt l hw.1
  have e : leN l 4 = l.getD 0 0 + l.getD 1 0 * 256 + l.getD 2 0 * 65536 + l.getD 3 0 * 16777216 := by
    simp [leN]
  rw [e]
  exact rRead_raw b o l.length c _ _ _ _ hl (hlt 0) (hlt 1) (hlt 2) (hlt 3) w (by simpa using hw.2 0 (by omega)) (hw.2 1 (by omega)) (hw.2 2 (by omega)) (hw.2 3 (by omega))
end Go.Proofs.YtfnfcngkaepnjaaGreatDoor

/- Plain laws of instructions' bytes: what is read of them; none's begin another one's. -/
namespace Go.Proofs.YtfnfcngkaepnjaaGreatDoor
set_option linter.unusedVariables false
open Go Go.Proofs Go.RowKit

theorem leN_pre (l r : List Nat) : ∀ k, k ≤ l.length → leN (l ++ r) k = leN l k
  | 0, _ => rfl
  | k + 1, h => by
    simp only [leN]
    rw [leN_pre l r k (by omega), List.getD_eq_getElem?_getD, List.getD_eq_getElem?_getD, List.getElem?_append_left (by omega)]
theorem leN_leL (n k : Nat) : ∀ j, j ≤ k → leN (leL n k) j = n % 256 ^ j
  | 0, _ => by simp [leN, Nat.mod_one]
  | j + 1, h => by
    simp only [leN]
    rw [leN_leL n k j (by omega), Nat.pow_succ, Nat.mod_mul]
    have : (leL n k).getD j 0 = n / 256 ^ j % 256 := by
      unfold leL
      rw [List.getD_eq_getElem?_getD, List.getElem?_map, List.getElem?_range (by omega)]
      rfl
    rw [this, Nat.mul_comm]

theorem readS_bytes (a b c m : Int) : ∀ (ps : List Part) (l : List Nat) (i : Nat) (rest : List Nat) (st : Int × Int × Int × Int), l.drop i = ps.flatMap (partB a b c m) ++ rest →
    (∀ p ∈ ps, 0 ≤ getF p a b c m ∧ (getF p a b c m).toNat < 256 ^ p.wide.toNat) → readS l ps i st = ps.foldl (fun s p => putF p (a, b, c, m) s) st
  | [], _, _, _, _, _, _ => rfl
  | p :: ps, l, i, rest, st, hl, hp => by
    obtain ⟨h1, h2⟩ := hp p (.head _)
    simp only [readS, List.foldl_cons]
    have e1 : leN (l.drop i) p.wide.toNat = (getF p a b c m).toNat := by
      rw [hl, List.flatMap_cons, List.append_assoc, leN_pre _ _ _ (by unfold partB; rw [leL_length]; exact Nat.le_refl _)]
      unfold partB
      rw [leN_leL _ _ _ (Nat.le_refl _), Nat.mod_eq_of_lt h2]
    have e2 : l.drop (i + p.wide.toNat) = ps.flatMap (partB a b c m) ++ rest := by
      rw [← List.drop_drop, hl, List.flatMap_cons, List.append_assoc]
      have : p.wide.toNat = (partB a b c m p).length := by unfold partB; rw [leL_length]
      rw [this, List.drop_left]
    rw [e1, putF_N, show (((getF p a b c m).toNat : Nat) : Int) = getF p a b c m by omega]
    exact readS_bytes a b c m ps l _ rest _ e2 (fun q hq => hp q (.tail _ hq))

theorem wideF_bytes (a b c m : Int) : ∀ ps : List Part, (ps.flatMap (partB a b c m)).length = wideF ps
  | [] => rfl
  | p :: ps => by
    rw [List.flatMap_cons, List.length_append, wideF_bytes a b c m ps]
    unfold partB wideF
    rw [leL_length, List.map_cons, List.sum_cons]

theorem named_fits {op a b c m : Int} (hm : 0 ≤ m ∧ m < 4294967296) (hr : rightF op a b c m = true) : ∀ p ∈ (namedL.lookup op).getD [], 0 ≤ getF p a b c m ∧ (getF p a b c m).toNat < 256 ^ p.wide.toNat := by
  obtain ⟨_, ha, hb, hc⟩ := rightF_bd hr
  intro p hp
  exact ⟨(getF_bd p a b c m ⟨by omega, by omega⟩ ⟨by omega, by omega⟩ ⟨by omega, by omega⟩ hm).1, (part_fits (named_parts op p hp) a b c m ha hb hc hm).1⟩

theorem insB_length {op a b c m : Int} : (insB op a b c m).length = 1 + wideF ((namedL.lookup op).getD []) := by
  unfold insB
  rw [List.length_cons, wideF_bytes]
  omega

/-- What is read of an instruction's bytes, whatever follows. -/
theorem read_bytes {op a b c m : Int} (hm : 0 ≤ m ∧ m < 4294967296) (hr : rightF op a b c m = true) (rest : List Nat) : readF (insB op a b c m ++ rest) = readV op a b c m (insB op a b c m).length 0 := by
  obtain ⟨⟨h1, h2⟩, _, _, _⟩ := rightF_bd hr
  have hf := named_fits hm hr
  have hputs : putsF (a, b, c, m) ((namedL.lookup op).getD []) = (a, b, c, m) := by
    unfold rightF at hr
    simp only [Bool.and_eq_true, decide_eq_true_eq] at hr
    exact hr.2.1
  rw [insB_length]
  have hxo : ((op.toNat : Nat) : Int) = op := by omega
  unfold insB
  rw [List.cons_append]
  simp only [readF]
  rw [hxo, if_pos ⟨h1, h2⟩]
  generalize (namedL.lookup op).getD [] = ps at hf hputs ⊢
  have hs : readS (op.toNat :: (ps.flatMap (partB a b c m) ++ rest)) ps 1 (0, 0, 0, 0) = (a, b, c, m) := by
    rw [readS_bytes a b c m ps _ 1 rest _ rfl hf]
    exact hputs
  rw [if_neg (by rw [List.length_cons, List.length_append, wideF_bytes]; omega), hs]
  simp only []
  rw [if_pos hr]

theorem insB_lt {op a b c m : Int} (hr : rightF op a b c m = true) : ∀ x ∈ insB op a b c m, x < 256 := by
  obtain ⟨⟨h1, h2⟩, _, _, _⟩ := rightF_bd hr
  intro x hx
  unfold insB at hx
  rcases List.mem_cons.1 hx with rfl | hx
  · omega
  · obtain ⟨p, _, hq⟩ := List.mem_flatMap.1 hx
    exact leL_lt _ _ x hq

theorem readV_inj {op a b c m op' a' b' c' m' n e n' e' : Int} (h : readV op a b c m n e = readV op' a' b' c' m' n' e') : (op = op' ∧ a = a' ∧ b = b' ∧ c = c' ∧ m = m') ∧ n = n' ∧ e = e' := by
  unfold readV insV at h
  simp only [Value.tuple.injEq, Array.mk.injEq, List.cons.injEq, Value.agg.injEq, Value.int.injEq, true_and, and_true] at h
  obtain ⟨⟨h1, h2, h3, h4, h5⟩, h6, h7⟩ := h
  exact ⟨⟨h1, h2, h3, h4, h5⟩, h6, h7⟩

/-- No one's bytes begin another one's. -/
theorem bytes_apart {op a b c m op' a' b' c' m' : Int} (hm : 0 ≤ m ∧ m < 4294967296) (hr : rightF op a b c m = true) (hm' : 0 ≤ m' ∧ m' < 4294967296) (hr' : rightF op' a' b' c' m' = true) (rest : List Nat)
    (h : insB op' a' b' c' m' = insB op a b c m ++ rest) : op = op' ∧ a = a' ∧ b = b' ∧ c = c' ∧ m = m' := by
  have h1 := read_bytes hm hr rest
  have h2 := read_bytes hm' hr' []
  rw [List.append_nil, h, h1] at h2
  exact (readV_inj h2).1
end Go.Proofs.YtfnfcngkaepnjaaGreatDoor
