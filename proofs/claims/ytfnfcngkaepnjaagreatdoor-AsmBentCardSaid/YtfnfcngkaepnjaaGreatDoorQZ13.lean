/- Joined texts: Parse: its results' blocks; its endings; plain laws of texts.; Plain laws of words: what is split at a byte is what was joined.; Plain laws of Parse: what a text that is an instruction's is split into, and what is put together of it.; Parse: its world. -/
import Derived.Test.YtfnfcngkaepnjaaGreatDoorQZ7
import Derived.Test.YtfnfcngkaepnjaaGreatDoorQZ12
import Derived.Test.YtfnfcngkaepnjaaGreatDoorQZ9
import Derived.Lib.IndexBytes
import Derived.Lib.Split
/- Parse: its results' blocks; its endings; plain laws of texts. -/
namespace Go.Proofs.YtfnfcngkaepnjaaGreatDoor
set_option linter.unusedVariables false
open Go Go.Proofs Go.RowKit

structure PaI (w0 : World) (op : Int) (s : Int × Int × Int × Int) (w : World) : Prop where
  ins : Bare w0.heap.size op s w
  f0 : w.frozen? ⟨w0.heap.size, 0, none⟩ = false
  c1 : w.cell? ⟨w0.heap.size + 1, 0, none⟩ = some (.int .i64 0)
  f1 : w.frozen? ⟨w0.heap.size + 1, 0, none⟩ = false
  bel : Below w0.heap.size w0 w

theorem PaI.more {w0 : World} {op : Int} {s : Int × Int × Int × Int} {w w' : World} (h : PaI w0 op s w) (hb : Below w.heap.size w w') : PaI w0 op s w' :=
  ⟨h.ins.bel hb, froz_bel h.ins.c0 h.f0 hb, cell_bel h.c1 hb, froz_bel h.c1 h.f1 hb, h.bel.trans (hb.mono h.bel.size)⟩
theorem PaI.touch {w0 : World} {op : Int} {s : Int × Int × Int × Int} {w w' : World} {T : Nat → Prop} (h : PaI w0 op s w) (ht : Touch T w w') (hb : Below w0.heap.size w w') (hT : ∀ b, T b → w0.heap.size + 1 < b) : PaI w0 op s w' :=
  have n0 : ¬ T w0.heap.size := fun h => by have := hT _ h; omega
  have n1 : ¬ T (w0.heap.size + 1) := fun h => by have := hT _ h; omega
  ⟨h.ins.touch ht n0, froz_touch h.ins.c0 h.f0 ht n0, cell_touch h.c1 ht n1, froz_touch h.c1 h.f1 ht n1, h.bel.trans hb⟩
theorem PaI.put {w0 : World} {op op' : Int} {s s' : Int × Int × Int × Int} {w : World} {o : Nat} {v : Value} (h : PaI w0 op s w) (hb : Bare w0.heap.size op' s' (w.setCell ⟨w0.heap.size, o, none⟩ v)) : PaI w0 op' s' (w.setCell ⟨w0.heap.size, o, none⟩ v) :=
  ⟨hb, (World.frozen?_setCell ..).trans h.f0, (World.cell?_setCell_other _ _ _ _ (by simp)).trans h.c1, (World.frozen?_setCell ..).trans h.f1, h.bel.setCell (by simp) _⟩
/-- Behind a store of the whole instruction. -/
theorem PaI.set {w0 : World} {op : Int} {s : Int × Int × Int × Int} {w : World} (h : PaI w0 op s w) (op' a b c m : Int) :
    PaI w0 op' (a, b, c, m) (((((w.setCell ⟨w0.heap.size, 0, none⟩ (.int .i64 op')).setCell ⟨w0.heap.size, 1, none⟩ (.int .i64 a)).setCell ⟨w0.heap.size, 2, none⟩ (.int .i64 b)).setCell ⟨w0.heap.size, 3, none⟩ (.int .i64 c)).setCell ⟨w0.heap.size, 4, none⟩ (.int .u32 m)) := by
  have ht := touch_set5 w0.heap.size w (.int .i64 op') (.int .i64 a) (.int .i64 b) (.int .i64 c) (.int .u32 m) (T := fun b => b = w0.heap.size) rfl
  refine ⟨h.ins.set op' a b c m, by simp only [World.frozen?_setCell]; exact h.f0, cell_touch h.c1 ht (by omega), froz_touch h.c1 h.f1 ht (by omega), ?_⟩
  exact ((((h.bel.setCell (p := ⟨w0.heap.size, 0, none⟩) (Nat.le_refl _) _).setCell (p := ⟨w0.heap.size, 1, none⟩) (Nat.le_refl _) _).setCell (p := ⟨w0.heap.size, 2, none⟩) (Nat.le_refl _) _).setCell (p := ⟨w0.heap.size, 3, none⟩) (Nat.le_refl _) _).setCell (p := ⟨w0.heap.size, 4, none⟩) (Nat.le_refl _) _

theorem paI_start (w : World) : PaI w 0 (0, 0, 0, 0) ((w.alloc (.cells #[.int .i64 0, .int .i64 0, .int .i64 0, .int .i64 0, .int .u32 0] 29)).alloc (.cells #[.int .i64 0] 38)) := by
  have b1 := Bare.new 0 0 0 0 0 w 29
  refine ⟨b1.bel (bel1 _), froz_bel b1.c0 (World.frozen?_alloc_new _ _ _ _) (bel1 _), cell_two w _ #[.int .i64 0] 38 0, froz_two w _ _ _ _, belA (bel1 _) _⟩

/-- The closure that clears what Parse tells. -/
theorem parseClear_any (B : Nat) (op : Int) (s : Int × Int × Int × Int) (w : World) (h : Bare B op s w) (hf0 : w.frozen? ⟨B, 0, none⟩ = false) :
    Calls Tryz.prog 88 #[.pointer (some ⟨B, 0, none⟩)] w fun e w' => e = .returned (.tuple #[]) ∧ w' = (((((w.setCell ⟨B, 0, none⟩ (.int .i64 0)).setCell ⟨B, 1, none⟩ (.int .i64 0)).setCell ⟨B, 2, none⟩ (.int .i64 0)).setCell ⟨B, 3, none⟩ (.int .i64 0)).setCell ⟨B, 4, none⟩ (.int .u32 0)) := by
  obtain ⟨c0, c1, c2, c3, c4, f1, f2, f3, f4⟩ := h
  go_enter Tryz.func88, Tryz.ntmps88
  go_wp2
  go_end0
  exact ⟨rfl, rfl⟩

/-- What Parse tells. -/
def parseV (op a b c m e : Int) : Value := .tuple #[insV op a b c m, .int .i64 e]

set_option maxRecDepth 100000 in
set_option maxHeartbeats 4000000 in
theorem parse_panics (w0 : World) (op : Int) (s : Int × Int × Int × Int) (w : World) (h : PaI w0 op s w) (n : Int) (t : Array Value)
    (h2 : t[2]? = some (.pointer (some ⟨w0.heap.size, 0, none⟩))) (h3 : t[3]? = some (.pointer (some ⟨w0.heap.size + 1, 0, none⟩))) (R : Ending → World → Prop) (hR : ∀ w', Below w0.heap.size w0 w' → R (.returned (parseV 0 0 0 0 0 n)) w') :
    bodyPostD Tryz.prog Tryz.f38 R (Exit.panic [{ v := .iface 38 (.int .i64 n), recovered := false }])
      { tmps := t, defers := [{ target := Target.fn (Fn.func 87) #[], args := #[.pointer (some ⟨w0.heap.size + 1, 0, none⟩), .func (.func 88) #[] #[.pointer (some ⟨w0.heap.size, 0, none⟩)]] }] } w := by
  refine leaves_cons (f := 87) (args := #[.pointer (some ⟨w0.heap.size + 1, 0, none⟩), .func (.func 88) #[] #[.pointer (some ⟨w0.heap.size, 0, none⟩)]]) (by simp) (by simp [go_sem]) ?_
  refine (caught_yes ⟨w0.heap.size + 1, 0, none⟩ n 88 _ [] w (fun w' => PaI w0 0 (0, 0, 0, 0) w')
    (enters_of Tryz.func88 (by kernel_rfl) rfl) ?_ ?_).mono ?_
  · refine (parseClear_any w0.heap.size op s w h.ins h.f0).mono ?_
    rintro e w' ⟨rfl, rfl⟩
    exact ⟨rfl, h.set 0 0 0 0 0⟩
  · exact fun w' h' => ⟨_, h'.c1, h'.f1⟩
  rintro e u' w'' ⟨rfl, rfl, w1, h', rfl⟩
  obtain ⟨e0, e1, e2, e3, e4, _, _, _, _⟩ := h'.ins.far (B' := w0.heap.size + 1) (o := 0) (v := .int .i64 n) (by omega)
  have q3 := World.cell?_setCell_same w1 ⟨w0.heap.size + 1, 0, none⟩ (.int .i64 n) h'.c1
  have hB := hR _ (h'.bel.setCell (p := ⟨w0.heap.size + 1, 0, none⟩) (by simp) (.int .i64 n))
  clear h' h
  generalize w1.setCell _ _ = w2 at *
  unfold parseV insV at hB
  simp [Leaves, settle, results, Tryz.results38, go_sem, h2, h3, e0, e1, e2, e3, e4, q3]
  exact hB

set_option maxRecDepth 100000 in
set_option maxHeartbeats 4000000 in
theorem parse_returns (w0 : World) (op : Int) (s : Int × Int × Int × Int) (w : World) (h : PaI w0 op s w) (t : Array Value)
    (h2 : t[2]? = some (.pointer (some ⟨w0.heap.size, 0, none⟩))) (h3 : t[3]? = some (.pointer (some ⟨w0.heap.size + 1, 0, none⟩))) (R : Ending → World → Prop) (hR : R (.returned (parseV op s.1 s.2.1 s.2.2.1 s.2.2.2 0)) w) :
    bodyPostD Tryz.prog Tryz.f38 R Exit.ret
      { tmps := t, defers := [{ target := Target.fn (Fn.func 87) #[], args := #[.pointer (some ⟨w0.heap.size + 1, 0, none⟩), .func (.func 88) #[] #[.pointer (some ⟨w0.heap.size, 0, none⟩)]] }] } w := by
  obtain ⟨e0, e1, e2, e3, e4, _, _, _, _⟩ := h.ins
  have q3 := h.c1
  clear h
  unfold parseV insV at hR
  refine leaves_cons (f := 87) (args := #[.pointer (some ⟨w0.heap.size + 1, 0, none⟩), .func (.func 88) #[] #[.pointer (some ⟨w0.heap.size, 0, none⟩)]]) (by simp) (by simp [go_sem]) ?_
  refine (caught_idle _ _ w).mono ?_
  rintro e u' w'' ⟨rfl, rfl, rfl⟩
  simp [Leaves, settle, results, Tryz.results38, go_sem, h2, h3, e0, e1, e2, e3, e4, q3]
  exact hR
end Go.Proofs.YtfnfcngkaepnjaaGreatDoor

/- Plain laws of words: what is split at a byte is what was joined. -/
namespace Go.Proofs.YtfnfcngkaepnjaaGreatDoor
set_option linter.unusedVariables false
open Go Go.Proofs Go.RowKit

theorem index_behind (c : UInt8) : ∀ (l r : List UInt8), c ∉ l → Lib.indexByte (l ++ c :: r) c = l.length := by
  intro l
  induction l with
  | nil => intro r _; simp [Lib.indexByte]
  | cons b l ih =>
    intro r h
    have hb : (b == c) = false := by
      have : b ≠ c := fun e => h (by simp [e])
      simpa using this
    have := ih r (fun hx => h (by simp [hx]))
    simp only [List.cons_append, Lib.indexByte, hb, this]
    simp
theorem index_not (c : UInt8) : ∀ (l : List UInt8), c ∉ l → Lib.indexByte l c = -1 := by
  intro l
  induction l with
  | nil => intro _; rfl
  | cons b l ih =>
    intro h
    have hb : (b == c) = false := by
      have : b ≠ c := fun e => h (by simp [e])
      simpa using this
    have := ih (fun hx => h (by simp [hx]))
    simp only [Lib.indexByte, hb, this]
    simp

theorem join_two (x y : List UInt8) (r : List (List UInt8)) (c : UInt8) : Lib.join (x :: y :: r) [c] = x ++ c :: Lib.join (y :: r) [c] := by
  simp [Lib.join, List.intercalate]

theorem split_join (c : UInt8) : ∀ (L : List (List UInt8)), L ≠ [] → (∀ x ∈ L, c ∉ x) → Lib.splitK [c] 0 (Lib.count (Lib.join L [c]) [c]) (Lib.join L [c]) = L
  | [], h, _ => absurd rfl h
  | [x], _, h => by
    rw [Lib.join_one]
    have hi : Lib.index x [c] = -1 := by rw [Lib.index_one]; exact index_not c x (h x (.head _))
    rw [Lib.count_miss hi]
    rfl
  | x :: y :: r, _, h => by
    have ih := split_join c (y :: r) (by simp) (fun z hz => h z (.tail _ hz))
    rw [join_two]
    have hi : Lib.index (x ++ c :: Lib.join (y :: r) [c]) [c] = (x.length : Nat) := by rw [Lib.index_one]; exact index_behind c x _ (h x (.head _))
    have hd : (x ++ c :: Lib.join (y :: r) [c]).drop (x.length + 1) = Lib.join (y :: r) [c] := by
      rw [← List.drop_drop]
      simp
    have hc := Lib.count_hit (s := x ++ c :: Lib.join (y :: r) [c]) (sub := [c]) (i := x.length) (by simp) hi
    rw [show x.length + [c].length = x.length + 1 from rfl, hd] at hc
    rw [hc, Nat.add_comm]
    unfold Lib.splitK
    rw [hi]
    have e1 : ((x.length : Int) == -1) = false := beq_eq_false_iff_ne.2 (by omega)
    simp only [e1, Int.toNat_natCast, Nat.add_zero, List.length_cons, List.length_nil, Nat.zero_add, hd, ih]
    simp

/-- The same, of strings. -/
theorem splitB_join (c : UInt8) (L : List ByteArray) (hL : L ≠ []) (h : ∀ x ∈ L, c ∉ x.data.toList) (s : ByteArray) (hs : s.data.toList = joinS L c) : Lib.splitB ⟨#[c]⟩ 0 (Lib.countB s ⟨#[c]⟩) s = L := by
  have h1 := Lib.splitB_data ⟨#[c]⟩ 0 (Lib.countB s ⟨#[c]⟩) s
  have h2 : Lib.countB s ⟨#[c]⟩ = Lib.count (joinS L c) [c] := by rw [← hs]; try rfl
  rw [hs, h2] at h1
  have h3 := split_join c (L.map (·.data.toList)) (by simpa using hL) (by
    intro x hx
    obtain ⟨y, hy, rfl⟩ := List.mem_map.1 hx
    exact h y hy)
  rw [show (⟨#[c]⟩ : ByteArray).data.toList = [c] from rfl] at h1
  have h4 := h1.trans h3
  rw [h2]
  have inj : ∀ (A B : List ByteArray), A.map (·.data.toList) = B.map (·.data.toList) → A = B := by
    intro A
    induction A with
    | nil => intro B hB; cases B with | nil => rfl | cons b B => simp at hB
    | cons a A ih =>
      intro B hB
      cases B with
      | nil => simp at hB
      | cons b B =>
        simp only [List.map_cons, List.cons.injEq] at hB
        have e : a = b := by
          apply ByteArray.ext
          exact Array.toList_inj.1 hB.1
        rw [e, ih B hB.2]
  exact inj _ _ h4

theorem splitB_length (c : UInt8) : ∀ (n : Nat) (s : ByteArray), s.size ≤ n → (Lib.splitB ⟨#[c]⟩ 0 (Lib.countB s ⟨#[c]⟩) s).length = Lib.countB s ⟨#[c]⟩ + 1 := by
  intro n
  induction n with
  | zero =>
    intro s hs
    have h0 : s.data.toList = [] := by
      have := Lib.size_eq s
      exact List.eq_nil_of_length_eq_zero (by omega)
    have hi : Lib.indexB s ⟨#[c]⟩ = -1 := by
      show Lib.index s.data.toList [c] = -1
      rw [h0]; rfl
    rw [Lib.countB_miss _ _ hi]; rfl
  | succ n ih =>
    intro s hs
    have hge := Lib.indexByte_ge s.data.toList c
    rcases Decidable.em (Lib.indexByte s.data.toList c = -1) with hm | hm
    · have hi : Lib.indexB s ⟨#[c]⟩ = -1 := by
        show Lib.index s.data.toList [c] = -1
        rw [Lib.index_one]; exact hm
      rw [Lib.countB_miss _ _ hi]; rfl
    · obtain ⟨i, hi⟩ : ∃ i : Nat, Lib.indexByte s.data.toList c = i := ⟨(Lib.indexByte s.data.toList c).toNat, by omega⟩
      have hi' : Lib.indexB s ⟨#[c]⟩ = (i : Nat) := by
        show Lib.index s.data.toList [c] = _
        rw [Lib.index_one]; exact hi
      have hlt : i < s.size := by
        have := (Lib.indexByte_some hi).1
        have := (List.getElem?_eq_some_iff.1 this).1
        rw [← Lib.size_eq] at this
        exact this
      have hc := Lib.countB_hit s ⟨#[c]⟩ i (by show 1 ≤ 1; omega) hi'
      rw [hc, Nat.add_comm 1, Lib.splitB_hit _ _ _ _ i hi', List.length_cons]
      have h1 : (⟨#[c]⟩ : ByteArray).size = 1 := rfl
      rw [ih _ (by rw [ByteArray.size_extract, h1]; omega)]
end Go.Proofs.YtfnfcngkaepnjaaGreatDoor

/- Plain laws of Parse: what a text that is an instruction's is split into, and what is put together of it. -/
namespace Go.Proofs.YtfnfcngkaepnjaaGreatDoor
set_option linter.unusedVariables false
open Go Go.Proofs Go.RowKit

/-- A string is an instruction's text. -/
structure IsT (s : ByteArray) (op a b c m : Int) : Prop where
  imm : 0 ≤ m ∧ m < 4294967296
  right : rightF op a b c m = true
  text : textF op a b c m = s.data.toList

theorem words_no32 : ∀ (k : Nat), (32 : UInt8) ∉ (wordN k).data.toList := by
  intro k
  have h : ∀ x ∈ wordL, (32 : UInt8) ∉ x.data.toList := by decide +kernel
  unfold wordN
  rw [List.getD_eq_getElem?_getD]
  cases hx : wordL[k]? with
  | none => simp
  | some x => exact h x (List.mem_of_getElem? hx)
theorem kinds_no32 : ∀ (k : Nat), (32 : UInt8) ∉ (kindN k).data.toList := by
  intro k
  have h : ∀ x ∈ kindL, (32 : UInt8) ∉ x.data.toList := by decide +kernel
  unfold kindN
  rw [List.getD_eq_getElem?_getD]
  cases hx : kindL[k]? with
  | none => simp
  | some x => exact h x (List.mem_of_getElem? hx)
theorem insN_no32 (op m : Int) : (32 : UInt8) ∉ (insN op m).data.toList := by
  unfold insN
  split
  · exact kinds_no32 _
  · exact words_no32 _

theorem dec_no32 (u : Nat) : (32 : UInt8) ∉ Lib.decDigits u := by
  induction u using Nat.strongRecOn with
  | _ u ih =>
    by_cases h : u < 10
    · rw [Lib.decDigits, dif_pos h]
      intro hm
      have h1 := List.mem_singleton.1 hm
      have h2 := congrArg UInt8.toNat h1
      rw [dig_toNat u h] at h2
      simp at h2
      omega
    · rw [Lib.decDigits, dif_neg h]
      intro hm
      rcases List.mem_append.1 hm with hm | hm
      · exact ih (u / 10) (by omega) hm
      · have h1 := List.mem_singleton.1 hm
        have h2 := congrArg UInt8.toNat h1
        rw [dig_toNat (u % 10) (by omega)] at h2
        simp at h2
        omega

/-- What is so of all parts that are listed. -/
theorem named_all (f : Int → Part → Bool) (h0 : (namedL.all fun q => q.2.all fun p => f q.1 p) = true) (n : Int) : ∀ p ∈ (namedL.lookup n).getD [], f n p = true := by
  intro p hp
  cases hl : namedL.lookup n with
  | none => rw [hl] at hp; cases hp
  | some ps =>
    rw [hl] at hp
    have : (n, ps) ∈ namedL := by
      generalize namedL = l at hl
      clear h0
      induction l with
      | nil => simp at hl
      | cons x xs ih =>
        by_cases hx : (n == x.1) = true
        · have : n = x.1 := by simpa using hx
          simp [List.lookup, hx] at hl
          subst hl this
          exact .head _
        · simp [List.lookup, hx] at hl
          exact .tail _ (ih hl)
    exact List.all_eq_true.1 (List.all_eq_true.1 h0 _ this) p hp

theorem named_no32 (n : Int) : ∀ p ∈ (namedL.lookup n).getD [], (32 : UInt8) ∉ p.mark.data.toList := by
  intro p hp
  have := named_all (fun _ p => !(p.mark.data.toList.contains 32)) (by decide +kernel) n p hp
  simpa using this
theorem named_kind (n : Int) (hn : n ≠ 3) : ∀ p ∈ (namedL.lookup n).getD [], isKind p = false := by
  intro p hp
  have := named_all (fun n p => decide (n = 3) || !isKind p) (by decide +kernel) n p hp
  rw [decide_eq_false hn, Bool.false_or] at this
  simpa using this

theorem partT_no32 (a b c m : Int) (p : Part) (h : (32 : UInt8) ∉ p.mark.data.toList) : (32 : UInt8) ∉ (partT a b c m p).data.toList := by
  unfold partT
  intro hm
  simp only [ByteArray.data_append, Array.toList_append, List.mem_append] at hm
  rcases hm with hm | hm
  · exact h hm
  · exact dec_no32 _ hm

theorem textL_no32 (op a b c m : Int) : ∀ x ∈ textL op a b c m, (32 : UInt8) ∉ x.data.toList := by
  intro x hx
  unfold textL at hx
  rcases List.mem_cons.1 hx with rfl | hx
  · exact insN_no32 op m
  · obtain ⟨p, hq, rfl⟩ := List.mem_map.1 hx
    exact partT_no32 a b c m p (named_no32 op p (List.mem_filter.1 hq).1)

/-- The pieces between blanks. -/
def piecesF (s : ByteArray) : List ByteArray := Lib.splitB ⟨#[32]⟩ 0 (Lib.countB s ⟨#[32]⟩) s
theorem pieces_text {s : ByteArray} {op a b c m : Int} (h : IsT s op a b c m) : piecesF s = textL op a b c m :=
  splitB_join 32 _ (by unfold textL; simp) (textL_no32 op a b c m) s h.text.symm

theorem splitB_size (sep : ByteArray) : ∀ (k : Nat) (s : ByteArray), ∀ x ∈ Lib.splitB sep 0 k s, x.size ≤ s.size
  | 0, s, x, hx => by
    rw [Lib.splitB_zero] at hx
    rw [List.mem_singleton.1 hx]
    exact Nat.le_refl _
  | k + 1, s, x, hx => by
    unfold Lib.splitB at hx
    split at hx
    · rw [List.mem_singleton.1 hx]
      exact Nat.le_refl _
    · rcases List.mem_cons.1 hx with rfl | hx
      · rw [ByteArray.size_extract]; omega
      · have := splitB_size sep k _ x hx
        rw [ByteArray.size_extract] at this
        omega
theorem pieces_size (s : ByteArray) : ∀ x ∈ piecesF s, x.size ≤ s.size := splitB_size _ _ _
theorem pieces_cons (s : ByteArray) : ∃ x L, piecesF s = x :: L := by
  have h := splitB_length 32 s.size s (Nat.le_refl _)
  change (piecesF s).length = _ at h
  cases hp : piecesF s with
  | nil => rw [hp] at h; simp at h
  | cons x L => exact ⟨x, L, rfl⟩
theorem pieces_length (s : ByteArray) : (piecesF s).length = Lib.countB s ⟨#[32]⟩ + 1 := splitB_length 32 s.size s (Nat.le_refl _)

/-- What the numbers behind a first word put together. -/
def foldF (op a b c m : Int) (ps : List Part) : Int × Int × Int × Int := ps.foldl (fun s p => putF p (a, b, c, m) s) (0, 0, 0, if op = 3 then m else 0)
theorem foldF_take (op a b c m : Int) (ps : List Part) (k : Nat) (hk : k < ps.length) : foldF op a b c m (ps.take (k + 1)) = putN ps[k] (getF ps[k] a b c m) (foldF op a b c m (ps.take k)) := by
  rw [← putF_N]
  unfold foldF
  rw [← List.take_append_getElem hk, List.foldl_append]
  rfl
theorem foldF_all {op a b c m : Int} (h : rightF op a b c m = true) : foldF op a b c m (textP ((namedL.lookup op).getD [])) = (a, b, c, m) := by
  by_cases h3 : op = 3
  · subst h3
    rfl
  · rw [textP_all _ (named_kind op h3)]
    unfold rightF at h
    simp only [Bool.and_eq_true, decide_eq_true_eq] at h
    unfold foldF
    rw [if_neg h3]
    exact h.2.1

theorem right_op {op a b c m : Int} (h : rightF op a b c m = true) : (1 ≤ op ∧ op ≤ 19) ∧ (op = 3 → 1 ≤ m ∧ m ≤ 12) := by
  unfold rightF at h
  simp only [Bool.and_eq_true, decide_eq_true_eq, restF] at h
  refine ⟨h.1.1.1.1, ?_⟩
  rintro rfl
  have := h.2.2
  simp at this
  exact this.1

/-- What Parse tells of a string. -/
def ParsePost (s : ByteArray) (e : Ending) : Prop :=
  (∃ op a b c m, IsT s op a b c m ∧ e = .returned (parseV op a b c m 0)) ∨ ((∀ op a b c m, ¬ IsT s op a b c m) ∧ e = .returned (parseV 0 0 0 0 0 180))
end Go.Proofs.YtfnfcngkaepnjaaGreatDoor

/- Parse: its world. -/
namespace Go.Proofs.YtfnfcngkaepnjaaGreatDoor
set_option linter.unusedVariables false
open Go Go.Proofs Go.RowKit

/-- What the library's variables hold, MaxLen too. -/
structure EnvM (w : World) : Prop where
  env : Env w
  mx : ∃ m, w.cell? ⟨3, 0, none⟩ = some (.int .i64 m)
theorem EnvM.on {w w' : World} (h : EnvM w) (hb : Below w.heap.size w w') : EnvM w' := by
  obtain ⟨m, hm⟩ := h.mx
  exact ⟨h.env.on hb, m, cell_bel hm hb⟩

/-- The pieces of a string. -/
theorem pieces_any (s : ByteArray) (hs : s.size < 4294967281) (w : World) (hE : EnvM w) :
    Calls Tryz.prog 66 #[.string s, .string ⟨#[32]⟩] w fun e w' => e = .returned (.slice (some ⟨w.heap.size, 0, none⟩) (piecesF s).length (piecesF s).length) ∧ w' = w.alloc (.cells ((piecesF s).map Value.string).toArray 9) := by
  obtain ⟨m, hm⟩ := hE.mx
  refine (Tryz.strings_Split s ⟨#[32]⟩ m w hs hm (by show 1 ≤ 1; omega)).mono ?_
  rintro e w' ⟨rfl, rfl⟩
  exact ⟨by rw [pieces_length], rfl⟩

theorem wds_new (L : List ByteArray) (w : World) (t t' : TypeId) : Wds (w.heap.size + 1) w.heap.size L ((w.alloc (.cells (L.map Value.string).toArray t)).alloc (.cells #[.slice (some ⟨w.heap.size, 0, none⟩) L.length L.length] t')) := by
  refine ⟨cell_two w _ _ t' 0, fun j x hj => ?_⟩
  refine cell_al ((cell_new w _ t j).trans ?_) _
  simp [hj]

/-- Parse's world: its results, its words. -/
structure PaW (w0 : World) (op : Int) (st : Int × Int × Int × Int) (L : List ByteArray) (w : World) : Prop where
  ins : PaI w0 op st w
  wds : Wds (w0.heap.size + 1 + 1 + 1) (w0.heap.size + 1 + 1) L w
theorem PaW.more {w0 : World} {op : Int} {s : Int × Int × Int × Int} {L : List ByteArray} {w w' : World} (h : PaW w0 op s L w) (hb : Below w.heap.size w w') : PaW w0 op s L w' := ⟨h.ins.more hb, h.wds.bel hb⟩
theorem PaW.touch {w0 : World} {op : Int} {s : Int × Int × Int × Int} {L : List ByteArray} {w w' : World} {T : Nat → Prop} (h : PaW w0 op s L w) (ht : Touch T w w') (hb : Below w0.heap.size w w') (hT : ∀ b, T b → w0.heap.size + 1 + 1 + 1 < b) : PaW w0 op s L w' :=
  ⟨h.ins.touch ht hb (fun b hb => by have := hT b hb; omega), h.wds.touch ht (fun h => by have := hT _ h; omega) (fun h => by have := hT _ h; omega)⟩

theorem paW_start (w : World) (L : List ByteArray) : PaW w 0 (0, 0, 0, 0) L ((((w.alloc (.cells #[.int .i64 0, .int .i64 0, .int .i64 0, .int .i64 0, .int .u32 0] 29)).alloc (.cells #[.int .i64 0] 38)).alloc (.cells (L.map Value.string).toArray 9)).alloc (.cells #[.slice (some ⟨w.heap.size + 1 + 1, 0, none⟩) L.length L.length] 67)) := by
  refine ⟨(paI_start w).more (belA (bel1 _) _), ?_⟩
  have := wds_new L ((w.alloc (.cells #[.int .i64 0, .int .i64 0, .int .i64 0, .int .i64 0, .int .u32 0] 29)).alloc (.cells #[.int .i64 0] 38)) 9 67
  simpa only [World.size_alloc] using this
theorem PaW.set {w0 : World} {op : Int} {s : Int × Int × Int × Int} {L : List ByteArray} {w : World} (h : PaW w0 op s L w) (op' a b c m : Int) :
    PaW w0 op' (a, b, c, m) L (((((w.setCell ⟨w0.heap.size, 0, none⟩ (.int .i64 op')).setCell ⟨w0.heap.size, 1, none⟩ (.int .i64 a)).setCell ⟨w0.heap.size, 2, none⟩ (.int .i64 b)).setCell ⟨w0.heap.size, 3, none⟩ (.int .i64 c)).setCell ⟨w0.heap.size, 4, none⟩ (.int .u32 m)) :=
  ⟨h.ins.set op' a b c m, h.wds.touch (touch_set5 w0.heap.size w (.int .i64 op') (.int .i64 a) (.int .i64 b) (.int .i64 c) (.int .u32 m) (T := fun b => b = w0.heap.size) rfl) (by omega) (by omega)⟩
theorem PaW.put {w0 : World} {op op' : Int} {s s' : Int × Int × Int × Int} {L : List ByteArray} {w : World} {o : Nat} {v : Value} (h : PaW w0 op s L w) (hb : Bare w0.heap.size op' s' (w.setCell ⟨w0.heap.size, o, none⟩ v)) : PaW w0 op' s' L (w.setCell ⟨w0.heap.size, o, none⟩ v) :=
  ⟨h.ins.put hb, h.wds.touch (T := fun b => b = w0.heap.size) (Touch.setCell _ _ _ rfl) (by omega) (by omega)⟩
end Go.Proofs.YtfnfcngkaepnjaaGreatDoor
