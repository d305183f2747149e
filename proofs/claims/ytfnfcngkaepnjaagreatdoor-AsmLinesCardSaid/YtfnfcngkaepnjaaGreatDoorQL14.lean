/- Joined texts: Plain laws of Parse: what a text that is an instruction's is split into, and what is put together of it.; Parse: its world.; The shelf's contracts at this translation, in plain words (laid by the shelf's own tools); those alone that the walks use.; What the rows of layer 8 list gives the walks; the wrap that hands the world's shape; an instruction that came in, opened.; A slice of bytes that came in: opened. -/
import Derived.Test.YtfnfcngkaepnjaaGreatDoorQL13
import Derived.Test.YtfnfcngkaepnjaaGreatDoorQL7
import Derived.Test.YtfnfcngkaepnjaaGreatDoorQL6
import Derived.Shelf.Small.Wraps
import Derived.Shelf.Strconv.Atoi
import Derived.Shelf.Strconv.Itoa0
import Derived.Shelf.Strconv.Itoa1
import Derived.Shelf.LaysM
import Derived.Shelf.Strconv.Itoa2
import Derived.Shelf.Strconv.Itoa3
import Derived.Shelf.Strconv.AtoiErrFast
import Derived.Shelf.Strconv.ParseIntEmpty
import Derived.Shelf.Strconv.AtoiFail
import Derived.Shelf.Strconv.Clone
import Derived.Shelf.Strconv.SyntaxError
import Derived.Shelf.LaysC
import Derived.Shelf.Strconv.ToError
import Derived.Shelf.Strconv.ParseInt10
import Derived.Shelf.Strconv.AtoiLong
import Derived.Shelf.Strconv.AtoiInnerAll
import Derived.Shelf.Strconv.RangeError
import Derived.Shelf.Strconv.ToErrorRange
import Derived.Shelf.Strconv.AtoiAll
import Derived.Shelf.Strconv.ErrVarAll
import Derived.Shelf.Strings.Search1
import Derived.Shelf.Strings.Search2
import Derived.Shelf.Strings.Search3
import Derived.Shelf.Strings.Count
import Derived.Shelf.Strings.Shaped
import Derived.Shelf.Strings.Prefix
import Derived.Shelf.Strings.Split
import Derived.Shelf.Strings.SplitShaped
import Derived.Shelf.Unicode.DecodeSlow
import Derived.Shelf.Slices.Turned
import Derived.Test.YtfnfcngkaepnjaaGreatDoorProg
import Derived.Test.YtfnfcngkaepnjaaGreatDoorRows
import Derived.ProofKit
import Derived.LaidMore
import Derived.OpenShut
import Derived.Stop.Joined
import Derived.Stop.LaidErr
import Derived.Lib.LaidTab
import Derived.Lib.SmallJoins
import Derived.Handed
import Derived.Lay
import Derived.ChangeSlices
import Derived.Carry
/- Plain laws of Parse: what a text that is an instruction's is split into, and what is put together of it. -/
namespace Go.Proofs.YtfnfcngkaepnjaaGreatDoor
set_option linter.unusedVariables false
open Go Go.Proofs Go.RowKit

/-- A string is an instruction's text. -/
structure IsT (s : ByteArray) (op a b c m : Int) : Prop where
  imm : 0 ≤ m ∧ m < 4294967296
  right : rightF op a b c m = true
  text : textF op a b c m = s.data.toList

theorem words_no32 : ∀ (k : Nat), (32 : UInt8) ∉ (wordN k).data.toList := by
  intro k
  have h : ∀ x ∈ wordL, (32 : UInt8) ∉ x.data.toList := by decide +kernel
  unfold wordN
  rw [List.getD_eq_getElem?_getD]
  cases hx : wordL[k]? with
  | none => simp
  | some x => exact h x (List.mem_of_getElem? hx)
theorem kinds_no32 : ∀ (k : Nat), (32 : UInt8) ∉ (kindN k).data.toList := by
  intro k
  have h : ∀ x ∈ kindL, (32 : UInt8) ∉ x.data.toList := by decide +kernel
  unfold kindN
  rw [List.getD_eq_getElem?_getD]
  cases hx : kindL[k]? with
  | none => simp
  | some x => exact h x (List.mem_of_getElem? hx)
theorem insN_no32 (op m : Int) : (32 : UInt8) ∉ (insN op m).data.toList := by
  unfold insN
  split
  · exact kinds_no32 _
  · exact words_no32 _

theorem dec_no32 (u : Nat) : (32 : UInt8) ∉ Lib.decDigits u := by
  induction u using Nat.strongRecOn with
  | _ u ih =>
    by_cases h : u < 10
    · rw [Lib.decDigits, dif_pos h]
      intro hm
      have h1 := List.mem_singleton.1 hm
      have h2 := congrArg UInt8.toNat h1
      rw [dig_toNat u h] at h2
      simp at h2
      omega
    · rw [Lib.decDigits, dif_neg h]
      intro hm
      rcases List.mem_append.1 hm with hm | hm
      · exact ih (u / 10) (by omega) hm
      · have h1 := List.mem_singleton.1 hm
        have h2 := congrArg UInt8.toNat h1
        rw [dig_toNat (u % 10) (by omega)] at h2
        simp at h2
        omega

/-- What is so of all parts that are listed. -/
theorem named_all (f : Int → Part → Bool) (h0 : (namedL.all fun q => q.2.all fun p => f q.1 p) = true) (n : Int) : ∀ p ∈ (namedL.lookup n).getD [], f n p = true := by
  intro p hp
  cases hl : namedL.lookup n with
  | none => rw [hl] at hp; cases hp
  | some ps =>
    rw [hl] at hp
    have : (n, ps) ∈ namedL := by
      generalize namedL = l at hl
      clear h0
      induction l with
      | nil => simp at hl
      | cons x xs ih =>
        by_cases hx : (n == x.1) = true
        · have : n = x.1 := by simpa using hx
          simp [List.lookup, hx] at hl
          subst hl this
          exact .head _
        · simp [List.lookup, hx] at hl
          exact .tail _ (ih hl)
    exact List.all_eq_true.1 (List.all_eq_true.1 h0 _ this) p hp

theorem named_no32 (n : Int) : ∀ p ∈ (namedL.lookup n).getD [], (32 : UInt8) ∉ p.mark.data.toList := by
  intro p hp
  have := named_all (fun _ p => !(p.mark.data.toList.contains 32)) (by decide +kernel) n p hp
  simpa using this
theorem named_kind (n : Int) (hn : n ≠ 3) : ∀ p ∈ (namedL.lookup n).getD [], isKind p = false := by
  intro p hp
  have := named_all (fun n p => decide (n = 3) || !isKind p) (by decide +kernel) n p hp
  rw [decide_eq_false hn, Bool.false_or] at this
  simpa using this

theorem partT_no32 (a b c m : Int) (p : Part) (h : (32 : UInt8) ∉ p.mark.data.toList) : (32 : UInt8) ∉ (partT a b c m p).data.toList := by
  unfold partT
  intro hm
  simp only [ByteArray.data_append, Array.toList_append, List.mem_append] at hm
  rcases hm with hm | hm
  · exact h hm
  · exact dec_no32 _ hm

theorem textL_no32 (op a b c m : Int) : ∀ x ∈ textL op a b c m, (32 : UInt8) ∉ x.data.toList := by
  intro x hx
  unfold textL at hx
  rcases List.mem_cons.1 hx with rfl | hx
  · exact insN_no32 op m
  · obtain ⟨p, hq, rfl⟩ := List.mem_map.1 hx
    exact partT_no32 a b c m p (named_no32 op p (List.mem_filter.1 hq).1)

/-- The pieces between blanks. -/
def piecesF (s : ByteArray) : List ByteArray := Lib.splitB ⟨#[32]⟩ 0 (Lib.countB s ⟨#[32]⟩) s
theorem pieces_text {s : ByteArray} {op a b c m : Int} (h : IsT s op a b c m) : piecesF s = textL op a b c m :=
  splitB_join 32 _ (by unfold textL; simp) (textL_no32 op a b c m) s h.text.symm

theorem splitB_size (sep : ByteArray) : ∀ (k : Nat) (s : ByteArray), ∀ x ∈ Lib.splitB sep 0 k s, x.size ≤ s.size
  | 0, s, x, hx => by
    rw [Lib.splitB_zero] at hx
    rw [List.mem_singleton.1 hx]
    exact Nat.le_refl _
  | k + 1, s, x, hx => by
    unfold Lib.splitB at hx
    split at hx
    · rw [List.mem_singleton.1 hx]
      exact Nat.le_refl _
    · rcases List.mem_cons.1 hx with rfl | hx
      · rw [ByteArray.size_extract]; omega
      · have := splitB_size sep k _ x hx
        rw [ByteArray.size_extract] at this
        omega
theorem pieces_size (s : ByteArray) : ∀ x ∈ piecesF s, x.size ≤ s.size := splitB_size _ _ _
theorem pieces_cons (s : ByteArray) : ∃ x L, piecesF s = x :: L := by
  have h := splitB_length 32 s.size s (Nat.le_refl _)
  change (piecesF s).length = _ at h
  cases hp : piecesF s with
  | nil => rw [hp] at h; simp at h
  | cons x L => exact ⟨x, L, rfl⟩
theorem pieces_length (s : ByteArray) : (piecesF s).length = Lib.countB s ⟨#[32]⟩ + 1 := splitB_length 32 s.size s (Nat.le_refl _)

/-- What the numbers behind a first word put together. -/
def foldF (op a b c m : Int) (ps : List Part) : Int × Int × Int × Int := ps.foldl (fun s p => putF p (a, b, c, m) s) (0, 0, 0, if op = 3 then m else 0)
theorem foldF_take (op a b c m : Int) (ps : List Part) (k : Nat) (hk : k < ps.length) : foldF op a b c m (ps.take (k + 1)) = putN ps[k] (getF ps[k] a b c m) (foldF op a b c m (ps.take k)) := by
  rw [← putF_N]
  unfold foldF
  rw [← List.take_append_getElem hk, List.foldl_append]
  rfl
theorem foldF_all {op a b c m : Int} (h : rightF op a b c m = true) : foldF op a b c m (textP ((namedL.lookup op).getD [])) = (a, b, c, m) := by
  by_cases h3 : op = 3
  · subst h3
    rfl
  · rw [textP_all _ (named_kind op h3)]
    unfold rightF at h
    simp only [Bool.and_eq_true, decide_eq_true_eq] at h
    unfold foldF
    rw [if_neg h3]
    exact h.2.1

theorem right_op {op a b c m : Int} (h : rightF op a b c m = true) : (1 ≤ op ∧ op ≤ 19) ∧ (op = 3 → 1 ≤ m ∧ m ≤ 12) := by
  unfold rightF at h
  simp only [Bool.and_eq_true, decide_eq_true_eq, restF] at h
  refine ⟨h.1.1.1.1, ?_⟩
  rintro rfl
  have := h.2.2
  simp at this
  exact this.1

/-- What Parse tells of a string. -/
def ParsePost (s : ByteArray) (e : Ending) : Prop :=
  (∃ op a b c m, IsT s op a b c m ∧ e = .returned (parseV op a b c m 0)) ∨ ((∀ op a b c m, ¬ IsT s op a b c m) ∧ e = .returned (parseV 0 0 0 0 0 180))
end Go.Proofs.YtfnfcngkaepnjaaGreatDoor

/- Parse: its world. -/
namespace Go.Proofs.YtfnfcngkaepnjaaGreatDoor
set_option linter.unusedVariables false
open Go Go.Proofs Go.RowKit

/-- What the library's variables hold, MaxLen too. -/
structure EnvM (w : World) : Prop where
  env : Env w
  mx : ∃ m, w.cell? ⟨3, 0, none⟩ = some (.int .i64 m)
theorem EnvM.on {w w' : World} (h : EnvM w) (hb : Below w.heap.size w w') : EnvM w' := by
  obtain ⟨m, hm⟩ := h.mx
  exact ⟨h.env.on hb, m, cell_bel hm hb⟩

/-- The pieces of a string. -/
theorem pieces_any (s : ByteArray) (hs : s.size < 4294967281) (w : World) (hE : EnvM w) :
    Calls Tryz.prog 66 #[.string s, .string ⟨#[32]⟩] w fun e w' => e = .returned (.slice (some ⟨w.heap.size, 0, none⟩) (piecesF s).length (piecesF s).length) ∧ w' = w.alloc (.cells ((piecesF s).map Value.string).toArray 9) := by
  obtain ⟨m, hm⟩ := hE.mx
  refine (Tryz.strings_Split s ⟨#[32]⟩ m w hs hm (by show 1 ≤ 1; omega)).mono ?_
  rintro e w' ⟨rfl, rfl⟩
  exact ⟨by rw [pieces_length], rfl⟩

theorem wds_new (L : List ByteArray) (w : World) (t t' : TypeId) : Wds (w.heap.size + 1) w.heap.size L ((w.alloc (.cells (L.map Value.string).toArray t)).alloc (.cells #[.slice (some ⟨w.heap.size, 0, none⟩) L.length L.length] t')) := by
  refine ⟨cell_two w _ _ t' 0, fun j x hj => ?_⟩
  refine cell_al ((cell_new w _ t j).trans ?_) _
  simp [hj]

/-- Parse's world: its results, its words. -/
structure PaW (w0 : World) (op : Int) (st : Int × Int × Int × Int) (L : List ByteArray) (w : World) : Prop where
  ins : PaI w0 op st w
  wds : Wds (w0.heap.size + 1 + 1 + 1) (w0.heap.size + 1 + 1) L w
theorem PaW.more {w0 : World} {op : Int} {s : Int × Int × Int × Int} {L : List ByteArray} {w w' : World} (h : PaW w0 op s L w) (hb : Below w.heap.size w w') : PaW w0 op s L w' := ⟨h.ins.more hb, h.wds.bel hb⟩
theorem PaW.touch {w0 : World} {op : Int} {s : Int × Int × Int × Int} {L : List ByteArray} {w w' : World} {T : Nat → Prop} (h : PaW w0 op s L w) (ht : Touch T w w') (hb : Below w0.heap.size w w') (hT : ∀ b, T b → w0.heap.size + 1 + 1 + 1 < b) : PaW w0 op s L w' :=
  ⟨h.ins.touch ht hb (fun b hb => by have := hT b hb; omega), h.wds.touch ht (fun h => by have := hT _ h; omega) (fun h => by have := hT _ h; omega)⟩

theorem paW_start (w : World) (L : List ByteArray) : PaW w 0 (0, 0, 0, 0) L ((((w.alloc (.cells #[.int .i64 0, .int .i64 0, .int .i64 0, .int .i64 0, .int .u32 0] 29)).alloc (.cells #[.int .i64 0] 38)).alloc (.cells (L.map Value.string).toArray 9)).alloc (.cells #[.slice (some ⟨w.heap.size + 1 + 1, 0, none⟩) L.length L.length] 67)) := by
  refine ⟨(paI_start w).more (belA (bel1 _) _), ?_⟩
  have := wds_new L ((w.alloc (.cells #[.int .i64 0, .int .i64 0, .int .i64 0, .int .i64 0, .int .u32 0] 29)).alloc (.cells #[.int .i64 0] 38)) 9 67
  simpa only [World.size_alloc] using this
theorem PaW.set {w0 : World} {op : Int} {s : Int × Int × Int × Int} {L : List ByteArray} {w : World} (h : PaW w0 op s L w) (op' a b c m : Int) :
    PaW w0 op' (a, b, c, m) L (((((w.setCell ⟨w0.heap.size, 0, none⟩ (.int .i64 op')).setCell ⟨w0.heap.size, 1, none⟩ (.int .i64 a)).setCell ⟨w0.heap.size, 2, none⟩ (.int .i64 b)).setCell ⟨w0.heap.size, 3, none⟩ (.int .i64 c)).setCell ⟨w0.heap.size, 4, none⟩ (.int .u32 m)) :=
  ⟨h.ins.set op' a b c m, h.wds.touch (touch_set5 w0.heap.size w (.int .i64 op') (.int .i64 a) (.int .i64 b) (.int .i64 c) (.int .u32 m) (T := fun b => b = w0.heap.size) rfl) (by omega) (by omega)⟩
theorem PaW.put {w0 : World} {op op' : Int} {s s' : Int × Int × Int × Int} {L : List ByteArray} {w : World} {o : Nat} {v : Value} (h : PaW w0 op s L w) (hb : Bare w0.heap.size op' s' (w.setCell ⟨w0.heap.size, o, none⟩ v)) : PaW w0 op' s' L (w.setCell ⟨w0.heap.size, o, none⟩ v) :=
  ⟨h.ins.put hb, h.wds.touch (T := fun b => b = w0.heap.size) (Touch.setCell _ _ _ rfl) (by omega) (by omega)⟩
end Go.Proofs.YtfnfcngkaepnjaaGreatDoor

/- The shelf's contracts at this translation, in plain words (laid by the shelf's own tools); those alone that the walks use. -/
namespace Go.Proofs
open Go.Shelf
def Tryz.laysM146_ren : Go.Shelf.Ren := ⟨fun | 146 => 66 | 221 => 126 | 268 => 172 | 138 => 173 | 143 => 174 | 195 => 221 | 197 => 222 | 218 => 223 | 219 => 212 | 260 => 256 | 217 => 240 | 225 => 241 | 224 => 242 | 267 => 243 | 266 => 260 | 314 => 261 | n => n, fun | 9 => 9 | 31 => 67 | 3 => 3 | 4 => 4 | 0 => 0 | 105 => 289 | 21 => 21 | 5 => 5 | 46 => 270 | 119 => 329 | 139 => 332 | 138 => 331 | 146 => 321 | 51 => 27 | n => n, fun | 1 => 3 | 3 => 4 | 4 => 5 | n => n⟩
theorem Tryz.laysM146 : Go.Proofs.LaysM.n146 Tryz.prog Tryz.laysM146_ren := {
  mixed := by kernel_rfl
  f138 := Tryz.func173.trans (congrArg some (by kernel_rfl))
  f143 := Tryz.func174.trans (congrArg some (by kernel_rfl))
  f146 := Tryz.func66.trans (congrArg some (by kernel_rfl))
  f195 := Tryz.func221.trans (congrArg some (by kernel_rfl))
  f197 := Tryz.func222.trans (congrArg some (by kernel_rfl))
  f217 := Tryz.func240.trans (congrArg some (by kernel_rfl))
  f218 := Tryz.func223.trans (congrArg some (by kernel_rfl))
  f219 := Tryz.func212.trans (congrArg some (by kernel_rfl))
  f221 := Tryz.func126.trans (congrArg some (by kernel_rfl))
  f224 := Tryz.func242.trans (congrArg some (by kernel_rfl))
  f225 := Tryz.func241.trans (congrArg some (by kernel_rfl))
  f260 := Tryz.func256.trans (congrArg some (by kernel_rfl))
  f266 := Tryz.func260.trans (congrArg some (by kernel_rfl))
  f267 := Tryz.func243.trans (congrArg some (by kernel_rfl))
  f268 := Tryz.func172.trans (congrArg some (by kernel_rfl))
  f314 := Tryz.func261.trans (congrArg some (by kernel_rfl))
  t0 := Tryz.underlying0
  a0 := Tryz.isAgg0
  z0 := Tryz.sizeOf0
  v0 := Tryz.zeroValue0
  t3 := Tryz.underlying3
  a3 := Tryz.isAgg3
  z3 := Tryz.sizeOf3
  v3 := Tryz.zeroValue3
  t4 := Tryz.underlying4
  a4 := Tryz.isAgg4
  z4 := Tryz.sizeOf4
  v4 := Tryz.zeroValue4
  t5 := Tryz.underlying5
  a5 := Tryz.isAgg5
  z5 := Tryz.sizeOf5
  v5 := Tryz.zeroValue5
  t9 := Tryz.underlying9
  a9 := Tryz.isAgg9
  z9 := Tryz.sizeOf9
  v9 := Tryz.zeroValue9
  t21 := Tryz.underlying21
  a21 := Tryz.isAgg21
  z21 := Tryz.sizeOf21
  v21 := Tryz.zeroValue21
  t31 := Tryz.underlying67
  a31 := Tryz.isAgg67
  z31 := Tryz.sizeOf67
  v31 := Tryz.zeroValue67
  t46 := Tryz.underlying270
  a46 := Tryz.isAgg270
  z46 := Tryz.sizeOf270
  v46 := Tryz.zeroValue270
  t51 := Tryz.underlying27
  a51 := Tryz.isAgg27
  z51 := Tryz.sizeOf27
  v51 := Tryz.zeroValue27
  t105 := Tryz.underlying289
  a105 := Tryz.isAgg289
  z105 := Tryz.sizeOf289
  v105 := Tryz.zeroValue289
  t119 := Tryz.underlying329
  a119 := Tryz.isAgg329
  z119 := Tryz.sizeOf329
  t138 := Tryz.underlying331
  a138 := Tryz.isAgg331
  z138 := Tryz.sizeOf331
  v138 := Tryz.zeroValue331
  t139 := Tryz.underlying332
  a139 := Tryz.isAgg332
  z139 := Tryz.sizeOf332
  v139 := Tryz.zeroValue332
  t146 := Tryz.underlying321
  a146 := Tryz.isAgg321
  z146 := Tryz.sizeOf321
  v146 := Tryz.zeroValue321
  g1 := by kernel_rfl
  g3 := by kernel_rfl
  g4 := by kernel_rfl
  i0 := by kernel_rfl
  i3 := by kernel_rfl
  i4 := by kernel_rfl
  i5 := by kernel_rfl
  i9 := by kernel_rfl
  i21 := by kernel_rfl
  i31 := by kernel_rfl
  i46 := by kernel_rfl
  i51 := by kernel_rfl
  i105 := by kernel_rfl
  i138 := by kernel_rfl
  i139 := by kernel_rfl
  i146 := by kernel_rfl
  m1 := by kernel_rfl
  s1_3 := fun w h => Go.Proofs.cell_of_shapedOpen_int (zero := #[.int .i64 0]) (t := 3) h (of_decide_eq_true (by kernel_rfl)) (by kernel_rfl) rfl (by kernel_rfl) (by kernel_rfl) Tryz.underlying3
  m3 := by kernel_rfl
  m4 := by kernel_rfl }
end Go.Proofs

/- What the rows of layer 8 list gives the walks; the wrap that hands the world's shape; an instruction that came in, opened. -/
namespace Go.Proofs.YtfnfcngkaepnjaaGreatDoor
set_option linter.unusedVariables false
open Go Go.Proofs Go.ChangeShapes Go.WideShapes Go.ChangeAt Go.RowKit Go.Joins

theorem own : ownKnob Tryz.prog.godebug = none := by kernel_rfl
theorem gES : Tryz.prog.globalNamed "strconv.ErrSyntax" = some 1 := by kernel_rfl
theorem gER : Tryz.prog.globalNamed "strconv.ErrRange" = some 2 := by kernel_rfl
theorem gESt : (Tryz.prog.globals[1]?).map (·.type) = some 159 := by kernel_rfl
theorem gERt : (Tryz.prog.globals[2]?).map (·.type) = some 159 := by kernel_rfl
theorem gPow : Tryz.prog.globalNamed "internal/strconv.uint64pow10" = some 0 := by kernel_rfl
theorem gPowt : (Tryz.prog.globals[0]?).map (·.type) = some 299 := by kernel_rfl
theorem cellsStr : Tryz.prog.cellsOf 9 = 1 := by kernel_rfl
theorem cellsES : Tryz.prog.cellsOf 319 = 1 := by kernel_rfl
theorem cellsU64 : Tryz.prog.cellsOf 92 = 1 := by kernel_rfl
theorem cellsPow : Tryz.prog.cellsOf 299 = 20 := by kernel_rfl
theorem starES : "*" ++ "errors.errorString" = "*errors.errorString" := by decide
theorem rowES (u : TypeId) (h : Tryz.prog.typeName? 3 u = some "*errors.errorString") : u = 317 :=
  typeName_ptr_named (nm := "errors.errorString") (by rw [starES]; kernel_rfl) (by kernel_rfl) (by decide) u (by rw [starES]; exact h)

/-- A row's list. -/
def laidL : List (String × DataW Unit) := [("math/bits.deBruijn32tab", Rows.laid_math_bits_deBruijn32tab), ("math/bits.deBruijn64tab", Rows.laid_math_bits_deBruijn64tab), ("internal/strconv.uint64pow10", Rows.laid_internal_strconv_uint64pow10), ("unicode/utf8.acceptRanges", Rows.laid_unicode_utf8_acceptRanges), ("strconv.ErrRange", Rows.laid_strconv_ErrRange), ("strconv.ErrSyntax", Rows.laid_strconv_ErrSyntax), ("unicode/utf8.first", Rows.laid_unicode_utf8_first)]

theorem env_of_laid {W : World} (h0 : laidMetH Tryz.prog laidL W) : Env W := by
  rw [MakeChecks.laidMetH_plain _ _ _ (by kernel_rfl)] at h0
  have h2 := h0.tail.tail
  have h3 := h2.tail.tail
  have h4 := h3.tail
  obtain ⟨a1, s1, hv1, -, -, -⟩ := laid_sentinel h3 gER gERt Tryz.underlying159 rowES Tryz.underlying317 Tryz.underlying319 rfl rfl Tryz.underlying9 cellsES cellsStr
  obtain ⟨a2, s2, hv2, -, -, -⟩ := laid_sentinel h4 gES gESt Tryz.underlying159 rowES Tryz.underlying317 Tryz.underlying319 rfl rfl Tryz.underlying9 cellsES cellsStr
  refine ⟨?_, ⟨_, by have := World.var?_cell gES hv2 0; simpa using this, Or.inr ⟨_, _, rfl⟩⟩, ⟨_, by have := World.var?_cell gER hv1 0; simpa using this, Or.inr ⟨_, _, rfl⟩⟩⟩
  exact Lib.tabIs_of_head gPow gPowt Tryz.underlying299 Tryz.underlying92 cellsU64 cellsPow h2
theorem envM_of_laid {W : World} (h0 : laidMetH Tryz.prog laidL W) (hsh : W.ShapedOpen Tryz.prog) : EnvM W := ⟨env_of_laid h0, Tryz.laysM146.s1_3 W hsh⟩

/-- A start that meets the condition. -/
theorem door_met (os : Os) (args : Array Value) : laidMetH Tryz.prog laidL ((World.laidAll Tryz.prog os laidL).forCall (fun _ _ => 0) ⟨#[], args, []⟩).memory :=
  by rw [MakeChecks.laidMetH_plain _ _ _ (by kernel_rfl)]; exact laidMet_laidAll _ (by kernel_rfl) (by kernel_rfl)

end Go.Proofs.YtfnfcngkaepnjaaGreatDoor

/- A slice of bytes that came in: opened. -/
namespace Go.Proofs.YtfnfcngkaepnjaaGreatDoor
set_option linter.unusedVariables false
open Go Go.Proofs Go.ChangeShapes Go.WideShapes Go.RowKit

theorem plain_addr {w : World} {a : Addr} {v : Value} (h : w.cell? a = some v) : ∃ b o, a = ⟨b, o, none⟩ := by
  obtain ⟨b, o, sp⟩ := a
  cases sp with
  | none => exact ⟨b, o, rfl⟩
  | some s =>
    exfalso
    unfold World.cell? at h
    split at h <;> simp at h

end Go.Proofs.YtfnfcngkaepnjaaGreatDoor
