/- Joined texts: Parse: its world.; The shelf's contracts at this translation, in plain words (laid by the shelf's own tools); those alone that the walks use.; What the rows of layer 8 list gives the walks; the wrap that hands the world's shape; an instruction that came in, opened.; A slice of bytes that came in: opened. -/
import Derived.Test.YtfnfcngkaepnjaaGreatDoorQY19
import Derived.Test.YtfnfcngkaepnjaaGreatDoorQY10
import Derived.Test.YtfnfcngkaepnjaaGreatDoorQY6
import Derived.Shelf.Small.Wraps
import Derived.Shelf.Strconv.Atoi
import Derived.Shelf.Strconv.Itoa0
import Derived.Shelf.Strconv.Itoa1
import Derived.Shelf.LaysM
import Derived.Shelf.Strconv.Itoa2
import Derived.Shelf.Strconv.Itoa3
import Derived.Shelf.Strconv.AtoiErrFast
import Derived.Shelf.Strconv.ParseIntEmpty
import Derived.Shelf.Strconv.AtoiFail
import Derived.Shelf.Strconv.Clone
import Derived.Shelf.Strconv.SyntaxError
import Derived.Shelf.LaysC
import Derived.Shelf.Strconv.ToError
import Derived.Shelf.Strconv.ParseInt10
import Derived.Shelf.Strconv.AtoiLong
import Derived.Shelf.Strconv.AtoiInnerAll
import Derived.Shelf.Strconv.RangeError
import Derived.Shelf.Strconv.ToErrorRange
import Derived.Shelf.Strconv.AtoiAll
import Derived.Shelf.Strconv.ErrVarAll
import Derived.Shelf.Strings.Search1
import Derived.Shelf.Strings.Search2
import Derived.Shelf.Strings.Search3
import Derived.Shelf.Strings.Count
import Derived.Shelf.Strings.Shaped
import Derived.Shelf.Strings.Prefix
import Derived.Shelf.Strings.Split
import Derived.Shelf.Strings.SplitShaped
import Derived.Shelf.Unicode.DecodeSlow
import Derived.Shelf.Slices.Turned
import Derived.Test.YtfnfcngkaepnjaaGreatDoorProg
import Derived.Test.YtfnfcngkaepnjaaGreatDoorRows
import Derived.ProofKit
import Derived.LaidMore
import Derived.OpenShut
import Derived.Stop.Joined
import Derived.Stop.LaidErr
import Derived.Lib.LaidTab
import Derived.Lib.SmallJoins
import Derived.Handed
import Derived.Lay
import Derived.Test.YtfnfcngkaepnjaaGreatDoorQY8
import Derived.ChangeSlices
import Derived.Carry
/- Parse: its world. -/
namespace Go.Proofs.YtfnfcngkaepnjaaGreatDoor
set_option linter.unusedVariables false
open Go Go.Proofs Go.RowKit

/-- What the library's variables hold, MaxLen too. -/
structure EnvM (w : World) : Prop where
  env : Env w
  mx : ∃ m, w.cell? ⟨3, 0, none⟩ = some (.int .i64 m)
theorem EnvM.on {w w' : World} (h : EnvM w) (hb : Below w.heap.size w w') : EnvM w' := by
  obtain ⟨m, hm⟩ := h.mx
  exact ⟨h.env.on hb, m, cell_bel hm hb⟩

/-- The pieces of a string. -/
theorem pieces_any (s : ByteArray) (hs : s.size < 4294967281) (w : World) (hE : EnvM w) :
    Calls Tryz.prog 66 #[.string s, .string ⟨#[32]⟩] w fun e w' => e = .returned (.slice (some ⟨w.heap.size, 0, none⟩) (piecesF s).length (piecesF s).length) ∧ w' = w.alloc (.cells ((piecesF s).map Value.string).toArray 9) := by
  obtain ⟨m, hm⟩ := hE.mx
  refine (Tryz.strings_Split s ⟨#[32]⟩ m w hs hm (by show 1 ≤ 1; omega)).mono ?_
  rintro e w' ⟨rfl, rfl⟩
  exact ⟨by rw [pieces_length], rfl⟩

theorem wds_new (L : List ByteArray) (w : World) (t t' : TypeId) : Wds (w.heap.size + 1) w.heap.size L ((w.alloc (.cells (L.map Value.string).toArray t)).alloc (.cells #[.slice (some ⟨w.heap.size, 0, none⟩) L.length L.length] t')) := by
  refine ⟨cell_two w _ _ t' 0, fun j x hj => ?_⟩
  refine cell_al ((cell_new w _ t j).trans ?_) _
  simp [hj]

/-- Parse's world: its results, its words. -/
structure PaW (w0 : World) (op : Int) (st : Int × Int × Int × Int) (L : List ByteArray) (w : World) : Prop where
  ins : PaI w0 op st w
  wds : Wds (w0.heap.size + 1 + 1 + 1) (w0.heap.size + 1 + 1) L w
theorem PaW.more {w0 : World} {op : Int} {s : Int × Int × Int × Int} {L : List ByteArray} {w w' : World} (h : PaW w0 op s L w) (hb : Below w.heap.size w w') : PaW w0 op s L w' := ⟨h.ins.more hb, h.wds.bel hb⟩
theorem PaW.touch {w0 : World} {op : Int} {s : Int × Int × Int × Int} {L : List ByteArray} {w w' : World} {T : Nat → Prop} (h : PaW w0 op s L w) (ht : Touch T w w') (hb : Below w0.heap.size w w') (hT : ∀ b, T b → w0.heap.size + 1 + 1 + 1 < b) : PaW w0 op s L w' :=
  ⟨h.ins.touch ht hb (fun b hb => by have := hT b hb; omega), h.wds.touch ht (fun h => by have := hT _ h; omega) (fun h => by have := hT _ h; omega)⟩

theorem paW_start (w : World) (L : List ByteArray) : PaW w 0 (0, 0, 0, 0) L ((((w.alloc (.cells #[.int .i64 0, .int .i64 0, .int .i64 0, .int .i64 0, .int .u32 0] 29)).alloc (.cells #[.int .i64 0] 38)).alloc (.cells (L.map Value.string).toArray 9)).alloc (.cells #[.slice (some ⟨w.heap.size + 1 + 1, 0, none⟩) L.length L.length] 67)) := by
  refine ⟨(paI_start w).more (belA (bel1 _) _), ?_⟩
  have := wds_new L ((w.alloc (.cells #[.int .i64 0, .int .i64 0, .int .i64 0, .int .i64 0, .int .u32 0] 29)).alloc (.cells #[.int .i64 0] 38)) 9 67
  simpa only [World.size_alloc] using this
theorem PaW.set {w0 : World} {op : Int} {s : Int × Int × Int × Int} {L : List ByteArray} {w : World} (h : PaW w0 op s L w) (op' a b c m : Int) :
    PaW w0 op' (a, b, c, m) L (((((w.setCell ⟨w0.heap.size, 0, none⟩ (.int .i64 op')).setCell ⟨w0.heap.size, 1, none⟩ (.int .i64 a)).setCell ⟨w0.heap.size, 2, none⟩ (.int .i64 b)).setCell ⟨w0.heap.size, 3, none⟩ (.int .i64 c)).setCell ⟨w0.heap.size, 4, none⟩ (.int .u32 m)) :=
  ⟨h.ins.set op' a b c m, h.wds.touch (touch_set5 w0.heap.size w (.int .i64 op') (.int .i64 a) (.int .i64 b) (.int .i64 c) (.int .u32 m) (T := fun b => b = w0.heap.size) rfl) (by omega) (by omega)⟩
theorem PaW.put {w0 : World} {op op' : Int} {s s' : Int × Int × Int × Int} {L : List ByteArray} {w : World} {o : Nat} {v : Value} (h : PaW w0 op s L w) (hb : Bare w0.heap.size op' s' (w.setCell ⟨w0.heap.size, o, none⟩ v)) : PaW w0 op' s' L (w.setCell ⟨w0.heap.size, o, none⟩ v) :=
  ⟨h.ins.put hb, h.wds.touch (T := fun b => b = w0.heap.size) (Touch.setCell _ _ _ rfl) (by omega) (by omega)⟩
end Go.Proofs.YtfnfcngkaepnjaaGreatDoor

/- The shelf's contracts at this translation, in plain words (laid by the shelf's own tools); those alone that the walks use. -/
namespace Go.Proofs
open Go.Shelf
def Tryz.laysM146_ren : Go.Shelf.Ren := ⟨fun | 146 => 66 | 221 => 126 | 268 => 172 | 138 => 173 | 143 => 174 | 195 => 221 | 197 => 222 | 218 => 223 | 219 => 212 | 260 => 256 | 217 => 240 | 225 => 241 | 224 => 242 | 267 => 243 | 266 => 260 | 314 => 261 | n => n, fun | 9 => 9 | 31 => 67 | 3 => 3 | 4 => 4 | 0 => 0 | 105 => 289 | 21 => 21 | 5 => 5 | 46 => 270 | 119 => 329 | 139 => 332 | 138 => 331 | 146 => 321 | 51 => 27 | n => n, fun | 1 => 3 | 3 => 4 | 4 => 5 | n => n⟩
theorem Tryz.laysM146 : Go.Proofs.LaysM.n146 Tryz.prog Tryz.laysM146_ren := {
  mixed := by kernel_rfl
  f138 := Tryz.func173.trans (congrArg some (by kernel_rfl))
  f143 := Tryz.func174.trans (congrArg some (by kernel_rfl))
  f146 := Tryz.func66.trans (congrArg some (by kernel_rfl))
  f195 := Tryz.func221.trans (congrArg some (by kernel_rfl))
  f197 := Tryz.func222.trans (congrArg some (by kernel_rfl))
  f217 := Tryz.func240.trans (congrArg some (by kernel_rfl))
  f218 := Tryz.func223.trans (congrArg some (by kernel_rfl))
  f219 := Tryz.func212.trans (congrArg some (by kernel_rfl))
  f221 := Tryz.func126.trans (congrArg some (by kernel_rfl))
  f224 := Tryz.func242.trans (congrArg some (by kernel_rfl))
  f225 := Tryz.func241.trans (congrArg some (by kernel_rfl))
  f260 := Tryz.func256.trans (congrArg some (by kernel_rfl))
  f266 := Tryz.func260.trans (congrArg some (by kernel_rfl))
  f267 := Tryz.func243.trans (congrArg some (by kernel_rfl))
  f268 := Tryz.func172.trans (congrArg some (by kernel_rfl))
  f314 := Tryz.func261.trans (congrArg some (by kernel_rfl))
  t0 := Tryz.underlying0
  a0 := Tryz.isAgg0
  z0 := Tryz.sizeOf0
  v0 := Tryz.zeroValue0
  t3 := Tryz.underlying3
  a3 := Tryz.isAgg3
  z3 := Tryz.sizeOf3
  v3 := Tryz.zeroValue3
  t4 := Tryz.underlying4
  a4 := Tryz.isAgg4
  z4 := Tryz.sizeOf4
  v4 := Tryz.zeroValue4
  t5 := Tryz.underlying5
  a5 := Tryz.isAgg5
  z5 := Tryz.sizeOf5
  v5 := Tryz.zeroValue5
  t9 := Tryz.underlying9
  a9 := Tryz.isAgg9
  z9 := Tryz.sizeOf9
  v9 := Tryz.zeroValue9
  t21 := Tryz.underlying21
  a21 := Tryz.isAgg21
  z21 := Tryz.sizeOf21
  v21 := Tryz.zeroValue21
  t31 := Tryz.underlying67
  a31 := Tryz.isAgg67
  z31 := Tryz.sizeOf67
  v31 := Tryz.zeroValue67
  t46 := Tryz.underlying270
  a46 := Tryz.isAgg270
  z46 := Tryz.sizeOf270
  v46 := Tryz.zeroValue270
  t51 := Tryz.underlying27
  a51 := Tryz.isAgg27
  z51 := Tryz.sizeOf27
  v51 := Tryz.zeroValue27
  t105 := Tryz.underlying289
  a105 := Tryz.isAgg289
  z105 := Tryz.sizeOf289
  v105 := Tryz.zeroValue289
  t119 := Tryz.underlying329
  a119 := Tryz.isAgg329
  z119 := Tryz.sizeOf329
  t138 := Tryz.underlying331
  a138 := Tryz.isAgg331
  z138 := Tryz.sizeOf331
  v138 := Tryz.zeroValue331
  t139 := Tryz.underlying332
  a139 := Tryz.isAgg332
  z139 := Tryz.sizeOf332
  v139 := Tryz.zeroValue332
  t146 := Tryz.underlying321
  a146 := Tryz.isAgg321
  z146 := Tryz.sizeOf321
  v146 := Tryz.zeroValue321
  g1 := by kernel_rfl
  g3 := by kernel_rfl
  g4 := by kernel_rfl
  i0 := by kernel_rfl
  i3 := by kernel_rfl
  i4 := by kernel_rfl
  i5 := by kernel_rfl
  i9 := by kernel_rfl
  i21 := by kernel_rfl
  i31 := by kernel_rfl
  i46 := by kernel_rfl
  i51 := by kernel_rfl
  i105 := by kernel_rfl
  i138 := by kernel_rfl
  i139 := by kernel_rfl
  i146 := by kernel_rfl
  m1 := by kernel_rfl
  s1_3 := fun w h => Go.Proofs.cell_of_shapedOpen_int (zero := #[.int .i64 0]) (t := 3) h (of_decide_eq_true (by kernel_rfl)) (by kernel_rfl) rfl (by kernel_rfl) (by kernel_rfl) Tryz.underlying3
  m3 := by kernel_rfl
  m4 := by kernel_rfl }
open Go.RowKit Go.Lib in
/-- strings.Split, sep not empty. (LAID: no walk: one application.) -/
theorem Tryz.strings_Split_shaped (s sep : ByteArray) (w : World) (h : w.ShapedOpen Tryz.prog) (hs : s.size < 4294967281) (h1 : 1 ≤ sep.size) :
    Calls Tryz.prog 66 #[.string s, .string sep] w fun e w' =>
      e = .returned (.slice (some ⟨w.heap.size, 0, none⟩) (Lib.countB s sep + 1) (Lib.countB s sep + 1)) ∧ w' = w.alloc (.cells ((Lib.splitB sep 0 (Lib.countB s sep) s).map Value.string).toArray 9) := Any.strings_Split_shaped Tryz.laysM146 s sep w h hs h1

end Go.Proofs

/- What the rows of layer 8 list gives the walks; the wrap that hands the world's shape; an instruction that came in, opened. -/
namespace Go.Proofs.YtfnfcngkaepnjaaGreatDoor
set_option linter.unusedVariables false
open Go Go.Proofs Go.ChangeShapes Go.WideShapes Go.ChangeAt Go.RowKit Go.Joins

theorem own : ownKnob Tryz.prog.godebug = none := by kernel_rfl
theorem gES : Tryz.prog.globalNamed "strconv.ErrSyntax" = some 1 := by kernel_rfl
theorem gER : Tryz.prog.globalNamed "strconv.ErrRange" = some 2 := by kernel_rfl
theorem gESt : (Tryz.prog.globals[1]?).map (·.type) = some 159 := by kernel_rfl
theorem gERt : (Tryz.prog.globals[2]?).map (·.type) = some 159 := by kernel_rfl
theorem gPow : Tryz.prog.globalNamed "internal/strconv.uint64pow10" = some 0 := by kernel_rfl
theorem gPowt : (Tryz.prog.globals[0]?).map (·.type) = some 299 := by kernel_rfl
theorem cellsStr : Tryz.prog.cellsOf 9 = 1 := by kernel_rfl
theorem cellsES : Tryz.prog.cellsOf 319 = 1 := by kernel_rfl
theorem cellsU64 : Tryz.prog.cellsOf 92 = 1 := by kernel_rfl
theorem cellsPow : Tryz.prog.cellsOf 299 = 20 := by kernel_rfl
theorem starES : "*" ++ "errors.errorString" = "*errors.errorString" := by decide
theorem rowES (u : TypeId) (h : Tryz.prog.typeName? 3 u = some "*errors.errorString") : u = 317 :=
  typeName_ptr_named (nm := "errors.errorString") (by rw [starES]; kernel_rfl) (by kernel_rfl) (by decide) u (by rw [starES]; exact h)

/-- A row's list. -/
def laidL : List (String × DataW Unit) := [("math/bits.deBruijn32tab", Rows.laid_math_bits_deBruijn32tab), ("math/bits.deBruijn64tab", Rows.laid_math_bits_deBruijn64tab), ("internal/strconv.uint64pow10", Rows.laid_internal_strconv_uint64pow10), ("unicode/utf8.acceptRanges", Rows.laid_unicode_utf8_acceptRanges), ("strconv.ErrRange", Rows.laid_strconv_ErrRange), ("strconv.ErrSyntax", Rows.laid_strconv_ErrSyntax), ("unicode/utf8.first", Rows.laid_unicode_utf8_first)]

theorem env_of_laid {W : World} (h0 : laidMetH Tryz.prog laidL W) : Env W := by
  rw [MakeChecks.laidMetH_plain _ _ _ (by kernel_rfl)] at h0
  have h2 := h0.tail.tail
  have h3 := h2.tail.tail
  have h4 := h3.tail
  obtain ⟨a1, s1, hv1, -, -, -⟩ := laid_sentinel h3 gER gERt Tryz.underlying159 rowES Tryz.underlying317 Tryz.underlying319 rfl rfl Tryz.underlying9 cellsES cellsStr
  obtain ⟨a2, s2, hv2, -, -, -⟩ := laid_sentinel h4 gES gESt Tryz.underlying159 rowES Tryz.underlying317 Tryz.underlying319 rfl rfl Tryz.underlying9 cellsES cellsStr
  refine ⟨?_, ⟨_, by have := World.var?_cell gES hv2 0; simpa using this, Or.inr ⟨_, _, rfl⟩⟩, ⟨_, by have := World.var?_cell gER hv1 0; simpa using this, Or.inr ⟨_, _, rfl⟩⟩⟩
  exact Lib.tabIs_of_head gPow gPowt Tryz.underlying299 Tryz.underlying92 cellsU64 cellsPow h2
theorem envM_of_laid {W : World} (h0 : laidMetH Tryz.prog laidL W) (hsh : W.ShapedOpen Tryz.prog) : EnvM W := ⟨env_of_laid h0, Tryz.laysM146.s1_3 W hsh⟩

/-- The wrap of a row that lists variables; the world's shape is handed on. -/
theorem handed_shaped {H : Type} {enc : TypeId × Value → H} {a : Assume} {C : Checked} {os : Os} {f : FuncId} {fn : Func} {s : ChangeSpec} {conds : List PathCond} {apart fresh handsOn again : Bool} {X : World → Array Value → Prop}
    (hX : ∀ (w w' : World) (args : Array Value), w.heap = w'.heap → X w args → X w' args)
    (own : ownKnob C.prog.godebug = none) (started : os.Started) (noInit : C.prog.inits.idxOf? f = none) (hfn : C.prog.funcs[f]? = some fn)
    (witness : ∃ (w : World) (tape : Tape) (i : Input), w.os = os ∧ (w.forCall tape i).Shaped C.prog ∧ i.vars = [] ∧ Input.okWide C.prog (w.forCall tape i) .any w.heap.size f i ∧
      ((s.pre enc C.prog fn conds apart (w.forCall tape i).memory i.args ∧ X (w.forCall tape i).memory i.args) ∧ sizedMet enc C.prog fn (OpenSpec.ofChange s) apart (w.forCall tape i).memory i.args) ∧ a.holds C.prog (lone (Frame.enter C.prog f i.args .normal) [] (w.forCall tape i)))
    (contract : ∀ (W : World) (base : Nat) (args : Array Value) (ds gs : List (DataW H)) (before : List MemPlace),
      (∀ (j : Nat) t v, fn.params[j]? = some t → args[j]? = some v → Value.okWide C.prog W .any base t v) →
      DataW.Whole enc C.prog fn.params.toList s.vars apart W args.toList ds gs before →
      conds.all (PathCond.test C.prog ⟨fn.params.toList, ds, s.plain.varTypes C.prog, gs⟩) = true →
      W.ShapedOpen C.prog → X W args →
      a.holds C.prog (lone (Frame.enter C.prog f args .normal) [] W) →
      Calls C.prog f args W fun e W' => ∃ v, e = .returned v ∧ s.post enc C.prog fn apart fresh handsOn again W args v W') :
    ReturnsInHanded a C os f .any (fun w args => (s.pre enc C.prog fn conds apart w args ∧ X w args) ∧ sizedMet enc C.prog fn (OpenSpec.ofChange s) apart w args) (s.post enc C.prog fn apart fresh handsOn again) := by
  refine returnsInHanded_of_calls own started noInit witness ?_
  intro w tape i _ hsh _ hok hpre hholds
  obtain ⟨_, _, _, fn', hfn', _, _, _, _, hval⟩ := hok
  obtain rfl : fn' = fn := Option.some.inj (hfn'.symm.trans hfn)
  obtain ⟨⟨⟨ds, gs, before, hw, hc⟩, hx⟩, hz⟩ := hpre
  have hw' := DataW.Whole.of_heap (w' := w.forCall tape i) (by rfl) hw
  refine (contract (w.forCall tape i) w.heap.size i.args ds gs before hval hw' hc hsh (hX _ _ _ (by rfl) hx) hholds).mono fun e W' ⟨v, he, hp⟩ => ?_
  subst he
  exact ChangeSpec.post_blind hp

/-- A start that meets the condition. -/
theorem door_met (os : Os) (args : Array Value) : laidMetH Tryz.prog laidL ((World.laidAll Tryz.prog os laidL).forCall (fun _ _ => 0) ⟨#[], args, []⟩).memory :=
  by rw [MakeChecks.laidMetH_plain _ _ _ (by kernel_rfl)]; exact laidMet_laidAll _ (by kernel_rfl) (by kernel_rfl)

theorem array5 {α : Type} {cs : Array α} (h : cs.size = 5) : ∃ c0 c1 c2 c3 c4, cs = #[c0, c1, c2, c3, c4] := by
  obtain ⟨l⟩ := cs
  match l, h with
  | [c0, c1, c2, c3, c4], _ => exact ⟨c0, c1, c2, c3, c4, rfl⟩

set_option maxRecDepth 100000 in
/-- An instruction that came in. -/
theorem ins_open {H : Type} {enc : TypeId × Value → H} {W : World} {r : Reach} {b0 : Nat} {v : Value} {d : DataW H} {p : List MemPlace} (hv : Value.okWide Tryz.prog W r b0 29 v) (h : DataW.Trod enc Tryz.prog W 0 (fun _ => true) true 29 v d p) :
    ∃ op a b c m : Int, v = insV op a b c m ∧ 0 ≤ m ∧ m < 4294967296 := by
  obtain ⟨cs, rfl, hsz⟩ := okWide_struct Tryz.underlying29 hv
  rw [show Tryz.prog.cellsOf 29 = 5 by kernel_rfl] at hsz
  obtain ⟨c0, c1, c2, c3, c4, rfl⟩ := array5 hsz
  obtain ⟨fuel, hf⟩ := h
  have eO : Tryz.prog.cellsOf 26 = 1 := by kernel_rfl
  have eI : Tryz.prog.cellsOf 3 = 1 := by kernel_rfl
  have eU : Tryz.prog.cellsOf 27 = 1 := by kernel_rfl
  obtain ⟨xs, n, _, _, _, hlen, hf⟩ := DataW.trod_struct Tryz.underlying29 hf
  match xs, hlen with
  | [y0, y1, y2, y3, y4], _ =>
    have g0 : DataW.trod enc Tryz.prog W 0 (fun _ => true) true n 26 [c0] = some y0 := by simpa [Value.cells, eO] using hf 0 _ rfl
    have g1 : DataW.trod enc Tryz.prog W 0 (fun _ => true) true n 3 [c1] = some y1 := by simpa [Value.cells, eI] using hf 1 _ rfl
    have g2 : DataW.trod enc Tryz.prog W 0 (fun _ => true) true n 3 [c2] = some y2 := by simpa [Value.cells, eI] using hf 2 _ rfl
    have g3 : DataW.trod enc Tryz.prog W 0 (fun _ => true) true n 3 [c3] = some y3 := by simpa [Value.cells, eI] using hf 3 _ rfl
    have g4 : DataW.trod enc Tryz.prog W 0 (fun _ => true) true n 27 [c4] = some y4 := by simpa [Value.cells, eU] using hf 4 _ rfl
    obtain ⟨op, h0, _, _⟩ := DataW.trod_int Tryz.underlying26 g0
    obtain ⟨a, h1, _, _⟩ := DataW.trod_int Tryz.underlying3 g1
    obtain ⟨b, h2, _, _⟩ := DataW.trod_int Tryz.underlying3 g2
    obtain ⟨c, h3, _, _⟩ := DataW.trod_int Tryz.underlying3 g3
    obtain ⟨m, h4, _, wf⟩ := DataW.trod_int Tryz.underlying27 g4
    obtain rfl : c0 = .int .i64 op := by simpa using h0
    obtain rfl : c1 = .int .i64 a := by simpa using h1
    obtain rfl : c2 = .int .i64 b := by simpa using h2
    obtain rfl : c3 = .int .i64 c := by simpa using h3
    obtain rfl : c4 = .int .u32 m := by simpa using h4
    refine ⟨op, a, b, c, m, rfl, ?_⟩
    have e1 : IntKind.u32.min = 0 := rfl
    have e2 : IntKind.u32.max = 4294967295 := rfl
    simp [Lit.wf, e1, e2] at wf
    omega
end Go.Proofs.YtfnfcngkaepnjaaGreatDoor

/- A slice of bytes that came in: opened. -/
namespace Go.Proofs.YtfnfcngkaepnjaaGreatDoor
set_option linter.unusedVariables false
open Go Go.Proofs Go.ChangeShapes Go.WideShapes Go.RowKit

theorem plain_addr {w : World} {a : Addr} {v : Value} (h : w.cell? a = some v) : ∃ b o, a = ⟨b, o, none⟩ := by
  obtain ⟨b, o, sp⟩ := a
  cases sp with
  | none => exact ⟨b, o, rfl⟩
  | some s =>
    exfalso
    unfold World.cell? at h
    split at h <;> simp at h

theorem argB_open {H : Type} {enc : TypeId × Value → H} {W : World} {v : Value} {d : DataW H} {p : List MemPlace} (hok : ∃ a len cap, v = .slice a len cap) (h : DataW.Trod enc Tryz.prog W 0 (fun _ => true) true 22 v d p) : ∃ l, ArgB W v l ∧ l.length ≤ 9223372036854775807 := by
  obtain ⟨a0, len, cap, rfl⟩ := hok
  obtain ⟨fuel, hf⟩ := h
  rcases open_ints Tryz.underlying22 Tryz.underlying5 (by kernel_rfl) hf with ⟨hcs, _⟩ | ⟨a, len', cap', zs, hcs, _, hl, hm, hz, _, hcell, hwz⟩
  · have e : Value.slice a0 len cap = .slice none 0 0 := by simpa [Value.cells] using hcs
    rw [e]
    exact ⟨[], Or.inl ⟨rfl, rfl⟩, by simp⟩
  · have e : Value.slice a0 len cap = .slice (some a) len' cap' := by simpa [Value.cells] using hcs
    rw [e]
    have hz' : zs.length = cap' := by simpa using hz
    have hlen : ((zs.take len').map Int.toNat).length = len' := by simp; omega
    have hw : ∀ n ∈ zs, 0 ≤ n ∧ n < 256 := by
      intro n hn
      have h1 := hwz n hn
      have e1 : IntKind.u8.min = 0 := rfl
      have e2 : IntKind.u8.max = 255 := rfl
      simp [Lit.wf, e1, e2] at h1
      omega
    refine ⟨(zs.take len').map Int.toNat, Or.inr ⟨a, cap', by rw [hlen], by omega, by unfold maxLen at hm; omega, fun hne => ?_⟩, by unfold maxLen at hm; omega⟩
    have hpos : 0 < len' := by
      rcases Nat.eq_zero_or_pos len' with h0 | h0
      · exfalso; apply hne; rw [h0]; simp
      · exact h0
    obtain ⟨b, o, rfl⟩ := plain_addr (by have := hcell 0 (by omega); simpa [Addr.add] using this)
    refine ⟨b, o, rfl, fun x hx => ?_, fun j hj => ?_⟩
    · obtain ⟨n, hn, rfl⟩ := List.mem_map.1 hx
      have := hw n (List.mem_of_mem_take hn)
      omega
    · rw [hlen] at hj
      have h1 := hcell j (by omega)
      rw [add_plain] at h1
      rw [h1]
      have hj2 : j < zs.length := by omega
      have h2 := hw zs[j] (List.getElem_mem hj2)
      congr 2
      simp [List.getD, hj, hj2]
      omega
end Go.Proofs.YtfnfcngkaepnjaaGreatDoor
