/- Joined texts: Package asm: Parse, plain; a line, of any number; what its walk needs. -/
import Derived.Test.YtfnfcngkaepnjaaGreatDoorQL37
import Derived.Test.YtfnfcngkaepnjaaGreatDoorQL13
/- Package asm: Parse, plain; a line, of any number; what its walk needs. -/
namespace Go.Proofs.YtfnfcngkaepnjaaGreatDoor
set_option linter.unusedVariables false
set_option linter.unusedSimpArgs false
open Go Go.Proofs Go.RowKit Go.Sort

/-- A text's lines: the pieces between the bytes 10. -/
def nlF (s : ByteArray) : List ByteArray := Lib.splitB ⟨#[10]⟩ 0 (Lib.countB s ⟨#[10]⟩) s
theorem nl_length (s : ByteArray) : (nlF s).length = Lib.countB s ⟨#[10]⟩ + 1 := splitB_length 10 s.size s (Nat.le_refl _)
theorem nl_size (s : ByteArray) : ∀ x ∈ nlF s, x.size ≤ s.size := splitB_size _ _ _
theorem nl_any (s : ByteArray) (hs : s.size < 4294967281) (w : World) (hE : EnvM w) :
    Calls Tryz.prog 66 #[.string s, .string ⟨#[10]⟩] w fun e w' => e = .returned (.slice (some ⟨w.heap.size, 0, none⟩) (nlF s).length (nlF s).length) ∧ w' = w.alloc (.cells ((nlF s).map Value.string).toArray 9) := by
  obtain ⟨m, hm⟩ := hE.mx
  refine (Tryz.strings_Split s ⟨#[10]⟩ m w hs hm (by show 1 ≤ 1; omega)).mono ?_
  rintro e w' ⟨rfl, rfl⟩
  exact ⟨by rw [nl_length], rfl⟩

/-- Does a text end with its last line? Its lines. -/
def endO (L0 : List ByteArray) : Bool := match L0[L0.length - 1]? with | some x => x.toList.isEmpty | none => false
def lnsO (L0 : List ByteArray) : List ByteArray := if endO L0 then L0.take (L0.length - 1) else L0
/-- What is told of lines: a program, or where it is wrong. -/
noncomputable def readO (L : List ByteArray) (ends : Bool) : Except Nat ProgM :=
  match linesO 0 L zeroP with
  | .error k => .error k
  | .ok P => if P.funcs.length = 0 then .error L.length else
    match wrongP P with
    | some (f, pc) => .error (placeF P.funcs f pc)
    | none => if rightP P = true ∧ ends = true then .ok P else .error L.length
/-- What Parse tells of a text. -/
def AsmQ (L : List ByteArray) (ends : Bool) (w : World) (e : Ending) (w' : World) : Prop :=
  (match readO L ends with
  | .error k => e = .returned (asmV (.slice none 0 0) 0 0 0 k 210)
  | .ok P => ∃ vf, e = .returned (asmV vf P.mu P.rw P.gr L.length 0) ∧ ArgF w' vf P.funcs) ∧ Below w.heap.size w w'

theorem wrongP_at {P : ProgM} {f pc : Nat} (h : wrongP P = some (f, pc)) : ∃ fn x, P.funcs[f]? = some fn ∧ fn.code[pc]? = some x := by
  unfold wrongP at h
  split at h
  · unfold wrongF at h
    split at h
    · rename_i hex
      have h2 := hex.choose_spec
      have h3 := Option.some.inj h
      rw [show Exists.choose hex = (f, pc) from h3] at h2
      obtain ⟨⟨fn, x, h4, h5, _⟩, _⟩ := h2
      exact ⟨fn, x, h4, h5⟩
    · cases h
  · cases h

/-- The lines' texts lie in a block. -/
def WdL (S : Nat) (L : List ByteArray) (w : World) : Prop := ∀ (j : Nat) x, L[j]? = some x → w.cell? ⟨S, j, none⟩ = some (.string x)
theorem WdL.bel {S : Nat} {L : List ByteArray} {w w' : World} (h : WdL S L w) (hb : Below w.heap.size w w') : WdL S L w' := fun j x hj => cell_bel (h j x hj) hb
theorem WdL.below {S B : Nat} {L : List ByteArray} {w w' : World} (h : WdL S L w) (hb : Below B w w') (hS : S < B) : WdL S L w' := fun j x hj => (cell_below hb hS).trans (h j x hj)
theorem WdL.take {S : Nat} {L : List ByteArray} {w : World} (h : WdL S L w) (n : Nat) : WdL S (L.take n) w := fun j x hj => h j x (by
  rw [List.getElem?_take] at hj
  split at hj
  · exact hj
  · cases hj)
theorem PaP.below {w0 : World} {vf : Value} {mu rw gr n e : Int} {B : Nat} {w w' : World} (h : PaP w0 vf mu rw gr n e w) (hb : Below B w w') (hB : w0.heap.size + 1 + 1 < B) : PaP w0 vf mu rw gr n e w' := by
  have c : ∀ b o, b < B → w'.cell? ⟨b, o, none⟩ = w.cell? ⟨b, o, none⟩ := fun b o h => cell_below hb h
  have f : ∀ b o, b < B → w'.frozen? ⟨b, o, none⟩ = w.frozen? ⟨b, o, none⟩ := fun b o h => froz_below hb h
  exact ⟨(c _ _ (by omega)).trans h.c0, (c _ _ (by omega)).trans h.c1, (c _ _ (by omega)).trans h.c2, (c _ _ (by omega)).trans h.c3, (c _ _ (by omega)).trans h.cn, (c _ _ (by omega)).trans h.ce, (f _ _ (by omega)).trans h.f0, (f _ _ (by omega)).trans h.f1, (f _ _ (by omega)).trans h.f2, (f _ _ (by omega)).trans h.f3, (f _ _ (by omega)).trans h.fn, (f _ _ (by omega)).trans h.fe, h.bel.trans (hb.mono (by omega))⟩

theorem RdB.new (W : World) (t : TypeId) : RdB (W.heap.size + 1) W.heap.size [] (.slice none 0 0) 0 0 0 (W.alloc (.cells #[.slice none 0 0, .int .i64 0, .int .i64 0, .int .i64 0] t)) :=
  ⟨cell_new _ _ _ _, cell_new _ _ _ _, cell_new _ _ _ _, cell_new _ _ _ _, World.frozen?_alloc_new _ _ _ _, World.frozen?_alloc_new _ _ _ _, World.frozen?_alloc_new _ _ _ _, World.frozen?_alloc_new _ _ _ _, RdF.nil, by omega, by simp⟩
theorem slice_str (ad : Addr) (n c k : Nat) (hk : k ≤ n) (hc : n ≤ c) (w : World) : (Instr.slice 67 (.slice (some ad) n c) none (some (.int .i64 k)) none).run Tryz.prog w = .ok (.slice (some ad) k c) w := by
  obtain ⟨i0, hi0, hz0, hz1, hz2⟩ := info_of rowS.hi
  have h2 : k ≤ c := by omega
  simp [Instr.slice, run_underlying Tryz.underlying67, Instr.sliceBounds, Instr.sliceBound, asIntOf, sizeOf, typeInfo, hi0, h2, Addr.add]
theorem lnsO_on {L0 : List ByteArray} {x : ByteArray} (h : L0[L0.length - 1]? = some x) (hx : x.toList.isEmpty = true) : endO L0 = true ∧ lnsO L0 = L0.take (L0.length - 1) := by
  have h1 : endO L0 = true := by unfold endO; rw [h]; exact hx
  exact ⟨h1, by unfold lnsO; rw [if_pos h1]⟩
theorem lnsO_off {L0 : List ByteArray} {x : ByteArray} (h : L0[L0.length - 1]? = some x) (hx : x.toList.isEmpty = false) : endO L0 = false ∧ lnsO L0 = L0 := by
  have h1 : endO L0 = false := by unfold endO; rw [h]; exact hx
  exact ⟨h1, by unfold lnsO; rw [h1, if_neg (by decide)]⟩

theorem touch_set6 (b : Nat) (w : World) (v0 v1 v2 v3 v4 v5 : Value) {T : Nat → Prop} (h0 : T b) (h1 : T (b + 1)) (h2 : T (b + 1 + 1)) :
    Touch T w ((((((w.setCell ⟨b, 0, none⟩ v0).setCell ⟨b, 1, none⟩ v1).setCell ⟨b, 2, none⟩ v2).setCell ⟨b, 3, none⟩ v3).setCell ⟨b + 1, 0, none⟩ v4).setCell ⟨b + 1 + 1, 0, none⟩ v5) :=
  (((((Touch.setCell _ _ _ h0).trans (Touch.setCell _ _ _ h0)).trans (Touch.setCell _ _ _ h0)).trans (Touch.setCell _ _ _ h0)).trans (Touch.setCell _ _ _ h1)).trans (Touch.setCell _ _ _ h2)

/-- One line, of any number. -/
theorem line_any (B R k : Nat) (hk2 : k ≤ 1000000) (s : ByteArray) (hs : s.size < 4294967281) (Q : List QFn) (vf : Value) (P : ProgM) (hS : Small k P) (w : World) (hE : EnvM w) (hQ : Q.map QFn.f = P.funcs) (h : RdB B R Q vf P.mu P.rw P.gr w) :
    Calls Tryz.prog 67 #[.pointer (some ⟨R, 0, none⟩), .int .i64 k, .string s] w (LineQ B R k s P w) := by
  match k, hk2, hS with
  | 0, _, _ => exact line_head0 B R s (by omega) Q vf P w hE.env hQ h
  | 1, _, _ => exact line_head1 B R s (by omega) Q vf P w hE.env hQ h
  | 2, _, _ => exact line_head2 B R s (by omega) Q vf P w hE.env hQ h
  | k + 3, hk2, hS =>
    have hql : Q.length ≤ 1000000 := by
      have h1 := hS.len
      rw [← hQ, List.length_map] at h1
      omega
    cases hp : isFn s with
    | true => exact line_func B R (k + 3) (by omega) hk2 s (by omega) hp Q hql vf P w hE.env hQ h
    | false =>
      refine line_ins B R (k + 3) (by omega) hk2 s hs hp Q hql (fun q hq => ?_) vf P w hE hQ h
      have h1 := hS.code q.f (by rw [← hQ]; exact List.mem_map_of_mem hq)
      omega
end Go.Proofs.YtfnfcngkaepnjaaGreatDoor
