/- Joined texts: Package asm: lines' meaning, plain; the line of a place.; Package asm: Parse, plain; a line, of any number; what its walk needs.; The reference of layer 11: a text's lines, plain. -/
import Derived.Test.YtfnfcngkaepnjaaGreatDoorQZ34
import Derived.Test.YtfnfcngkaepnjaaGreatDoorQZ13
import Derived.Test.YtfnfcngkaepnjaaGreatDoorQZ25
/- Package asm: lines' meaning, plain; the line of a place. -/
namespace Go.Proofs.YtfnfcngkaepnjaaGreatDoor
set_option linter.unusedVariables false
set_option linter.unusedSimpArgs false
open Go Go.Proofs Go.RowKit Go.Sort

/-- What lines do, from line k on: a program, or the line at which it is given up. -/
noncomputable def linesO (k : Nat) : List ByteArray → ProgM → Except Nat ProgM
  | [], P => .ok P
  | s :: L, P => match stepO k s P with | some P' => linesO (k + 1) L P' | none => .error k
def zeroP : ProgM := ⟨[], 0, 0, 0⟩

/-- How big what was read is; its words are words. -/
structure Small (n : Nat) (P : ProgM) : Prop where
  len : P.funcs.length ≤ n
  code : ∀ f ∈ P.funcs, f.code.length ≤ n
  fits : P.Fits
theorem small_zero : Small 0 zeroP := ⟨by simp [zeroP], fun f h => by simp [zeroP] at h, ⟨fun f h => by simp [zeroP] at h⟩⟩
theorem insO_fits {s : ByteArray} {x : InsM} (h : insO s = some x) : 0 ≤ x.m ∧ x.m < 4294967296 := by
  unfold insO at h
  split at h
  · rename_i hex
    have h2 := hex.choose_spec
    rw [Option.some.inj h] at h2
    exact h2.imm
  · cases h
theorem pushF_mem {F : List FnM} {x : InsM} {f : FnM} (h : f ∈ pushF F x) : f ∈ F ∨ ∃ g ∈ F, f = ⟨g.regs, g.code ++ [x]⟩ := by
  unfold pushF at h
  split at h
  · rename_i g hg
    rcases List.mem_or_eq_of_mem_set h with h | h
    · exact Or.inl h
    · exact Or.inr ⟨g, List.mem_of_getElem? hg, h⟩
  · exact Or.inl h
theorem pushF_length (F : List FnM) (x : InsM) : (pushF F x).length = F.length := by
  unfold pushF
  split <;> simp
theorem stepO_small {k n : Nat} {s : ByteArray} {P P' : ProgM} (h : Small n P) (hs : stepO k s P = some P') : Small (n + 1) P' := by
  have hmore : ∀ f ∈ P.funcs, f.code.length ≤ n + 1 := fun f hf => Nat.le_succ_of_le (h.code f hf)
  match k, hs with
  | 0, hs =>
    simp only [stepO, Option.map_eq_some_iff] at hs
    obtain ⟨m, _, rfl⟩ := hs
    exact ⟨Nat.le_succ_of_le h.len, hmore, ⟨h.fits.imm⟩⟩
  | 1, hs =>
    simp only [stepO, Option.map_eq_some_iff] at hs
    obtain ⟨m, _, rfl⟩ := hs
    exact ⟨Nat.le_succ_of_le h.len, hmore, ⟨h.fits.imm⟩⟩
  | 2, hs =>
    simp only [stepO, Option.map_eq_some_iff] at hs
    obtain ⟨m, _, rfl⟩ := hs
    exact ⟨Nat.le_succ_of_le h.len, hmore, ⟨h.fits.imm⟩⟩
  | k + 3, hs =>
    simp only [stepO] at hs
    split at hs
    · rw [Option.map_eq_some_iff] at hs
      obtain ⟨m, _, rfl⟩ := hs
      refine ⟨by simp; exact h.len, fun f hf => ?_, ⟨fun f hf => ?_⟩⟩
      · rcases List.mem_append.1 hf with hf | hf
        · exact hmore f hf
        · simp at hf; subst hf; simp
      · rcases List.mem_append.1 hf with hf | hf
        · exact h.fits.imm f hf
        · simp at hf; subst hf; intro x hx; simp at hx
    · split at hs
      · cases hs
      · rw [Option.map_eq_some_iff] at hs
        obtain ⟨x, hx, rfl⟩ := hs
        refine ⟨by rw [pushF_length]; exact Nat.le_succ_of_le h.len, fun f hf => ?_, ⟨fun f hf => ?_⟩⟩
        · rcases pushF_mem hf with hf | ⟨g, hg, rfl⟩
          · exact hmore f hf
          · simp; exact h.code g hg
        · rcases pushF_mem hf with hf | ⟨g, hg, rfl⟩
          · exact h.fits.imm f hf
          · intro y hy
            rcases List.mem_append.1 hy with hy | hy
            · exact h.fits.imm g hg y hy
            · simp at hy; subst hy; exact insO_fits hx

/-- The line of a place. -/
def placeF (F : List FnM) (f pc : Nat) : Nat := 3 + ((F.take f).map fun fn => 1 + fn.code.length).sum + 1 + pc
theorem place_take (F : List FnM) (k : Nat) (f : FnM) (h : F[k]? = some f) : ((F.take (k + 1)).map fun fn => 1 + fn.code.length).sum = ((F.take k).map fun fn => 1 + fn.code.length).sum + (1 + f.code.length) := by
  obtain ⟨h1, h2⟩ := List.getElem?_eq_some_iff.1 h
  rw [← List.take_append_getElem h1, List.map_append, List.sum_append, h2]
  simp
theorem place_le {F : List FnM} {n : Nat} (h : ∀ f ∈ F, f.code.length ≤ n) (k : Nat) : ((F.take k).map fun fn => 1 + fn.code.length).sum ≤ (n + 1) * F.length := by
  have : ∀ G : List FnM, (∀ f ∈ G, f.code.length ≤ n) → (G.map fun fn => 1 + fn.code.length).sum ≤ (n + 1) * G.length := by
    intro G
    induction G with
    | nil => simp
    | cons g G ih =>
      intro hG
      have h1 := hG g (by simp)
      have h2 := ih (fun f hf => hG f (by simp [hf]))
      simp only [List.map_cons, List.sum_cons, List.length_cons, Nat.mul_succ]
      omega
  refine Nat.le_trans (this _ (fun f hf => h f (List.mem_of_mem_take hf))) (Nat.mul_le_mul_left _ ?_)
  rw [List.length_take]
  omega

theorem slice_fn (ad : Addr) (n c k : Nat) (hk : k ≤ n) (hc : n ≤ c) (w : World) : (Instr.slice 56 (.slice (some ad) n c) none (some (.int .i64 k)) none).run Tryz.prog w = .ok (.slice (some ad) k c) w := by
  obtain ⟨i0, hi0, hz0, hz1, hz2⟩ := info_of rowFn.hi
  have h2 : k ≤ c := by omega
  simp [Instr.slice, run_underlying Tryz.underlying56, Instr.sliceBounds, Instr.sliceBound, asIntOf, sizeOf, typeInfo, hi0, h2, Addr.add]

set_option maxRecDepth 100000 in
set_option maxHeartbeats 2000000 in
theorem asmPlace_any (P : ProgM) (f pc : Nat) (hf : f < P.funcs.length) (hl : P.funcs.length ≤ 100000) (hc : ∀ fn ∈ P.funcs, fn.code.length ≤ 1000000) (hpc : pc ≤ 1000000) (v : Value) (w : World) (h : ArgP w v P) :
    Calls Tryz.prog 70 #[v, .agg #[.int .i64 f, .int .i64 pc]] w fun e w' => e = .returned (.int .i64 (placeF P.funcs f pc)) ∧ Below w.heap.size w w' := by
  obtain ⟨vf, rfl, hF⟩ := h
  obtain ⟨F, mu, rw0, gr⟩ := P
  dsimp only at hf hl hc hF ⊢
  obtain ⟨b, o, c, -, rfl, hcc, -, -, -⟩ := hF.at_ (List.getElem?_eq_getElem hf)
  have HPL := Lib.hid (show ∀ k, ((F.take k).map fun fn => 1 + fn.code.length).sum ≤ 100000100000 from fun k => by have h1 := place_le hc k; omega)
  have HL := Lib.hid hl
  have HSL := Lib.hid (fun W => slice_fn ⟨b, o, none⟩ F.length c f (Nat.le_of_lt hf) hcc W)
  have HF := Lib.hid hF
  have hb1 := bel1 (W := w) (.cells #[.slice (some ⟨b, o, none⟩) F.length c, .int .i64 mu, .int .i64 rw0, .int .i64 gr] 58)
  have HB2 := Lib.hid (belA hb1 (.cells #[.int .i64 f, .int .i64 pc] 43))
  have q0 := cell_al (cell_new w #[.slice (some ⟨b, o, none⟩) F.length c, .int .i64 mu, .int .i64 rw0, .int .i64 gr] 58 0) (.cells #[.int .i64 f, .int .i64 pc] 43)
  have q1 := cell_two w (.cells #[.slice (some ⟨b, o, none⟩) F.length c, .int .i64 mu, .int .i64 rw0, .int .i64 gr] 58) #[.int .i64 f, .int .i64 pc] 43 0
  have q2 := cell_two w (.cells #[.slice (some ⟨b, o, none⟩) F.length c, .int .i64 mu, .int .i64 rw0, .int .i64 gr] 58) #[.int .i64 f, .int .i64 pc] 43 1
  have HC := Lib.hid hc
  have hsl := HSL.out
  clear hF hb1 hc hcc hl
  go_enter Tryz.func70, Tryz.ntmps70
  go_wp2_with fail
  refine (heads_any _).mono ?_
  rintro e w2 ⟨rfl, hb2⟩
  have q0 := cell_bel q0 hb2
  have q1 := cell_bel q1 hb2
  have Q2 := Lib.hid (cell_bel q2 hb2)
  have HB3 := Lib.hid (belT HB2.out hb2)
  clear hb2 HB2 q2
  go_wp2_with fail
  clear hsl q0 q1
  generalize hS : (fun k : Nat => ((F.take k).map fun fn => 1 + fn.code.length).sum) = S at HPL
  have HS0 := Lib.hid (show S 0 = 0 by rw [← hS]; simp)
  have HSt := Lib.hid (show ∀ k x, F[k]? = some x → S (k + 1) = S k + (1 + x.code.length) from fun k x hx => by rw [← hS]; exact place_take F k x hx)
  have HSf := Lib.hid (show placeF F f pc = 3 + S f + 1 + pc by rw [← hS]; rfl)
  have HPL := Lib.hid (show ∀ k, S k ≤ 100000100000 from fun k => by have := HPL.out k; rw [← hS]; exact this)
  clear hS
  go_loopw [5, 16] (fun vn vi wr => ∃ k : Nat, vi = .int .i64 k ∧ vn = .int .i64 (3 + (S k : Int)) ∧ k ≤ f ∧ Hid (Below w2.heap.size w2 wr)) (fun _ vi _ => f - (intOf vi).toNat)
  case atStart => exact ⟨0, rfl, by rw [HS0.out]; rfl, by omega, Lib.hid (Below.refl _ _)⟩
  case round =>
    obtain ⟨k, rfl, rfl, hk, HBr⟩ := hrel
    have s1 := HPL.out k
    have s2 := HPL.out (k + 1)
    have s3 := HL.out
    by_cases hlt : k < f
    · obtain ⟨x, hx⟩ : ∃ x, F[k]? = some x := ⟨F[k]'(by omega), List.getElem?_eq_getElem _⟩
      obtain ⟨b', o', c', vc, hv, -, x0, x1, hcd⟩ := (HF.out.bel (belT HB3.out HBr.out)).at_ hx
      simp only [Value.slice.injEq, Option.some.injEq, Addr.mk.injEq, true_and, and_true] at hv
      obtain ⟨⟨rfl, rfl⟩, rfl⟩ := hv
      obtain ⟨ac, cc, rfl⟩ := hcd.form
      have hst := HSt.out k x hx
      have HST := Lib.hid hst
      have HBn := Lib.hid (belA HBr.out (.cells #[.int .i64 x.regs, .slice ac x.code.length cc] 114))
      have hck := HC.out x (List.mem_of_getElem? hx)
      have m1 : IntKind.i64.wrap (1 + (x.code.length : Int)) = 1 + (x.code.length : Int) := by rw [IntKind.wrap_i64]; omega
      have m2 : IntKind.i64.wrap (3 + (S k : Int) + (1 + (x.code.length : Int))) = 3 + (S k : Int) + (1 + (x.code.length : Int)) := by rw [IntKind.wrap_i64]; omega
      clear hcd hx hst s1 s2
      go_wp2_with fail
      exact ⟨⟨k + 1, by go_num, by rw [HST.out]; congr 1; omega, by omega, HBn⟩, by simp [intOf]; omega⟩
    · have hk2 : k = f := by omega
      subst hk2
      have q2 := cell_bel Q2.out HBr.out
      have m1 : IntKind.i64.wrap (3 + (S k : Int) + 1) = 3 + (S k : Int) + 1 := by rw [IntKind.wrap_i64]; omega
      have m2 : IntKind.i64.wrap (3 + (S k : Int) + 1 + (pc : Int)) = 3 + (S k : Int) + 1 + (pc : Int) := by rw [IntKind.wrap_i64]; omega
      clear s1 s2 s3
      go_wp2_with fail
      go_ret
      exact ⟨by rw [HSf.out]; congr 3, belT HB3.out HBr.out⟩
end Go.Proofs.YtfnfcngkaepnjaaGreatDoor

/- Package asm: Parse, plain; a line, of any number; what its walk needs. -/
namespace Go.Proofs.YtfnfcngkaepnjaaGreatDoor
set_option linter.unusedVariables false
set_option linter.unusedSimpArgs false
open Go Go.Proofs Go.RowKit Go.Sort

/-- A text's lines: the pieces between the bytes 10. -/
def nlF (s : ByteArray) : List ByteArray := Lib.splitB ⟨#[10]⟩ 0 (Lib.countB s ⟨#[10]⟩) s
theorem nl_length (s : ByteArray) : (nlF s).length = Lib.countB s ⟨#[10]⟩ + 1 := splitB_length 10 s.size s (Nat.le_refl _)
theorem nl_size (s : ByteArray) : ∀ x ∈ nlF s, x.size ≤ s.size := splitB_size _ _ _
theorem nl_le (s : ByteArray) : (nlF s).length ≤ s.size + 1 := by
  rw [nl_length]
  have := Lib.countB_le ⟨#[10]⟩ (by show 1 ≤ 1; omega) s.size s (Nat.le_refl _)
  omega
theorem nl_any (s : ByteArray) (hs : s.size < 4294967281) (w : World) (hE : EnvM w) :
    Calls Tryz.prog 66 #[.string s, .string ⟨#[10]⟩] w fun e w' => e = .returned (.slice (some ⟨w.heap.size, 0, none⟩) (nlF s).length (nlF s).length) ∧ w' = w.alloc (.cells ((nlF s).map Value.string).toArray 9) := by
  obtain ⟨m, hm⟩ := hE.mx
  refine (Tryz.strings_Split s ⟨#[10]⟩ m w hs hm (by show 1 ≤ 1; omega)).mono ?_
  rintro e w' ⟨rfl, rfl⟩
  exact ⟨by rw [nl_length], rfl⟩

/-- Does a text end with its last line? Its lines. -/
def endO (L0 : List ByteArray) : Bool := match L0[L0.length - 1]? with | some x => x.toList.isEmpty | none => false
def lnsO (L0 : List ByteArray) : List ByteArray := if endO L0 then L0.take (L0.length - 1) else L0
/-- What is told of lines: a program, or where it is wrong. -/
noncomputable def readO (L : List ByteArray) (ends : Bool) : Except Nat ProgM :=
  match linesO 0 L zeroP with
  | .error k => .error k
  | .ok P => if P.funcs.length = 0 then .error L.length else
    match wrongP P with
    | some (f, pc) => .error (placeF P.funcs f pc)
    | none => if rightP P = true ∧ ends = true then .ok P else .error L.length
/-- What Parse tells of a text. -/
def AsmQ (L : List ByteArray) (ends : Bool) (w : World) (e : Ending) (w' : World) : Prop :=
  (match readO L ends with
  | .error k => e = .returned (asmV (.slice none 0 0) 0 0 0 k 210)
  | .ok P => ∃ vf, e = .returned (asmV vf P.mu P.rw P.gr L.length 0) ∧ ArgF w' vf P.funcs) ∧ Below w.heap.size w w'

theorem wrongP_at {P : ProgM} {f pc : Nat} (h : wrongP P = some (f, pc)) : ∃ fn x, P.funcs[f]? = some fn ∧ fn.code[pc]? = some x := by
  unfold wrongP at h
  split at h
  · unfold wrongF at h
    split at h
    · rename_i hex
      have h2 := hex.choose_spec
      have h3 := Option.some.inj h
      rw [show Exists.choose hex = (f, pc) from h3] at h2
      obtain ⟨⟨fn, x, h4, h5, _⟩, _⟩ := h2
      exact ⟨fn, x, h4, h5⟩
    · cases h
  · cases h

/-- The lines' texts lie in a block. -/
def WdL (S : Nat) (L : List ByteArray) (w : World) : Prop := ∀ (j : Nat) x, L[j]? = some x → w.cell? ⟨S, j, none⟩ = some (.string x)
theorem WdL.bel {S : Nat} {L : List ByteArray} {w w' : World} (h : WdL S L w) (hb : Below w.heap.size w w') : WdL S L w' := fun j x hj => cell_bel (h j x hj) hb
theorem WdL.below {S B : Nat} {L : List ByteArray} {w w' : World} (h : WdL S L w) (hb : Below B w w') (hS : S < B) : WdL S L w' := fun j x hj => (cell_below hb hS).trans (h j x hj)
theorem WdL.take {S : Nat} {L : List ByteArray} {w : World} (h : WdL S L w) (n : Nat) : WdL S (L.take n) w := fun j x hj => h j x (by
  rw [List.getElem?_take] at hj
  split at hj
  · exact hj
  · cases hj)
theorem PaP.below {w0 : World} {vf : Value} {mu rw gr n e : Int} {B : Nat} {w w' : World} (h : PaP w0 vf mu rw gr n e w) (hb : Below B w w') (hB : w0.heap.size + 1 + 1 < B) : PaP w0 vf mu rw gr n e w' := by
  have c : ∀ b o, b < B → w'.cell? ⟨b, o, none⟩ = w.cell? ⟨b, o, none⟩ := fun b o h => cell_below hb h
  have f : ∀ b o, b < B → w'.frozen? ⟨b, o, none⟩ = w.frozen? ⟨b, o, none⟩ := fun b o h => froz_below hb h
  exact ⟨(c _ _ (by omega)).trans h.c0, (c _ _ (by omega)).trans h.c1, (c _ _ (by omega)).trans h.c2, (c _ _ (by omega)).trans h.c3, (c _ _ (by omega)).trans h.cn, (c _ _ (by omega)).trans h.ce, (f _ _ (by omega)).trans h.f0, (f _ _ (by omega)).trans h.f1, (f _ _ (by omega)).trans h.f2, (f _ _ (by omega)).trans h.f3, (f _ _ (by omega)).trans h.fn, (f _ _ (by omega)).trans h.fe, h.bel.trans (hb.mono (by omega))⟩

theorem RdB.new (W : World) (t : TypeId) : RdB (W.heap.size + 1) W.heap.size [] (.slice none 0 0) 0 0 0 (W.alloc (.cells #[.slice none 0 0, .int .i64 0, .int .i64 0, .int .i64 0] t)) :=
  ⟨cell_new _ _ _ _, cell_new _ _ _ _, cell_new _ _ _ _, cell_new _ _ _ _, World.frozen?_alloc_new _ _ _ _, World.frozen?_alloc_new _ _ _ _, World.frozen?_alloc_new _ _ _ _, World.frozen?_alloc_new _ _ _ _, RdF.nil, by omega, by simp⟩
theorem slice_str (ad : Addr) (n c k : Nat) (hk : k ≤ n) (hc : n ≤ c) (w : World) : (Instr.slice 67 (.slice (some ad) n c) none (some (.int .i64 k)) none).run Tryz.prog w = .ok (.slice (some ad) k c) w := by
  obtain ⟨i0, hi0, hz0, hz1, hz2⟩ := info_of rowS.hi
  have h2 : k ≤ c := by omega
  simp [Instr.slice, run_underlying Tryz.underlying67, Instr.sliceBounds, Instr.sliceBound, asIntOf, sizeOf, typeInfo, hi0, h2, Addr.add]
theorem lnsO_on {L0 : List ByteArray} {x : ByteArray} (h : L0[L0.length - 1]? = some x) (hx : x.toList.isEmpty = true) : endO L0 = true ∧ lnsO L0 = L0.take (L0.length - 1) := by
  have h1 : endO L0 = true := by unfold endO; rw [h]; exact hx
  exact ⟨h1, by unfold lnsO; rw [if_pos h1]⟩
theorem lnsO_off {L0 : List ByteArray} {x : ByteArray} (h : L0[L0.length - 1]? = some x) (hx : x.toList.isEmpty = false) : endO L0 = false ∧ lnsO L0 = L0 := by
  have h1 : endO L0 = false := by unfold endO; rw [h]; exact hx
  exact ⟨h1, by unfold lnsO; rw [h1, if_neg (by decide)]⟩

theorem touch_set6 (b : Nat) (w : World) (v0 v1 v2 v3 v4 v5 : Value) {T : Nat → Prop} (h0 : T b) (h1 : T (b + 1)) (h2 : T (b + 1 + 1)) :
    Touch T w ((((((w.setCell ⟨b, 0, none⟩ v0).setCell ⟨b, 1, none⟩ v1).setCell ⟨b, 2, none⟩ v2).setCell ⟨b, 3, none⟩ v3).setCell ⟨b + 1, 0, none⟩ v4).setCell ⟨b + 1 + 1, 0, none⟩ v5) :=
  (((((Touch.setCell _ _ _ h0).trans (Touch.setCell _ _ _ h0)).trans (Touch.setCell _ _ _ h0)).trans (Touch.setCell _ _ _ h0)).trans (Touch.setCell _ _ _ h1)).trans (Touch.setCell _ _ _ h2)

/-- One line, of any number. -/
theorem line_any (B R k : Nat) (hk2 : k ≤ 1000000) (s : ByteArray) (hs : s.size < 4294967281) (Q : List QFn) (vf : Value) (P : ProgM) (hS : Small k P) (w : World) (hE : EnvM w) (hQ : Q.map QFn.f = P.funcs) (h : RdB B R Q vf P.mu P.rw P.gr w) :
    Calls Tryz.prog 67 #[.pointer (some ⟨R, 0, none⟩), .int .i64 k, .string s] w (LineQ B R k s P w) := by
  match k, hk2, hS with
  | 0, _, _ => exact line_head0 B R s (by omega) Q vf P w hE.env hQ h
  | 1, _, _ => exact line_head1 B R s (by omega) Q vf P w hE.env hQ h
  | 2, _, _ => exact line_head2 B R s (by omega) Q vf P w hE.env hQ h
  | k + 3, hk2, hS =>
    have hql : Q.length ≤ 1000000 := by
      have h1 := hS.len
      rw [← hQ, List.length_map] at h1
      omega
    cases hp : isFn s with
    | true => exact line_func B R (k + 3) (by omega) hk2 s (by omega) hp Q hql vf P w hE.env hQ h
    | false =>
      refine line_ins B R (k + 3) (by omega) hk2 s hs hp Q hql (fun q hq => ?_) vf P w hE hQ h
      have h1 := hS.code q.f (by rw [← hQ]; exact List.mem_map_of_mem hq)
      omega
end Go.Proofs.YtfnfcngkaepnjaaGreatDoor

/- The reference of layer 11: a text's lines, plain. -/
namespace Go.Proofs.YtfnfcngkaepnjaaGreatDoor
set_option linter.unusedVariables false
open Go Go.Proofs Go.RowKit Go.Sort

theorem nl_hit (s : ByteArray) (i : Nat) (hi : Lib.indexB s ⟨#[10]⟩ = i) : nlF s = s.extract 0 i :: nlF (s.extract (i + 1) s.size) := by
  unfold nlF
  rw [Lib.countB_hit s ⟨#[10]⟩ i (by show 1 ≤ 1; omega) hi, Nat.add_comm 1, Lib.splitB_hit _ _ _ _ i hi]
  rfl
theorem nl_miss (s : ByteArray) (hi : Lib.indexB s ⟨#[10]⟩ = -1) : nlF s = [s] := by
  unfold nlF
  exact Lib.splitB_miss _ _ _ _ hi
theorem index_at10 (l : List UInt8) (k : Nat) (h : k < l.length) (hk : l[k] = 10) (hn : ∀ j (hj : j < k), l[j]'(by omega) ≠ 10) : Lib.indexByte l 10 = k := by
  have e : l = l.take k ++ 10 :: l.drop (k + 1) := by
    conv => lhs; rw [← List.take_append_drop k l, List.drop_eq_getElem_cons h, hk]
  rw [e, index_behind 10 (l.take k) _ (fun hm => by
    obtain ⟨j, hj, he⟩ := List.mem_iff_getElem.1 hm
    rw [List.length_take] at hj
    rw [List.getElem_take] at he
    exact hn j (by omega) he), List.length_take]
  omega
/-- One step of going over a text's lines. -/
theorem nl_step (s : ByteArray) (f i : Nat) (hf : f ≤ i) (hi : i < s.size) (h : s[i] = 10) (hn : ∀ j (hj : f ≤ j ∧ j < i), s[j]'(by omega) ≠ 10) :
    nlF (s.extract f s.size) = s.extract f i :: nlF (s.extract (i + 1) s.size) := by
  have hl : (s.extract f s.size).data.toList = s.data.toList.drop f := by
    rw [ext_list, List.take_of_length_le (by rw [← Lib.size_eq]; exact Nat.le_refl _)]
  have hix : Lib.indexB (s.extract f s.size) ⟨#[10]⟩ = ((i - f : Nat) : Int) := by
    show Lib.index (s.extract f s.size).data.toList [10] = _
    rw [Lib.index_one, hl]
    refine index_at10 _ _ (by rw [List.length_drop, ← Lib.size_eq]; omega) ?_ ?_
    · rw [List.getElem_drop]
      have : f + (i - f) = i := by omega
      simp only [this]
      exact h
    · intro j hj
      rw [List.getElem_drop]
      exact hn (f + j) ⟨by omega, by omega⟩
  rw [nl_hit _ _ hix]
  congr 1
  · rw [ByteArray.extract_extract]
    congr 1
    · omega
  · congr 1
    rw [ByteArray.extract_extract, ByteArray.size_extract]
    congr 1 <;> omega
theorem nl_last (s : ByteArray) (f : Nat) (hf : f ≤ s.size) (hn : ∀ j (hj : f ≤ j ∧ j < s.size), s[j]'(hj.2) ≠ 10) : nlF (s.extract f s.size) = [s.extract f s.size] := by
  refine nl_miss _ ?_
  show Lib.index (s.extract f s.size).data.toList [10] = _
  have hl : (s.extract f s.size).data.toList = s.data.toList.drop f := by
    rw [ext_list, List.take_of_length_le (by rw [← Lib.size_eq]; exact Nat.le_refl _)]
  rw [Lib.index_one, hl]
  refine index_not _ _ (fun hm => ?_)
  obtain ⟨j, hj, he⟩ := List.mem_iff_getElem.1 hm
  rw [List.length_drop, ← Lib.size_eq] at hj
  rw [List.getElem_drop] at he
  exact hn (f + j) ⟨by omega, by omega⟩ he

/-- Where Cut stands. -/
structure NlI (s : ByteArray) (i f : Nat) (done : List ByteArray) : Prop where
  le : i ≤ s.size
  len : done.length ≤ i
  fle : f ≤ i
  on : done ++ nlF (s.extract f s.size) = nlF s
  no : ∀ j (hj : f ≤ j ∧ j < i) (h : j < s.size), s[j] ≠ 10
  bk : f = 0 ∨ ∃ h : f - 1 < s.size, s[f - 1] = 10
  cnt : done.length = (s.data.toList.take i).count 10
  jo : joinedF done ++ s.data.toList.drop f = s.data.toList
theorem drop_split (s : ByteArray) (f i : Nat) (hf : f ≤ i) (hi : i < s.size) : s.data.toList.drop f = (s.extract f i).data.toList ++ s[i] :: s.data.toList.drop (i + 1) := by
  have hi2 : i < s.data.toList.length := by rw [← Lib.size_eq]; exact hi
  rw [ext_list, bytes_at s i hi, ← List.drop_eq_getElem_cons hi2, List.drop_take]
  have h := List.take_append_drop (i - f) (s.data.toList.drop f)
  rw [List.drop_drop, show f + (i - f) = i by omega] at h
  exact h.symm
theorem joinedF_snoc (L : List ByteArray) (x : ByteArray) : joinedF (L ++ [x]) = joinedF L ++ x.data.toList ++ [10] := by
  unfold joinedF
  rw [List.flatMap_append]
  simp
theorem take_count (s : ByteArray) (i : Nat) (hi : i < s.size) : (s.data.toList.take (i + 1)).count 10 = (s.data.toList.take i).count 10 + (if s[i] = 10 then 1 else 0) := by
  have hi2 : i < s.data.toList.length := by rw [← Lib.size_eq]; exact hi
  rw [← List.take_append_getElem hi2, List.count_append, bytes_at s i hi, List.count_singleton]
  simp
theorem nlI_start (s : ByteArray) : NlI s 0 0 [] := ⟨by omega, Nat.le_refl _, Nat.le_refl _, by rw [ByteArray.extract_zero_size]; rfl, fun j hj => by omega, Or.inl rfl, by simp, by simp [joinedF]⟩
theorem NlI.cut {s : ByteArray} {i f : Nat} {done : List ByteArray} (h : NlI s i f done) (hi : i < s.size) (hc : s[i] = 10) : NlI s (i + 1) (i + 1) (done ++ [s.extract f i]) := by
  refine ⟨hi, by rw [List.length_append]; have := h.len; simp; omega, Nat.le_refl _, ?_, fun j hj => by omega, Or.inr ⟨by omega, by simpa using hc⟩, by rw [take_count s i hi, if_pos hc, List.length_append, h.cnt]; rfl, ?_⟩
  · rw [← h.on, nl_step s f i h.fle hi hc (fun j hj => h.no j hj (by omega)), List.append_assoc]
    rfl
  · have h1 := h.jo
    rw [drop_split s f i h.fle hi, hc] at h1
    rw [joinedF_snoc]
    simpa using h1
theorem NlI.on1 {s : ByteArray} {i f : Nat} {done : List ByteArray} (h : NlI s i f done) (hi : i < s.size) (hc : s[i] ≠ 10) : NlI s (i + 1) f done := by
  refine ⟨hi, by have := h.len; omega, by have := h.fle; omega, h.on, fun j hj hjs => ?_, h.bk, by rw [take_count s i hi, if_neg hc, h.cnt]; rfl, h.jo⟩
  by_cases e : j = i
  · subst e; exact hc
  · exact h.no j (by omega) hjs
theorem NlI.nl {s : ByteArray} {f : Nat} {done : List ByteArray} (h : NlI s s.size f done) : nlF s = done ++ [s.extract f s.size] := by
  rw [← h.on, nl_last s f h.fle (fun j hj => h.no j hj hj.2)]
theorem ext_empty (s : ByteArray) (f : Nat) (hf : f ≤ s.size) : (s.extract f s.size).toList.isEmpty = decide (f = s.size) := by
  have hl : (s.extract f s.size).data.toList.length = s.size - f := by rw [← Lib.size_eq, ByteArray.size_extract]; omega
  rw [toList_data]
  cases h : (s.extract f s.size).data.toList with
  | nil => rw [h] at hl; simp at hl; exact (decide_eq_true (by omega)).symm
  | cons x l => rw [h] at hl; simp at hl; exact (decide_eq_false (by omega)).symm
theorem NlI.fin {s : ByteArray} {f : Nat} {done : List ByteArray} (h : NlI s s.size f done) : (f < s.size → lnsO (nlF s) = done ++ [s.extract f s.size] ∧ endO (nlF s) = false) ∧ (f = s.size → lnsO (nlF s) = done ∧ endO (nlF s) = true) := by
  have hl : (nlF s)[(nlF s).length - 1]? = some (s.extract f s.size) := by rw [h.nl]; simp
  constructor
  · intro hf
    obtain ⟨h1, h2⟩ := lnsO_off hl (by rw [ext_empty s f h.fle]; exact decide_eq_false (by omega))
    exact ⟨h2.trans h.nl, h1⟩
  · intro hf
    obtain ⟨h1, h2⟩ := lnsO_on hl (by rw [ext_empty s f h.fle]; exact decide_eq_true hf)
    refine ⟨?_, h1⟩
    rw [h2, h.nl]
    simp
theorem nlI_ex (s : ByteArray) : ∀ i, i ≤ s.size → ∃ f done, NlI s i f done
  | 0, _ => ⟨0, [], nlI_start s⟩
  | i + 1, hi => by
    obtain ⟨f, done, h⟩ := nlI_ex s i (by omega)
    by_cases hc : s[i]'(by omega) = 10
    · exact ⟨_, _, h.cut (by omega) hc⟩
    · exact ⟨_, _, h.on1 (by omega) hc⟩
/-- A text ends with its last line just if its last byte is 10. -/
theorem end_byte (s : ByteArray) (h0 : 0 < s.size) : endO (nlF s) = decide (s[s.size - 1] = 10) := by
  obtain ⟨f, done, h⟩ := nlI_ex s s.size (Nat.le_refl _)
  by_cases hf : f < s.size
  · rw [(h.fin.1 hf).2]
    exact (decide_eq_false (h.no (s.size - 1) ⟨by omega, by omega⟩ (by omega))).symm
  · have hf2 : f = s.size := by have := h.fle; omega
    rw [(h.fin.2 hf2).2]
    rcases h.bk with hb | ⟨hb, hc⟩
    · omega
    · subst hf2
      exact (decide_eq_true hc).symm
/-- How many lines a text has. -/
theorem nl_count (s : ByteArray) : (nlF s).length = s.data.toList.count 10 + 1 := by
  obtain ⟨f, done, h⟩ := nlI_ex s s.size (Nat.le_refl _)
  have h1 := h.cnt
  rw [List.take_of_length_le (by rw [← Lib.size_eq]; exact Nat.le_refl _)] at h1
  rw [h.nl, List.length_append, h1]
  rfl
/-- A text that ends with its last line is its lines, joined. -/
theorem text_back (s : ByteArray) (h : endO (nlF s) = true) : joinedF (lnsO (nlF s)) = s.data.toList := by
  obtain ⟨f, done, hI⟩ := nlI_ex s s.size (Nat.le_refl _)
  by_cases hf : f < s.size
  · rw [(hI.fin.1 hf).2] at h
    cases h
  · have hf2 : f = s.size := by have := hI.fle; omega
    rw [(hI.fin.2 hf2).1]
    have h1 := hI.jo
    rw [List.drop_of_length_le (by rw [← Lib.size_eq]; omega), List.append_nil] at h1
    exact h1
end Go.Proofs.YtfnfcngkaepnjaaGreatDoor
