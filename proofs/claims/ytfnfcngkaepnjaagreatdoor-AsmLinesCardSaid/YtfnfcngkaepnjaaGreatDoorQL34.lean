/- Joined texts: Package asm: a line's meaning, plain; the reader's block. -/
import Derived.Test.YtfnfcngkaepnjaaGreatDoorQL33
import Derived.Test.YtfnfcngkaepnjaaGreatDoorQL28
import Derived.Test.YtfnfcngkaepnjaaGreatDoorQL15
/- Package asm: a line's meaning, plain; the reader's block. -/
namespace Go.Proofs.YtfnfcngkaepnjaaGreatDoor
set_option linter.unusedVariables false
set_option linter.unusedSimpArgs false
open Go Go.Proofs Go.RowKit Go.Sort

/-- The number of a line, behind a word; the instruction of a line. -/
noncomputable def numO (word s : ByteArray) : Option Int := open Classical in if h : ∃ n : Int, 0 ≤ n ∧ n ≤ 999 ∧ s = lineF word n then some h.choose else none
noncomputable def insO (s : ByteArray) : Option InsM := open Classical in if h : ∃ x : InsM, IsT s x.op x.a x.b x.c x.m then some h.choose else none
theorem dec_inj {m n : Nat} (hm : m ≤ 999) (hn : n ≤ 999) (h : Lib.decDigits m = Lib.decDigits n) : m = n := by
  have h1 := pu10_dec m (by omega)
  have h2 := pu10_dec n (by omega)
  rw [h, h2] at h1
  injection h1 with h1
  exact h1.symm
theorem lineF_inj {word : ByteArray} {m n : Int} (hm : 0 ≤ m ∧ m ≤ 999) (hn : 0 ≤ n ∧ n ≤ 999) (h : lineF word m = lineF word n) : m = n := by
  have h1 := trim_line word (lineF word m) m hm.1 rfl
  have h2 := trim_line word (lineF word m) n hn.1 h
  rw [h1] at h2
  have := dec_inj (by omega) (by omega) h2
  omega
theorem numO_yes {word s : ByteArray} {n : Int} (h : NumL word s n true) : numO word s = some n := by
  have h1 := h.yes rfl
  have hex : ∃ n : Int, 0 ≤ n ∧ n ≤ 999 ∧ s = lineF word n := ⟨n, h1⟩
  unfold numO
  rw [dif_pos hex]
  have h2 := hex.choose_spec
  congr 1
  exact lineF_inj ⟨h2.1, h2.2.1⟩ ⟨h1.1, h1.2.1⟩ (by rw [← h2.2.2, ← h1.2.2])
theorem numO_no {word s : ByteArray} {n : Int} (h : NumL word s n false) : numO word s = none := by
  unfold numO
  rw [dif_neg (fun ⟨m, h0, h1, h2⟩ => h.no rfl m h0 h1 h2)]
theorem insO_yes {s : ByteArray} {x : InsM} (h : IsT s x.op x.a x.b x.c x.m) : insO s = some x := by
  have hex : ∃ x : InsM, IsT s x.op x.a x.b x.c x.m := ⟨x, h⟩
  unfold insO
  rw [dif_pos hex]
  have h2 := hex.choose_spec
  congr 1
  generalize hex.choose = y at h2
  obtain ⟨h3, h4, h5, h6, h7⟩ := isT_inj h2 h
  cases x
  cases y
  simp_all
theorem insO_no {s : ByteArray} (h : ∀ op a b c m, ¬ IsT s op a b c m) : insO s = none := by
  unfold insO
  rw [dif_neg (fun ⟨x, hx⟩ => h _ _ _ _ _ hx)]

/-- An instruction more, of the last function. -/
def pushF (F : List FnM) (x : InsM) : List FnM := match F[F.length - 1]? with | some f => F.set (F.length - 1) ⟨f.regs, f.code ++ [x]⟩ | none => F
def isFn (s : ByteArray) : Bool := Lib.hasPrefix s.data.toList (wFn.data.toList ++ [32])
/-- What a line does to the program that was read. -/
noncomputable def stepO (k : Nat) (s : ByteArray) (P : ProgM) : Option ProgM :=
  match k with
  | 0 => (numO wMu s).map fun n => { P with mu := n }
  | 1 => (numO wRw s).map fun n => { P with rw := n }
  | 2 => (numO wGr s).map fun n => { P with gr := n }
  | _ => if isFn s then (numO wFn s).map fun n => { P with funcs := P.funcs ++ [⟨n, []⟩] } else if P.funcs.length = 0 then none else (insO s).map fun x => { P with funcs := pushF P.funcs x }

/-- The reader's block, and the functions that were read. -/
structure RdB (B R : Nat) (Q : List QFn) (vf : Value) (mu rw gr : Int) (w : World) : Prop where
  c0 : w.cell? ⟨R, 0, none⟩ = some vf
  c1 : w.cell? ⟨R, 1, none⟩ = some (.int .i64 mu)
  c2 : w.cell? ⟨R, 2, none⟩ = some (.int .i64 rw)
  c3 : w.cell? ⟨R, 3, none⟩ = some (.int .i64 gr)
  f0 : w.frozen? ⟨R, 0, none⟩ = false
  f1 : w.frozen? ⟨R, 1, none⟩ = false
  f2 : w.frozen? ⟨R, 2, none⟩ = false
  f3 : w.frozen? ⟨R, 3, none⟩ = false
  fns : RdF B Q vf w
  hR : R < B
  hB : B ≤ w.heap.size
theorem RdB.bel {B R : Nat} {Q : List QFn} {vf : Value} {mu rw gr : Int} {w w' : World} (h : RdB B R Q vf mu rw gr w) (hb : Below w.heap.size w w') : RdB B R Q vf mu rw gr w' :=
  ⟨cell_bel h.c0 hb, cell_bel h.c1 hb, cell_bel h.c2 hb, cell_bel h.c3 hb, froz_bel h.c0 h.f0 hb, froz_bel h.c1 h.f1 hb, froz_bel h.c2 h.f2 hb, froz_bel h.c3 h.f3 hb, h.fns.bel hb, h.hR, Nat.le_trans h.hB hb.size⟩
theorem RdB.set1 {B R : Nat} {Q : List QFn} {vf : Value} {mu rw gr : Int} {w : World} (h : RdB B R Q vf mu rw gr w) (n : Int) : RdB B R Q vf n rw gr (w.setCell ⟨R, 1, none⟩ (.int .i64 n)) :=
  ⟨(World.cell?_setCell_other _ _ _ _ (by simp)).trans h.c0, World.cell?_setCell_same _ _ _ h.c1, (World.cell?_setCell_other _ _ _ _ (by simp)).trans h.c2, (World.cell?_setCell_other _ _ _ _ (by simp)).trans h.c3, (World.frozen?_setCell ..).trans h.f0, (World.frozen?_setCell ..).trans h.f1, (World.frozen?_setCell ..).trans h.f2, (World.frozen?_setCell ..).trans h.f3, h.fns.touch (T := fun b => b = R) (Touch.setCell _ _ _ rfl) (fun b hb => by have := h.hR; omega), h.hR, by have := h.hB; simp; omega⟩
theorem RdB.set2 {B R : Nat} {Q : List QFn} {vf : Value} {mu rw gr : Int} {w : World} (h : RdB B R Q vf mu rw gr w) (n : Int) : RdB B R Q vf mu n gr (w.setCell ⟨R, 2, none⟩ (.int .i64 n)) :=
  ⟨(World.cell?_setCell_other _ _ _ _ (by simp)).trans h.c0, (World.cell?_setCell_other _ _ _ _ (by simp)).trans h.c1, World.cell?_setCell_same _ _ _ h.c2, (World.cell?_setCell_other _ _ _ _ (by simp)).trans h.c3, (World.frozen?_setCell ..).trans h.f0, (World.frozen?_setCell ..).trans h.f1, (World.frozen?_setCell ..).trans h.f2, (World.frozen?_setCell ..).trans h.f3, h.fns.touch (T := fun b => b = R) (Touch.setCell _ _ _ rfl) (fun b hb => by have := h.hR; omega), h.hR, by have := h.hB; simp; omega⟩
theorem RdB.set3 {B R : Nat} {Q : List QFn} {vf : Value} {mu rw gr : Int} {w : World} (h : RdB B R Q vf mu rw gr w) (n : Int) : RdB B R Q vf mu rw n (w.setCell ⟨R, 3, none⟩ (.int .i64 n)) :=
  ⟨(World.cell?_setCell_other _ _ _ _ (by simp)).trans h.c0, (World.cell?_setCell_other _ _ _ _ (by simp)).trans h.c1, (World.cell?_setCell_other _ _ _ _ (by simp)).trans h.c2, World.cell?_setCell_same _ _ _ h.c3, (World.frozen?_setCell ..).trans h.f0, (World.frozen?_setCell ..).trans h.f1, (World.frozen?_setCell ..).trans h.f2, (World.frozen?_setCell ..).trans h.f3, h.fns.touch (T := fun b => b = R) (Touch.setCell _ _ _ rfl) (fun b hb => by have := h.hR; omega), h.hR, by have := h.hB; simp; omega⟩

/-- What a line's walk tells. -/
def LineQ (B R : Nat) (k : Nat) (s : ByteArray) (P : ProgM) (w : World) (e : Ending) (w' : World) : Prop :=
  (match stepO k s P with
  | some P' => e = .returned (.tuple #[]) ∧ ∃ Q' vf', Q'.map QFn.f = P'.funcs ∧ RdB B R Q' vf' P'.mu P'.rw P'.gr w'
  | none => e = gaveAt k) ∧ Below R w w'
end Go.Proofs.YtfnfcngkaepnjaaGreatDoor
