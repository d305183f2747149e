/- Joined texts: Package asm: the reader; its functions' rows.; Package asm: a line's meaning, plain; the reader's block.; Package asm: the reader's line, of a head. -/
import Derived.Test.YtfnfcngkaepnjaaGreatDoorQY25
import Derived.Test.YtfnfcngkaepnjaaGreatDoorQY45
import Derived.Test.YtfnfcngkaepnjaaGreatDoorQY43
import Derived.Test.YtfnfcngkaepnjaaGreatDoorQY21
/- Package asm: the reader; its functions' rows. -/
namespace Go.Proofs.YtfnfcngkaepnjaaGreatDoor
set_option linter.unusedVariables false
set_option linter.unusedSimpArgs false
open Go Go.Proofs Go.RowKit Go.Sort

/-- A function that was read: where its code lies. -/
structure QFn where
  f : FnM
  a : Option Addr
  c : Nat
abbrev QFn.v (q : QFn) : Value := .slice q.a q.f.code.length q.c
abbrev encQ (q : QFn) : List Value := [.int .i64 q.f.regs, .slice q.a q.f.code.length q.c]
theorem rowFn : RowTy 56 114 2 32 (.agg #[.int .i64 0, .slice none 0 0]) encQ :=
  ⟨Tryz.underlying56, by kernel_rfl, rfl, by decide, by decide, fun _ => rfl, fun x u hu => by
    simp only [encQ, List.mem_cons, List.not_mem_nil, or_false] at hu
    rcases hu with rfl | rfl <;> rfl⟩
theorem rowIn : RowTy 25 29 5 40 (.agg #[.int .i64 0, .int .i64 0, .int .i64 0, .int .i64 0, .int .u32 0]) encN :=
  ⟨Tryz.underlying25, by kernel_rfl, rfl, by decide, by decide, fun _ => rfl, fun x u hu => by
    simp only [encN, List.mem_cons, List.not_mem_nil, or_false] at hu
    rcases hu with rfl | rfl | rfl | rfl | rfl <;> rfl⟩

/-- The functions that were read lie in rows of their own, from block B on. -/
structure RdF (B : Nat) (Q : List QFn) (vf : Value) (w : World) : Prop where
  row : OwnU 114 2 encQ B vf Q w
  code : ∀ (k : Nat) q, Q[k]? = some q → OwnU 29 5 encN B q.v q.f.code w
  apart : ∀ (i j : Nat) p q, i ≠ j → Q[i]? = some p → Q[j]? = some q → ∀ g, p.v.ownBlock = some g → q.v.ownBlock ≠ some g
theorem RdF.nil {B : Nat} {w : World} : RdF B [] (.slice none 0 0) w := ⟨OwnU.nil, fun k q h => by simp at h, fun i j p q _ h => by simp at h⟩
theorem RdF.bel {B : Nat} {Q : List QFn} {vf : Value} {w w' : World} (h : RdF B Q vf w) (hb : Below w.heap.size w w') : RdF B Q vf w' :=
  ⟨h.row.bel hb, fun k q hk => (h.code k q hk).bel hb, h.apart⟩
theorem OwnU.lt {α : Type} {e : TypeId} {size : Nat} {enc : α → List Value} {base : Nat} {v : Value} {L : List α} {w : World} (h : OwnU e size enc base v L w) (k : Nat) (hk : v.ownBlock = some k) : base ≤ k ∧ k < w.heap.size := h.own.lt k hk
theorem RdF.touch {B : Nat} {Q : List QFn} {vf : Value} {w w' : World} {T : Nat → Prop} (h : RdF B Q vf w) (ht : Touch T w w') (hT : ∀ b, T b → b < B) : RdF B Q vf w' :=
  ⟨h.row.touch ht (fun g hg hh => by have := (h.row.lt g hg).1; have := hT g hh; omega), fun k q hk => (h.code k q hk).touch ht (fun g hg hh => by have := ((h.code k q hk).lt g hg).1; have := hT g hh; omega), h.apart⟩
theorem RdF.form {B : Nat} {Q : List QFn} {vf : Value} {w : World} (h : RdF B Q vf w) : ∃ a c, vf = .slice a Q.length c := h.row.own.form

/-- What was read is a program's functions. -/
theorem RdF.arg {B : Nat} {Q : List QFn} {vf : Value} {w : World} (h : RdF B Q vf w) : ArgF w vf (Q.map QFn.f) := by
  refine ⟨Q.map fun q => (q.f.regs, q.v), ?_, ?_⟩
  · have h1 := OwnW.arg (enc := encQ) (fun _ => rfl) h.row.own
    rcases h1 with ⟨h1, h2⟩ | ⟨ad, c, h1, h2, h3, h4⟩
    · exact Or.inl ⟨h1, by rw [h2]; rfl⟩
    · refine Or.inr ⟨ad, c, by rw [List.length_map]; exact h1, by rw [List.length_map]; exact h2, h3, fun hn => ?_⟩
      obtain ⟨b, o, e, hH⟩ := h4 (by rintro rfl; exact hn rfl)
      refine ⟨b, o, e, fun k j x u hk hj => ?_⟩
      rw [List.getElem?_map, Option.map_eq_some_iff] at hk
      obtain ⟨q, hq, rfl⟩ := hk
      exact hH k j q u hq hj
  · refine ⟨by simp, fun k r f hr hf => ?_⟩
    rw [List.getElem?_map, Option.map_eq_some_iff] at hr hf
    obtain ⟨q, hq, rfl⟩ := hr
    obtain ⟨q', hq', rfl⟩ := hf
    rw [hq] at hq'
    obtain rfl := Option.some.inj hq'
    exact ⟨rfl, OwnW.arg (fun _ => rfl) (h.code k q hq).own⟩

/-- One function more. -/
theorem RdF.more {B : Nat} {Q : List QFn} {vf : Value} {w : World} (h : RdF B Q vf w) (n : Int) (ty : TypeId) (g c : Nat) (h0 : w.cell? ⟨g, 0, none⟩ = some (.int .i64 n)) (h1 : w.cell? ⟨g, 1, none⟩ = some (.slice none 0 0)) (hn : Q.length ≤ 1000000) (hB : B ≤ w.heap.size) :
    ∃ v' w', (Builtin.append_ #[56, 56] ty #[vf, .slice (some ⟨g, 0, none⟩) 1 c]).run Tryz.prog w = .ok v' w' ∧ RdF B (Q ++ [⟨⟨n, []⟩, none, 0⟩]) v' w' ∧ Below B w w' ∧ Touch (fun g => some g = vf.ownBlock) w w' := by
  obtain ⟨v', w', r1, r2, r3, r4⟩ := append_U_run rowFn ty h.row g c ⟨⟨n, []⟩, none, 0⟩ (fun j u hj => by
    match j, hj with
    | 0, hj => simp only [encQ, List.getElem?_cons_zero, Option.some.injEq] at hj; rw [← hj]; exact h0
    | 1, hj => simp only [encQ, List.getElem?_cons_succ, List.getElem?_cons_zero, Option.some.injEq] at hj; rw [← hj]; exact h1) hn hB
  have hget : ∀ (k : Nat) q, (Q ++ [(⟨⟨n, []⟩, none, 0⟩ : QFn)])[k]? = some q → Q[k]? = some q ∨ q = ⟨⟨n, []⟩, none, 0⟩ := fun k q hk => by
    rcases Nat.lt_or_ge k Q.length with hl | hl
    · rw [List.getElem?_append_left hl] at hk; exact Or.inl hk
    · rw [List.getElem?_append_right hl] at hk
      obtain ⟨h1, h2⟩ := List.getElem?_eq_some_iff.1 hk
      simp at h1
      have : k - Q.length = 0 := by omega
      simp only [this, List.getElem_cons_zero] at h2
      exact Or.inr h2.symm
  refine ⟨v', w', r1, ⟨r2, fun k q hk => ?_, fun i j p q hij hi hj g hg => ?_⟩, (Below.refl B w).grown r3 hB (fun k hk => (h.row.lt k hk).1), touch_grown r3⟩
  · rcases hget k q hk with hk | rfl
    · refine (h.code k q hk).touch (touch_grown r3) (fun g hg hh => ?_)
      exact OwnW.apart (h.code k q hk).own h.row.own (by decide) g hg hh.symm
    · exact OwnU.nil
  · rcases hget i p hi with hi | rfl
    · rcases hget j q hj with hj | rfl
      · exact h.apart i j p q hij hi hj g hg
      · intro h; cases h
    · cases hg

/-- An instruction more, of the last one: its code grows, the function's cell is stored. -/
theorem RdF.push {B : Nat} {Q : List QFn} {q : QFn} {b cap : Nat} {n : Nat} {w : World} (h : RdF B Q (.slice (some ⟨b, 0, none⟩) n cap) w) (k : Nat) (hk : Q[k]? = some q) (x : InsM) (ty : TypeId) (g c : Nat) (hx : ∀ j u, (encN x)[j]? = some u → w.cell? ⟨g, j, none⟩ = some u) (hn : q.f.code.length ≤ 1000000) (hB : B ≤ w.heap.size) :
    ∃ v' w' q', (Builtin.append_ #[25, 25] ty #[q.v, .slice (some ⟨g, 0, none⟩) 1 c]).run Tryz.prog w = .ok v' w' ∧ v' = q'.v ∧ q'.f = ⟨q.f.regs, q.f.code ++ [x]⟩ ∧ w'.cell? ⟨b, k * 2 + 1, none⟩ = some q.v ∧ w'.frozen? ⟨b, k * 2 + 1, none⟩ = false ∧ RdF B (Q.set k q') (.slice (some ⟨b, 0, none⟩) n cap) (w'.setCell ⟨b, k * 2 + 1, none⟩ v') ∧ Below B w w' ∧ B ≤ b ∧ Touch (fun g => some g = q.v.ownBlock) w w' := by
  obtain ⟨v', w', r1, r2, r3, r4⟩ := append_U_run rowIn ty (h.code k q hk) g c x hx hn hB
  obtain ⟨a', c', hv'⟩ := r2.own.form
  have hrow : OwnU 114 2 encQ B (.slice (some ⟨b, 0, none⟩) n cap) Q w' := h.row.touch (touch_grown r3) (fun g hg hh => OwnW.apart h.row.own (h.code k q hk).own (by decide) g hg hh.symm)
  have hq : (⟨⟨q.f.regs, q.f.code ++ [x]⟩, a', c'⟩ : QFn).v = v' := hv'.symm
  have hlast := OwnW.cell (enc := encQ) (fun _ => rfl) hrow.own k 1 q q.v hk rfl
  have hset := OwnU.set (enc := encQ) (size := 2) (fun _ => rfl) hrow k 1 q ⟨⟨q.f.regs, q.f.code ++ [x]⟩, a', c'⟩ v' hk (by omega) (by rw [hv']; rfl)
  have hsz : w.heap.size ≤ w'.heap.size := r3.size
  have hbv : (.slice (some ⟨b, 0, none⟩) n cap : Value).ownBlock = some b := rfl
  have hbB := (h.row.lt b rfl)
  -- what the code's block is: no function row, no other code
  have hcodes : ∀ (j : Nat) p, j ≠ k → Q[j]? = some p → OwnU 29 5 encN B p.v p.f.code w' := fun j p hj hp =>
    (h.code j p hp).touch (touch_grown r3) (fun g hg hh => h.apart j k p q hj hp hk g hg hh.symm)
  have hins : ∀ {v : Value} {L : List InsM}, OwnU 29 5 encN B v L w' → OwnU 29 5 encN B v L (w'.setCell ⟨b, k * 2 + 1, none⟩ v') := fun ho =>
    ho.touch (T := fun g => g = b) (Touch.setCell _ _ _ rfl) (fun g hg hh => OwnW.apart ho.own hrow.own (by decide) g hg (by rw [hbv, hh]))
  have hkl : k < Q.length := (List.getElem?_eq_some_iff.1 hk).1
  have hget : ∀ (j : Nat) p, (Q.set k ⟨⟨q.f.regs, q.f.code ++ [x]⟩, a', c'⟩)[j]? = some p → (j ≠ k ∧ Q[j]? = some p) ∨ (j = k ∧ p = ⟨⟨q.f.regs, q.f.code ++ [x]⟩, a', c'⟩) := fun j p hj => by
    by_cases hjk : j = k
    · subst hjk
      rw [List.getElem?_set_self hkl] at hj
      exact Or.inr ⟨rfl, (Option.some.inj hj).symm⟩
    · rw [List.getElem?_set_ne (by omega)] at hj
      exact Or.inl ⟨hjk, hj⟩
  have hne : ∀ (j : Nat) p g, j ≠ k → Q[j]? = some p → v'.ownBlock = some g → p.v.ownBlock ≠ some g := fun j p g hj hp hg hpg => by
    rcases r4 with h4 | h4
    · exact h.apart j k p q hj hp hk g hpg (by rw [← h4]; exact hg)
    · rw [h4] at hg
      have := ((h.code j p hp).lt g hpg).2
      have := Option.some.inj hg
      omega
  refine ⟨v', w', ⟨⟨q.f.regs, q.f.code ++ [x]⟩, a', c'⟩, r1, hv', rfl, hlast, hrow.froz _, ⟨hset, fun j p hj => ?_, fun i j p p' hij hi hj g hg => ?_⟩, (Below.refl B w).grown r3 hB (fun k' hk' => ((h.code k q hk).lt k' hk').1), hbB.1, touch_grown r3⟩
  · rcases hget j p hj with ⟨hjk, hp⟩ | ⟨rfl, rfl⟩
    · exact hins (hcodes j p hjk hp)
    · refine hins ?_
      rw [hq]
      exact r2
  · rcases hget i p hi with ⟨hik, hp⟩ | ⟨rfl, rfl⟩
    · rcases hget j p' hj with ⟨hjk, hp'⟩ | ⟨rfl, rfl⟩
      · exact h.apart i j p p' hij hp hp' g hg
      · rw [hq]
        intro hh
        exact hne i p g hik hp hh hg
    · rcases hget j p' hj with ⟨hjk, hp'⟩ | ⟨rfl, rfl⟩
      · rw [hq] at hg
        exact hne j p' g hjk hp' hg
      · exact absurd rfl hij
end Go.Proofs.YtfnfcngkaepnjaaGreatDoor

/- Package asm: a line's meaning, plain; the reader's block. -/
namespace Go.Proofs.YtfnfcngkaepnjaaGreatDoor
set_option linter.unusedVariables false
set_option linter.unusedSimpArgs false
open Go Go.Proofs Go.RowKit Go.Sort

/-- The number of a line, behind a word; the instruction of a line. -/
noncomputable def numO (word s : ByteArray) : Option Int := open Classical in if h : ∃ n : Int, 0 ≤ n ∧ n ≤ 999 ∧ s = lineF word n then some h.choose else none
noncomputable def insO (s : ByteArray) : Option InsM := open Classical in if h : ∃ x : InsM, IsT s x.op x.a x.b x.c x.m then some h.choose else none
theorem dec_inj {m n : Nat} (hm : m ≤ 999) (hn : n ≤ 999) (h : Lib.decDigits m = Lib.decDigits n) : m = n := by
  have h1 := pu10_dec m (by omega)
  have h2 := pu10_dec n (by omega)
  rw [h, h2] at h1
  injection h1 with h1
  exact h1.symm
theorem lineF_inj {word : ByteArray} {m n : Int} (hm : 0 ≤ m ∧ m ≤ 999) (hn : 0 ≤ n ∧ n ≤ 999) (h : lineF word m = lineF word n) : m = n := by
  have h1 := trim_line word (lineF word m) m hm.1 rfl
  have h2 := trim_line word (lineF word m) n hn.1 h
  rw [h1] at h2
  have := dec_inj (by omega) (by omega) h2
  omega
theorem numO_yes {word s : ByteArray} {n : Int} (h : NumL word s n true) : numO word s = some n := by
  have h1 := h.yes rfl
  have hex : ∃ n : Int, 0 ≤ n ∧ n ≤ 999 ∧ s = lineF word n := ⟨n, h1⟩
  unfold numO
  rw [dif_pos hex]
  have h2 := hex.choose_spec
  congr 1
  exact lineF_inj ⟨h2.1, h2.2.1⟩ ⟨h1.1, h1.2.1⟩ (by rw [← h2.2.2, ← h1.2.2])
theorem numO_no {word s : ByteArray} {n : Int} (h : NumL word s n false) : numO word s = none := by
  unfold numO
  rw [dif_neg (fun ⟨m, h0, h1, h2⟩ => h.no rfl m h0 h1 h2)]
theorem insO_yes {s : ByteArray} {x : InsM} (h : IsT s x.op x.a x.b x.c x.m) : insO s = some x := by
  have hex : ∃ x : InsM, IsT s x.op x.a x.b x.c x.m := ⟨x, h⟩
  unfold insO
  rw [dif_pos hex]
  have h2 := hex.choose_spec
  congr 1
  generalize hex.choose = y at h2
  obtain ⟨h3, h4, h5, h6, h7⟩ := isT_inj h2 h
  cases x
  cases y
  simp_all
theorem insO_no {s : ByteArray} (h : ∀ op a b c m, ¬ IsT s op a b c m) : insO s = none := by
  unfold insO
  rw [dif_neg (fun ⟨x, hx⟩ => h _ _ _ _ _ hx)]

/-- An instruction more, of the last function. -/
def pushF (F : List FnM) (x : InsM) : List FnM := match F[F.length - 1]? with | some f => F.set (F.length - 1) ⟨f.regs, f.code ++ [x]⟩ | none => F
def isFn (s : ByteArray) : Bool := Lib.hasPrefix s.data.toList (wFn.data.toList ++ [32])
/-- What a line does to the program that was read. -/
noncomputable def stepO (k : Nat) (s : ByteArray) (P : ProgM) : Option ProgM :=
  match k with
  | 0 => (numO wMu s).map fun n => { P with mu := n }
  | 1 => (numO wRw s).map fun n => { P with rw := n }
  | 2 => (numO wGr s).map fun n => { P with gr := n }
  | _ => if isFn s then (numO wFn s).map fun n => { P with funcs := P.funcs ++ [⟨n, []⟩] } else if P.funcs.length = 0 then none else (insO s).map fun x => { P with funcs := pushF P.funcs x }

/-- The reader's block, and the functions that were read. -/
structure RdB (B R : Nat) (Q : List QFn) (vf : Value) (mu rw gr : Int) (w : World) : Prop where
  c0 : w.cell? ⟨R, 0, none⟩ = some vf
  c1 : w.cell? ⟨R, 1, none⟩ = some (.int .i64 mu)
  c2 : w.cell? ⟨R, 2, none⟩ = some (.int .i64 rw)
  c3 : w.cell? ⟨R, 3, none⟩ = some (.int .i64 gr)
  f0 : w.frozen? ⟨R, 0, none⟩ = false
  f1 : w.frozen? ⟨R, 1, none⟩ = false
  f2 : w.frozen? ⟨R, 2, none⟩ = false
  f3 : w.frozen? ⟨R, 3, none⟩ = false
  fns : RdF B Q vf w
  hR : R < B
  hB : B ≤ w.heap.size
theorem RdB.bel {B R : Nat} {Q : List QFn} {vf : Value} {mu rw gr : Int} {w w' : World} (h : RdB B R Q vf mu rw gr w) (hb : Below w.heap.size w w') : RdB B R Q vf mu rw gr w' :=
  ⟨cell_bel h.c0 hb, cell_bel h.c1 hb, cell_bel h.c2 hb, cell_bel h.c3 hb, froz_bel h.c0 h.f0 hb, froz_bel h.c1 h.f1 hb, froz_bel h.c2 h.f2 hb, froz_bel h.c3 h.f3 hb, h.fns.bel hb, h.hR, Nat.le_trans h.hB hb.size⟩
theorem RdB.set1 {B R : Nat} {Q : List QFn} {vf : Value} {mu rw gr : Int} {w : World} (h : RdB B R Q vf mu rw gr w) (n : Int) : RdB B R Q vf n rw gr (w.setCell ⟨R, 1, none⟩ (.int .i64 n)) :=
  ⟨(World.cell?_setCell_other _ _ _ _ (by simp)).trans h.c0, World.cell?_setCell_same _ _ _ h.c1, (World.cell?_setCell_other _ _ _ _ (by simp)).trans h.c2, (World.cell?_setCell_other _ _ _ _ (by simp)).trans h.c3, (World.frozen?_setCell ..).trans h.f0, (World.frozen?_setCell ..).trans h.f1, (World.frozen?_setCell ..).trans h.f2, (World.frozen?_setCell ..).trans h.f3, h.fns.touch (T := fun b => b = R) (Touch.setCell _ _ _ rfl) (fun b hb => by have := h.hR; omega), h.hR, by have := h.hB; simp; omega⟩
theorem RdB.set2 {B R : Nat} {Q : List QFn} {vf : Value} {mu rw gr : Int} {w : World} (h : RdB B R Q vf mu rw gr w) (n : Int) : RdB B R Q vf mu n gr (w.setCell ⟨R, 2, none⟩ (.int .i64 n)) :=
  ⟨(World.cell?_setCell_other _ _ _ _ (by simp)).trans h.c0, (World.cell?_setCell_other _ _ _ _ (by simp)).trans h.c1, World.cell?_setCell_same _ _ _ h.c2, (World.cell?_setCell_other _ _ _ _ (by simp)).trans h.c3, (World.frozen?_setCell ..).trans h.f0, (World.frozen?_setCell ..).trans h.f1, (World.frozen?_setCell ..).trans h.f2, (World.frozen?_setCell ..).trans h.f3, h.fns.touch (T := fun b => b = R) (Touch.setCell _ _ _ rfl) (fun b hb => by have := h.hR; omega), h.hR, by have := h.hB; simp; omega⟩
theorem RdB.set3 {B R : Nat} {Q : List QFn} {vf : Value} {mu rw gr : Int} {w : World} (h : RdB B R Q vf mu rw gr w) (n : Int) : RdB B R Q vf mu rw n (w.setCell ⟨R, 3, none⟩ (.int .i64 n)) :=
  ⟨(World.cell?_setCell_other _ _ _ _ (by simp)).trans h.c0, (World.cell?_setCell_other _ _ _ _ (by simp)).trans h.c1, (World.cell?_setCell_other _ _ _ _ (by simp)).trans h.c2, World.cell?_setCell_same _ _ _ h.c3, (World.frozen?_setCell ..).trans h.f0, (World.frozen?_setCell ..).trans h.f1, (World.frozen?_setCell ..).trans h.f2, (World.frozen?_setCell ..).trans h.f3, h.fns.touch (T := fun b => b = R) (Touch.setCell _ _ _ rfl) (fun b hb => by have := h.hR; omega), h.hR, by have := h.hB; simp; omega⟩

/-- What a line's walk tells. -/
def LineQ (B R : Nat) (k : Nat) (s : ByteArray) (P : ProgM) (w : World) (e : Ending) (w' : World) : Prop :=
  (match stepO k s P with
  | some P' => e = .returned (.tuple #[]) ∧ ∃ Q' vf', Q'.map QFn.f = P'.funcs ∧ RdB B R Q' vf' P'.mu P'.rw P'.gr w'
  | none => e = gaveAt k) ∧ Below R w w'
end Go.Proofs.YtfnfcngkaepnjaaGreatDoor

/- Package asm: the reader's line, of a head. -/
namespace Go.Proofs.YtfnfcngkaepnjaaGreatDoor
set_option linter.unusedVariables false
set_option linter.unusedSimpArgs false
open Go Go.Proofs Go.RowKit Go.Sort

abbrev headsC : Array Value := #[.string ⟨#[109, 117, 116, 101, 120, 101, 115]⟩, .func (.func 169) #[] #[], .string ⟨#[114, 119, 108, 111, 99, 107, 115]⟩, .func (.func 170) #[] #[], .string ⟨#[103, 114, 111, 117, 112, 115]⟩, .func (.func 171) #[] #[]]

set_option maxRecDepth 100000 in
set_option maxHeartbeats 4000000 in
theorem line_head0 (B R : Nat) (s : ByteArray) (hs : s.size ≤ 281474976710656) (Q : List QFn) (vf : Value) (P : ProgM) (w : World) (hE : Env w) (hQ : Q.map QFn.f = P.funcs) (h : RdB B R Q vf P.mu P.rw P.gr w) :
    Calls Tryz.prog 67 #[.pointer (some ⟨R, 0, none⟩), .int .i64 0, .string s] w (LineQ B R 0 s P w) := by
  have HQ := Lib.hid hQ
  have HS := Lib.hid hs
  have H := Lib.hid h
  have HE := Lib.hid hE
  clear h hE hs hQ
  go_enter Tryz.func67, Tryz.ntmps67
  go_wp2_with fail
  have hbs := bel1 (W := w) (.cells #[.string s] 9)
  have s0 := cell_new w #[.string s] 9 0
  refine (heads_any _).mono ?_
  rintro e w1 ⟨rfl, hb1⟩
  have s1 : (w1.alloc (.cells headsC 197)).drew.cell? ⟨w.heap.size, 0, none⟩ = some (.string s) := cell_al (cell_bel s0 hb1) _
  have hBH := Lib.hid (belA (belT hbs hb1) (.cells headsC 197)).drew
  have k0 : (w1.alloc (.cells headsC 197)).drew.cell? ⟨w1.heap.size, 2 * 0, none⟩ = some (.string wMu) := cell_new w1 headsC 197 (2 * 0)
  have k1 : (w1.alloc (.cells headsC 197)).drew.cell? ⟨w1.heap.size, 2 * 0 + 1, none⟩ = some (.func (.func 169) #[] #[]) := cell_new w1 headsC 197 (2 * 0 + 1)
  clear hbs s0 hb1
  unfold headsV
  go_wp2_with fail
  refine wp_region_R (S := fun W => W.cell? ⟨w1.heap.size, 2 * 0, none⟩ = some (.string wMu) ∧ W.cell? ⟨w1.heap.size, 2 * 0 + 1, none⟩ = some (.func (.func 169) #[] #[]) ∧ W.cell? ⟨w.heap.size, 0, none⟩ = some (.string s)) 15 (by kernel_rfl) (by simp) ⟨k0, k1, s1⟩ (fun hHeld => ?_)
  clear k0 k1 s1
  generalize (w1.alloc _).drew = V0 at hBH hHeld ⊢
  refine anyR_take (i := 0) (v := ?_) rfl (by kernel_rfl) (by kernel_rfl) (by kernel_rfl) (fun _ _ _ h => h) (Or.inl ⟨by rfl, ?_⟩) (by assumption) ?_
  rotate_left
  · (intro w hSw; (try dsimp only at hSw); go_simp)
    all_goals with_reducible rfl
  try simp only [Act.put, List.getElem_toArray, List.getElem_cons_succ, List.getElem_cons_zero, List.setIfInBounds_toArray, List.set_cons_zero, List.set_cons_succ]
  refine anyR_take (i := 1) (v := ?_) rfl (by kernel_rfl) (by kernel_rfl) (by kernel_rfl) (fun _ _ _ h => h) (Or.inl ⟨by rfl, ?_⟩) (by assumption) ?_
  rotate_left
  · (intro w hSw; (try dsimp only at hSw); go_simp)
    all_goals with_reducible rfl
  try simp only [Act.put, List.getElem_toArray, List.getElem_cons_succ, List.getElem_cons_zero, List.setIfInBounds_toArray, List.set_cons_zero, List.set_cons_succ]
  refine anyR_take (i := 2) (v := ?_) rfl (by kernel_rfl) (by kernel_rfl) (by kernel_rfl) (fun _ _ _ h => h) (Or.inl ⟨by rfl, ?_⟩) (by assumption) ?_
  rotate_left
  · (intro w hSw; (try dsimp only at hSw); go_simp)
    all_goals with_reducible rfl
  try simp only [Act.put, List.getElem_toArray, List.getElem_cons_succ, List.getElem_cons_zero, List.setIfInBounds_toArray, List.set_cons_zero, List.set_cons_succ]
  refine anyR_take (i := 3) (v := ?_) rfl (by kernel_rfl) (by kernel_rfl) (by kernel_rfl) (fun _ _ _ h => h) (Or.inl ⟨by rfl, ?_⟩) (by assumption) ?_
  rotate_left
  · (intro w hSw; (try dsimp only at hSw); go_simp)
    all_goals with_reducible rfl
  try simp only [Act.put, List.getElem_toArray, List.getElem_cons_succ, List.getElem_cons_zero, List.setIfInBounds_toArray, List.set_cons_zero, List.set_cons_succ]
  refine anyR_take (i := 4) (v := ?_) rfl (by kernel_rfl) (by kernel_rfl) (by kernel_rfl) (fun _ _ _ h => h) (Or.inl ⟨by rfl, ?_⟩) (by assumption) ?_
  rotate_left
  · (intro w hSw; (try dsimp only at hSw); go_simp)
    all_goals with_reducible rfl
  try simp only [Act.put, List.getElem_toArray, List.getElem_cons_succ, List.getElem_cons_zero, List.setIfInBounds_toArray, List.set_cons_zero, List.set_cons_succ]
  refine anyR_take (i := 5) (v := ?_) rfl (by kernel_rfl) (by kernel_rfl) (by kernel_rfl) (fun _ _ _ h => h) (Or.inl ⟨by rfl, ?_⟩) (by assumption) ?_
  rotate_left
  · (intro w hSw; (try dsimp only at hSw); go_simp)
    all_goals with_reducible rfl
  try simp only [Act.put, List.getElem_toArray, List.getElem_cons_succ, List.getElem_cons_zero, List.setIfInBounds_toArray, List.set_cons_zero, List.set_cons_succ]
  refine anyR_take (i := 6) (v := ?_) rfl (by kernel_rfl) (by kernel_rfl) (by kernel_rfl) (fun _ _ _ h => h) (Or.inl ⟨by rfl, ?_⟩) (by assumption) ?_
  rotate_left
  · (intro w hSw; (try dsimp only at hSw); go_simp)
    all_goals with_reducible rfl
  try simp only [Act.put, List.getElem_toArray, List.getElem_cons_succ, List.getElem_cons_zero, List.setIfInBounds_toArray, List.set_cons_zero, List.set_cons_succ]
  refine anyR_take (i := 8) (v := ?_) rfl (by kernel_rfl) (by kernel_rfl) (by kernel_rfl) (fun _ _ _ h => h) (Or.inl ⟨by rfl, ?_⟩) (by assumption) ?_
  rotate_left
  · (intro w hSw; (try dsimp only at hSw); go_simp)
    all_goals with_reducible rfl
  try simp only [Act.put, List.getElem_toArray, List.getElem_cons_succ, List.getElem_cons_zero, List.setIfInBounds_toArray, List.set_cons_zero, List.set_cons_succ]
  refine anyR_take (i := 9) (v := ?_) rfl (by kernel_rfl) (by kernel_rfl) (by kernel_rfl) (fun _ _ _ h => h) (Or.inl ⟨by rfl, ?_⟩) (by assumption) ?_
  rotate_left
  · (intro w hSw; (try dsimp only at hSw); go_simp)
    all_goals with_reducible rfl
  try simp only [Act.put, List.getElem_toArray, List.getElem_cons_succ, List.getElem_cons_zero, List.setIfInBounds_toArray, List.set_cons_zero, List.set_cons_succ]
  refine anyR_take (i := 10) (v := ?_) rfl (by kernel_rfl) (by kernel_rfl) (by kernel_rfl) (fun _ _ _ h => h) (Or.inl ⟨by rfl, ?_⟩) (by assumption) ?_
  rotate_left
  · (intro w hSw; (try dsimp only at hSw); go_simp)
    all_goals with_reducible rfl
  try simp only [Act.put, List.getElem_toArray, List.getElem_cons_succ, List.getElem_cons_zero, List.setIfInBounds_toArray, List.set_cons_zero, List.set_cons_succ]
  refine anyR_take (i := 11) (v := ?_) rfl (by kernel_rfl) (by kernel_rfl) (by kernel_rfl) (fun _ _ _ h => h) (Or.inl ⟨by rfl, ?_⟩) (by assumption) ?_
  rotate_left
  · (intro w hSw; (try dsimp only at hSw); go_simp)
    all_goals with_reducible rfl
  try simp only [Act.put, List.getElem_toArray, List.getElem_cons_succ, List.getElem_cons_zero, List.setIfInBounds_toArray, List.set_cons_zero, List.set_cons_succ]
  refine anyR_take (i := 12) (v := ?_) rfl (by kernel_rfl) (by kernel_rfl) (by kernel_rfl) (fun _ _ _ h => h) (Or.inl ⟨by rfl, ?_⟩) (by assumption) ?_
  rotate_left
  · (intro w hSw; (try dsimp only at hSw); go_simp)
    all_goals with_reducible rfl
  try simp only [Act.put, List.getElem_toArray, List.getElem_cons_succ, List.getElem_cons_zero, List.setIfInBounds_toArray, List.set_cons_zero, List.set_cons_succ]
  refine anyR_take (i := 13) (v := ?_) rfl (by kernel_rfl) (by kernel_rfl) (by kernel_rfl) (fun _ _ _ h => h) (Or.inl ⟨by rfl, ?_⟩) (by assumption) ?_
  rotate_left
  · (intro w hSw; (try dsimp only at hSw); go_simp)
    all_goals with_reducible rfl
  try simp only [Act.put, List.getElem_toArray, List.getElem_cons_succ, List.getElem_cons_zero, List.setIfInBounds_toArray, List.set_cons_zero, List.set_cons_succ]
  refine anyR_ready (rs := [7]) (by kernel_rfl) (by simp) (by decide) ?_
  refine AllReadyR.cons rfl (fun K hK => ?_) AllReadyR.nil
  go_simp
  refine (head1_any R _).mono ?_
  rintro e w2 ⟨rfl, rfl⟩
  refine hK.out _ _ ?_ (fun hHeld => ?_)
  · assumption
  clear hK K
  try simp only [Act.put, List.getElem_toArray, List.getElem_cons_succ, List.getElem_cons_zero, List.setIfInBounds_toArray, List.set_cons_zero, List.set_cons_succ]
  refine anyR_ready (rs := [14]) (by kernel_rfl) (by simp) (by decide) ?_
  refine AllReadyR.cons rfl (fun K hK => ?_) AllReadyR.nil
  go_simp
  refine (asmNumber_any 0 wMu s (by decide) HS.out _ (HE.out.on hBH.out)).mono ?_
  rintro e w3 ⟨hn, hb3⟩
  have hB3 := belT hBH.out hb3
  rcases hn with ⟨n, hn, rfl⟩ | ⟨⟨n, hn⟩, rfl⟩
  · refine hK.out _ _ ?_ (fun hHeld => ?_)
    · exact ⟨cell_bel hHeld.1 hb3, cell_bel hHeld.2.1 hb3, cell_bel hHeld.2.2 hb3⟩
    clear hK K
    try simp only [Act.put, List.getElem_toArray, List.getElem_cons_succ, List.getElem_cons_zero, List.setIfInBounds_toArray, List.set_cons_zero, List.set_cons_succ]
    have HR3 := Lib.hid (H.out.bel hB3)
    have cc := HR3.out.c1
    have ff := HR3.out.f1
    have HB3 := Lib.hid hB3
    have HN := Lib.hid (numO_yes hn)
    have H0 := H
    clear hn hb3 hB3 hHeld hBH H
    refine anyR_end (by kernel_rfl) ?_
    refine wpAny_ready (rs := [15]) (by kernel_rfl) (by simp) ?_
    refine AllReady.cons rfl (fun K hK => ?_) AllReady.nil
    go_simp
    refine hK _ _ ?_
    clear hK K
    try simp only [Act.put, List.getElem_toArray, List.getElem_cons_succ, List.getElem_cons_zero, List.setIfInBounds_toArray, List.set_cons_zero, List.set_cons_succ]
    refine wpAny_ready (rs := [16]) (by kernel_rfl) (by simp) ?_
    refine AllReady.cons rfl (fun K hK => ?_) AllReady.nil
    go_simp
    refine hK _ _ ?_
    clear hK K
    try simp only [Act.put, List.getElem_toArray, List.getElem_cons_succ, List.getElem_cons_zero, List.setIfInBounds_toArray, List.set_cons_zero, List.set_cons_succ]
    refine wpAny_done (by kernel_rfl) ?_ _
    go_wp2_with fail
    go_end0
    have hR := HR3.out.hR
    refine ⟨?_, (HB3.out.mono (Nat.le_of_lt (Nat.lt_of_lt_of_le (lt_of_cell H0.out.c0) (Nat.le_refl _)))).setCell (p := ⟨R, 1, none⟩) (Nat.le_refl _) _⟩
    have hst : stepO 0 s P = (numO wMu s).map _ := rfl
    rw [hst, HN.out]
    exact ⟨rfl, Q, vf, HQ.out, HR3.out.set1 n⟩
  · have HN := Lib.hid (numO_no hn)
    refine ⟨rfl, ?_, hB3.mono (Nat.le_of_lt (lt_of_cell H.out.c0))⟩
    have hst : stepO 0 s P = (numO wMu s).map _ := rfl
    rw [hst, HN.out]
    rfl
set_option maxRecDepth 100000 in
set_option maxHeartbeats 4000000 in
theorem line_head1 (B R : Nat) (s : ByteArray) (hs : s.size ≤ 281474976710656) (Q : List QFn) (vf : Value) (P : ProgM) (w : World) (hE : Env w) (hQ : Q.map QFn.f = P.funcs) (h : RdB B R Q vf P.mu P.rw P.gr w) :
    Calls Tryz.prog 67 #[.pointer (some ⟨R, 0, none⟩), .int .i64 1, .string s] w (LineQ B R 1 s P w) := by
  have HQ := Lib.hid hQ
  have HS := Lib.hid hs
  have H := Lib.hid h
  have HE := Lib.hid hE
  clear h hE hs hQ
  go_enter Tryz.func67, Tryz.ntmps67
  go_wp2_with fail
  have hbs := bel1 (W := w) (.cells #[.string s] 9)
  have s0 := cell_new w #[.string s] 9 0
  refine (heads_any _).mono ?_
  rintro e w1 ⟨rfl, hb1⟩
  have s1 : (w1.alloc (.cells headsC 197)).drew.cell? ⟨w.heap.size, 0, none⟩ = some (.string s) := cell_al (cell_bel s0 hb1) _
  have hBH := Lib.hid (belA (belT hbs hb1) (.cells headsC 197)).drew
  have k0 : (w1.alloc (.cells headsC 197)).drew.cell? ⟨w1.heap.size, 2 * 1, none⟩ = some (.string wRw) := cell_new w1 headsC 197 (2 * 1)
  have k1 : (w1.alloc (.cells headsC 197)).drew.cell? ⟨w1.heap.size, 2 * 1 + 1, none⟩ = some (.func (.func 170) #[] #[]) := cell_new w1 headsC 197 (2 * 1 + 1)
  clear hbs s0 hb1
  unfold headsV
  go_wp2_with fail
  refine wp_region_R (S := fun W => W.cell? ⟨w1.heap.size, 2 * 1, none⟩ = some (.string wRw) ∧ W.cell? ⟨w1.heap.size, 2 * 1 + 1, none⟩ = some (.func (.func 170) #[] #[]) ∧ W.cell? ⟨w.heap.size, 0, none⟩ = some (.string s)) 15 (by kernel_rfl) (by simp) ⟨k0, k1, s1⟩ (fun hHeld => ?_)
  clear k0 k1 s1
  generalize (w1.alloc _).drew = V0 at hBH hHeld ⊢
  refine anyR_take (i := 0) (v := ?_) rfl (by kernel_rfl) (by kernel_rfl) (by kernel_rfl) (fun _ _ _ h => h) (Or.inl ⟨by rfl, ?_⟩) (by assumption) ?_
  rotate_left
  · (intro w hSw; (try dsimp only at hSw); go_simp)
    all_goals with_reducible rfl
  try simp only [Act.put, List.getElem_toArray, List.getElem_cons_succ, List.getElem_cons_zero, List.setIfInBounds_toArray, List.set_cons_zero, List.set_cons_succ]
  refine anyR_take (i := 1) (v := ?_) rfl (by kernel_rfl) (by kernel_rfl) (by kernel_rfl) (fun _ _ _ h => h) (Or.inl ⟨by rfl, ?_⟩) (by assumption) ?_
  rotate_left
  · (intro w hSw; (try dsimp only at hSw); go_simp)
    all_goals with_reducible rfl
  try simp only [Act.put, List.getElem_toArray, List.getElem_cons_succ, List.getElem_cons_zero, List.setIfInBounds_toArray, List.set_cons_zero, List.set_cons_succ]
  refine anyR_take (i := 2) (v := ?_) rfl (by kernel_rfl) (by kernel_rfl) (by kernel_rfl) (fun _ _ _ h => h) (Or.inl ⟨by rfl, ?_⟩) (by assumption) ?_
  rotate_left
  · (intro w hSw; (try dsimp only at hSw); go_simp)
    all_goals with_reducible rfl
  try simp only [Act.put, List.getElem_toArray, List.getElem_cons_succ, List.getElem_cons_zero, List.setIfInBounds_toArray, List.set_cons_zero, List.set_cons_succ]
  refine anyR_take (i := 3) (v := ?_) rfl (by kernel_rfl) (by kernel_rfl) (by kernel_rfl) (fun _ _ _ h => h) (Or.inl ⟨by rfl, ?_⟩) (by assumption) ?_
  rotate_left
  · (intro w hSw; (try dsimp only at hSw); go_simp)
    all_goals with_reducible rfl
  try simp only [Act.put, List.getElem_toArray, List.getElem_cons_succ, List.getElem_cons_zero, List.setIfInBounds_toArray, List.set_cons_zero, List.set_cons_succ]
  refine anyR_take (i := 4) (v := ?_) rfl (by kernel_rfl) (by kernel_rfl) (by kernel_rfl) (fun _ _ _ h => h) (Or.inl ⟨by rfl, ?_⟩) (by assumption) ?_
  rotate_left
  · (intro w hSw; (try dsimp only at hSw); go_simp)
    all_goals with_reducible rfl
  try simp only [Act.put, List.getElem_toArray, List.getElem_cons_succ, List.getElem_cons_zero, List.setIfInBounds_toArray, List.set_cons_zero, List.set_cons_succ]
  refine anyR_take (i := 5) (v := ?_) rfl (by kernel_rfl) (by kernel_rfl) (by kernel_rfl) (fun _ _ _ h => h) (Or.inl ⟨by rfl, ?_⟩) (by assumption) ?_
  rotate_left
  · (intro w hSw; (try dsimp only at hSw); go_simp)
    all_goals with_reducible rfl
  try simp only [Act.put, List.getElem_toArray, List.getElem_cons_succ, List.getElem_cons_zero, List.setIfInBounds_toArray, List.set_cons_zero, List.set_cons_succ]
  refine anyR_take (i := 6) (v := ?_) rfl (by kernel_rfl) (by kernel_rfl) (by kernel_rfl) (fun _ _ _ h => h) (Or.inl ⟨by rfl, ?_⟩) (by assumption) ?_
  rotate_left
  · (intro w hSw; (try dsimp only at hSw); go_simp)
    all_goals with_reducible rfl
  try simp only [Act.put, List.getElem_toArray, List.getElem_cons_succ, List.getElem_cons_zero, List.setIfInBounds_toArray, List.set_cons_zero, List.set_cons_succ]
  refine anyR_take (i := 8) (v := ?_) rfl (by kernel_rfl) (by kernel_rfl) (by kernel_rfl) (fun _ _ _ h => h) (Or.inl ⟨by rfl, ?_⟩) (by assumption) ?_
  rotate_left
  · (intro w hSw; (try dsimp only at hSw); go_simp)
    all_goals with_reducible rfl
  try simp only [Act.put, List.getElem_toArray, List.getElem_cons_succ, List.getElem_cons_zero, List.setIfInBounds_toArray, List.set_cons_zero, List.set_cons_succ]
  refine anyR_take (i := 9) (v := ?_) rfl (by kernel_rfl) (by kernel_rfl) (by kernel_rfl) (fun _ _ _ h => h) (Or.inl ⟨by rfl, ?_⟩) (by assumption) ?_
  rotate_left
  · (intro w hSw; (try dsimp only at hSw); go_simp)
    all_goals with_reducible rfl
  try simp only [Act.put, List.getElem_toArray, List.getElem_cons_succ, List.getElem_cons_zero, List.setIfInBounds_toArray, List.set_cons_zero, List.set_cons_succ]
  refine anyR_take (i := 10) (v := ?_) rfl (by kernel_rfl) (by kernel_rfl) (by kernel_rfl) (fun _ _ _ h => h) (Or.inl ⟨by rfl, ?_⟩) (by assumption) ?_
  rotate_left
  · (intro w hSw; (try dsimp only at hSw); go_simp)
    all_goals with_reducible rfl
  try simp only [Act.put, List.getElem_toArray, List.getElem_cons_succ, List.getElem_cons_zero, List.setIfInBounds_toArray, List.set_cons_zero, List.set_cons_succ]
  refine anyR_take (i := 11) (v := ?_) rfl (by kernel_rfl) (by kernel_rfl) (by kernel_rfl) (fun _ _ _ h => h) (Or.inl ⟨by rfl, ?_⟩) (by assumption) ?_
  rotate_left
  · (intro w hSw; (try dsimp only at hSw); go_simp)
    all_goals with_reducible rfl
  try simp only [Act.put, List.getElem_toArray, List.getElem_cons_succ, List.getElem_cons_zero, List.setIfInBounds_toArray, List.set_cons_zero, List.set_cons_succ]
  refine anyR_take (i := 12) (v := ?_) rfl (by kernel_rfl) (by kernel_rfl) (by kernel_rfl) (fun _ _ _ h => h) (Or.inl ⟨by rfl, ?_⟩) (by assumption) ?_
  rotate_left
  · (intro w hSw; (try dsimp only at hSw); go_simp)
    all_goals with_reducible rfl
  try simp only [Act.put, List.getElem_toArray, List.getElem_cons_succ, List.getElem_cons_zero, List.setIfInBounds_toArray, List.set_cons_zero, List.set_cons_succ]
  refine anyR_take (i := 13) (v := ?_) rfl (by kernel_rfl) (by kernel_rfl) (by kernel_rfl) (fun _ _ _ h => h) (Or.inl ⟨by rfl, ?_⟩) (by assumption) ?_
  rotate_left
  · (intro w hSw; (try dsimp only at hSw); go_simp)
    all_goals with_reducible rfl
  try simp only [Act.put, List.getElem_toArray, List.getElem_cons_succ, List.getElem_cons_zero, List.setIfInBounds_toArray, List.set_cons_zero, List.set_cons_succ]
  refine anyR_ready (rs := [7]) (by kernel_rfl) (by simp) (by decide) ?_
  refine AllReadyR.cons rfl (fun K hK => ?_) AllReadyR.nil
  go_simp
  refine (head2_any R _).mono ?_
  rintro e w2 ⟨rfl, rfl⟩
  refine hK.out _ _ ?_ (fun hHeld => ?_)
  · assumption
  clear hK K
  try simp only [Act.put, List.getElem_toArray, List.getElem_cons_succ, List.getElem_cons_zero, List.setIfInBounds_toArray, List.set_cons_zero, List.set_cons_succ]
  refine anyR_ready (rs := [14]) (by kernel_rfl) (by simp) (by decide) ?_
  refine AllReadyR.cons rfl (fun K hK => ?_) AllReadyR.nil
  go_simp
  refine (asmNumber_any 1 wRw s (by decide) HS.out _ (HE.out.on hBH.out)).mono ?_
  rintro e w3 ⟨hn, hb3⟩
  have hB3 := belT hBH.out hb3
  rcases hn with ⟨n, hn, rfl⟩ | ⟨⟨n, hn⟩, rfl⟩
  · refine hK.out _ _ ?_ (fun hHeld => ?_)
    · exact ⟨cell_bel hHeld.1 hb3, cell_bel hHeld.2.1 hb3, cell_bel hHeld.2.2 hb3⟩
    clear hK K
    try simp only [Act.put, List.getElem_toArray, List.getElem_cons_succ, List.getElem_cons_zero, List.setIfInBounds_toArray, List.set_cons_zero, List.set_cons_succ]
    have HR3 := Lib.hid (H.out.bel hB3)
    have cc := HR3.out.c2
    have ff := HR3.out.f2
    have HB3 := Lib.hid hB3
    have HN := Lib.hid (numO_yes hn)
    have H0 := H
    clear hn hb3 hB3 hHeld hBH H
    refine anyR_end (by kernel_rfl) ?_
    refine wpAny_ready (rs := [15]) (by kernel_rfl) (by simp) ?_
    refine AllReady.cons rfl (fun K hK => ?_) AllReady.nil
    go_simp
    refine hK _ _ ?_
    clear hK K
    try simp only [Act.put, List.getElem_toArray, List.getElem_cons_succ, List.getElem_cons_zero, List.setIfInBounds_toArray, List.set_cons_zero, List.set_cons_succ]
    refine wpAny_ready (rs := [16]) (by kernel_rfl) (by simp) ?_
    refine AllReady.cons rfl (fun K hK => ?_) AllReady.nil
    go_simp
    refine hK _ _ ?_
    clear hK K
    try simp only [Act.put, List.getElem_toArray, List.getElem_cons_succ, List.getElem_cons_zero, List.setIfInBounds_toArray, List.set_cons_zero, List.set_cons_succ]
    refine wpAny_done (by kernel_rfl) ?_ _
    go_wp2_with fail
    go_end0
    have hR := HR3.out.hR
    refine ⟨?_, (HB3.out.mono (Nat.le_of_lt (Nat.lt_of_lt_of_le (lt_of_cell H0.out.c0) (Nat.le_refl _)))).setCell (p := ⟨R, 2, none⟩) (Nat.le_refl _) _⟩
    have hst : stepO 1 s P = (numO wRw s).map _ := rfl
    rw [hst, HN.out]
    exact ⟨rfl, Q, vf, HQ.out, HR3.out.set2 n⟩
  · have HN := Lib.hid (numO_no hn)
    refine ⟨rfl, ?_, hB3.mono (Nat.le_of_lt (lt_of_cell H.out.c0))⟩
    have hst : stepO 1 s P = (numO wRw s).map _ := rfl
    rw [hst, HN.out]
    rfl
set_option maxRecDepth 100000 in
set_option maxHeartbeats 4000000 in
theorem line_head2 (B R : Nat) (s : ByteArray) (hs : s.size ≤ 281474976710656) (Q : List QFn) (vf : Value) (P : ProgM) (w : World) (hE : Env w) (hQ : Q.map QFn.f = P.funcs) (h : RdB B R Q vf P.mu P.rw P.gr w) :
    Calls Tryz.prog 67 #[.pointer (some ⟨R, 0, none⟩), .int .i64 2, .string s] w (LineQ B R 2 s P w) := by
  have HQ := Lib.hid hQ
  have HS := Lib.hid hs
  have H := Lib.hid h
  have HE := Lib.hid hE
  clear h hE hs hQ
  go_enter Tryz.func67, Tryz.ntmps67
  go_wp2_with fail
  have hbs := bel1 (W := w) (.cells #[.string s] 9)
  have s0 := cell_new w #[.string s] 9 0
  refine (heads_any _).mono ?_
  rintro e w1 ⟨rfl, hb1⟩
  have s1 : (w1.alloc (.cells headsC 197)).drew.cell? ⟨w.heap.size, 0, none⟩ = some (.string s) := cell_al (cell_bel s0 hb1) _
  have hBH := Lib.hid (belA (belT hbs hb1) (.cells headsC 197)).drew
  have k0 : (w1.alloc (.cells headsC 197)).drew.cell? ⟨w1.heap.size, 2 * 2, none⟩ = some (.string wGr) := cell_new w1 headsC 197 (2 * 2)
  have k1 : (w1.alloc (.cells headsC 197)).drew.cell? ⟨w1.heap.size, 2 * 2 + 1, none⟩ = some (.func (.func 171) #[] #[]) := cell_new w1 headsC 197 (2 * 2 + 1)
  clear hbs s0 hb1
  unfold headsV
  go_wp2_with fail
  refine wp_region_R (S := fun W => W.cell? ⟨w1.heap.size, 2 * 2, none⟩ = some (.string wGr) ∧ W.cell? ⟨w1.heap.size, 2 * 2 + 1, none⟩ = some (.func (.func 171) #[] #[]) ∧ W.cell? ⟨w.heap.size, 0, none⟩ = some (.string s)) 15 (by kernel_rfl) (by simp) ⟨k0, k1, s1⟩ (fun hHeld => ?_)
  clear k0 k1 s1
  generalize (w1.alloc _).drew = V0 at hBH hHeld ⊢
  refine anyR_take (i := 0) (v := ?_) rfl (by kernel_rfl) (by kernel_rfl) (by kernel_rfl) (fun _ _ _ h => h) (Or.inl ⟨by rfl, ?_⟩) (by assumption) ?_
  rotate_left
  · (intro w hSw; (try dsimp only at hSw); go_simp)
    all_goals with_reducible rfl
  try simp only [Act.put, List.getElem_toArray, List.getElem_cons_succ, List.getElem_cons_zero, List.setIfInBounds_toArray, List.set_cons_zero, List.set_cons_succ]
  refine anyR_take (i := 1) (v := ?_) rfl (by kernel_rfl) (by kernel_rfl) (by kernel_rfl) (fun _ _ _ h => h) (Or.inl ⟨by rfl, ?_⟩) (by assumption) ?_
  rotate_left
  · (intro w hSw; (try dsimp only at hSw); go_simp)
    all_goals with_reducible rfl
  try simp only [Act.put, List.getElem_toArray, List.getElem_cons_succ, List.getElem_cons_zero, List.setIfInBounds_toArray, List.set_cons_zero, List.set_cons_succ]
  refine anyR_take (i := 2) (v := ?_) rfl (by kernel_rfl) (by kernel_rfl) (by kernel_rfl) (fun _ _ _ h => h) (Or.inl ⟨by rfl, ?_⟩) (by assumption) ?_
  rotate_left
  · (intro w hSw; (try dsimp only at hSw); go_simp)
    all_goals with_reducible rfl
  try simp only [Act.put, List.getElem_toArray, List.getElem_cons_succ, List.getElem_cons_zero, List.setIfInBounds_toArray, List.set_cons_zero, List.set_cons_succ]
  refine anyR_take (i := 3) (v := ?_) rfl (by kernel_rfl) (by kernel_rfl) (by kernel_rfl) (fun _ _ _ h => h) (Or.inl ⟨by rfl, ?_⟩) (by assumption) ?_
  rotate_left
  · (intro w hSw; (try dsimp only at hSw); go_simp)
    all_goals with_reducible rfl
  try simp only [Act.put, List.getElem_toArray, List.getElem_cons_succ, List.getElem_cons_zero, List.setIfInBounds_toArray, List.set_cons_zero, List.set_cons_succ]
  refine anyR_take (i := 4) (v := ?_) rfl (by kernel_rfl) (by kernel_rfl) (by kernel_rfl) (fun _ _ _ h => h) (Or.inl ⟨by rfl, ?_⟩) (by assumption) ?_
  rotate_left
  · (intro w hSw; (try dsimp only at hSw); go_simp)
    all_goals with_reducible rfl
  try simp only [Act.put, List.getElem_toArray, List.getElem_cons_succ, List.getElem_cons_zero, List.setIfInBounds_toArray, List.set_cons_zero, List.set_cons_succ]
  refine anyR_take (i := 5) (v := ?_) rfl (by kernel_rfl) (by kernel_rfl) (by kernel_rfl) (fun _ _ _ h => h) (Or.inl ⟨by rfl, ?_⟩) (by assumption) ?_
  rotate_left
  · (intro w hSw; (try dsimp only at hSw); go_simp)
    all_goals with_reducible rfl
  try simp only [Act.put, List.getElem_toArray, List.getElem_cons_succ, List.getElem_cons_zero, List.setIfInBounds_toArray, List.set_cons_zero, List.set_cons_succ]
  refine anyR_take (i := 6) (v := ?_) rfl (by kernel_rfl) (by kernel_rfl) (by kernel_rfl) (fun _ _ _ h => h) (Or.inl ⟨by rfl, ?_⟩) (by assumption) ?_
  rotate_left
  · (intro w hSw; (try dsimp only at hSw); go_simp)
    all_goals with_reducible rfl
  try simp only [Act.put, List.getElem_toArray, List.getElem_cons_succ, List.getElem_cons_zero, List.setIfInBounds_toArray, List.set_cons_zero, List.set_cons_succ]
  refine anyR_take (i := 8) (v := ?_) rfl (by kernel_rfl) (by kernel_rfl) (by kernel_rfl) (fun _ _ _ h => h) (Or.inl ⟨by rfl, ?_⟩) (by assumption) ?_
  rotate_left
  · (intro w hSw; (try dsimp only at hSw); go_simp)
    all_goals with_reducible rfl
  try simp only [Act.put, List.getElem_toArray, List.getElem_cons_succ, List.getElem_cons_zero, List.setIfInBounds_toArray, List.set_cons_zero, List.set_cons_succ]
  refine anyR_take (i := 9) (v := ?_) rfl (by kernel_rfl) (by kernel_rfl) (by kernel_rfl) (fun _ _ _ h => h) (Or.inl ⟨by rfl, ?_⟩) (by assumption) ?_
  rotate_left
  · (intro w hSw; (try dsimp only at hSw); go_simp)
    all_goals with_reducible rfl
  try simp only [Act.put, List.getElem_toArray, List.getElem_cons_succ, List.getElem_cons_zero, List.setIfInBounds_toArray, List.set_cons_zero, List.set_cons_succ]
  refine anyR_take (i := 10) (v := ?_) rfl (by kernel_rfl) (by kernel_rfl) (by kernel_rfl) (fun _ _ _ h => h) (Or.inl ⟨by rfl, ?_⟩) (by assumption) ?_
  rotate_left
  · (intro w hSw; (try dsimp only at hSw); go_simp)
    all_goals with_reducible rfl
  try simp only [Act.put, List.getElem_toArray, List.getElem_cons_succ, List.getElem_cons_zero, List.setIfInBounds_toArray, List.set_cons_zero, List.set_cons_succ]
  refine anyR_take (i := 11) (v := ?_) rfl (by kernel_rfl) (by kernel_rfl) (by kernel_rfl) (fun _ _ _ h => h) (Or.inl ⟨by rfl, ?_⟩) (by assumption) ?_
  rotate_left
  · (intro w hSw; (try dsimp only at hSw); go_simp)
    all_goals with_reducible rfl
  try simp only [Act.put, List.getElem_toArray, List.getElem_cons_succ, List.getElem_cons_zero, List.setIfInBounds_toArray, List.set_cons_zero, List.set_cons_succ]
  refine anyR_take (i := 12) (v := ?_) rfl (by kernel_rfl) (by kernel_rfl) (by kernel_rfl) (fun _ _ _ h => h) (Or.inl ⟨by rfl, ?_⟩) (by assumption) ?_
  rotate_left
  · (intro w hSw; (try dsimp only at hSw); go_simp)
    all_goals with_reducible rfl
  try simp only [Act.put, List.getElem_toArray, List.getElem_cons_succ, List.getElem_cons_zero, List.setIfInBounds_toArray, List.set_cons_zero, List.set_cons_succ]
  refine anyR_take (i := 13) (v := ?_) rfl (by kernel_rfl) (by kernel_rfl) (by kernel_rfl) (fun _ _ _ h => h) (Or.inl ⟨by rfl, ?_⟩) (by assumption) ?_
  rotate_left
  · (intro w hSw; (try dsimp only at hSw); go_simp)
    all_goals with_reducible rfl
  try simp only [Act.put, List.getElem_toArray, List.getElem_cons_succ, List.getElem_cons_zero, List.setIfInBounds_toArray, List.set_cons_zero, List.set_cons_succ]
  refine anyR_ready (rs := [7]) (by kernel_rfl) (by simp) (by decide) ?_
  refine AllReadyR.cons rfl (fun K hK => ?_) AllReadyR.nil
  go_simp
  refine (head3_any R _).mono ?_
  rintro e w2 ⟨rfl, rfl⟩
  refine hK.out _ _ ?_ (fun hHeld => ?_)
  · assumption
  clear hK K
  try simp only [Act.put, List.getElem_toArray, List.getElem_cons_succ, List.getElem_cons_zero, List.setIfInBounds_toArray, List.set_cons_zero, List.set_cons_succ]
  refine anyR_ready (rs := [14]) (by kernel_rfl) (by simp) (by decide) ?_
  refine AllReadyR.cons rfl (fun K hK => ?_) AllReadyR.nil
  go_simp
  refine (asmNumber_any 2 wGr s (by decide) HS.out _ (HE.out.on hBH.out)).mono ?_
  rintro e w3 ⟨hn, hb3⟩
  have hB3 := belT hBH.out hb3
  rcases hn with ⟨n, hn, rfl⟩ | ⟨⟨n, hn⟩, rfl⟩
  · refine hK.out _ _ ?_ (fun hHeld => ?_)
    · exact ⟨cell_bel hHeld.1 hb3, cell_bel hHeld.2.1 hb3, cell_bel hHeld.2.2 hb3⟩
    clear hK K
    try simp only [Act.put, List.getElem_toArray, List.getElem_cons_succ, List.getElem_cons_zero, List.setIfInBounds_toArray, List.set_cons_zero, List.set_cons_succ]
    have HR3 := Lib.hid (H.out.bel hB3)
    have cc := HR3.out.c3
    have ff := HR3.out.f3
    have HB3 := Lib.hid hB3
    have HN := Lib.hid (numO_yes hn)
    have H0 := H
    clear hn hb3 hB3 hHeld hBH H
    refine anyR_end (by kernel_rfl) ?_
    refine wpAny_ready (rs := [15]) (by kernel_rfl) (by simp) ?_
    refine AllReady.cons rfl (fun K hK => ?_) AllReady.nil
    go_simp
    refine hK _ _ ?_
    clear hK K
    try simp only [Act.put, List.getElem_toArray, List.getElem_cons_succ, List.getElem_cons_zero, List.setIfInBounds_toArray, List.set_cons_zero, List.set_cons_succ]
    refine wpAny_ready (rs := [16]) (by kernel_rfl) (by simp) ?_
    refine AllReady.cons rfl (fun K hK => ?_) AllReady.nil
    go_simp
    refine hK _ _ ?_
    clear hK K
    try simp only [Act.put, List.getElem_toArray, List.getElem_cons_succ, List.getElem_cons_zero, List.setIfInBounds_toArray, List.set_cons_zero, List.set_cons_succ]
    refine wpAny_done (by kernel_rfl) ?_ _
    go_wp2_with fail
    go_end0
    have hR := HR3.out.hR
    refine ⟨?_, (HB3.out.mono (Nat.le_of_lt (Nat.lt_of_lt_of_le (lt_of_cell H0.out.c0) (Nat.le_refl _)))).setCell (p := ⟨R, 3, none⟩) (Nat.le_refl _) _⟩
    have hst : stepO 2 s P = (numO wGr s).map _ := rfl
    rw [hst, HN.out]
    exact ⟨rfl, Q, vf, HQ.out, HR3.out.set3 n⟩
  · have HN := Lib.hid (numO_no hn)
    refine ⟨rfl, ?_, hB3.mono (Nat.le_of_lt (lt_of_cell H.out.c0))⟩
    have hst : stepO 2 s P = (numO wGr s).map _ := rfl
    rw [hst, HN.out]
    rfl
end Go.Proofs.YtfnfcngkaepnjaaGreatDoor
