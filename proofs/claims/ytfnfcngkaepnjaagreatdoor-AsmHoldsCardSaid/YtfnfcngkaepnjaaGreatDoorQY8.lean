/- Joined texts: Rows of bytes: those that a call owns, those that it was handed; append; cells that are kept.; Bytes. -/
import Derived.Test.YtfnfcngkaepnjaaGreatDoorQY7
import Derived.Test.YtfnfcngkaepnjaaGreatDoorQY3
import Derived.Lib.FrozenHead2
import Derived.Laws.AppendOwnNone
import Derived.Test.YtfnfcngkaepnjaaGreatDoorQY5
/- Rows of bytes: those that a call owns, those that it was handed; append; cells that are kept. -/
namespace Go.Proofs.YtfnfcngkaepnjaaGreatDoor
set_option linter.unusedVariables false
open Go Go.Proofs Go.RowKit

def byteVs (L : List Nat) : List Value := L.map fun (x : Nat) => .int .u8 x
theorem byteVs_append (L M : List Nat) : byteVs (L ++ M) = byteVs L ++ byteVs M := List.map_append
theorem byteVs_length (L : List Nat) : (byteVs L).length = L.length := by simp [byteVs]

/-- A slice of bytes, readable: nil, or some. -/
def ArgB (w : World) (v : Value) (l : List Nat) : Prop :=
  (v = .slice none 0 0 ∧ l = []) ∨ ∃ ad c, v = .slice (some ad) l.length c ∧ l.length ≤ c ∧ c ≤ 9223372036854775807 ∧ (l ≠ [] → ∃ b o, ad = ⟨b, o, none⟩ ∧ HasB w b o l)

theorem HasB.bel {w w' : World} {b o : Nat} {l : List Nat} (h : HasB w b o l) (hb : Below w.heap.size w w') : HasB w' b o l := ⟨h.1, fun j hj => cell_bel (h.2 j hj) hb⟩
theorem HasB.touch {w w' : World} {b o : Nat} {l : List Nat} {T : Nat → Prop} (h : HasB w b o l) (hb : Touch T w w') (hn : ¬ T b) : HasB w' b o l := ⟨h.1, fun j hj => cell_touch (h.2 j hj) hb hn⟩
theorem HasB.drop {w : World} {b o : Nat} {l : List Nat} (h : HasB w b o l) (n : Nat) : HasB w b (o + n) (l.drop n) :=
  ⟨fun x hx => h.1 x (List.mem_of_mem_drop hx), fun j hj => by
    rw [List.length_drop] at hj
    have := h.2 (n + j) (by omega)
    rw [show o + (n + j) = o + n + j by omega] at this
    rw [this]
    simp [List.getD]⟩

theorem ArgB.bel {w w' : World} {v : Value} {l : List Nat} (h : ArgB w v l) (hb : Below w.heap.size w w') : ArgB w' v l := by
  rcases h with ⟨rfl, rfl⟩ | ⟨ad, c, rfl, hc, hm, hh⟩
  · exact Or.inl ⟨rfl, rfl⟩
  · exact Or.inr ⟨ad, c, rfl, hc, hm, fun h => by obtain ⟨b, o, e, hB⟩ := hh h; exact ⟨b, o, e, hB.bel hb⟩⟩
theorem ArgB.form {w : World} {v : Value} {l : List Nat} (h : ArgB w v l) : ∃ a c, v = .slice a l.length c := by
  rcases h with ⟨rfl, rfl⟩ | ⟨ad, c, rfl, _⟩
  · exact ⟨none, 0, rfl⟩
  · exact ⟨some ad, c, rfl⟩
theorem ArgB.lt {w : World} {v : Value} {l : List Nat} (h : ArgB w v l) : ∀ x ∈ l, x < 256 := by
  intro x hx
  rcases h with ⟨_, rfl⟩ | ⟨ad, c, _, _, _, hh⟩
  · cases hx
  · obtain ⟨_, _, _, hB⟩ := hh (by intro e; rw [e] at hx; cases hx)
    exact hB.1 x hx

theorem own_below {w w' : World} {base : Nat} {e : TypeId} {s : Nat} {v : Value} {n : Nat} {xs : List Value} (h : w.ownsRowF base e s v n xs) (hb : Below w.heap.size w w') : w'.ownsRowF base e s v n xs := by
  refine ⟨h.1, ?_⟩
  rcases h.2 with hn | ⟨g, cap, cur, fz, rfl, hbg, hg, rest⟩
  · exact .inl hn
  · refine .inr ⟨g, cap, cur, fz, rfl, hbg, ?_, rest⟩
    rw [hb.block g (Array.getElem?_eq_some_iff.1 hg).1]
    exact hg
theorem own_base {w : World} {base base' : Nat} {e : TypeId} {s : Nat} {v : Value} {n : Nat} {xs : List Value} (h : w.ownsRowF base e s v n xs) (hb : base' ≤ base) : w.ownsRowF base' e s v n xs := by
  refine ⟨h.1, ?_⟩
  rcases h.2 with hn | ⟨g, cap, cur, fz, rfl, hbg, rest⟩
  · exact .inl hn
  · exact .inr ⟨g, cap, cur, fz, rfl, Nat.le_trans hb hbg, rest⟩
theorem own_slice {w : World} {base : Nat} {e : TypeId} {s : Nat} {v : Value} {n : Nat} {xs : List Value} (h : w.ownsRowF base e s v n xs) (hn : 0 < n) : ∃ g cap, v = .slice (some ⟨g, 0, none⟩) n cap ∧ base ≤ g ∧ n ≤ cap ∧ cap ≤ maxLen ∧ g < w.heap.size := by
  rcases h.2 with ⟨_, h0⟩ | ⟨g, cap, cur, fz, hv, hbg, hg, _, hc, hm, _⟩
  · omega
  · exact ⟨g, cap, hv, hbg, hc, hm, (Array.getElem?_eq_some_iff.1 hg).1⟩

/-- A slice of bytes that the call owns, from block base on. -/
structure OwnB (base : Nat) (v : Value) (L : List Nat) (w : World) : Prop where
  own : w.ownsRowF base 5 1 v L.length (byteVs L)
  lt : ∀ x ∈ L, x < 256

theorem OwnB.bel {base : Nat} {v : Value} {L : List Nat} {w w' : World} (h : OwnB base v L w) (hb : Below w.heap.size w w') : OwnB base v L w' := ⟨own_below h.own hb, h.lt⟩
theorem OwnB.base {base base' : Nat} {v : Value} {L : List Nat} {w : World} (h : OwnB base v L w) (hb : base' ≤ base) : OwnB base' v L w := ⟨own_base h.own hb, h.lt⟩
theorem OwnB.nil (base : Nat) (w : World) : OwnB base (.slice none 0 0) [] w := ⟨World.ownsRowF_nil _ _ _ _, fun _ h => by cases h⟩
theorem OwnB.drew {base : Nat} {v : Value} {L : List Nat} {w : World} (h : OwnB base v L w) : OwnB base v L w.drew := ⟨h.own, h.lt⟩
theorem OwnB.made (w : World) (cs : Array Value) (L : List Nat) (n : Nat) (hn : n = L.length) (hc : cs.toList = byteVs L) (hl : ∀ x ∈ L, x < 256) (h0 : L.length ≤ 1000000) : OwnB w.heap.size (.slice (some ⟨w.heap.size, 0, none⟩) n n) L (w.alloc (.cells cs 5)) := by
  subst hn
  have hs : cs.size = L.length := by rw [← Array.length_toList, hc, byteVs_length]
  refine ⟨⟨by rw [byteVs_length, Nat.mul_one], Or.inr ⟨w.heap.size, L.length, cs, (0, 0), rfl, Nat.le_refl _, heap_alloc_new w _, Nat.zero_le _, Nat.le_refl _, by unfold maxLen; omega, by omega, ?_⟩⟩, hl⟩
  rw [hc, Nat.mul_one, List.take_of_length_le (by rw [byteVs_length]; exact Nat.le_refl _)]
theorem OwnB.arg {base : Nat} {v : Value} {L : List Nat} {w : World} (h : OwnB base v L w) : ArgB w v L := by
  rcases h.own.2 with ⟨rfl, h0⟩ | ⟨g, cap, cur, fz, rfl, hb, hg, _, hc, hm, _⟩
  · exact Or.inl ⟨rfl, List.eq_nil_of_length_eq_zero h0⟩
  · refine Or.inr ⟨_, cap, rfl, hc, by unfold maxLen at hm; omega, fun _ => ⟨g, 0, rfl, h.lt, fun j hj => ?_⟩⟩
    have := h.own.cells (g := g) rfl j (.int .u8 (L.getD j 0 : Nat)) (by simp [byteVs, List.getD, hj])
    rwa [WideShapes.add_plain] at this
theorem OwnB.slice {base : Nat} {v : Value} {L : List Nat} {w : World} (h : OwnB base v L w) (hn : 0 < L.length) : ∃ g cap, v = .slice (some ⟨g, 0, .none⟩) L.length cap ∧ base ≤ g ∧ L.length ≤ cap ∧ cap ≤ maxLen ∧ g < w.heap.size := own_slice h.own hn
theorem OwnB.form {base : Nat} {v : Value} {L : List Nat} {w : World} (h : OwnB base v L w) : ∃ ao cap, v = .slice ao L.length cap := h.arg.form
theorem OwnB.fresh {base : Nat} {v : Value} {L : List Nat} {w : World} (h : OwnB base v L w) (b : Nat) (hb : b < base) : v.ownBlock ≠ some b := by
  intro e
  have := (h.own.lt b e).1
  omega

/-- What append leaves: only the row appended to has turned. -/
theorem Touch.grown {w w' : World} {v : Value} (h : w.grownBy w' v.ownBlock) : Touch (fun b => v.ownBlock = some b) w w' :=
  ⟨h.size, fun k hk hn => h.block k hk (fun e => hn e.symm)⟩

/-- Append of bytes onto an own row. -/
theorem append_B {w : World} {ops : Array Oper} {rest : List Oper} {o : Oper} {a : Act} {Q : Exit → Act → World → Prop} (hgd : o.guard = none) (s x : Operand)
    (ho : o.op = .call { callee := .builtin .append, args := #[s, x], argTypes := #[22, 22] })
    (base : Nat) (v : Value) (L : List Nat) (hs : a.eval s = v) (hown : OwnB base v L w) (X : Value) (l : List Nat) (hx : a.eval x = X) (hv : ArgB w X l)
    (hn : L.length + l.length ≤ 100000000) (hbase : base ≤ w.heap.size)
    (h : ∀ v' w', OwnB base v' (L ++ l) w' → w.grownBy w' v.ownBlock → Below base w w' → wpList Tryz.prog ops Q rest (a.put o.dst v') w') : wpList Tryz.prog ops Q (o :: rest) a w := by
  obtain ⟨i0, hi0, hz0, hz1, hz2⟩ := info_of info_octet
  have hlt : ∀ x ∈ L ++ l, x < 256 := by
    intro x hx
    rcases List.mem_append.1 hx with h | h
    · exact hown.lt x h
    · exact hv.lt x h
  rcases hv with ⟨rfl, rfl⟩ | ⟨ad, c, rfl, hc, hm, hh⟩
  · refine wpList_plain hgd fun K hK => ?_
    have hrun : (Builtin.append_ #[22, 22] o.type #[v, .slice none 0 0]).run Tryz.prog w = .ok v w := by
      rcases hown.own.2 with ⟨rfl, _⟩ | ⟨g, cap, cur, fz, rfl, _, _, _, hnc, _⟩
      · simp [Builtin.append_, run_underlying Tryz.underlying22, sizeOf, typeInfo, hi0, Builtin.lenOf, Builtin.firstCells]
      · simp [Builtin.append_, run_underlying Tryz.underlying22, sizeOf, typeInfo, hi0, Builtin.lenOf, Builtin.firstCells, hnc, storeCells]
    unfold Oper.wp
    simp [execOp, ho, resolve, invoke, builtin, hs, hx, hrun, Result.andThen]
    exact hK _ _ (h v w (by simpa using hown) (World.grownBy.refl _ _) (Below.refl _ _))
  · refine wpList_append_ownF w hgd s x 22 ho base 5 i0 (.int .u8 0) 1 1 Tryz.underlying22 hi0 hz0 hz1 hz2 rfl (by decide) v L.length (byteVs L) hs hown.own ad l.length c (byteVs l) hx (by simp [byteVs]) ?_ ?_ (by unfold maxLen; omega) (by omega) hbase ?_
    · intro j u hj
      have hjl : j < l.length := by have := (List.getElem?_eq_some_iff.1 hj).1; simpa [byteVs] using this
      obtain ⟨b, o, rfl, hB⟩ := hh (by intro e; rw [e] at hjl; simp at hjl)
      rw [WideShapes.add_plain, hB.2 j hjl]
      simp [byteVs, List.getD, hjl] at hj ⊢
      exact hj
    · intro u hu
      simp only [byteVs, List.mem_map] at hu
      obtain ⟨i, _, rfl⟩ := hu
      rfl
    · intro v' w' h1 hgrow _
      refine h v' w' ⟨by rw [List.length_append, byteVs_append]; exact h1, hlt⟩ hgrow ((Below.refl base w).grown hgrow hbase (fun k hk => (hown.own.lt k hk).1))

/-- x[i:], of bytes. -/
theorem slice_from (b o n c i : Nat) (hi : i ≤ n) (hc : i < c) (w : World) : (Instr.slice 22 (.slice (some ⟨b, o, none⟩) n c) (some (.int .i64 i)) none none).run Tryz.prog w = .ok (.slice (some ⟨b, o + i, none⟩) (n - i) (c - i)) w := by
  obtain ⟨i0, hi0, hz0, hz1, hz2⟩ := info_of info_octet
  have h1 : ¬ c = i := by omega
  have h2 : (i : Int) ≤ (n : Int) := by omega
  simp [Instr.slice, run_underlying Tryz.underlying22, Instr.sliceBounds, Instr.sliceBound, asIntOf, sizeOf, typeInfo, hi0, hz1, h1, hi, Addr.add]

/-- Cells that are known, and may be written. -/
def Kept (w : World) : List (Nat × Nat × Value) → Prop
  | [] => True
  | (b, o, v) :: l => (w.cell? ⟨b, o, none⟩ = some v ∧ w.frozen? ⟨b, o, none⟩ = false) ∧ Kept w l
theorem Kept.bel {w w' : World} : ∀ {l : List (Nat × Nat × Value)}, Kept w l → Below w.heap.size w w' → Kept w' l
  | [], _, _ => trivial
  | (_, _, _) :: _, ⟨⟨h, hf⟩, hl⟩, hb => ⟨⟨cell_bel h hb, froz_bel h hf hb⟩, Kept.bel hl hb⟩
theorem Kept.al {w : World} {l : List (Nat × Nat × Value)} (h : Kept w l) (o : Obj) : Kept (w.alloc o) l := h.bel (bel1 o)
theorem Kept.drew {w : World} : ∀ {l : List (Nat × Nat × Value)}, Kept w l → Kept w.drew l
  | [], _ => trivial
  | (_, _, _) :: _, ⟨⟨h, hf⟩, hl⟩ => ⟨⟨h, hf⟩, Kept.drew hl⟩
theorem Kept.app {w : World} : ∀ {l m : List (Nat × Nat × Value)}, Kept w l → Kept w m → Kept w (l ++ m)
  | [], _, _, k => k
  | (_, _, _) :: _, _, ⟨h, hl⟩, k => ⟨h, Kept.app hl k⟩
end Go.Proofs.YtfnfcngkaepnjaaGreatDoor

/- Bytes. -/
namespace Go.Proofs.YtfnfcngkaepnjaaGreatDoor
set_option linter.unusedVariables false
open Go Go.Proofs Go.RowKit

/-- A number's bytes, the least first. -/
def leL (n k : Nat) : List Nat := (List.range k).map fun i => n / 256 ^ i % 256
theorem leB_L (n k : Nat) : leB n k = byteVs (leL n k) := by
  unfold leB leL byteVs
  rw [List.map_map]
  apply List.map_congr_left
  intro i _
  show Value.int .u8 ((n : Int) / 256 ^ i % 256) = Value.int .u8 ((n / 256 ^ i % 256 : Nat) : Int)
  rw [Int.natCast_emod, Int.natCast_ediv, Int.natCast_pow]
  rfl
theorem leL_lt (n k : Nat) : ∀ x ∈ leL n k, x < 256 := by
  intro x hx
  obtain ⟨i, _, rfl⟩ := List.mem_map.1 hx
  exact Nat.mod_lt _ (by decide)
theorem leL_length (n k : Nat) : (leL n k).length = k := by simp [leL]

/-- A part's bytes; an instruction's. -/
def partB (a b c m : Int) (p : Part) : List Nat := leL (getF p a b c m).toNat p.wide.toNat
def insB (op a b c m : Int) : List Nat := op.toNat :: ((namedL.lookup op).getD []).flatMap (partB a b c m)

theorem part_fits {p : Part} (hp : isPart p) (a b c m : Int) (ha : 0 ≤ a ∧ a < 16) (hb : 0 ≤ b ∧ b < 16) (hc : 0 ≤ c ∧ c ≤ 16) (hm : 0 ≤ m ∧ m < 4294967296) :
    (getF p a b c m).toNat < 256 ^ p.wide.toNat ∧ p.wide.toNat ≤ 4 := by
  rcases hp with rfl | rfl | rfl | rfl | ⟨mk, rfl⟩ <;> simp [getF, pA, pB, pC, pM, pI] <;> omega

theorem part_fixed {p : Part} (hp : isPart p) (x : Int) (hx : 0 ≤ x) (hlt : x.toNat < 256 ^ p.wide.toNat) (W : World) :
    Calls Tryz.prog 99 #[.int .u64 x, .int .i64 p.wide] W fun e w' => ∃ v, e = .returned (.tuple #[v, .int .i64 0]) ∧ OwnB W.heap.size v (leL x.toNat p.wide.toNat) w' ∧ Below W.heap.size W w' := by
  obtain ⟨n, rfl⟩ := Int.eq_ofNat_of_zero_le hx
  have key : ∀ k : Nat, p.wide = k → (k = 1 ∨ k = 2 ∨ k = 4 ∨ k = 8) → Calls Tryz.prog 99 #[.int .u64 n, .int .i64 p.wide] W fun e w' => ∃ v, e = .returned (.tuple #[v, .int .i64 0]) ∧ OwnB W.heap.size v (leL (n : Int).toNat p.wide.toNat) w' ∧ Below W.heap.size W w' := by
    intro k hk hk'
    rw [hk] at hlt ⊢
    simp only [Int.toNat_natCast] at hlt ⊢
    refine (fixed_yes n k hk' hlt W).mono ?_
    rintro e w' ⟨v, rfl, h1, h2⟩
    rw [leB_L] at h1
    exact ⟨v, rfl, ⟨by rw [leL_length]; exact h1, leL_lt n k⟩, h2⟩
  rcases hp with rfl | rfl | rfl | rfl | ⟨mk, rfl⟩
  · exact key 1 rfl (by simp)
  · exact key 1 rfl (by simp)
  · exact key 1 rfl (by simp)
  · exact key 1 rfl (by simp)
  · exact key 4 rfl (by simp)

/-- The parts' cells. -/
def PartsC (w : World) (ao : Option Addr) (ps : List Part) : Prop :=
  ∀ k (hk : k < ps.length), ∃ r, ao = some ⟨r, 0, none⟩ ∧ w.cell? ⟨r, k * 4, none⟩ = some (.int .i64 ps[k].wide) ∧
    w.cell? ⟨r, k * 4 + 1, none⟩ = some (.string ps[k].mark) ∧ w.cell? ⟨r, k * 4 + 2, none⟩ = some (.func (.func ps[k].g) #[] #[]) ∧ w.cell? ⟨r, k * 4 + 3, none⟩ = some (.func (.func ps[k].p) #[] #[])
theorem PartsC.bel {w w' : World} {ao : Option Addr} {ps : List Part} (h : PartsC w ao ps) (hb : Below w.heap.size w w') : PartsC w' ao ps := fun k hk => by
  obtain ⟨r, h1, h2, h3, h4, h5⟩ := h k hk
  exact ⟨r, h1, cell_bel h2 hb, cell_bel h3 hb, cell_bel h4 hb, cell_bel h5 hb⟩
theorem PartsC.touch {w w' : World} {ao : Option Addr} {ps : List Part} {T : Nat → Prop} (h : PartsC w ao ps) (hb : Touch T w w') (hn : ∀ r, ao = some ⟨r, 0, none⟩ → 0 < ps.length → ¬ T r) : PartsC w' ao ps := fun k hk => by
  obtain ⟨r, h1, h2, h3, h4, h5⟩ := h k hk
  have hr := hn r h1 (by omega)
  exact ⟨r, h1, cell_touch h2 hb hr, cell_touch h3 hb hr, cell_touch h4 hb hr, cell_touch h5 hb hr⟩
theorem PartsC.drew {w : World} {ao : Option Addr} {ps : List Part} (h : PartsC w ao ps) : PartsC w.drew ao ps := h
theorem PartsC.ne_own {w : World} {ao : Option Addr} {ps : List Part} {base : Nat} {v : Value} {L : List Nat} (h : PartsC w ao ps) (ho : OwnB base v L w) (hL : 0 < L.length) : ∀ r, ao = some ⟨r, 0, none⟩ → 0 < ps.length → v.ownBlock ≠ some r := by
  intro r hr hp e
  obtain ⟨r', h1, h2, _⟩ := h 0 hp
  rw [hr] at h1
  cases h1
  have h3 := ho.own.cells e 0 (.int .u8 (L[0] : Nat)) (by simp [byteVs, hL])
  rw [WideShapes.add_plain] at h3
  simp only [Nat.zero_mul, Nat.add_zero] at h2 h3
  rw [h2] at h3
  cases h3

theorem insB_take (a b c m : Int) (ps : List Part) (k : Nat) (hk : k < ps.length) : (ps.take (k + 1)).flatMap (partB a b c m) = (ps.take k).flatMap (partB a b c m) ++ leL (getF ps[k] a b c m).toNat ps[k].wide.toNat := by
  rw [← List.take_append_getElem hk, List.flatMap_append]
  simp [partB]
theorem insB_small (a b c m : Int) : ∀ (ps : List Part), (∀ p ∈ ps, p.wide.toNat ≤ 4) → (ps.flatMap (partB a b c m)).length ≤ 4 * ps.length
  | [], _ => by simp
  | p :: ps, h => by
    have h1 := insB_small a b c m ps (fun q hq => h q (.tail _ hq))
    have h2 := h p (.head _)
    simp only [List.flatMap_cons, List.length_append, List.length_cons, partB, leL_length] at h1 ⊢
    omega

set_option maxRecDepth 100000 in
set_option maxHeartbeats 8000000 in
theorem insBytes_yes (op a b c m : Int) (hm : 0 ≤ m ∧ m < 4294967296) (hr : rightF op a b c m = true) (w : World) :
    Calls Tryz.prog 39 #[insV op a b c m] w fun e w' => ∃ v, e = .returned (.tuple #[v, .int .i64 0]) ∧ OwnB w.heap.size v (insB op a b c m) w' ∧ Below w.heap.size w w' := by
  obtain ⟨⟨h1, h2⟩, ha, hb, hc⟩ := rightF_bd hr
  have CK := Lib.hid fun W => by
    have := insCheck_any op a b c m hm W
    rw [insCheckF, if_pos hr] at this
    exact this
  have HB := Lib.hid (show insB op a b c m = op.toNat :: ((namedL.lookup op).getD []).flatMap (partB a b c m) from rfl)
  generalize insB op a b c m = out at HB ⊢
  clear hr
  unfold insV at CK ⊢
  go_enter Tryz.func39, Tryz.ntmps39
  go_wp2_with fail
  refine (CK.out _).mono ?_
  rintro e w1 ⟨rfl, hb1⟩
  have hI := Bare.bel (Bare.new op a b c m w 29) hb1
  have hB1 := belT (bel1 _) hb1
  have i0 := hI.c0
  have hlt1 := lt_of_cell i0
  have hOw := OwnB.made w1 #[.int .u8 op] [op.toNat] 1 rfl (by simp [byteVs]; omega) (by simp; omega) (by simp)
  clear hb1
  go_wp2_with fail
  refine (named_any _ _).mono ?_
  rintro e w2 ⟨v, rfl, hb2, hv⟩
  obtain ⟨ao, rfl, hat⟩ := hv.cells
  have hl4 := named_short op
  have HP := Lib.hid (named_parts op)
  generalize (namedL.lookup op).getD [] = ps at hv hat hl4 HP HB ⊢
  have hPC : PartsC w2 ao ps := hat
  have hI2 := hI.bel (belT (bel1 _) hb2)
  have hOw2 := hOw.bel hb2
  have hB2 := belT (belA hB1 (.cells #[.int .u8 op] 5)) hb2
  have hs12 : Hid (w.heap.size < w1.heap.size ∧ w1.heap.size < w2.heap.size) := Lib.hid ⟨by have := lt_of_cell i0; omega, by have := hb2.size; simp at this; omega⟩
  have HPC := Lib.hid hPC
  have HS := Lib.hid (insB_small a b c m)
  clear hat hv hb2 hI i0 hOw hB1 hPC hlt1
  go_wp2_with fail
  go_loopw [23, 5] (fun vi vo wr => ∃ k : Nat, vi = .int .i64 k ∧ k ≤ ps.length ∧ OwnB w1.heap.size vo (op.toNat :: (ps.take k).flatMap (partB a b c m)) wr ∧ Hid (PartsC wr ao ps) ∧ Bare w.heap.size op (a, b, c, m) wr ∧ Below w.heap.size w wr ∧ Hid (w1.heap.size < wr.heap.size)) (fun vi _ _ => ps.length - (intOf vi).toNat)
  case atStart => exact ⟨0, rfl, by omega, hOw2, HPC, hI2, hB2, Lib.hid hs12.out.2⟩
  case round =>
    obtain ⟨k, rfl, hk, hO, hP, hI, hB, hsz⟩ := hrel
    by_cases hlt : k < ps.length
    · obtain ⟨r, rfl, x0, x1, x2, x3⟩ := hP.out k hlt
      have hp := HP.out ps[k] (List.getElem_mem _)
      have hst := Lib.hid (insB_take a b c m ps k hlt)
      have hsm := Lib.hid (HS.out (ps.take k) (fun q hq => (part_fits (HP.out q (List.mem_of_mem_take hq)) a b c m ha hb hc hm).2))
      have hlk : (ps.take k).length ≤ 4 := by rw [List.length_take]; omega
      generalize hpk : ps[k] = p at x0 x1 x2 x3 hp hst
      obtain ⟨eg, _⟩ := part_enters hp
      have hgb := getF_bd p a b c m ⟨by omega, by omega⟩ ⟨by omega, by omega⟩ ⟨by omega, by omega⟩ ⟨by omega, by omega⟩
      have hft := part_fits hp a b c m ha hb hc hm
      have CG := Lib.hid fun W => part_get hp op a b c m ⟨by omega, by omega⟩ ⟨by omega, by omega⟩ ⟨by omega, by omega⟩ ⟨by omega, by omega⟩ W
      have CF := Lib.hid fun W => part_fixed hp (getF p a b c m) hgb.1 hft.1 W
      have hw4 := Lib.hid hft.2
      generalize getF p a b c m = x at hst hgb CG CF hft
      generalize hL : (ps.take k).flatMap (partB a b c m) = Lk at hO hst hsm
      clear hft hp
      unfold insV at CG
      go_wp2
      have p0 := cell_new wr p.cells.toArray 144 0
      have p2 := cell_new wr p.cells.toArray 144 2
      have hI := Bare.bel hI (bel1 (.cells p.cells.toArray 144))
      have hO := OwnB.bel hO (bel1 (.cells p.cells.toArray 144))
      have hP := Lib.hid (PartsC.bel hP.out (bel1 (.cells p.cells.toArray 144)))
      have hB := belA hB (.cells p.cells.toArray 144)
      have hsz : Hid (w1.heap.size < (wr.alloc (.cells p.cells.toArray 144)).heap.size) := Lib.hid (by have := hsz.out; simp; omega)
      dsimp only [Part.cells] at p0 p2 hI hO hP hB hsz
      simp only [List.getElem?_toArray, List.getElem?_cons_succ, List.getElem?_cons_zero] at p0 p2
      generalize wr.alloc _ = V at p0 p2 hI hO hP hB hsz ⊢
      have i0 := hI.c0
      have i1 := hI.c1
      have i2 := hI.c2
      have i3 := hI.c3
      have i4 := hI.c4
      dsimp only at i1 i2 i3 i4
      go_region_with (first | ((with_reducible refine (CG.out _).mono ?_); rintro e w5 ⟨rfl, hb5⟩; have p0 := cell_bel (w := V.drew) p0 hb5) | ((with_reducible refine (CF.out _).mono ?_); rintro e w6 ⟨v6, rfl, hO6, hb6⟩))
      all_goals
        have hb7 : Below V.drew.heap.size V.drew w6 := belT hb5 hb6
        have hsz6 : w1.heap.size ≤ w6.heap.size := by have := hsz.out; have := hb7.size; simp at this; omega
        have hO7 := OwnB.bel hO.drew hb7
        have hP7 := PartsC.bel hP.out.drew hb7
        have hI7 := Bare.bel hI.drew hb7
        have hB7 : Below w.heap.size w w6 := hB.drew.trans (hb7.mono hB.size)
        clear hb5 hb6 p0 p2 i0 i1 i2 i3 i4 hI hO hP hB
        go_wp2_with (at_builtin; refine append_B rfl _ _ rfl w1.heap.size _ _ rfl hO7 _ _ rfl hO6.arg ?_ hsz6 ?_; (have h1 := hsm.out; have h2 := hw4.out; rw [leL_length, List.length_cons]; omega); intro v8 w8 hO8 hg8 hb8)
        have hst' := hst.out
        have hP8 := hP7.touch (Touch.grown hg8) (hP7.ne_own hO7 (by simp))
        have hI8 : Bare w.heap.size op (a, b, c, m) w8 := ⟨cell_belB hI7.c0 hb8 hs12.out.1, cell_belB hI7.c1 hb8 hs12.out.1, cell_belB hI7.c2 hb8 hs12.out.1, cell_belB hI7.c3 hb8 hs12.out.1, cell_belB hI7.c4 hb8 hs12.out.1, froz_belB hI7.f1 hb8 hs12.out.1, froz_belB hI7.f2 hb8 hs12.out.1, froz_belB hI7.f3 hb8 hs12.out.1, froz_belB hI7.f4 hb8 hs12.out.1⟩
        have hB8 : Below w.heap.size w w8 := hB7.trans (hb8.mono (by have := hs12.out.1; omega))
        have hsz8 : w1.heap.size < w8.heap.size := by have h1 := hb8.size; have h2 := hb7.size; have h3 := hsz.out; simp at h2; omega
        clear hI7 hO7 hP7
        go_wp2
        refine ⟨⟨k + 1, by go_num, by omega, ?_, Lib.hid hP8, hI8, hB8, Lib.hid hsz8⟩, by simp [intOf]; omega⟩
        rw [hst']
        simpa using hO8
    · have hk2 : k = ps.length := by omega
      subst hk2
      rw [List.take_length] at hO
      go_wp2
      go_ret2
      exact ⟨_, rfl, by rw [HB.out]; exact hO.base (by have := hs12.out.1; omega), hB⟩

set_option maxRecDepth 100000 in
theorem insBytes_no (op a b c m : Int) (hm : 0 ≤ m ∧ m < 4294967296) (hr : rightF op a b c m = false) (w : World) :
    Calls Tryz.prog 39 #[insV op a b c m] w fun e w' => e = .returned (.tuple #[.slice none 0 0, .int .i64 2]) ∧ Below w.heap.size w w' := by
  have CK := Lib.hid fun W => by
    have := insCheck_any op a b c m hm W
    rw [insCheckF, if_neg (by rw [hr]; decide)] at this
    exact this
  clear hr
  unfold insV at CK ⊢
  go_enter Tryz.func39, Tryz.ntmps39
  go_wp2_with (go_at_call 42; refine (CK.out _).mono ?_; rintro e w1 ⟨rfl, hb1⟩)
  go_ret2
  exact ⟨rfl, belT (bel1 _) hb1⟩
end Go.Proofs.YtfnfcngkaepnjaaGreatDoor
