/- Joined texts: Rows of strings that a call owns; append of one. -/
import Derived.Test.YtfnfcngkaepnjaaGreatDoorQE12
import Derived.Deep.RegionLaw
/- Rows of strings that a call owns; append of one. -/
namespace Go.Proofs.YtfnfcngkaepnjaaGreatDoor
set_option linter.unusedVariables false
open Go Go.Proofs Go.RowKit

theorem info_string : (Tryz.prog.info? 9).map (fun i => (i.zero, i.size, i.bytes)) = some (some (.string ⟨#[]⟩), 1, 16) := by kernel_rfl
def strVs (L : List ByteArray) : List Value := L.map Value.string
theorem strVs_append (L M : List ByteArray) : strVs (L ++ M) = strVs L ++ strVs M := List.map_append
theorem strVs_length (L : List ByteArray) : (strVs L).length = L.length := by simp [strVs]

/-- A slice of strings that the call owns, from block base on. -/
structure OwnS (base : Nat) (v : Value) (L : List ByteArray) (w : World) : Prop where
  own : w.ownsRowF base 9 1 v L.length (strVs L)

theorem OwnS.bel {base : Nat} {v : Value} {L : List ByteArray} {w w' : World} (h : OwnS base v L w) (hb : Below w.heap.size w w') : OwnS base v L w' := ⟨own_below h.own hb⟩
theorem OwnS.base {base base' : Nat} {v : Value} {L : List ByteArray} {w : World} (h : OwnS base v L w) (hb : base' ≤ base) : OwnS base' v L w := ⟨own_base h.own hb⟩
theorem OwnS.nil (base : Nat) (w : World) : OwnS base (.slice none 0 0) [] w := ⟨World.ownsRowF_nil _ _ _ _⟩
theorem OwnS.drew {base : Nat} {v : Value} {L : List ByteArray} {w : World} (h : OwnS base v L w) : OwnS base v L w.drew := ⟨h.own⟩
theorem OwnS.made (w : World) (cs : Array Value) (L : List ByteArray) (n : Nat) (hn : n = L.length) (hc : cs.toList = strVs L) (h0 : L.length ≤ 1000000) : OwnS w.heap.size (.slice (some ⟨w.heap.size, 0, none⟩) n n) L (w.alloc (.cells cs 9)) := by
  subst hn
  have hs : cs.size = L.length := by rw [← Array.length_toList, hc, strVs_length]
  refine ⟨⟨by rw [strVs_length, Nat.mul_one], Or.inr ⟨w.heap.size, L.length, cs, (0, 0), rfl, Nat.le_refl _, heap_alloc_new w _, Nat.zero_le _, Nat.le_refl _, by unfold maxLen; omega, by omega, ?_⟩⟩⟩
  rw [hc, Nat.mul_one, List.take_of_length_le (by rw [strVs_length]; exact Nat.le_refl _)]
theorem OwnS.slice {base : Nat} {v : Value} {L : List ByteArray} {w : World} (h : OwnS base v L w) (hn : 0 < L.length) : ∃ g cap, v = .slice (some ⟨g, 0, .none⟩) L.length cap ∧ base ≤ g ∧ L.length ≤ cap ∧ cap ≤ maxLen ∧ g < w.heap.size := own_slice h.own hn
theorem OwnS.cell {base g cap n : Nat} {L : List ByteArray} {w : World} (h : OwnS base (.slice (some ⟨g, 0, none⟩) n cap) L w) (j : Nat) (x : ByteArray) (hj : L[j]? = some x) : w.cell? ⟨g, j, none⟩ = some (.string x) := by
  have := h.own.cells (g := g) rfl j (.string x) (by simp [strVs, hj])
  rwa [WideShapes.add_plain, Nat.zero_add] at this

theorem append_S_run {base : Nat} {v : Value} {L : List ByteArray} {w : World} (ty : TypeId) (h : OwnS base v L w) (ad : Addr) (c : Nat) (x : ByteArray) (hx : w.cell? ad = some (.string x)) (had : ad.spot = none) (hn : L.length ≤ 1000000) (hbase : base ≤ w.heap.size) :
    ∃ v' w', (Builtin.append_ #[67, 67] ty #[v, .slice (some ad) 1 c]).run Tryz.prog w = .ok v' w' ∧ OwnS base v' (L ++ [x]) w' ∧ w.grownBy w' v.ownBlock := by
  obtain ⟨i0, hi0, hz0, hz1, hz2⟩ := info_of info_string
  obtain ⟨v', w', r1, r2, r3, _⟩ := run_append_ownF (P := Tryz.prog) w base 67 ty 9 i0 (.string ⟨#[]⟩) 1 16 Tryz.underlying67 hi0 hz0 hz1 hz2 rfl (by decide) v L.length (strVs L) h.own ad 1 c [.string x] rfl (by
    intro j u hj
    match j, hj with
    | 0, hj =>
      simp at hj
      subst hj
      obtain ⟨b, o, s⟩ := ad
      subst had
      rw [WideShapes.add_plain]
      exact hx) (by intro u hu; simp at hu; subst hu; rfl) (by unfold maxLen; omega) (by omega) hbase
  exact ⟨v', w', r1, ⟨by rw [List.length_append, strVs_append]; exact r2⟩, r3⟩

theorem append_S {w : World} {ops : Array Oper} {rest : List Oper} {o : Oper} {a : Act} {Q : Exit → Act → World → Prop} (hgd : o.guard = none) (s x : Operand)
    (ho : o.op = .call { callee := .builtin .append, args := #[s, x], argTypes := #[67, 67] })
    (base : Nat) (v : Value) (L : List ByteArray) (hs : a.eval s = v) (hown : OwnS base v L w) (ad : Addr) (c : Nat) (y : ByteArray) (hx : a.eval x = .slice (some ad) 1 c) (hy : w.cell? ad = some (.string y)) (had : ad.spot = none)
    (hn : L.length ≤ 1000000) (hbase : base ≤ w.heap.size)
    (h : ∀ v' w', OwnS base v' (L ++ [y]) w' → w.grownBy w' v.ownBlock → Below base w w' → wpList Tryz.prog ops Q rest (a.put o.dst v') w') : wpList Tryz.prog ops Q (o :: rest) a w := by
  refine wpList_plain hgd fun K hK => ?_
  obtain ⟨v', w', r1, r2, r3⟩ := append_S_run o.type hown ad c y hy had hn hbase
  unfold Oper.wp
  simp [execOp, ho, resolve, invoke, builtin, hs, hx, r1, Result.andThen]
  exact hK _ _ (h v' w' r2 r3 ((Below.refl base w).grown r3 hbase (fun k hk => (hown.own.lt k hk).1)))

/-- The same, at a step of a region that draws its order. -/
theorem step_append_S {w : World} {ops : Array Oper} {o : Oper} {a : Act} {K : Act → World → Prop} {Q : Exit → Act → World → Prop} {E : Prop} (hgd : o.guard = none) (s x : Operand)
    (ho : o.op = .call { callee := .builtin .append, args := #[s, x], argTypes := #[67, 67] })
    (base : Nat) (v : Value) (L : List ByteArray) (hs : a.eval s = v) (hown : OwnS base v L w) (ad : Addr) (c : Nat) (y : ByteArray) (hx : a.eval x = .slice (some ad) 1 c) (hy : w.cell? ad = some (.string y)) (had : ad.spot = none)
    (hn : L.length ≤ 1000000) (hbase : base ≤ w.heap.size)
    (h : ∀ v' w', OwnS base v' (L ++ [y]) w' → w.grownBy w' v.ownBlock → Below base w w' → K (a.put o.dst v') w') : if Region.wanted o (yielded ops a.tmps) = true then Oper.wp Tryz.prog o a w K Q else E := by
  have hw : Region.wanted o (yielded ops a.tmps) = true := by simp [Region.wanted, hgd]
  rw [if_pos hw]
  obtain ⟨v', w', r1, r2, r3⟩ := append_S_run o.type hown ad c y hy had hn hbase
  unfold Oper.wp
  simp [execOp, ho, resolve, invoke, builtin, hs, hx, r1, Result.andThen]
  exact h v' w' r2 r3 ((Below.refl base w).grown r3 hbase (fun k hk => (hown.own.lt k hk).1))
end Go.Proofs.YtfnfcngkaepnjaaGreatDoor
