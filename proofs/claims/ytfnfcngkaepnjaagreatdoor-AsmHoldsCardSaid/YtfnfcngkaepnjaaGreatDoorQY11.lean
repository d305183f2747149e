/- Joined texts: Read, of any bytes. -/
import Derived.Test.YtfnfcngkaepnjaaGreatDoorQY10
/- Read, of any bytes. -/
namespace Go.Proofs.YtfnfcngkaepnjaaGreatDoor
set_option linter.unusedVariables false
open Go Go.Proofs Go.RowKit

def RdJ (w : World) (x : Int) (w' : World) : Prop := ∃ s, RdI w x s w'
/-- A region that ends in giving up with n: of the frame only F is told. -/
def stopsAt (n : Int) (F : Act → Prop) (J : World → Prop) : Exit → Act → World → Prop
  | .panic ch, a, w => F a ∧ ch = [{ v := .iface 38 (.int .i64 n), recovered := false }] ∧ J w
  | _, _, _ => False
theorem wp_stops {P : Program} {c : Code} {Q : Exit → Act → World → Prop} {a : Act} {w : World} (n : Int) (F : Act → Prop) (J : World → Prop) (h2 : ∀ a w, F a → J w → Q (.panic [{ v := .iface 38 (.int .i64 n), recovered := false }]) a w) (h1 : c.wp P (stopsAt n F J) a w) : c.wp P Q a w :=
  Code.wp_mono (by
    intro e a w h
    cases e with
    | panic ch =>
      obtain ⟨hF, rfl, hJ⟩ := h
      exact h2 _ _ hF hJ
    | normal => exact h.elim
    | ret => exact h.elim
    | exit i => exact h.elim
    | goto l => exact h.elim
    | outgrown => exact h.elim) h1
/-- What of a frame stays: three slots, what is deferred. -/
def Keeps3 (p2 p3 p4 : Value) (D : List Deferred) (a : Act) : Prop := a.tmps[2]? = some p2 ∧ a.tmps[3]? = some p3 ∧ a.tmps[4]? = some p4 ∧ a.defers = D
theorem Keeps3.back {p2 p3 p4 : Value} {D : List Deferred} {a : Act} {d : Nat} {v : Value} (hd : 4 < d) (h : Keeps3 p2 p3 p4 D (a.put (some d) v)) : Keeps3 p2 p3 p4 D a := by
  obtain ⟨h2, h3, h4, h5⟩ := h
  refine ⟨?_, ?_, ?_, h5⟩
  · rw [← h2]; simp only [Act.put, Array.getElem?_setIfInBounds]; rw [if_neg (by omega)]
  · rw [← h3]; simp only [Act.put, Array.getElem?_setIfInBounds]; rw [if_neg (by omega)]
  · rw [← h4]; simp only [Act.put, Array.getElem?_setIfInBounds]; rw [if_neg (by omega)]

theorem Bare.put0 {B : Nat} {op op' : Int} {s : Int × Int × Int × Int} {w : World} (h : Bare B op s w) : Bare B op' s (w.setCell ⟨B, 0, none⟩ (.int .i64 op')) := by
  have hc : ∀ j, j ≠ 0 → (w.setCell ⟨B, 0, none⟩ (.int .i64 op')).cell? ⟨B, j, none⟩ = w.cell? ⟨B, j, none⟩ := fun j hj => World.cell?_setCell_other _ _ _ _ (fun e => hj (by have := congrArg Addr.off e; simpa using this.symm))
  have hf : ∀ j, (w.setCell ⟨B, 0, none⟩ (.int .i64 op')).frozen? ⟨B, j, none⟩ = w.frozen? ⟨B, j, none⟩ := fun j => World.frozen?_setCell ..
  exact ⟨World.cell?_setCell_same _ _ _ h.c0, (hc _ (by decide)).trans h.c1, (hc _ (by decide)).trans h.c2, (hc _ (by decide)).trans h.c3, (hc _ (by decide)).trans h.c4, (hf _).trans h.f1, (hf _).trans h.f2, (hf _).trans h.f3, (hf _).trans h.f4⟩

theorem froz_touch {w w' : World} {b o : Nat} {v : Value} {T : Nat → Prop} (h : w.cell? ⟨b, o, none⟩ = some v) (hf : w.frozen? ⟨b, o, none⟩ = false) (ht : Touch T w w') (hn : ¬ T b) : w'.frozen? ⟨b, o, none⟩ = false :=
  (World.frozen?_of_block (ht.same b (lt_of_cell h) hn)).trans hf

theorem RdI.touch {w0 : World} {op : Int} {s : Int × Int × Int × Int} {w w' : World} {T : Nat → Prop} (h : RdI w0 op s w) (ht : Touch T w w') (hb : Below w0.heap.size w w') (hT : ∀ b, T b → w0.heap.size + 1 + 1 < b) : RdI w0 op s w' :=
  have n0 : ¬ T w0.heap.size := fun h => by have := hT _ h; omega
  have n1 : ¬ T (w0.heap.size + 1) := fun h => by have := hT _ h; omega
  have n2 : ¬ T (w0.heap.size + 1 + 1) := fun h => by have := hT _ h; omega
  ⟨h.ins.touch ht n0, froz_touch h.ins.c0 h.f0 ht n0, cell_touch h.c1 ht n1, froz_touch h.c1 h.f1 ht n1, cell_touch h.c2 ht n2, froz_touch h.c2 h.f2 ht n2, h.bel.trans hb⟩

/-- Behind a store into the instruction's block. -/
theorem RdI.put {w0 : World} {op op' : Int} {s s' : Int × Int × Int × Int} {w : World} {o : Nat} {v : Value} (h : RdI w0 op s w) (hb : Bare w0.heap.size op' s' (w.setCell ⟨w0.heap.size, o, none⟩ v)) : RdI w0 op' s' (w.setCell ⟨w0.heap.size, o, none⟩ v) :=
  ⟨hb, (World.frozen?_setCell ..).trans h.f0, (World.cell?_setCell_other _ _ _ _ (by simp)).trans h.c1, (World.frozen?_setCell ..).trans h.f1, (World.cell?_setCell_other _ _ _ _ (by simp)).trans h.c2, (World.frozen?_setCell ..).trans h.f2, h.bel.setCell (by simp) _⟩

theorem Rdr.far {R : Nat} {l : List Nat} {i : Nat} {w : World} {b o : Nat} {v : Value} (h : Rdr R l i w) (hb : b ≠ R) (hc : ∃ x, w.cell? ⟨b, o, none⟩ = some x ∧ ∀ n, x ≠ .int .u8 n) : Rdr R l i (w.setCell ⟨b, o, none⟩ v) := by
  have e : ∀ j, (w.setCell ⟨b, o, none⟩ v).cell? ⟨R, j, none⟩ = w.cell? ⟨R, j, none⟩ := fun j => World.cell?_setCell_other _ _ _ _ (fun e => hb (congrArg Addr.block e))
  obtain ⟨a, c, c0, hA⟩ := h.c0
  obtain ⟨x, hx, hx8⟩ := hc
  refine ⟨⟨a, c, (e _).trans c0, ?_⟩, (e _).trans h.c1, (World.frozen?_setCell ..).trans h.f1⟩
  rcases hA with hA | ⟨ad, c', e1, e2, e3, e4⟩
  · exact Or.inl hA
  · refine Or.inr ⟨ad, c', e1, e2, e3, fun hne => ?_⟩
    obtain ⟨b', o', e5, hB⟩ := e4 hne
    refine ⟨b', o', e5, hB.1, fun j hj => ?_⟩
    have hj' := hB.2 j hj
    by_cases he : (⟨b', o' + j, none⟩ : Addr) = ⟨b, o, none⟩
    · rw [he, hx] at hj'; exact absurd (Option.some.inj hj') (hx8 _)
    · exact (World.cell?_setCell_other _ _ _ _ (fun e => he e.symm)).trans hj'

theorem PartsC.ne_rdr {w : World} {ao : Option Addr} {ps : List Part} {R : Nat} {l : List Nat} {i : Nat} (h : PartsC w ao ps) (ho : Rdr R l i w) : ∀ r, ao = some ⟨r, 0, none⟩ → 0 < ps.length → r ≠ R := by
  rintro r hr hp rfl
  obtain ⟨r', h1, h2, _⟩ := h 0 hp
  rw [hr] at h1
  cases h1
  obtain ⟨a, c, c0, _⟩ := ho.c0
  simp only [Nat.zero_mul] at h2
  rw [c0] at h2
  cases h2
theorem PartsC.ne_bare {w : World} {ao : Option Addr} {ps : List Part} {B : Nat} {op : Int} {s : Int × Int × Int × Int} (h : PartsC w ao ps) (ho : Bare B op s w) : ∀ r, ao = some ⟨r, 0, none⟩ → 0 < ps.length → r ≠ B := by
  rintro r hr hp rfl
  obtain ⟨r', h1, _, h2, _⟩ := h 0 hp
  rw [hr] at h1
  cases h1
  have := ho.c1
  simp only [Nat.zero_mul, Nat.zero_add] at h2
  rw [this] at h2
  cases h2

theorem part_wide {p : Part} (hp : isPart p) : ∃ k : Nat, (k = 1 ∨ k = 2 ∨ k = 4 ∨ k = 8) ∧ p.wide = k ∧ p.wide.toNat = k ∧ k ≤ 4 := by
  rcases hp with rfl | rfl | rfl | rfl | ⟨mk, rfl⟩
  · exact ⟨1, by simp, rfl, rfl, by omega⟩
  · exact ⟨1, by simp, rfl, rfl, by omega⟩
  · exact ⟨1, by simp, rfl, rfl, by omega⟩
  · exact ⟨1, by simp, rfl, rfl, by omega⟩
  · exact ⟨4, by simp, rfl, rfl, by omega⟩

theorem part_number {p : Part} (hp : isPart p) (R : Nat) (l : List Nat) (i : Nat) (hl : l.length ≤ 9223372036854775807) (hk : i + p.wide.toNat ≤ l.length) (w : World) (hR : Rdr R l i w) :
    Calls Tryz.prog 101 #[.pointer (some ⟨R, 0, none⟩), .int .i64 p.wide] w fun e w' =>
      e = .returned (.int .u64 (leN (l.drop i) p.wide.toNat)) ∧ Rdr R l (i + p.wide.toNat) w' ∧ Touch (fun b => b = R) w w' ∧ ∀ base, base ≤ R → base ≤ w.heap.size → Below base w w' := by
  obtain ⟨k, h1, h2, h3, _⟩ := part_wide hp
  rw [h3] at hk ⊢
  rw [h2]
  exact number_ok R l i k hl h1 hk w hR
theorem part_number_no {p : Part} (hp : isPart p) (R : Nat) (l : List Nat) (i : Nat) (hl : l.length ≤ 9223372036854775807) (hi : i ≤ l.length) (hk : l.length < i + p.wide.toNat) (w : World) (hR : Rdr R l i w) :
    Calls Tryz.prog 101 #[.pointer (some ⟨R, 0, none⟩), .int .i64 p.wide] w fun e w' => e = gaveUp 110 ∧ Below w.heap.size w w' := by
  obtain ⟨k, h1, h2, h3, _⟩ := part_wide hp
  rw [h3] at hk
  rw [h2]
  exact number_no R l i k hl hi hk w hR

theorem leN_pow (l : List Nat) (h : ∀ x ∈ l, x < 256) (i k : Nat) (hk : k ≤ 4) : leN (l.drop i) k < 4294967296 := by
  have h1 := leN_lt (l.drop i) (fun x hx => h x (List.mem_of_mem_drop hx)) k
  have h2 : 256 ^ k ≤ 256 ^ 4 := Nat.pow_le_pow_right (by decide) hk
  have h3 : (256 : Nat) ^ 4 = 4294967296 := by decide
  omega

theorem readS_bd (l : List Nat) (h : ∀ x ∈ l, x < 256) : ∀ (ps : List Part) (i : Nat) (s : Int × Int × Int × Int), (∀ p ∈ ps, isPart p) → (0 ≤ s.2.2.2 ∧ s.2.2.2 < 4294967296) → 0 ≤ (readS l ps i s).2.2.2 ∧ (readS l ps i s).2.2.2 < 4294967296
  | [], _, _, _, hs => hs
  | p :: ps, i, s, hp, hs => by
    refine readS_bd l h ps _ _ (fun q hq => hp q (.tail _ hq)) ?_
    obtain ⟨k, _, _, h3, h4⟩ := part_wide (hp p (.head _))
    have := leN_pow l h i p.wide.toNat (by omega)
    unfold putN
    split
    · exact hs
    · split
      · exact hs
      · split
        · exact hs
        · constructor <;> dsimp only <;> omega

theorem rdr_start (w : World) (v : Value) (l : List Nat) (hv : ArgB w v l) : Rdr w.heap.size l 0 (w.alloc (.cells #[v, .int .i64 0] 169)) := by
  obtain ⟨a, c, rfl⟩ := hv.form
  exact ⟨⟨a, c, cell_new w _ _ 0, hv.bel (bel1 _)⟩, cell_new w _ _ 1, World.frozen?_alloc_new _ _ _ _⟩

set_option maxRecDepth 100000 in
set_option maxHeartbeats 4000000 in
theorem read_nil (v : Value) (w : World) (hv : ArgB w v []) :
    Calls Tryz.prog 40 #[v] w fun e w' => e = .returned (readF []) ∧ Below w.heap.size w w' := by
  obtain ⟨ao, c, rfl⟩ := hv.form
  have hmf : ∀ (fn : Fn) (first cap : Array Value) (w : World), (Instr.makeFunc fn first cap).run Tryz.prog w = .ok (.func fn first cap) w := fun _ _ _ _ => rfl
  go_enter_defers Tryz.func40, Tryz.ntmps40
  go_wp2_with fail
  have h0 := rdI_start w
  have hR := rdr_start _ _ _ (hv.bel (belA (belA (bel1 (.cells #[.int .i64 0, .int .i64 0, .int .i64 0, .int .i64 0, .int .u32 0] 29)) (.cells #[.int .i64 0] 3)) (.cells #[.int .i64 0] 38)))
  simp only [World.size_alloc] at hR
  refine (number_no _ [] 0 1 (by simp) (by simp) (by simp) _ hR).mono ?_
  rintro e w1 ⟨rfl, hb1⟩
  go_wp2_with fail
  exact read_panics w _ _ w1 ((h0.more (bel1 _)).more hb1) 110 _ rfl rfl rfl _ rfl

theorem readF_bad (x : Nat) (l : List Nat) (h : ¬ (1 ≤ (x : Int) ∧ (x : Int) ≤ 19)) : readF (x :: l) = readV 0 0 0 0 0 0 180 := if_neg h
theorem readF_in (x : Nat) (l : List Nat) (h : 1 ≤ (x : Int) ∧ (x : Int) ≤ 19) : readF (x :: l) = if (x :: l).length < 1 + wideF ((namedL.lookup (x : Int)).getD []) then readV 0 0 0 0 0 0 110 else
    if rightF x (readS (x :: l) ((namedL.lookup (x : Int)).getD []) 1 (0, 0, 0, 0)).1 (readS (x :: l) ((namedL.lookup (x : Int)).getD []) 1 (0, 0, 0, 0)).2.1 (readS (x :: l) ((namedL.lookup (x : Int)).getD []) 1 (0, 0, 0, 0)).2.2.1 (readS (x :: l) ((namedL.lookup (x : Int)).getD []) 1 (0, 0, 0, 0)).2.2.2 = true then
      readV x (readS (x :: l) ((namedL.lookup (x : Int)).getD []) 1 (0, 0, 0, 0)).1 (readS (x :: l) ((namedL.lookup (x : Int)).getD []) 1 (0, 0, 0, 0)).2.1 (readS (x :: l) ((namedL.lookup (x : Int)).getD []) 1 (0, 0, 0, 0)).2.2.1 (readS (x :: l) ((namedL.lookup (x : Int)).getD []) 1 (0, 0, 0, 0)).2.2.2 (1 + wideF ((namedL.lookup (x : Int)).getD []) : Nat) 0 else readV 0 0 0 0 0 0 180 := if_pos h

set_option maxRecDepth 100000 in
set_option maxHeartbeats 16000000 in
theorem read_cons (x : Nat) (l : List Nat) (hl : (x :: l).length ≤ 9223372036854775000) (v : Value) (w : World) (hv : ArgB w v (x :: l)) :
    Calls Tryz.prog 40 #[v] w fun e w' => e = .returned (readF (x :: l)) ∧ Below w.heap.size w w' := by
  have hx := hv.lt x (.head _)
  have hlt := Lib.hid hv.lt
  have hx1 : leN ((x :: l).drop 0) 1 = x := by simp [leN]
  have hlen1 : 1 ≤ (x :: l).length := by simp
  have HF0 := Lib.hid (readF_bad x l)
  have HF1 := Lib.hid (readF_in x l)
  generalize readF (x :: l) = V at HF0 HF1 ⊢
  have N0 := Lib.hid fun R w hR => (by
    have := number_ok R (x :: l) 0 1 (by omega) (by simp) (by omega) w hR
    rw [hx1] at this
    exact this : Calls Tryz.prog 101 #[.pointer (some ⟨R, 0, none⟩), .int .i64 1] w fun e w' => e = .returned (.int .u64 x) ∧ Rdr R (x :: l) 1 w' ∧ Touch (fun b => b = R) w w' ∧ ∀ base, base ≤ R → base ≤ w.heap.size → Below base w w')
  generalize hL : x :: l = L at *
  clear hx1 hL
  obtain ⟨ao, c, rfl⟩ := hv.form
  have HR := Lib.hid fun w (hv : ArgB w (.slice ao L.length c) L) => rdr_start w _ _ hv
  have hx0 : (x : Int) < 256 := by omega
  have hmf : ∀ (fn : Fn) (first cap : Array Value) (w : World), (Instr.makeFunc fn first cap).run Tryz.prog w = .ok (.func fn first cap) w := fun _ _ _ _ => rfl
  go_enter_defers Tryz.func40, Tryz.ntmps40
  go_wp2_with fail
  have h0 := rdI_start w
  have hR := HR.out _ (hv.bel (belA (belA (bel1 (.cells #[.int .i64 0, .int .i64 0, .int .i64 0, .int .i64 0, .int .u32 0] 29)) (.cells #[.int .i64 0] 3)) (.cells #[.int .i64 0] 38)))
  have h0 := h0.more (bel1 (.cells #[.slice ao L.length c, .int .i64 0] 169))
  simp only [World.size_alloc] at hR
  refine (N0.out _ _ hR).mono ?_
  rintro e w1 ⟨rfl, hR1, ht1, hb1⟩
  have hb1 := hb1 w.heap.size (by omega) (by simp; omega)
  have h1 := h0.touch ht1 hb1 (by rintro b rfl; omega)
  have hsz1 : w.heap.size + 1 + 1 + 1 < w1.heap.size := by have := ht1.size; simp at this; omega
  clear h0 hR ht1 hb1 N0 HR hv
  obtain ⟨k0, kf0⟩ : w1.cell? ⟨w.heap.size, 0, none⟩ = some (.int .i64 0) ∧ w1.frozen? ⟨w.heap.size, 0, none⟩ = false := ⟨h1.ins.c0, h1.f0⟩
  have h2 := h1.put (h1.ins.put0 (op' := x))
  have hR2 := hR1.far (b := w.heap.size) (o := 0) (v := .int .i64 x) (by omega) ⟨_, k0, fun n e => by cases e⟩
  clear h1 hR1
  go_wp2_with fail
  generalize hW : w1.setCell ⟨w.heap.size, 0, none⟩ (.int .i64 x) = w2 at h2 hR2 ⊢
  have hsz2 : w.heap.size + 1 + 1 + 1 < w2.heap.size := by rw [← hW]; simpa using hsz1
  clear hW hsz1 k0 kf0
  by_cases hop : 1 ≤ (x : Int) ∧ (x : Int) ≤ 19
  · have HF := Lib.hid (HF1.out hop)
    clear HF0 HF1
    obtain ⟨o1, o2⟩ := hop
    have k0 := h2.ins.c0
    go_wp2_with (first
      | (go_at_call 102; refine (is_any _ _).mono ?_; rintro e w1 ⟨rfl, rfl⟩)
      | (go_at_call 94; refine (must_yes _ _).mono ?_; rintro e w3 ⟨rfl, rfl⟩))
    refine (named_any _ _).mono ?_
    rintro e w3 ⟨vp, rfl, hb3, hv⟩
    obtain ⟨ao', rfl, hat⟩ := hv.cells
    have hl4 := named_short (x : Int)
    have HP := Lib.hid (named_parts (x : Int))
    generalize (namedL.lookup (x : Int)).getD [] = ps at hv hat hl4 HP HF ⊢
    have HPC := Lib.hid (show PartsC w3 ao' ps from hat)
    have h3 := h2.more hb3
    have hR3 := hR2.bel hb3
    have hsz3 : Hid (w.heap.size + 1 + 1 + 1 < w3.heap.size) := Lib.hid (by have := hb3.size; omega)
    clear hat hv hb3 h2 hR2 hsz2 k0
    go_wp2_with fail
    go_loopw [25] (fun vi wr => ∃ k : Nat, vi = .int .i64 k ∧ k ≤ ps.length ∧ RdI w x (readS L (ps.take k) 1 (0, 0, 0, 0)) wr ∧ Rdr (w.heap.size + 1 + 1 + 1) L (1 + wideF (ps.take k)) wr ∧ Hid (PartsC wr ao' ps) ∧ Hid (w.heap.size + 1 + 1 + 1 < wr.heap.size) ∧ Hid (1 + wideF (ps.take k) ≤ L.length)) (fun vi _ => ps.length - (intOf vi).toNat)
    case atStart => exact ⟨0, rfl, by omega, h3, hR3, HPC, hsz3, Lib.hid hlen1⟩
    case round =>
      obtain ⟨k, rfl, hk, hI, hR, hP, hsz, hle⟩ := hrel
      clear h3 hR3 HPC hsz3
      by_cases hlt' : k < ps.length
      · obtain ⟨r, rfl, x0, x1, x2, x3⟩ := hP.out k hlt'
        have hp := HP.out ps[k] (List.getElem_mem _)
        have hst := Lib.hid (readS_take L ps k hlt' 1 (0, 0, 0, 0))
        have hwt := Lib.hid (wideF_take ps k hlt')
        have hwl := Lib.hid (wideF_le ps (k + 1))
        generalize hpk : ps[k] = p at x0 x1 x2 x3 hp hst hwt
        obtain ⟨_, ep⟩ := part_enters hp
        have hn := leN_pow L hlt.out (1 + wideF (ps.take k)) p.wide.toNat (by obtain ⟨_, _, _, h3, h4⟩ := part_wide hp; omega)
        by_cases hfit : 1 + wideF (ps.take k) + p.wide.toNat ≤ L.length
        · have CN := Lib.hid fun W hR => part_number hp (w.heap.size + 1 + 1 + 1) L (1 + wideF (ps.take k)) (by omega) hfit W hR
          generalize leN (L.drop (1 + wideF (ps.take k))) p.wide.toNat = n at hst hn CN
          have CP := Lib.hid fun W h => part_put hp w.heap.size x n (readS L (ps.take k) 1 (0, 0, 0, 0)) ⟨by omega, by omega⟩ W h
          have hfit' := Lib.hid hfit
          clear hfit hp
          generalize readS L (ps.take k) 1 (0, 0, 0, 0) = sk at hst hI CP
          go_wp2
          have p0 := cell_new wr p.cells.toArray 144 0
          have p3 := cell_new wr p.cells.toArray 144 3
          have hI := RdI.more hI (bel1 (.cells p.cells.toArray 144))
          have hR := Rdr.bel hR (bel1 (.cells p.cells.toArray 144))
          have hP := Lib.hid (PartsC.bel hP.out (bel1 (.cells p.cells.toArray 144)))
          dsimp only [Part.cells] at p0 p3 hI hR hP
          simp only [List.getElem?_toArray, List.getElem?_cons_succ, List.getElem?_cons_zero] at p0 p3
          have hszV : Hid (w.heap.size + 1 + 1 + 1 < (wr.alloc (.cells #[.int .i64 p.wide, .string p.mark, .func (.func p.g) #[] #[], .func (.func p.p) #[] #[]] 144)).heap.size) := Lib.hid (by have := hsz.out; simp; omega)
          generalize wr.alloc _ = V at p0 p3 hI hR hP hszV ⊢
          have hRV := hR.drew
          have hIV := hI.more (Below.refl _ _).drew
          have hPV : Hid (PartsC V.drew (some ⟨r, 0, none⟩) ps) := Lib.hid hP.out.drew
          have hne : wr.heap.size ≠ w.heap.size + 1 + 1 + 1 := by have := hsz.out; omega
          clear hR hI hP
          refine wp_cut (fun a w => _) ?_ (fun _ _ h => h)
          go_region_with (first | ((with_reducible refine (CN.out _ hRV).mono ?_); rintro e w5 ⟨rfl, hR5, ht5, hb5⟩; have p3 := cell_touch (W := V.drew) p3 ht5 hne; have hI5 := hIV.touch ht5 (hb5 _ (by omega) (by have := hszV.out; simp; omega)) (by rintro b rfl; omega); have hP5 := Lib.hid (hPV.out.touch ht5 (hPV.out.ne_rdr hRV))) | ((with_reducible refine (CP.out _ hI5.ins).mono ?_); rintro e w6 ⟨rfl, hq6, o6, v6, rfl, y6, hy6, hy6'⟩))
          all_goals simp only [goesOn_normal]
          all_goals go_wp2
          all_goals
            refine ⟨⟨k + 1, by go_num, by omega, ?_, ?_, ?_, ?_, ?_⟩, by simp [intOf]; omega⟩
            · rw [hst.out]
              exact hI5.put hq6
            · rw [hwt.out, ← Nat.add_assoc]
              exact hR5.far (by omega) ⟨_, hy6, hy6'⟩
            · exact Lib.hid (hP5.out.touch (T := fun b => b = w.heap.size) (Touch.setCell _ _ _ rfl) (hP5.out.ne_bare hI5.ins))
            · have := ht5.size
              have := hszV.out
              exact Lib.hid (by simp at *; omega)
            · exact Lib.hid (by rw [hwt.out, ← Nat.add_assoc]; exact hfit'.out)
        · have CN := Lib.hid fun W hR => part_number_no hp (w.heap.size + 1 + 1 + 1) L (1 + wideF (ps.take k)) (by omega) hle.out (by omega) W hR
          have HV : Hid (V = readV 0 0 0 0 0 0 110) := Lib.hid (by
            rw [HF.out, if_pos]
            have h1 := hwt.out
            have h2 := hwl.out
            omega)
          clear hfit hp hn hst
          go_wp2
          have p0 := cell_new wr p.cells.toArray 144 0
          have p3 := cell_new wr p.cells.toArray 144 3
          have hI := RdI.more hI (bel1 (.cells p.cells.toArray 144))
          have hR := Rdr.bel hR (bel1 (.cells p.cells.toArray 144))
          dsimp only [Part.cells] at p0 p3 hI hR
          simp only [List.getElem?_toArray, List.getElem?_cons_succ, List.getElem?_cons_zero] at p0 p3
          generalize wr.alloc _ = V at p0 p3 hI hR ⊢
          refine wp_stops 110 (Keeps3 (.pointer (some ⟨w.heap.size, 0, none⟩)) (.pointer (some ⟨w.heap.size + 1, 0, none⟩)) (.pointer (some ⟨w.heap.size + 1 + 1, 0, none⟩)) [{ target := Target.fn (Fn.func 87) #[], args := #[.pointer (some ⟨w.heap.size + 1 + 1, 0, none⟩), .func (.func 100) #[] #[.pointer (some ⟨w.heap.size, 0, none⟩), .pointer (some ⟨w.heap.size + 1, 0, none⟩)]] }])
            (RdJ w x) ?_ ?_
          · rintro ⟨t, D⟩ w5 ⟨t2, t3, t4, rfl⟩ ⟨s, hs⟩
            exact read_panics w _ _ w5 hs 110 t t2 t3 t4 _ HV.out
          have p0 : V.drew.cell? ⟨wr.heap.size, 0, none⟩ = some (.int .i64 p.wide) := p0
          have p3 : V.drew.cell? ⟨wr.heap.size, 3, none⟩ = some (.func (.func p.p) #[] #[]) := p3
          have hI := hI.more (Below.refl _ _).drew
          have hR := hR.drew
          refine wp_region_any (by kernel_rfl) ?_
          change wpAny _ _ _ _ _ _ _ (World.drew _)
          refine wpAny_take (i := 0) (v := (.pointer (some ⟨wr.heap.size, 3, none⟩))) rfl (by kernel_rfl) (by kernel_rfl) (by kernel_rfl) (fun _ _ _ h => ⟨Keeps3.back (by decide) h.1, h.2⟩) (Or.inl ⟨by rfl, by intro w; go_simp⟩) ?_
          refine wpAny_take (i := 2) (v := (.pointer (some ⟨w.heap.size + 1 + 1 + 1, 0, none⟩))) rfl (by kernel_rfl) (by kernel_rfl) (by kernel_rfl) (fun _ _ _ h => ⟨Keeps3.back (by decide) h.1, h.2⟩) (Or.inl ⟨by rfl, by intro w; go_simp⟩) ?_
          refine wpAny_take (i := 3) (v := (.pointer (some ⟨wr.heap.size, 0, none⟩))) rfl (by kernel_rfl) (by kernel_rfl) (by kernel_rfl) (fun _ _ _ h => ⟨Keeps3.back (by decide) h.1, h.2⟩) (Or.inl ⟨by rfl, by intro w; go_simp⟩) ?_
          refine wpAny_ready (rs := [1, 4]) (by kernel_rfl) (by simp) ?_
          refine AllReady.cons rfl (fun K hK => ?_) (AllReady.cons rfl (fun K hK => ?_) AllReady.nil)
          · go_simp
            refine hK _ _ ?_
            clear hK K
            refine wpAny_ready (rs := [4]) (by kernel_rfl) (by simp) ?_
            refine AllReady.cons rfl (fun K hK => ?_) AllReady.nil
            go_simp
            refine hK _ _ ?_
            clear hK K
            refine wpAny_ready (rs := [5]) (by kernel_rfl) (by simp) ?_
            refine AllReady.cons rfl (fun K hK => ?_) AllReady.nil
            go_simp
            refine (CN.out _ hR).mono ?_
            rintro e w5 ⟨rfl, hb5⟩
            go_wp2_with fail
            exact ⟨⟨rfl, rfl, rfl, rfl⟩, rfl, _, hI.more hb5⟩
          · go_simp
            refine hK _ _ ?_
            clear hK K
            refine wpAny_ready (rs := [1, 5]) (by kernel_rfl) (by simp) ?_
            refine AllReady.cons rfl (fun K hK => ?_) (AllReady.cons rfl (fun K hK => ?_) AllReady.nil)
            · go_simp
              refine hK _ _ ?_
              clear hK K
              refine wpAny_ready (rs := [5]) (by kernel_rfl) (by simp) ?_
              refine AllReady.cons rfl (fun K hK => ?_) AllReady.nil
              go_simp
              refine (CN.out _ hR).mono ?_
              rintro e w5 ⟨rfl, hb5⟩
              go_wp2_with fail
              exact ⟨⟨rfl, rfl, rfl, rfl⟩, rfl, _, hI.more hb5⟩
            · go_simp
              refine (CN.out _ hR).mono ?_
              rintro e w5 ⟨rfl, hb5⟩
              go_wp2_with fail
              exact ⟨⟨rfl, rfl, rfl, rfl⟩, rfl, _, hI.more hb5⟩
      · have hk2 : k = ps.length := by omega
        subst hk2
        rw [List.take_length] at hI hR hle
        have HV := Lib.hid ((HF.out.trans (if_neg (by have := hle.out; omega))))
        have hbd := readS_bd L hlt.out ps 1 (0, 0, 0, 0) HP.out ⟨by simp, by simp⟩
        obtain ⟨s1, s2, s3, s4, hs⟩ : ∃ s1 s2 s3 s4, readS L ps 1 (0, 0, 0, 0) = (s1, s2, s3, s4) := ⟨_, _, _, _, rfl⟩
        rw [hs] at hI HV hbd
        have CR := Lib.hid fun W => insRight_any x s1 s2 s3 s4 hbd W
        unfold insV at CR
        dsimp only at HV
        clear hs hP HF hle
        have hI' := hI
        obtain ⟨⟨i0, i1, i2, i3, i4, _, _, _, _⟩, _, _, _, _, _, _⟩ := hI'
        dsimp only at i1 i2 i3 i4
        cases hr : rightF x s1 s2 s3 s4 with
        | false =>
          have HV' := Lib.hid (HV.out.trans (if_neg (by rw [hr]; decide)))
          rw [hr] at CR
          clear HV hr
          go_wp2_with fail
          refine (CR.out _).mono ?_
          rintro e w6 ⟨rfl, hb6⟩
          go_wp2_with fail
          refine (must_no _ _).mono ?_
          rintro e w7 ⟨rfl, rfl⟩
          go_wp2_with fail
          exact read_panics w _ _ _ (hI.more hb6) 180 _ rfl rfl rfl _ HV'.out
        | true =>
          have HV' := Lib.hid (HV.out.trans (if_pos hr))
          rw [hr] at CR
          clear HV hr
          go_wp2_with fail
          refine (CR.out _).mono ?_
          rintro e w6 ⟨rfl, hb6⟩
          have hI6 := hI.more hb6
          have hR6 := hR.bel hb6
          clear i0 i1 i2 i3 i4 hI hR
          go_wp2_with fail
          refine (must_yes _ _).mono ?_
          rintro e w7 ⟨rfl, rfl⟩
          go_wp2_with fail
          refine wp_region_tail 5 (by kernel_rfl) (by kernel_rfl) ?_
          intro W hW
          have hI := hI6.more (Below.refl _ _).drew
          have hR := hR6.drew
          rw [hW] at hI hR
          clear hW hI6 hR6 hb6
          have hr1 := hR.c1
          have hI' := hI
          obtain ⟨hIb, f0, c1, f1, c2, f2, hB⟩ := hI'
          have hset := Bare.set hIb x s1 s2 s3 s4
          have htch := touch_set5 w.heap.size W (.int .i64 x) (.int .i64 s1) (.int .i64 s2) (.int .i64 s3) (.int .u32 s4) (T := fun b => b = w.heap.size) rfl
          have hBs : Below w.heap.size W (((((W.setCell ⟨w.heap.size, 0, none⟩ (.int .i64 x)).setCell ⟨w.heap.size, 1, none⟩ (.int .i64 s1)).setCell ⟨w.heap.size, 2, none⟩ (.int .i64 s2)).setCell ⟨w.heap.size, 3, none⟩ (.int .i64 s3)).setCell ⟨w.heap.size, 4, none⟩ (.int .u32 s4)) := ((((((Below.refl _ _).setCell (p := ⟨w.heap.size, 0, none⟩) (Nat.le_refl _) _).setCell (p := ⟨w.heap.size, 1, none⟩) (Nat.le_refl _) _).setCell (p := ⟨w.heap.size, 2, none⟩) (Nat.le_refl _) _).setCell (p := ⟨w.heap.size, 3, none⟩) (Nat.le_refl _) _).setCell (p := ⟨w.heap.size, 4, none⟩) (Nat.le_refl _) _)
          have HSET := Lib.hid hset
          have HTCH := Lib.hid htch
          have HBS := Lib.hid hBs
          have HI := Lib.hid hI
          obtain ⟨i0, i1, i2, i3, i4, j1, j2, j3, j4⟩ := hIb
          dsimp only at i1 i2 i3 i4
          clear hset htch hBs hI hB hR
          simp only [List.take_succ_cons, List.take_zero, List.drop_succ_cons, List.drop_zero]
          repeat still_step
          refine wpStill_nil ?_
          go_wp2
          have t1 := HTCH.out
          have b5 := HBS.out
          have b6 := HSET.out
          have f1' := cell_touch (HI.out.c1) t1 (by omega)
          have f2' := cell_touch (HI.out.c2) t1 (by omega)
          generalize ((((W.setCell _ _).setCell _ _).setCell _ _).setCell _ _).setCell _ _ = W5 at t1 b5 b6 f1' f2' ⊢
          have g1 := (b6.far (B' := w.heap.size + 1) (o := 0) (v := .int .i64 (1 + (wideF ps : Int))) (by omega)).far (B' := w.heap.size + 1 + 1) (o := 0) (v := .int .i64 0) (by omega)
          have g2 := (World.cell?_setCell_other (W5.setCell ⟨w.heap.size + 1, 0, none⟩ (.int .i64 (1 + (wideF ps : Int)))) ⟨w.heap.size + 1 + 1, 0, none⟩ ⟨w.heap.size + 1, 0, none⟩ (.int .i64 0) (by simp)).trans (World.cell?_setCell_same W5 ⟨w.heap.size + 1, 0, none⟩ (.int .i64 (1 + (wideF ps : Int))) f1')
          have g3 := World.cell?_setCell_same (W5.setCell ⟨w.heap.size + 1, 0, none⟩ (.int .i64 (1 + (wideF ps : Int)))) ⟨w.heap.size + 1 + 1, 0, none⟩ (.int .i64 0) ((World.cell?_setCell_other W5 ⟨w.heap.size + 1, 0, none⟩ ⟨w.heap.size + 1 + 1, 0, none⟩ (.int .i64 (1 + (wideF ps : Int))) (by simp)).trans f2')
          have g4 := ((HI.out.bel.trans b5).setCell (p := ⟨w.heap.size + 1, 0, none⟩) (by simp) (.int .i64 (1 + (wideF ps : Int)))).setCell (p := ⟨w.heap.size + 1 + 1, 0, none⟩) (by simp; omega) (.int .i64 0)
          exact read_returns w _ _ _ _ g1 g2 g3 g4 _ rfl rfl rfl _ (by rw [HV'.out, show ((1 + wideF ps : Nat) : Int) = 1 + (wideF ps : Int) by omega])
  · have HV := Lib.hid (HF0.out hop)
    have hd : decide (1 ≤ (x : Int) ∧ (x : Int) ≤ 19) = false := by simpa using hop
    clear HF0 HF1 hop
    have k0 := h2.ins.c0
    go_wp2_with (first
      | (go_at_call 102; refine (is_any _ _).mono ?_; rintro e w1 ⟨rfl, rfl⟩)
      | (go_at_call 94; refine (must_no _ _).mono ?_; rintro e w3 ⟨rfl, rfl⟩))
    exact read_panics w _ _ _ h2 180 _ rfl rfl rfl _ HV.out

/-- Read, of any bytes. -/
theorem insRead_any (l : List Nat) (hl : l.length ≤ 9223372036854775000) (v : Value) (w : World) (hv : ArgB w v l) :
    Calls Tryz.prog 40 #[v] w fun e w' => e = .returned (readF l) ∧ Below w.heap.size w w' := by
  cases l with
  | nil => exact read_nil v w hv
  | cons x l => exact read_cons x l hl v w hv
end Go.Proofs.YtfnfcngkaepnjaaGreatDoor
