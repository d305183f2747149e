/- Joined texts: Walk of InstrEach: what is wanted, gathered. -/
import Derived.Test.YtfnfcngkaepnjaaGreatDoorQE44
import Derived.Test.YtfnfcngkaepnjaaGreatDoorQE46
import Derived.Test.YtfnfcngkaepnjaaGreatDoorQE47
import Derived.Test.YtfnfcngkaepnjaaGreatDoorQE48
import Derived.Deep.Cut
/- Walk of InstrEach: what is wanted, gathered. -/
namespace Go.Proofs.YtfnfcngkaepnjaaGreatDoor
set_option linter.unusedVariables false
set_option linter.unusedSimpArgs false
open Go Go.Proofs Go.RowKit Go.Sort

theorem slice_cap (ad : Addr) (n c k : Nat) (hc : k + 1 ≤ c) (w : World) : (Instr.slice 22 (.slice (some ad) n c) none (some (.int .i64 ((k : Int) + 1))) none).run Tryz.prog w = .ok (.slice (some ad) (k + 1) c) w := by
  obtain ⟨i0, hi0, hz0, hz1, hz2⟩ := info_of info_octet
  have h2 : (k : Int) + 1 ≤ (c : Int) := by omega
  have h3 : (0 : Int) ≤ (k : Int) + 1 := by omega
  have h4 : ((k : Int) + 1).toNat = k + 1 := by omega
  simp [Instr.slice, run_underlying Tryz.underlying22, Instr.sliceBounds, Instr.sliceBound, asIntOf, sizeOf, typeInfo, hi0, h2, h3, h4, Addr.add]
  try omega

abbrev encI (x : It) : List Value := [.int .i64 x.at_]
abbrev encN (x : It) : List Value := [.int .i64 x.op, .int .i64 x.a, .int .i64 x.b, .int .i64 x.c, .int .u32 x.m]
theorem rowI : RowTy 24 3 1 8 (.int .i64 0) encI :=
  ⟨Tryz.underlying24, by kernel_rfl, rfl, by decide, by decide, fun _ => rfl, fun x u hu => by simp at hu; subst hu; rfl⟩
theorem rowN : RowTy 25 29 5 40 (.agg #[.int .i64 0, .int .i64 0, .int .i64 0, .int .i64 0, .int .u32 0]) encN :=
  ⟨Tryz.underlying25, by kernel_rfl, by kernel_rfl, by decide, by decide, fun _ => rfl, fun x u hu => by simp at hu; rcases hu with rfl | rfl | rfl | rfl | rfl <;> rfl⟩

/-- What is gathered: the blocks of many, of the answer, of the two lists. -/
structure GatI (w0 : World) (many : Int) (done : List It) (wr : World) : Prop where
  cm : wr.cell? ⟨w0.heap.size, 0, none⟩ = some (.int .i64 many)
  cr : wr.cell? ⟨w0.heap.size + 1, 0, none⟩ = some (.bool false)
  fr : wr.frozen? ⟨w0.heap.size + 1, 0, none⟩ = false
  ca : ∃ va, wr.cell? ⟨w0.heap.size + 1 + 1, 0, none⟩ = some va ∧ OwnW 3 1 encI (w0.heap.size + 4) va done wr
  fa : wr.frozen? ⟨w0.heap.size + 1 + 1, 0, none⟩ = false
  cn : ∃ vn, wr.cell? ⟨w0.heap.size + 1 + 1 + 1, 0, none⟩ = some vn ∧ OwnW 29 5 encN (w0.heap.size + 4) vn done wr
  fn : wr.frozen? ⟨w0.heap.size + 1 + 1 + 1, 0, none⟩ = false
  sz : w0.heap.size + 4 ≤ wr.heap.size
  bel : Below w0.heap.size w0 wr
theorem GatI.more {w0 : World} {many : Int} {done : List It} {w w' : World} (h : GatI w0 many done w) (hb : Below w.heap.size w w') : GatI w0 many done w' := by
  obtain ⟨va, a1, a2⟩ := h.ca
  obtain ⟨vn, n1, n2⟩ := h.cn
  exact ⟨cell_bel h.cm hb, cell_bel h.cr hb, froz_bel h.cr h.fr hb, ⟨va, cell_bel a1 hb, a2.bel hb⟩, froz_bel a1 h.fa hb, ⟨vn, cell_bel n1 hb, n2.bel hb⟩, froz_bel n1 h.fn hb, Nat.le_trans h.sz hb.size, belT h.bel hb⟩

theorem gatI_start (w : World) (many : Int) : GatI w many [] ((((w.alloc (.cells #[.int .i64 many] 3)).alloc (.cells #[.bool false] 4)).alloc (.cells #[.slice none 0 0] 24)).alloc (.cells #[.slice none 0 0] 25)) := by
  have a0 := cell_new w #[.int .i64 many] 3 0
  have b1 := bel1 (W := w.alloc (.cells #[.int .i64 many] 3)) (.cells #[.bool false] 4)
  have b2 := bel1 (W := (w.alloc (.cells #[.int .i64 many] 3)).alloc (.cells #[.bool false] 4)) (.cells #[.slice none 0 0] 24)
  have b3 := bel1 (W := ((w.alloc (.cells #[.int .i64 many] 3)).alloc (.cells #[.bool false] 4)).alloc (.cells #[.slice none 0 0] 24)) (.cells #[.slice none 0 0] 25)
  have c1 := cell_new (w.alloc (.cells #[.int .i64 many] 3)) #[.bool false] 4 0
  have c2 := cell_new ((w.alloc (.cells #[.int .i64 many] 3)).alloc (.cells #[.bool false] 4)) #[.slice none 0 0] 24 0
  have c3 := cell_new (((w.alloc (.cells #[.int .i64 many] 3)).alloc (.cells #[.bool false] 4)).alloc (.cells #[.slice none 0 0] 24)) #[.slice none 0 0] 25 0
  have f1 := World.frozen?_alloc_new (w.alloc (.cells #[.int .i64 many] 3)) #[.bool false] 4 0
  have f2 := World.frozen?_alloc_new ((w.alloc (.cells #[.int .i64 many] 3)).alloc (.cells #[.bool false] 4)) #[.slice none 0 0] 24 0
  have f3 := World.frozen?_alloc_new (((w.alloc (.cells #[.int .i64 many] 3)).alloc (.cells #[.bool false] 4)).alloc (.cells #[.slice none 0 0] 24)) #[.slice none 0 0] 25 0
  simp only [World.size_alloc] at c1 c2 c3 f1 f2 f3
  exact ⟨cell_bel (cell_bel (cell_bel a0 b1) b2) b3, cell_bel (cell_bel c1 b2) b3, froz_bel (cell_bel c1 b2) (froz_bel c1 f1 b2) b3, ⟨_, cell_bel c2 b3, OwnW.nil⟩, froz_bel c2 f2 b3, ⟨_, c3, OwnW.nil⟩, f3, by simp, belA (belA (belA (bel1 _) _) _) _⟩

attribute [local go_sem] Oper.semAt_some

/-- What the region of the two appends goes by. -/
def RgS (w0 : World) (X : Nat) (va vn : Value) (x : It) (W : World) : Prop :=
  W.cell? ⟨w0.heap.size + 1 + 1, 0, none⟩ = some va ∧ W.cell? ⟨w0.heap.size + 1 + 1 + 1, 0, none⟩ = some vn ∧ W.cell? ⟨X, 0, none⟩ = some (.int .i64 x.op) ∧ W.cell? ⟨X, 1, none⟩ = some (.int .i64 x.a) ∧ W.cell? ⟨X, 2, none⟩ = some (.int .i64 x.b) ∧ W.cell? ⟨X, 3, none⟩ = some (.int .i64 x.c) ∧ W.cell? ⟨X, 4, none⟩ = some (.int .u32 x.m)
structure Rg (w0 : World) (X : Nat) (V0 : World) (va vn ua un : Value) (da dn : List It) (x : It) (W : World) : Prop where
  s : RgS w0 X va vn x W
  hA : OwnW 3 1 encI (w0.heap.size + 4) ua da W
  hN : OwnW 29 5 encN (w0.heap.size + 4) un dn W
  hb : Below (w0.heap.size + 4) V0 W
  sz : V0.heap.size ≤ W.heap.size
  b0 : w0.heap.size + 4 ≤ V0.heap.size
/-- No own row lies there. -/
def RgN (w0 : World) (X : Nat) (V0 : World) (va vn : Value) : Prop := ∀ b, (V0.heap.size ≤ b ∨ b < w0.heap.size + 4 ∨ b = X) → ¬ va.ownBlock = some b ∧ ¬ vn.ownBlock = some b
theorem RgS.bel {w0 : World} {X : Nat} {va vn : Value} {x : It} {W W' : World} (h : RgS w0 X va vn x W) (hb : Below W.heap.size W W') : RgS w0 X va vn x W' := by
  obtain ⟨h0, h1, h2, h3, h4, h5, h6⟩ := h
  exact ⟨cell_bel h0 hb, cell_bel h1 hb, cell_bel h2 hb, cell_bel h3 hb, cell_bel h4 hb, cell_bel h5 hb, cell_bel h6 hb⟩
theorem RgS.touch {w0 : World} {X : Nat} {va vn : Value} {x : It} {W W' : World} {T : Nat → Prop} (h : RgS w0 X va vn x W) (ht : Touch T W W') (hn : ∀ b, b < w0.heap.size + 4 ∨ b = X → ¬ T b) : RgS w0 X va vn x W' := by
  obtain ⟨h0, h1, h2, h3, h4, h5, h6⟩ := h
  exact ⟨cell_touch h0 ht (hn _ (Or.inl (by omega))), cell_touch h1 ht (hn _ (Or.inl (by omega))), cell_touch h2 ht (hn _ (Or.inr rfl)), cell_touch h3 ht (hn _ (Or.inr rfl)), cell_touch h4 ht (hn _ (Or.inr rfl)), cell_touch h5 ht (hn _ (Or.inr rfl)), cell_touch h6 ht (hn _ (Or.inr rfl))⟩
theorem Rg.al {w0 : World} {X : Nat} {V0 : World} {va vn ua un : Value} {da dn : List It} {x : It} {W : World} (h : Rg w0 X V0 va vn ua un da dn x W) (o : Obj) : Rg w0 X V0 va vn ua un da dn x (W.alloc o) :=
  ⟨h.s.bel (bel1 o), h.hA.bel (bel1 o), h.hN.bel (bel1 o), h.hb.trans ((bel1 o).mono (Nat.le_trans h.b0 h.sz)), by have := h.sz; simp; omega, h.b0⟩
theorem Rg.apA {w0 : World} {X : Nat} {V0 : World} {va vn v2 : Value} {d2 da dn : List It} {x : It} {W W2 : World} (h : Rg w0 X V0 va vn va vn da dn x W) (hn : RgN w0 X V0 va vn) (hg : W.grownBy W2 va.ownBlock) (hb : Below (w0.heap.size + 4) W W2) (h2 : OwnW 3 1 encI (w0.heap.size + 4) v2 d2 W2) : Rg w0 X V0 va vn v2 vn d2 dn x W2 :=
  ⟨h.s.touch (Touch.grown hg) (fun b hb => (hn b (Or.inr hb)).1), h2, h.hN.touch (Touch.grown hg) (fun g hg1 hg2 => h.hN.apart h.hA (by decide) g hg1 hg2), h.hb.trans hb, Nat.le_trans h.sz hb.size, h.b0⟩
theorem Rg.apN {w0 : World} {X : Nat} {V0 : World} {va vn ua v2 : Value} {d2 da dn : List It} {x : It} {W W2 : World} (h : Rg w0 X V0 va vn ua vn da dn x W) (hn : RgN w0 X V0 va vn) (hg : W.grownBy W2 vn.ownBlock) (hb : Below (w0.heap.size + 4) W W2) (h2 : OwnW 29 5 encN (w0.heap.size + 4) v2 d2 W2) : Rg w0 X V0 va vn ua v2 da d2 x W2 :=
  ⟨h.s.touch (Touch.grown hg) (fun b hb => (hn b (Or.inr hb)).2), h.hA.touch (Touch.grown hg) (fun g hg1 hg2 => h.hA.apart h.hN (by decide) g hg1 hg2), h2, h.hb.trans hb, Nat.le_trans h.sz hb.size, h.b0⟩

/-- Behind the region. -/
theorem GatI.step {w0 : World} {many : Int} {done : List It} {wr V0 W : World} {X : Nat} {va vn ua un : Value} {x : It} (h : GatI w0 many done wr) (hV : Below wr.heap.size wr V0) (hr : Rg w0 X V0 va vn ua un (done ++ [x]) (done ++ [x]) x W) :
    GatI w0 many (done ++ [x]) ((W.setCell ⟨w0.heap.size + 1 + 1, 0, none⟩ ua).setCell ⟨w0.heap.size + 1 + 1 + 1, 0, none⟩ un) := by
  have hb : Below (w0.heap.size + 4) wr W := (hV.mono h.sz).trans hr.hb
  have ho : ∀ b (u : Value), b ≠ w0.heap.size + 1 + 1 → b ≠ w0.heap.size + 1 + 1 + 1 → b < w0.heap.size + 4 → wr.cell? ⟨b, 0, none⟩ = some u → ((W.setCell ⟨w0.heap.size + 1 + 1, 0, none⟩ ua).setCell ⟨w0.heap.size + 1 + 1 + 1, 0, none⟩ un).cell? ⟨b, 0, none⟩ = some u := fun b u h1 h2 h3 h4 =>
    (World.cell?_setCell_other _ _ _ _ (fun e => h2 (by simpa using (congrArg Addr.block e).symm))).trans ((World.cell?_setCell_other _ _ _ _ (fun e => h1 (by simpa using (congrArg Addr.block e).symm))).trans (cell_belB h4 hb h3))
  have hf : ∀ b, b < w0.heap.size + 4 → wr.frozen? ⟨b, 0, none⟩ = false → ((W.setCell ⟨w0.heap.size + 1 + 1, 0, none⟩ ua).setCell ⟨w0.heap.size + 1 + 1 + 1, 0, none⟩ un).frozen? ⟨b, 0, none⟩ = false := fun b h1 h2 => by
    rw [World.frozen?_setCell, World.frozen?_setCell]
    exact froz_belB h2 hb h1
  have ht : Touch (fun b => b < w0.heap.size + 4) W ((W.setCell ⟨w0.heap.size + 1 + 1, 0, none⟩ ua).setCell ⟨w0.heap.size + 1 + 1 + 1, 0, none⟩ un) := (Touch.setCell _ _ _ (by simp only; omega)).trans (Touch.setCell _ _ _ (by simp only; omega))
  obtain ⟨h0, h1, _⟩ := hr.s
  refine ⟨ho _ _ (by omega) (by omega) (by omega) h.cm, ho _ _ (by omega) (by omega) (by omega) h.cr, hf _ (by omega) h.fr, ⟨ua, ?_, hr.hA.touch ht (fun g hg => ?_)⟩, hf _ (by omega) h.fa, ⟨un, World.cell?_setCell_same _ _ _ ((World.cell?_setCell_other _ _ _ _ (by simp)).trans h1), hr.hN.touch ht (fun g hg => ?_)⟩, hf _ (by omega) h.fn, ?_, ?_⟩
  · exact (World.cell?_setCell_other _ _ _ _ (by simp)).trans (World.cell?_setCell_same _ _ _ h0)
  · have := (hr.hA.lt g hg).1; omega
  · have := (hr.hN.lt g hg).1; omega
  · exact Nat.le_trans (Nat.le_trans hr.b0 hr.sz) ht.size
  · exact ((h.bel.trans (hb.mono (by omega))).setCell (by simp; omega) _).setCell (by simp; omega) _

set_option maxRecDepth 100000 in
set_option maxHeartbeats 4000000 in
theorem instrEach_short (v : Value) (l : List Nat) (hl : l.length ≤ 200) (many : Int) (hmm : -9223372036854775808 ≤ many ∧ many ≤ 9223372036854775807) (w : World) (hE : EnvM w) (hv : ArgB w v l) :
    Calls Tryz.prog 3 #[v, .int .i64 many] w fun e w' => e = .returned (.bool true) ∧ Below w.heap.size w w' := by
  have hlt := hv.lt
  have h200 : ¬ (200 : Int) < (l.length : Int) := by omega
  have HG := Lib.hid (gatI_start w many)
  obtain ⟨ao, cp, rfl⟩ := hv.form
  have HV := Lib.hid (hv.bel HG.out.bel)
  have HV0 := Lib.hid hv
  clear hv
  refine (callsIn_wide (n := 20)).1 ?_
  refine callsIn_of_wp_marks Tryz.func3 rfl trivial ?_ rfl
  simp only [Tryz.ntmps3, List.size_toArray, List.length_cons, List.length_nil, Nat.reduceAdd, Nat.reduceSub, Array.replicate_succ, Array.replicate_zero, List.push_toArray, List.append_toArray, List.nil_append, List.cons_append]
  refine wpIn_wide.2 ?_
  go_wp2_with fail
  go_loopw [7] (fun vi wr => ∃ (i : Nat) (done : List It), vi = .int .i64 i ∧ Hid (Stand l done i) ∧ Hid (GatI w many done wr) ∧ Hid (ArgB wr (.slice ao l.length cp) l) ∧ Hid (done.length ≤ i)) (fun vi _ => l.length - (intOf vi).toNat)
  case atStart => exact ⟨0, [], rfl, Lib.hid (stand_start l), HG, HV, Lib.hid (Nat.zero_le _)⟩
  case round =>
    clear HG HV
    obtain ⟨i, done, rfl, HS, HG, HV, HD⟩ := hrel
    have hi := HS.out.1
    obtain ⟨v', hsl, hv'⟩ := slice_arg HV.out i hi
    obtain ⟨op, a, b, c, m, k, e, hF⟩ := readF_ex (l.drop i)
    have CR := Lib.hid fun W (hv : ArgB W v' (l.drop i)) => rRead_any (l.drop i) (by rw [List.length_drop]; omega) v' W hv
    rw [hF] at CR
    unfold readV insV at CR
    have HF := Lib.hid hF
    have HV' := Lib.hid hv'
    clear hF hv'
    have hii : (i : Int) ≤ (l.length : Int) := by omega
    by_cases he : e = 0
    · subst he
      obtain ⟨n', hk, hro⟩ := readO_of (fun x hx => hlt x (List.mem_of_mem_drop hx)) i HF.out
      subst hk
      obtain ⟨hs1, _, _, hs4⟩ := HS.out.next hlt hro
      have HS1 := Lib.hid hs1
      have hi1 : i + n' ≤ l.length := hs1.1
      have hn1 : 1 ≤ n' := hs4
      clear hs1 hs4 hro
      go_wp2_with (go_at_call 11; refine (CR.out _ HV'.out).mono ?_; rintro e w2 ⟨rfl, hb2⟩)
      obtain ⟨va, ca, hA⟩ := HG.out.ca
      obtain ⟨vn, cn, hN⟩ := HG.out.cn
      have hVB := hb2.trans ((bel1 (W := w2) (.cells #[.int .i64 op, .int .i64 a, .int .i64 b, .int .i64 c, .int .u32 m] 29)).mono hb2.size)
      have hVB := hVB.trans ((Below.refl _ (w2.alloc (.cells #[.int .i64 op, .int .i64 a, .int .i64 b, .int .i64 c, .int .u32 m] 29))).drew)
      have hX := (Bare.new op a b c m w2 29).drew
      have hNT : RgN w w2.heap.size (w2.alloc (.cells #[.int .i64 op, .int .i64 a, .int .i64 b, .int .i64 c, .int .u32 m] 29)).drew va vn := by
        have h1 := hb2.size
        have h2 := hVB.size
        refine fun b hb => ⟨fun hg => ?_, fun hg => ?_⟩
        · have h3 := hA.lt b hg
          rcases hb with hb | hb | hb <;> omega
        · have h3 := hN.lt b hg
          rcases hb with hb | hb | hb <;> omega
      have hG : Rg w w2.heap.size (w2.alloc (.cells #[.int .i64 op, .int .i64 a, .int .i64 b, .int .i64 c, .int .u32 m] 29)).drew va vn va vn done done ⟨i, op, a, b, c, m, n'⟩ (w2.alloc (.cells #[.int .i64 op, .int .i64 a, .int .i64 b, .int .i64 c, .int .u32 m] 29)).drew :=
        ⟨⟨cell_bel ca hVB, cell_bel cn hVB, hX.c0, hX.c1, hX.c2, hX.c3, hX.c4⟩, hA.bel hVB, hN.bel hVB, Below.refl _ _, Nat.le_refl _, Nat.le_trans HG.out.sz hVB.size⟩
      have HVB := Lib.hid hVB
      have HNT := Lib.hid hNT
      have HD6 := Lib.hid (show done.length ≤ 1000000 by have := HD.out; omega)
      clear ca cn hA hN hVB hX hNT hb2 CR HF HV' hsl
      refine wp_region_noPanic ?_
      refine wp_region_R (S := fun W => W.cell? ⟨w.heap.size + 1 + 1, 0, none⟩ = some va ∧ W.cell? ⟨w.heap.size + 1 + 1 + 1, 0, none⟩ = some vn ∧ W.cell? ⟨w2.heap.size, 0, none⟩ = some (.int .i64 op) ∧ W.cell? ⟨w2.heap.size, 1, none⟩ = some (.int .i64 a) ∧ W.cell? ⟨w2.heap.size, 2, none⟩ = some (.int .i64 b) ∧ W.cell? ⟨w2.heap.size, 3, none⟩ = some (.int .i64 c) ∧ W.cell? ⟨w2.heap.size, 4, none⟩ = some (.int .u32 m)) 8 (by kernel_rfl) (by simp) hG.s (fun hHeld => ?_)
      generalize (w2.alloc _).drew = V0 at HVB HNT hG hHeld ⊢
      refine anyR_take (i := 0) (v := ?_) rfl (by kernel_rfl) (by kernel_rfl) (by kernel_rfl) (fun _ _ _ h => h) (Or.inl ⟨by rfl, ?_⟩) (by assumption) ?_
      rotate_left
      · (intro w hSw; (try dsimp only at hSw); go_simp)
        all_goals with_reducible rfl
      try simp only [Act.put, List.getElem_toArray, List.getElem_cons_succ, List.getElem_cons_zero, List.setIfInBounds_toArray, List.set_cons_zero, List.set_cons_succ]
      refine anyR_take (i := 1) (v := ?_) rfl (by kernel_rfl) (by kernel_rfl) (by kernel_rfl) (fun _ _ _ h => h) (Or.inl ⟨by rfl, ?_⟩) (by assumption) ?_
      rotate_left
      · (intro w hSw; (try dsimp only at hSw); go_simp)
        all_goals with_reducible rfl
      try simp only [Act.put, List.getElem_toArray, List.getElem_cons_succ, List.getElem_cons_zero, List.setIfInBounds_toArray, List.set_cons_zero, List.set_cons_succ]
      refine anyR_take (i := 4) (v := ?_) rfl (by kernel_rfl) (by kernel_rfl) (by kernel_rfl) (fun _ _ _ h => h) (Or.inl ⟨by rfl, ?_⟩) (by assumption) ?_
      rotate_left
      · (intro w hSw; (try dsimp only at hSw); go_simp)
        all_goals with_reducible rfl
      try simp only [Act.put, List.getElem_toArray, List.getElem_cons_succ, List.getElem_cons_zero, List.setIfInBounds_toArray, List.set_cons_zero, List.set_cons_succ]
      refine anyR_take (i := 5) (v := ?_) rfl (by kernel_rfl) (by kernel_rfl) (by kernel_rfl) (fun _ _ _ h => h) (Or.inl ⟨by rfl, ?_⟩) (by assumption) ?_
      rotate_left
      · (intro w hSw; (try dsimp only at hSw); go_simp)
        all_goals with_reducible rfl
      try simp only [Act.put, List.getElem_toArray, List.getElem_cons_succ, List.getElem_cons_zero, List.setIfInBounds_toArray, List.set_cons_zero, List.set_cons_succ]
      refine anyR_ready (rs := [2, 6]) (by kernel_rfl) (by simp) (by decide) ?_
      refine AllReadyR.cons rfl (fun K hK => ?_) (AllReadyR.cons rfl (fun K hK => ?_) AllReadyR.nil)
      · go_simp
        refine hK.out _ _ ?_ (fun hHeld => ?_)
        · exact (hG.al _).s
        clear hK K
        try simp only [Act.put, List.getElem_toArray, List.getElem_cons_succ, List.getElem_cons_zero, List.setIfInBounds_toArray, List.set_cons_zero, List.set_cons_succ]
        have sI := hG.sz
        have yI : ∀ j u, (encI (⟨i, op, a, b, c, m, n'⟩ : It))[j]? = some u → (V0.alloc (.cells #[.int .i64 i] 3)).cell? ⟨V0.heap.size, j, none⟩ = some u := fun j u hj => (cell_new V0 #[.int .i64 i] 3 j).trans (by simpa using hj)
        have hG := hG.al (.cells #[.int .i64 i] 3)
        generalize V0.alloc _ = W1 at hHeld yI hG ⊢
        refine anyR_ready (rs := [3, 6]) (by kernel_rfl) (by simp) (by decide) ?_
        refine AllReadyR.cons rfl (fun K hK => ?_) (AllReadyR.cons rfl (fun K hK => ?_) AllReadyR.nil)
        · refine step_append_W rowI rfl _ _ rfl rfl hG.hA _ _ (⟨i, op, a, b, c, m, n'⟩ : It) rfl yI HD6.out (Nat.le_trans hG.b0 hG.sz) ?_
          intro va2 W2 hA2 hg2 hb2
          obtain ⟨aa2, nn2, ca2, hv2⟩ : ∃ a n c, va2 = .slice a n c := (by obtain ⟨a, c, h⟩ := hA2.form; exact ⟨a, _, c, h⟩)
          subst hv2
          refine hK.out _ _ ?_ (fun hHeld => ?_)
          · exact (hG.apA HNT.out hg2 hb2 hA2).s
          clear hK K
          try simp only [Act.put, List.getElem_toArray, List.getElem_cons_succ, List.getElem_cons_zero, List.setIfInBounds_toArray, List.set_cons_zero, List.set_cons_succ]
          have hG := hG.apA HNT.out hg2 hb2 hA2
          refine anyR_ready (rs := [6]) (by kernel_rfl) (by simp) (by decide) ?_
          refine AllReadyR.cons rfl (fun K hK => ?_) AllReadyR.nil
          go_simp
          refine hK.out _ _ ?_ (fun hHeld => ?_)
          · exact (hG.al _).s
          clear hK K
          try simp only [Act.put, List.getElem_toArray, List.getElem_cons_succ, List.getElem_cons_zero, List.setIfInBounds_toArray, List.set_cons_zero, List.set_cons_succ]
          have sN := hG.sz
          have yN : ∀ j u, (encN (⟨i, op, a, b, c, m, n'⟩ : It))[j]? = some u → (W2.alloc (.cells #[.int .i64 op, .int .i64 a, .int .i64 b, .int .i64 c, .int .u32 m] 29)).cell? ⟨W2.heap.size, j, none⟩ = some u := fun j u hj => (cell_new W2 #[.int .i64 op, .int .i64 a, .int .i64 b, .int .i64 c, .int .u32 m] 29 j).trans (by simpa using hj)
          have hG := hG.al (.cells #[.int .i64 op, .int .i64 a, .int .i64 b, .int .i64 c, .int .u32 m] 29)
          generalize W2.alloc _ = W3 at hHeld yN hG ⊢
          refine anyR_ready (rs := [7]) (by kernel_rfl) (by simp) (by decide) ?_
          refine AllReadyR.cons rfl (fun K hK => ?_) AllReadyR.nil
          refine step_append_W rowN rfl _ _ rfl rfl hG.hN _ _ (⟨i, op, a, b, c, m, n'⟩ : It) rfl yN HD6.out (Nat.le_trans hG.b0 hG.sz) ?_
          intro vn2 W7 hN2 hg3 hb3
          obtain ⟨an2, nm2, cn2, hv3⟩ : ∃ a n c, vn2 = .slice a n c := (by obtain ⟨a, c, h⟩ := hN2.form; exact ⟨a, _, c, h⟩)
          subst hv3
          refine hK.out _ _ ?_ (fun hHeld => ?_)
          · exact (hG.apN HNT.out hg3 hb3 hN2).s
          have hG := hG.apN HNT.out hg3 hb3 hN2
          clear hK K
          try simp only [Act.put, List.getElem_toArray, List.getElem_cons_succ, List.getElem_cons_zero, List.setIfInBounds_toArray, List.set_cons_zero, List.set_cons_succ]
          refine anyR_end (by kernel_rfl) ?_
          obtain ⟨s0, s1, _⟩ := id hG.s
          have hbF : Below (w.heap.size + 4) wr W7 := (HVB.out.mono HG.out.sz).trans hG.hb
          have f0 := froz_belB HG.out.fa hbF (by omega)
          have f1 := froz_belB HG.out.fn hbF (by omega)
          refine wpAny_ready (rs := [8]) (by kernel_rfl) (by simp) ?_
          refine AllReady.cons rfl (fun K hK => ?_) AllReady.nil
          go_simp
          refine hK _ _ ?_
          clear hK K
          try simp only [Act.put, List.getElem_toArray, List.getElem_cons_succ, List.getElem_cons_zero, List.setIfInBounds_toArray, List.set_cons_zero, List.set_cons_succ]
          have s2 : (W7.setCell ⟨w.heap.size + 1 + 1, 0, none⟩ (.slice aa2 nn2 ca2)).cell? ⟨w.heap.size + 1 + 1 + 1, 0, none⟩ = some vn := (World.cell?_setCell_other _ _ _ _ (by simp)).trans s1
          have f2 : (W7.setCell ⟨w.heap.size + 1 + 1, 0, none⟩ (.slice aa2 nn2 ca2)).frozen? ⟨w.heap.size + 1 + 1 + 1, 0, none⟩ = false := (World.frozen?_setCell ..).trans f1
          refine wpAny_ready (rs := [9]) (by kernel_rfl) (by simp) ?_
          refine AllReady.cons rfl (fun K hK => ?_) AllReady.nil
          go_simp
          refine hK _ _ ?_
          clear hK K
          try simp only [Act.put, List.getElem_toArray, List.getElem_cons_succ, List.getElem_cons_zero, List.setIfInBounds_toArray, List.set_cons_zero, List.set_cons_succ]
          refine wpAny_done (by kernel_rfl) ?_ _
          refine NoPanic.normal ?_
          have hGF := HG.out.step HVB.out hG
          have hVF := HV0.out.bel hGF.bel
          have HGF := Lib.hid hGF
          have HVF := Lib.hid hVF
          clear hGF hVF s0 s1 s2 f0 f1 f2 hbF hG hHeld
          generalize (W7.setCell _ _).setCell _ _ = WF at HGF HVF ⊢
          go_wp2
          exact ⟨⟨i + n', done ++ [⟨i, op, a, b, c, m, n'⟩], by rw [Int.natCast_add], HS1, HGF, HVF, Lib.hid (by have := HD.out; simp; omega)⟩, by simp only [intOf]; omega⟩
        · go_simp
          refine hK.out _ _ ?_ (fun hHeld => ?_)
          · exact (hG.al _).s
          clear hK K
          try simp only [Act.put, List.getElem_toArray, List.getElem_cons_succ, List.getElem_cons_zero, List.setIfInBounds_toArray, List.set_cons_zero, List.set_cons_succ]
          have sN := hG.sz
          have yN : ∀ j u, (encN (⟨i, op, a, b, c, m, n'⟩ : It))[j]? = some u → (W1.alloc (.cells #[.int .i64 op, .int .i64 a, .int .i64 b, .int .i64 c, .int .u32 m] 29)).cell? ⟨W1.heap.size, j, none⟩ = some u := fun j u hj => (cell_new W1 #[.int .i64 op, .int .i64 a, .int .i64 b, .int .i64 c, .int .u32 m] 29 j).trans (by simpa using hj)
          have hG := hG.al (.cells #[.int .i64 op, .int .i64 a, .int .i64 b, .int .i64 c, .int .u32 m] 29)
          have yI := fun j u hj => cell_bel (yI j u hj) (bel1 (.cells #[.int .i64 op, .int .i64 a, .int .i64 b, .int .i64 c, .int .u32 m] 29))
          generalize W1.alloc _ = W2 at hHeld yN yI hG ⊢
          refine anyR_ready (rs := [3]) (by kernel_rfl) (by simp) (by decide) ?_
          refine AllReadyR.cons rfl (fun K hK => ?_) AllReadyR.nil
          refine step_append_W rowI rfl _ _ rfl rfl hG.hA _ _ (⟨i, op, a, b, c, m, n'⟩ : It) rfl yI HD6.out (Nat.le_trans hG.b0 hG.sz) ?_
          intro va2 W3 hA2 hg2 hb2
          obtain ⟨aa2, nn2, ca2, hv2⟩ : ∃ a n c, va2 = .slice a n c := (by obtain ⟨a, c, h⟩ := hA2.form; exact ⟨a, _, c, h⟩)
          subst hv2
          refine hK.out _ _ ?_ (fun hHeld => ?_)
          · exact (hG.apA HNT.out hg2 hb2 hA2).s
          clear hK K
          try simp only [Act.put, List.getElem_toArray, List.getElem_cons_succ, List.getElem_cons_zero, List.setIfInBounds_toArray, List.set_cons_zero, List.set_cons_succ]
          have yN := fun j u hj => cell_touch (yN j u hj) (Touch.grown hg2) (HNT.out _ (Or.inl sN)).1
          have hG := hG.apA HNT.out hg2 hb2 hA2
          refine anyR_ready (rs := [7]) (by kernel_rfl) (by simp) (by decide) ?_
          refine AllReadyR.cons rfl (fun K hK => ?_) AllReadyR.nil
          refine step_append_W rowN rfl _ _ rfl rfl hG.hN _ _ (⟨i, op, a, b, c, m, n'⟩ : It) rfl yN HD6.out (Nat.le_trans hG.b0 hG.sz) ?_
          intro vn2 W7 hN2 hg3 hb3
          obtain ⟨an2, nm2, cn2, hv3⟩ : ∃ a n c, vn2 = .slice a n c := (by obtain ⟨a, c, h⟩ := hN2.form; exact ⟨a, _, c, h⟩)
          subst hv3
          refine hK.out _ _ ?_ (fun hHeld => ?_)
          · exact (hG.apN HNT.out hg3 hb3 hN2).s
          have hG := hG.apN HNT.out hg3 hb3 hN2
          clear hK K
          try simp only [Act.put, List.getElem_toArray, List.getElem_cons_succ, List.getElem_cons_zero, List.setIfInBounds_toArray, List.set_cons_zero, List.set_cons_succ]
          refine anyR_end (by kernel_rfl) ?_
          obtain ⟨s0, s1, _⟩ := id hG.s
          have hbF : Below (w.heap.size + 4) wr W7 := (HVB.out.mono HG.out.sz).trans hG.hb
          have f0 := froz_belB HG.out.fa hbF (by omega)
          have f1 := froz_belB HG.out.fn hbF (by omega)
          refine wpAny_ready (rs := [8]) (by kernel_rfl) (by simp) ?_
          refine AllReady.cons rfl (fun K hK => ?_) AllReady.nil
          go_simp
          refine hK _ _ ?_
          clear hK K
          try simp only [Act.put, List.getElem_toArray, List.getElem_cons_succ, List.getElem_cons_zero, List.setIfInBounds_toArray, List.set_cons_zero, List.set_cons_succ]
          have s2 : (W7.setCell ⟨w.heap.size + 1 + 1, 0, none⟩ (.slice aa2 nn2 ca2)).cell? ⟨w.heap.size + 1 + 1 + 1, 0, none⟩ = some vn := (World.cell?_setCell_other _ _ _ _ (by simp)).trans s1
          have f2 : (W7.setCell ⟨w.heap.size + 1 + 1, 0, none⟩ (.slice aa2 nn2 ca2)).frozen? ⟨w.heap.size + 1 + 1 + 1, 0, none⟩ = false := (World.frozen?_setCell ..).trans f1
          refine wpAny_ready (rs := [9]) (by kernel_rfl) (by simp) ?_
          refine AllReady.cons rfl (fun K hK => ?_) AllReady.nil
          go_simp
          refine hK _ _ ?_
          clear hK K
          try simp only [Act.put, List.getElem_toArray, List.getElem_cons_succ, List.getElem_cons_zero, List.setIfInBounds_toArray, List.set_cons_zero, List.set_cons_succ]
          refine wpAny_done (by kernel_rfl) ?_ _
          refine NoPanic.normal ?_
          have hGF := HG.out.step HVB.out hG
          have hVF := HV0.out.bel hGF.bel
          have HGF := Lib.hid hGF
          have HVF := Lib.hid hVF
          clear hGF hVF s0 s1 s2 f0 f1 f2 hbF hG hHeld
          generalize (W7.setCell _ _).setCell _ _ = WF at HGF HVF ⊢
          go_wp2
          exact ⟨⟨i + n', done ++ [⟨i, op, a, b, c, m, n'⟩], by rw [Int.natCast_add], HS1, HGF, HVF, Lib.hid (by have := HD.out; simp; omega)⟩, by simp only [intOf]; omega⟩
      · go_simp
        refine hK.out _ _ ?_ (fun hHeld => ?_)
        · exact (hG.al _).s
        clear hK K
        try simp only [Act.put, List.getElem_toArray, List.getElem_cons_succ, List.getElem_cons_zero, List.setIfInBounds_toArray, List.set_cons_zero, List.set_cons_succ]
        have sN := hG.sz
        have yN : ∀ j u, (encN (⟨i, op, a, b, c, m, n'⟩ : It))[j]? = some u → (V0.alloc (.cells #[.int .i64 op, .int .i64 a, .int .i64 b, .int .i64 c, .int .u32 m] 29)).cell? ⟨V0.heap.size, j, none⟩ = some u := fun j u hj => (cell_new V0 #[.int .i64 op, .int .i64 a, .int .i64 b, .int .i64 c, .int .u32 m] 29 j).trans (by simpa using hj)
        have hG := hG.al (.cells #[.int .i64 op, .int .i64 a, .int .i64 b, .int .i64 c, .int .u32 m] 29)
        generalize V0.alloc _ = W1 at hHeld yN hG ⊢
        refine anyR_ready (rs := [2]) (by kernel_rfl) (by simp) (by decide) ?_
        refine AllReadyR.cons rfl (fun K hK => ?_) AllReadyR.nil
        go_simp
        refine hK.out _ _ ?_ (fun hHeld => ?_)
        · exact (hG.al _).s
        clear hK K
        try simp only [Act.put, List.getElem_toArray, List.getElem_cons_succ, List.getElem_cons_zero, List.setIfInBounds_toArray, List.set_cons_zero, List.set_cons_succ]
        have sI := hG.sz
        have yI : ∀ j u, (encI (⟨i, op, a, b, c, m, n'⟩ : It))[j]? = some u → (W1.alloc (.cells #[.int .i64 i] 3)).cell? ⟨W1.heap.size, j, none⟩ = some u := fun j u hj => (cell_new W1 #[.int .i64 i] 3 j).trans (by simpa using hj)
        have hG := hG.al (.cells #[.int .i64 i] 3)
        have yN := fun j u hj => cell_bel (yN j u hj) (bel1 (.cells #[.int .i64 i] 3))
        generalize W1.alloc _ = W2 at hHeld yN yI hG ⊢
        refine anyR_ready (rs := [3]) (by kernel_rfl) (by simp) (by decide) ?_
        refine AllReadyR.cons rfl (fun K hK => ?_) AllReadyR.nil
        refine step_append_W rowI rfl _ _ rfl rfl hG.hA _ _ (⟨i, op, a, b, c, m, n'⟩ : It) rfl yI HD6.out (Nat.le_trans hG.b0 hG.sz) ?_
        intro va2 W3 hA2 hg2 hb2
        obtain ⟨aa2, nn2, ca2, hv2⟩ : ∃ a n c, va2 = .slice a n c := (by obtain ⟨a, c, h⟩ := hA2.form; exact ⟨a, _, c, h⟩)
        subst hv2
        refine hK.out _ _ ?_ (fun hHeld => ?_)
        · exact (hG.apA HNT.out hg2 hb2 hA2).s
        clear hK K
        try simp only [Act.put, List.getElem_toArray, List.getElem_cons_succ, List.getElem_cons_zero, List.setIfInBounds_toArray, List.set_cons_zero, List.set_cons_succ]
        have yN := fun j u hj => cell_touch (yN j u hj) (Touch.grown hg2) (HNT.out _ (Or.inl sN)).1
        have hG := hG.apA HNT.out hg2 hb2 hA2
        refine anyR_ready (rs := [7]) (by kernel_rfl) (by simp) (by decide) ?_
        refine AllReadyR.cons rfl (fun K hK => ?_) AllReadyR.nil
        refine step_append_W rowN rfl _ _ rfl rfl hG.hN _ _ (⟨i, op, a, b, c, m, n'⟩ : It) rfl yN HD6.out (Nat.le_trans hG.b0 hG.sz) ?_
        intro vn2 W7 hN2 hg3 hb3
        obtain ⟨an2, nm2, cn2, hv3⟩ : ∃ a n c, vn2 = .slice a n c := (by obtain ⟨a, c, h⟩ := hN2.form; exact ⟨a, _, c, h⟩)
        subst hv3
        refine hK.out _ _ ?_ (fun hHeld => ?_)
        · exact (hG.apN HNT.out hg3 hb3 hN2).s
        have hG := hG.apN HNT.out hg3 hb3 hN2
        clear hK K
        try simp only [Act.put, List.getElem_toArray, List.getElem_cons_succ, List.getElem_cons_zero, List.setIfInBounds_toArray, List.set_cons_zero, List.set_cons_succ]
        refine anyR_end (by kernel_rfl) ?_
        obtain ⟨s0, s1, _⟩ := id hG.s
        have hbF : Below (w.heap.size + 4) wr W7 := (HVB.out.mono HG.out.sz).trans hG.hb
        have f0 := froz_belB HG.out.fa hbF (by omega)
        have f1 := froz_belB HG.out.fn hbF (by omega)
        refine wpAny_ready (rs := [8]) (by kernel_rfl) (by simp) ?_
        refine AllReady.cons rfl (fun K hK => ?_) AllReady.nil
        go_simp
        refine hK _ _ ?_
        clear hK K
        try simp only [Act.put, List.getElem_toArray, List.getElem_cons_succ, List.getElem_cons_zero, List.setIfInBounds_toArray, List.set_cons_zero, List.set_cons_succ]
        have s2 : (W7.setCell ⟨w.heap.size + 1 + 1, 0, none⟩ (.slice aa2 nn2 ca2)).cell? ⟨w.heap.size + 1 + 1 + 1, 0, none⟩ = some vn := (World.cell?_setCell_other _ _ _ _ (by simp)).trans s1
        have f2 : (W7.setCell ⟨w.heap.size + 1 + 1, 0, none⟩ (.slice aa2 nn2 ca2)).frozen? ⟨w.heap.size + 1 + 1 + 1, 0, none⟩ = false := (World.frozen?_setCell ..).trans f1
        refine wpAny_ready (rs := [9]) (by kernel_rfl) (by simp) ?_
        refine AllReady.cons rfl (fun K hK => ?_) AllReady.nil
        go_simp
        refine hK _ _ ?_
        clear hK K
        try simp only [Act.put, List.getElem_toArray, List.getElem_cons_succ, List.getElem_cons_zero, List.setIfInBounds_toArray, List.set_cons_zero, List.set_cons_succ]
        refine wpAny_done (by kernel_rfl) ?_ _
        refine NoPanic.normal ?_
        have hGF := HG.out.step HVB.out hG
        have hVF := HV0.out.bel hGF.bel
        have HGF := Lib.hid hGF
        have HVF := Lib.hid hVF
        clear hGF hVF s0 s1 s2 f0 f1 f2 hbF hG hHeld
        generalize (W7.setCell _ _).setCell _ _ = WF at HGF HVF ⊢
        go_wp2
        exact ⟨⟨i + n', done ++ [⟨i, op, a, b, c, m, n'⟩], by rw [Int.natCast_add], HS1, HGF, HVF, Lib.hid (by have := HD.out; simp; omega)⟩, by simp only [intOf]; omega⟩
    · have e1 : (e != 0) = true := by rw [bne, beq_eq_false_iff_ne.2 he]; rfl
      have HX := Lib.hid (HS.out.last (readO_not i HF.out he))
      have hll : l.length ≤ 1000000 := by omega
      have HDL := Lib.hid (show done.length ≤ 200 by have := HD.out; omega)
      clear he HF HS HD hi
      go_wp2_with fail
      refine (CR.out _ HV'.out).mono ?_
      rintro e w2 ⟨rfl, hb2⟩
      have HG2 := Lib.hid (HG.out.more (belA hb2 (.cells #[.int .i64 op, .int .i64 a, .int .i64 b, .int .i64 c, .int .u32 m] 29)))
      clear hb2 HG HV' HV CR
      go_upto_region 11 with (fail)
      generalize w2.alloc _ = V0 at HG2 ⊢
      have hO0 := OwnB.made V0 #[] [] 0 rfl rfl (by simp) (by simp)
      have hV1 := bel1 (W := V0) (.cells #[] 5)
      go_wp2_with (at_builtin; first
        | (refine append_B rfl _ _ rfl V0.heap.size _ _ rfl hO0 _ _ rfl (HV0.out.bel (belT HG2.out.bel hV1)) (by simp; omega) (by simp) ?_; intro vo wo hO1 hg1 hb1a; have hV2 := hV1.trans hb1a; clear hb1a hg1; have hO1' := hO1.bel (bel1 (W := wo) (.cells #[.int .u8 77] 5)); have hA1 := arg_new wo [77] #[.int .u8 77] rfl (by decide) (by decide); have hB1 := (bel1 (W := wo) (.cells #[.int .u8 77] 5)).mono hV2.size; rw [List.nil_append] at hO1'; clear hO0)
        | (refine append_B rfl _ _ rfl V0.heap.size _ l rfl hO1' _ [77] rfl hA1 (by simp; omega) (Nat.le_trans hV2.size hB1.size) ?_; intro vp wp hO2 hg2 hb2b; have hV3 := (hV2.trans hB1).trans hb2b))
      obtain ⟨gc, cc, hvc, hc1, hc2, hc3, hc4⟩ := hO2.slice (by simp)
      have hc5 : l.length + 1 ≤ cc := by simpa using hc2
      have hvd : vp = .slice (some ⟨gc, 0, none⟩) (l.length + 1) cc := by simpa using hvc
      subst hvd
      have hsl2 := slice_upto ⟨gc, 0, none⟩ (l.length + 1) cc l.length (by omega) hc5
      have hl0 : (0 : Int) ≤ (l.length : Int) := by omega
      clear hvc hc2
      rw [hsl2 wp]
      go_wp2_with fail
      have hC2 := hO2.arg
      have hC : ArgB wp (.slice (some ⟨gc, 0, none⟩) l.length cc) l := by
        rcases hC2 with ⟨h1, _⟩ | ⟨ad, c2, h1, _, h3, h4⟩
        · cases h1
        · obtain ⟨b2, o2, rfl, h6⟩ := h4 (by simp)
          simp only [Value.slice.injEq, Option.some.injEq, Addr.mk.injEq, and_true] at h1
          obtain ⟨⟨h7, h8⟩, _, h9⟩ := h1
          subst h7 h8 h9
          refine Or.inr ⟨_, _, rfl, by omega, h3, fun _ => ⟨_, _, rfl, fun x hx => hlt x hx, fun j hj => ?_⟩⟩
          have := h6.2 j (by simp; omega)
          rw [this, List.getD_eq_getElem?_getD, List.getD_eq_getElem?_getD, List.getElem?_append_left hj]
      have HG3 := Lib.hid (HG2.out.more hV3)
      have HC := Lib.hid hC
      have HC2 := Lib.hid hC2
      have HB3 := Lib.hid (HV0.out.bel HG3.out.bel)
      have hfn : ∀ (p : Addr) (w : World), (binOp .eql 33 (.func (.func 48) #[] #[.pointer (some p)]) .nilFunc).run Tryz.prog w = .ok (.bool false) w := fun _ _ => by kernel_rfl
      clear hC hC2 hO2 hV1 hV3 hc1 hc3 hc4 hsl2 hl0
      refine (each_any _ l hll wp HC.out).mono ?_
      rintro e w3 ⟨v3, Bo, Bb, rfl, e1, e2, e3, e4, e5, hb3⟩
      have HG4 := Lib.hid (HG3.out.more hb3)
      have HE1 := Lib.hid e1
      have HE2 := Lib.hid e2
      have HS3 := Lib.hid (show Bo < w3.heap.size ∧ Bb < w3.heap.size ∧ wp.heap.size ≤ Bo ∧ wp.heap.size ≤ Bb from ⟨lt_of_cell e1, e5, e3, e4⟩)
      have HC3 := Lib.hid (HC2.out.bel hb3)
      have HC4 := Lib.hid (HC.out.bel hb3)
      have HB4 := Lib.hid (HB3.out.bel hb3)
      clear e1 e2 e3 e4 e5 HG2 HC2 HC HB3 HG3 hb3
      go_wp2_with fail
      refine wp_loop_rounds 3 ?_
      rw [rounds_succ]
      go_wp2
      have t0 := cell_al (cell_new w3 #[.int .i64 0] 3 0) (.cells #[.int .i64 0] 3)
      have n0 := cell_two w3 (.cells #[.int .i64 0] 3) #[.int .i64 0] 3 0
      have nf := froz_two w3 (.cells #[.int .i64 0] 3) #[.int .i64 0] 3 0
      have hbU : Below w3.heap.size w3 ((w3.alloc (.cells #[.int .i64 0] 3)).alloc (.cells #[.int .i64 0] 3)) := belA (bel1 _) _
      have HsU := Lib.hid (show ((w3.alloc (.cells #[.int .i64 0] 3)).alloc (.cells #[.int .i64 0] 3)).heap.size = w3.heap.size + 2 by simp)
      generalize (w3.alloc (.cells #[.int .i64 0] 3)).alloc (.cells #[.int .i64 0] 3) = U at t0 n0 nf hbU HsU ⊢
      refine (wpIn_wide (n := 20)).1 ?_
      refine wpIn_rangeT rfl (by omega) (gf := 48) (lb := #[.pointer (some ⟨Bo, 0, none⟩)]) (by simp [go_sem]) trivial (enters_of Tryz.func48 (by kernel_rfl) rfl)
        (each_in (20 - 1) Bo Bb (by omega) v3 l hll) (fun W' hb => ⟨cell_bel HE1.out (belT hbU hb), HE2.out.bel (belT hbU hb), Nat.lt_of_lt_of_le HS3.out.2.1 (belT hbU hb).size⟩) (fun _ => rfl)
        (fun k => k = w3.heap.size + 1) (fun k h => ⟨by have := HsU.out; omega, fun h' => by have := HS3.out; omega⟩) (fun k h => by have := HsU.out; have := HS3.out; omega) (fun k h => h.elim)
        (fun pre W' => Below w3.heap.size w3 W' ∧ W'.cell? ⟨w3.heap.size, 0, none⟩ = some (.int .i64 0) ∧ W'.cell? ⟨w3.heap.size + 1, 0, none⟩ = some (.int .i64 (pre.length : Nat)) ∧ W'.frozen? ⟨w3.heap.size + 1, 0, none⟩ = false ∧ (pre ≠ [] → (pre.length : Int) < many))
        (fun c pre W' => c = .exit 4 ∧ Below w3.heap.size w3 W' ∧ W'.cell? ⟨w3.heap.size, 0, none⟩ = some (.int .i64 0) ∧ W'.cell? ⟨w3.heap.size + 1, 0, none⟩ = some (.int .i64 (pre.length : Nat)) ∧ many ≤ pre.length ∧ (pre.length = 1 ∨ (pre.length : Int) - 1 < many)) ?hI ?hIx ?hs ?hround ?hdone ?hstop
      case hI =>
        rintro s A B ⟨ha, h1, h2, h3, h4⟩ hb
        have hb' := hb.below (fun _ _ h => h)
        have := HsU.out
        exact ⟨ha.trans (hb'.mono (by omega)), cell_belB h1 hb' (by omega), cell_belB h2 hb' (by omega), froz_belB h3 hb' (by omega), h4⟩
      case hIx =>
        rintro c s A B ⟨rfl, ha, h1, h2, h4, h5⟩ hb
        have hb' := hb.below (fun _ _ h => h)
        have := HsU.out
        exact ⟨rfl, ha.trans (hb'.mono (by omega)), cell_belB h1 hb' (by omega), cell_belB h2 hb' (by omega), h4, h5⟩
      case hs => exact ⟨hbU, t0, n0, nf, fun h => absurd rfl h⟩
      case hround =>
        rintro l2 pre x W2 ⟨hbx, ht, hn, hnf, hlt⟩ hsz2 hlen hsp
        gi_wp2
        refine ⟨Touch.below (bel1 _), fun W3 hb3 ht3 => ?_⟩
        have hs2 := HsU.out
        have hbz : Below (w3.heap.size + 2) W2 W3 := ((bel1 (W := W2) (.cells #[.int .i64 x.op, .int .i64 x.a, .int .i64 x.b, .int .i64 x.c, .int .u32 x.m] 29)).mono (by omega)).trans (hb3.mono (by omega))
        have hb03 := hbx.trans (hbz.mono (by omega))
        have ht := cell_belB ht hbz (by omega)
        have hn := cell_belB hn hbz (by omega)
        have hnf := froz_belB hnf hbz (by omega)
        have hXs := Bare.touch (Bare.new x.op x.a x.b x.c x.m W2 29) ht3 (by omega)
        have HG := Lib.hid (HG4.out.more hb03)
        have hat : done[pre.length]? = some x := by
          obtain ⟨j, hj1, hj2, hj3⟩ := hsp
          rw [HX.out] at hj2 hj3
          have h1 := congrArg (fun l : List It => l[pre.length]?) hj3
          have h2 := congrArg List.length hj3
          simp only [List.length_append, List.length_cons, List.length_nil, List.length_take] at h2
          rw [List.getElem?_append_right (Nat.le_refl _), Nat.sub_self, List.getElem?_take_of_lt (by omega)] at h1
          exact h1.symm
        obtain ⟨va, ca, hA⟩ := HG.out.ca
        obtain ⟨vn, cn, hN⟩ := HG.out.cn
        have hq : pre.length < done.length := (List.getElem?_eq_some_iff.1 hat).1
        obtain ⟨ga, capa, rfl, _, _, _, _⟩ := hA.slice (by omega)
        obtain ⟨gn, capn, rfl, _, _, _, _⟩ := hN.slice (by omega)
        have y0 := OwnW.cell rowI.len hA pre.length 0 x _ hat rfl
        have z0 := OwnW.cell rowN.len hN pre.length 0 x _ hat rfl
        have z1 := OwnW.cell rowN.len hN pre.length 1 x _ hat rfl
        have z2 := OwnW.cell rowN.len hN pre.length 2 x _ hat rfl
        have z3 := OwnW.cell rowN.len hN pre.length 3 x _ hat rfl
        have z4 := OwnW.cell rowN.len hN pre.length 4 x _ hat rfl
        simp only [Nat.mul_one, Nat.add_zero] at y0 z0
        obtain ⟨x0, x1, x2, x3, x4, _, _, _, _⟩ := hXs
        dsimp only at x1 x2 x3 x4
        have hne : ∀ w, (binOp .neq 29 (.agg #[.int .i64 x.op, .int .i64 x.a, .int .i64 x.b, .int .i64 x.c, .int .u32 x.m]) (.agg #[.int .i64 x.op, .int .i64 x.a, .int .i64 x.b, .int .i64 x.c, .int .u32 x.m])).run Tryz.prog w = .ok (.bool false) w := fun w => by rw [ins_ne]; simp
        have q0 : (0 : Int) ≤ (pre.length : Int) := by omega
        have q1 : (pre.length : Int) < (done.length : Int) := by omega
        have q2 : ¬ (done.length : Int) ≤ (pre.length : Int) := by omega
        have q3 : decide (done.length ≤ pre.length) = false := decide_eq_false (by omega)
        have q4 : (pre.length : Int) ≤ 200 := by have := HDL.out; omega
        clear hA hN hat hsp hbz ht3 hb3 hs2 hbx
        gi_wp2
        refine region_round_quiet l2 (by kernel_rfl) (by kernel_rfl) (by kernel_rfl) ?_
        repeat (gi_big_quiet_step (fail))
        refine wpQuietIn_nil ?_
        intro _ hw'
        obtain ⟨nq, hw''⟩ := hw'
        subst hw''
        have hbD := bel_drewN W3 nq
        have ht := cell_bel ht hbD
        have hnf := froz_bel hn hnf hbD
        have hn := cell_bel hn hbD
        have hbW : Below w3.heap.size w3 (W3.drewN nq) := hb03.trans (hbD.mono hb03.size)
        have cmD := cell_bel HG.out.cm hbD
        clear ca cn y0 z0 z1 z2 z3 z4 x0 x1 x2 x3 x4 q2 q3
        have hset := hbW.setCell (p := ⟨w3.heap.size + 1, 0, none⟩) (by simp) (.int .i64 ((pre.length : Int) + 1))
        have hcs : ((W3.drewN nq).setCell ⟨w3.heap.size + 1, 0, none⟩ (.int .i64 ((pre.length : Int) + 1))).cell? ⟨w3.heap.size + 1, 0, none⟩ = some (.int .i64 ((pre ++ [x]).length : Nat)) := by
          rw [World.cell?_setCell_same _ _ _ hn, List.length_append]
          rfl
        have hts := (World.cell?_setCell_other (W3.drewN nq) ⟨w3.heap.size + 1, 0, none⟩ ⟨w3.heap.size, 0, none⟩ (.int .i64 ((pre.length : Int) + 1)) (by simp)).trans ht
        have hms := (World.cell?_setCell_other (W3.drewN nq) ⟨w3.heap.size + 1, 0, none⟩ ⟨w.heap.size, 0, none⟩ (.int .i64 ((pre.length : Int) + 1)) (by first | (simp; done) | (have := HG4.out.sz; simp; omega))).trans cmD
        have htc := (Touch.below (T := fun k => k = w3.heap.size + 1) hbD).trans (Touch.setCell (W3.drewN nq) ⟨w3.heap.size + 1, 0, none⟩ (.int .i64 ((pre.length : Int) + 1)) rfl)
        have hlp : ((pre ++ [x]).length : Int) = pre.length + 1 := by simp
        have hlpre := Lib.hid hlp
        clear hlp
        by_cases hm : many ≤ (pre.length : Int) + 1
        · gi_wp2
          refine ⟨htc, rfl, hset, hts, hcs, by rw [hlpre.out]; exact hm, ?_⟩
          by_cases hp : pre = []
          · left; simp [hp]
          · right; have := hlt hp; rw [hlpre.out]; omega
        · gi_wp2
          exact ⟨htc, hset, hts, hcs, by rw [World.frozen?_setCell]; exact hnf, fun _ => by rw [hlpre.out]; omega⟩
      case hdone =>
        rintro D xs W' hD rfl ⟨hbx, ht, hn, hnf, hlt⟩ hKD
        rw [HX.out] at hn hlt
        have hmk : min (done.length : Int) (max 1 many) = done.length := by
          by_cases hz : done = []
          · subst hz; simp; omega
          · have := hlt hz
            omega
        obtain ⟨j, hj⟩ : ∃ j, j = done.length := ⟨_, rfl⟩
        rw [← hj] at hn
        have hmn : min (done.length : Int) (max 1 many) = j := by rw [hj]; exact hmk
        clear hlt hj hmk
        have hlD : D < W'.heap.size := (Array.getElem?_eq_some_iff.1 hKD).1
        have HG5 := Lib.hid (HG4.out.more hbx)
        have cm5 := HG5.out.cm
        obtain ⟨vn5, cn5, hN5⟩ := HG5.out.cn
        obtain ⟨an5, cc5, rfl⟩ := hN5.form
        have HE3 := Lib.hid (cell_bel HE1.out hbx)
        have HE4 := Lib.hid (HE2.out.bel hbx)
        have HS5 := Lib.hid (show Bo < W'.heap.size ∧ Bb < W'.heap.size ∧ w3.heap.size + 1 < W'.heap.size ∧ w3.heap.size + 2 ≤ D from ⟨lt_of_cell HE3.out, Nat.lt_of_lt_of_le HS3.out.2.1 hbx.size, lt_of_cell hn, by have := HsU.out; omega⟩)
        have HK5 := Lib.hid hKD
        have HC5 := Lib.hid (HC3.out.bel hbx)
        have HC6 := Lib.hid (HC4.out.bel hbx)
        have HB5 := Lib.hid (HB4.out.bel hbx)
        clear hN5 hbx hKD
        go_wp2
        rw [rounds_succ]
        go_wp2
        have t6 := cell_al (cell_new W' #[.int .i64 1] 3 0) (.cells #[.int .i64 0] 3)
        have n6 := cell_two W' (.cells #[.int .i64 1] 3) #[.int .i64 0] 3 0
        have nf6 := froz_two W' (.cells #[.int .i64 1] 3) #[.int .i64 0] 3 0
        have hbU6 : Below W'.heap.size W' ((W'.alloc (.cells #[.int .i64 1] 3)).alloc (.cells #[.int .i64 0] 3)) := belA (bel1 _) _
        have HsU6 := Lib.hid (show ((W'.alloc (.cells #[.int .i64 1] 3)).alloc (.cells #[.int .i64 0] 3)).heap.size = W'.heap.size + 2 by simp)
        clear hn ht hmn
        generalize (W'.alloc (.cells #[.int .i64 1] 3)).alloc (.cells #[.int .i64 0] 3) = U6 at t6 n6 nf6 hbU6 HsU6 ⊢
        refine (wpIn_wide (n := 20)).1 ?_
        refine wpIn_rangeT rfl (by omega) (gf := 48) (lb := #[.pointer (some ⟨Bo, 0, none⟩)]) (by simp [go_sem]) trivial (enters_of Tryz.func48 (by kernel_rfl) rfl)
          (each_in (20 - 1) Bo Bb (by omega) v3 l hll) (fun W2 hb => ⟨cell_bel HE3.out (belT hbU6 hb), HE4.out.bel (belT hbU6 hb), Nat.lt_of_lt_of_le HS5.out.2.1 (belT hbU6 hb).size⟩) (fun _ => rfl)
          (fun k => k = W'.heap.size + 1) (fun k h => ⟨by have := HsU6.out; omega, fun h' => by have := HS5.out; omega⟩) (fun k h => by have := HsU6.out; have := HS5.out; omega) (fun k h => h.elim)
          (fun pre Wr => Below W'.heap.size W' Wr ∧ Wr.cell? ⟨W'.heap.size, 0, none⟩ = some (.int .i64 1) ∧ Wr.cell? ⟨W'.heap.size + 1, 0, none⟩ = some (.int .i64 (pre.length : Nat)) ∧ Wr.frozen? ⟨W'.heap.size + 1, 0, none⟩ = false ∧ True)
          (fun _ _ _ => False) ?hI2 ?hIx2 ?hs2 ?hround2 ?hdone2 ?hstop2
        case hI2 =>
          rintro s A B ⟨ha, h1, h2, h3, h4⟩ hb
          have hb' := hb.below (fun _ _ h => h)
          have := HsU6.out
          exact ⟨ha.trans (hb'.mono (by omega)), cell_belB h1 hb' (by omega), cell_belB h2 hb' (by omega), froz_belB h3 hb' (by omega), h4⟩
        case hIx2 => exact fun _ _ _ _ h _ => h
        case hs2 => exact ⟨hbU6, t6, n6, nf6, trivial⟩
        case hround2 =>
          rintro l2 pre x W2 ⟨hbx, ht, hn, hnf, hlt⟩ hsz2 hlen hsp
          gi_wp2
          refine ⟨Touch.below (bel1 _), fun W3 hb3 ht3 => ?_⟩
          have hs2 := HsU6.out
          have hbz : Below (W'.heap.size + 2) W2 W3 := ((bel1 (W := W2) (.cells #[.int .i64 x.op, .int .i64 x.a, .int .i64 x.b, .int .i64 x.c, .int .u32 x.m] 29)).mono (by omega)).trans (hb3.mono (by omega))
          have hb03 := hbx.trans (hbz.mono (by omega))
          have ht := cell_belB ht hbz (by omega)
          have hn := cell_belB hn hbz (by omega)
          have hnf := froz_belB hnf hbz (by omega)
          have hXs := Bare.touch (Bare.new x.op x.a x.b x.c x.m W2 29) ht3 (by omega)
          have HG := Lib.hid (HG5.out.more hb03)
          have hat : done[pre.length]? = some x := by
            obtain ⟨j, hj1, hj2, hj3⟩ := hsp
            rw [HX.out] at hj2 hj3
            have h1 := congrArg (fun l : List It => l[pre.length]?) hj3
            have h2 := congrArg List.length hj3
            simp only [List.length_append, List.length_cons, List.length_nil, List.length_take] at h2
            rw [List.getElem?_append_right (Nat.le_refl _), Nat.sub_self, List.getElem?_take_of_lt (by omega)] at h1
            exact h1.symm
          obtain ⟨va, ca, hA⟩ := HG.out.ca
          obtain ⟨vn, cn, hN⟩ := HG.out.cn
          have hq : pre.length < done.length := (List.getElem?_eq_some_iff.1 hat).1
          obtain ⟨ga, capa, rfl, _, _, _, _⟩ := hA.slice (by omega)
          obtain ⟨gn, capn, rfl, _, _, _, _⟩ := hN.slice (by omega)
          have y0 := OwnW.cell rowI.len hA pre.length 0 x _ hat rfl
          have z0 := OwnW.cell rowN.len hN pre.length 0 x _ hat rfl
          have z1 := OwnW.cell rowN.len hN pre.length 1 x _ hat rfl
          have z2 := OwnW.cell rowN.len hN pre.length 2 x _ hat rfl
          have z3 := OwnW.cell rowN.len hN pre.length 3 x _ hat rfl
          have z4 := OwnW.cell rowN.len hN pre.length 4 x _ hat rfl
          simp only [Nat.mul_one, Nat.add_zero] at y0 z0
          obtain ⟨x0, x1, x2, x3, x4, _, _, _, _⟩ := hXs
          dsimp only at x1 x2 x3 x4
          have hne : ∀ w, (binOp .neq 29 (.agg #[.int .i64 x.op, .int .i64 x.a, .int .i64 x.b, .int .i64 x.c, .int .u32 x.m]) (.agg #[.int .i64 x.op, .int .i64 x.a, .int .i64 x.b, .int .i64 x.c, .int .u32 x.m])).run Tryz.prog w = .ok (.bool false) w := fun w => by rw [ins_ne]; simp
          have q0 : (0 : Int) ≤ (pre.length : Int) := by omega
          have q1 : (pre.length : Int) < (done.length : Int) := by omega
          have q2 : ¬ (done.length : Int) ≤ (pre.length : Int) := by omega
          have q3 : decide (done.length ≤ pre.length) = false := decide_eq_false (by omega)
          have q4 : (pre.length : Int) ≤ 200 := by have := HDL.out; omega
          clear hA hN hat hsp hbz ht3 hb3 hs2 hbx
          gi_wp2
          refine region_round_quiet l2 (by kernel_rfl) (by kernel_rfl) (by kernel_rfl) ?_
          repeat (gi_big_quiet_step (fail))
          refine wpQuietIn_nil ?_
          intro _ hw'
          obtain ⟨nq, hw''⟩ := hw'
          subst hw''
          have hbD := bel_drewN W3 nq
          have ht := cell_bel ht hbD
          have hnf := froz_bel hn hnf hbD
          have hn := cell_bel hn hbD
          have hbW : Below W'.heap.size W' (W3.drewN nq) := hb03.trans (hbD.mono hb03.size)
          have cmD := cell_bel HG.out.cm hbD
          clear ca cn y0 z0 z1 z2 z3 z4 x0 x1 x2 x3 x4 q2 q3
          have hset := hbW.setCell (p := ⟨W'.heap.size + 1, 0, none⟩) (by simp) (.int .i64 ((pre.length : Int) + 1))
          have hcs : ((W3.drewN nq).setCell ⟨W'.heap.size + 1, 0, none⟩ (.int .i64 ((pre.length : Int) + 1))).cell? ⟨W'.heap.size + 1, 0, none⟩ = some (.int .i64 ((pre ++ [x]).length : Nat)) := by
            rw [World.cell?_setCell_same _ _ _ hn, List.length_append]
            rfl
          have hts := (World.cell?_setCell_other (W3.drewN nq) ⟨W'.heap.size + 1, 0, none⟩ ⟨W'.heap.size, 0, none⟩ (.int .i64 ((pre.length : Int) + 1)) (by simp)).trans ht
          have hms := (World.cell?_setCell_other (W3.drewN nq) ⟨W'.heap.size + 1, 0, none⟩ ⟨w.heap.size, 0, none⟩ (.int .i64 ((pre.length : Int) + 1)) (by first | (simp; done) | (have := HG5.out.sz; simp; omega))).trans cmD
          have htc := (Touch.below (T := fun k => k = W'.heap.size + 1) hbD).trans (Touch.setCell (W3.drewN nq) ⟨W'.heap.size + 1, 0, none⟩ (.int .i64 ((pre.length : Int) + 1)) rfl)
          have hlp : ((pre ++ [x]).length : Int) = pre.length + 1 := by simp
          have hlpre := Lib.hid hlp
          clear hlp
          gi_wp2
          exact ⟨htc, hset, hts, hcs, by rw [World.frozen?_setCell]; exact hnf, trivial⟩
        case hstop2 => exact fun _ _ _ _ _ _ h _ => h.elim
        case hdone2 =>
          rintro D2 xs W7 hD2 rfl ⟨hbx, ht, hn, hnf, hlt⟩ hKD2
          rw [HX.out] at hn
          have HG7 := Lib.hid (HG5.out.more hbx)
          have cn7 := cell_bel cn5 hbx
          have HK7 := Lib.hid ((hbx.block D hlD).trans HK5.out)
          have HC7 := Lib.hid (HC5.out.bel hbx)
          have HC8 := Lib.hid (HC6.out.bel hbx)
          have HB7 := Lib.hid (HB5.out.bel hbx)
          have HKD := Lib.hid hKD2
          have hz7 := Lib.hid (show W'.heap.size ≤ W7.heap.size from hbx.size)
          clear hbx hKD2 t6 n6 nf6 hbU6
          go_wp2
          rw [rounds_succ]
          have hbT := bel1 (W := W7) (.cells #[.int .i64 2] 3)
          have hcv1 := conv_arg (HC8.out.bel hbT)
          have hcv2 := conv_arg (HB7.out.bel hbT)
          have h77 : (W7.alloc (.cells #[.int .i64 2] 3)).cell? ⟨gc, l.length, none⟩ = some (.int .u8 77) := by
            refine cell_bel ?_ hbT
            rcases HC7.out with ⟨h1, _⟩ | ⟨ad, c2, h1, _, h3, h4⟩
            · cases h1
            · obtain ⟨b2, o2, rfl, h6⟩ := h4 (by simp)
              simp only [Value.slice.injEq, Option.some.injEq, Addr.mk.injEq, and_true] at h1
              obtain ⟨⟨h7, h8⟩, _, h9⟩ := h1
              subst h7 h8 h9
              have := h6.2 l.length (by simp)
              rw [Nat.zero_add] at this
              rw [this]
              simp [List.getD]
          have hslc := slice_cap ⟨gc, 0, none⟩ l.length cc l.length hc5 (W7.alloc (.cells #[.int .i64 2] 3))
          have r7 := cell_bel HG7.out.cr hbT
          have rf7 := froz_bel HG7.out.cr HG7.out.fr hbT
          have hB7 := belT HG7.out.bel hbT
          have HKa := Lib.hid ((hbT.block D (Array.getElem?_eq_some_iff.1 HK7.out).1).trans HK7.out)
          have HKb := Lib.hid ((hbT.block D2 (Array.getElem?_eq_some_iff.1 HKD.out).1).trans HKD.out)
          have t8 := cell_new W7 #[.int .i64 2] 3 0
          clear hbT cn7
          generalize W7.alloc _ = W8 at t8 hcv1 hcv2 h77 hslc r7 rf7 hB7 HKa HKb ⊢
          generalize bytesS l = sl at hcv1 hcv2
          go_wp2_with (go_at_call 10; refine (works_any _ (hE.on hB7)).mono ?_; rintro e w8 ⟨rfl, hb8⟩; have r8 := cell_bel r7 hb8; have rf8 := froz_bel r7 rf7 hb8; have hB8 := belT hB7 hb8)
          have hlt7 := HS5.out
          have hz8 := hz7.out
          have hsw : w.heap.size + 1 < D := by have := HG4.out.sz; omega
          have hDD : D < D2 := by have := HsU6.out; omega
          have hKa := (hb8.block D (Array.getElem?_eq_some_iff.1 HKa.out).1).trans HKa.out
          have hKb := (hb8.block D2 (Array.getElem?_eq_some_iff.1 HKb.out).1).trans HKb.out
          have hB9 := hB8.setCell (p := ⟨w.heap.size + 1, 0, none⟩) (by simp) (.bool true)
          have hKc := (Below.heap_setCell w8 ⟨w.heap.size + 1, 0, none⟩ (.bool true) D (by simp; omega)).trans hKa
          have hKd := (Below.heap_setCell w8 ⟨w.heap.size + 1, 0, none⟩ (.bool true) D2 (by simp; omega)).trans hKb
          have c5 : (w8.setCell ⟨w.heap.size + 1, 0, none⟩ (.bool true)).cell? ⟨w.heap.size + 1, 0, none⟩ = some (.bool true) := World.cell?_setCell_same _ _ _ r8
          have hKe := (World.putObj_heap_other (o := .deferred none) (w := w8.setCell ⟨w.heap.size + 1, 0, none⟩ (.bool true)) (r := D2) (k := D) (by omega)).trans hKc
          have hc6 := cell_kept c5 (grownBy_putObj' _ D2 (.deferred none)) (fun r e => by cases e; exact ⟨_, hKd, rfl⟩)
          have hc7 := cell_kept hc6 (grownBy_putObj' _ D (.deferred none)) (fun r e => by cases e; exact ⟨_, hKe, rfl⟩)
          refine ⟨by simp, .inl ⟨_, _, rfl, run_takeDeferred hKd, ?_⟩⟩
          refine ⟨by simp, .inl ⟨_, _, rfl, run_takeDeferred hKe, ?_⟩⟩
          have hBa := hB9.trans (below_put _ D2 (.deferred none) (by omega) hB9.size)
          exact ⟨.bool true, by simp [results, Tryz.results3, go_sem, hc7], rfl, hBa.trans (below_put _ D (.deferred none) (by omega) hBa.size)⟩
      case hstop =>
        rintro D c pre W' hD ⟨j, hj1, hj2, rfl⟩ ⟨rfl, hbx, ht, hn, hm1, hm2⟩ hKD
        have hlj : ((itemsAt l 0).take j).length = j := by rw [List.length_take]; omega
        rw [hlj] at hn hm1 hm2
        rw [HX.out] at hj2
        have hmn : min (done.length : Int) (max 1 many) = j := by omega
        clear hm1 hm2 hj1 hj2 hlj
        have hlD : D < W'.heap.size := (Array.getElem?_eq_some_iff.1 hKD).1
        have HG5 := Lib.hid (HG4.out.more hbx)
        have cm5 := HG5.out.cm
        obtain ⟨vn5, cn5, hN5⟩ := HG5.out.cn
        obtain ⟨an5, cc5, rfl⟩ := hN5.form
        have HE3 := Lib.hid (cell_bel HE1.out hbx)
        have HE4 := Lib.hid (HE2.out.bel hbx)
        have HS5 := Lib.hid (show Bo < W'.heap.size ∧ Bb < W'.heap.size ∧ w3.heap.size + 1 < W'.heap.size ∧ w3.heap.size + 2 ≤ D from ⟨lt_of_cell HE3.out, Nat.lt_of_lt_of_le HS3.out.2.1 hbx.size, lt_of_cell hn, by have := HsU.out; omega⟩)
        have HK5 := Lib.hid hKD
        have HC5 := Lib.hid (HC3.out.bel hbx)
        have HC6 := Lib.hid (HC4.out.bel hbx)
        have HB5 := Lib.hid (HB4.out.bel hbx)
        clear hN5 hbx hKD
        refine wpIn_wide.2 ?_
        go_wp2
        rw [rounds_succ]
        go_wp2
        have t6 := cell_al (cell_new W' #[.int .i64 1] 3 0) (.cells #[.int .i64 0] 3)
        have n6 := cell_two W' (.cells #[.int .i64 1] 3) #[.int .i64 0] 3 0
        have nf6 := froz_two W' (.cells #[.int .i64 1] 3) #[.int .i64 0] 3 0
        have hbU6 : Below W'.heap.size W' ((W'.alloc (.cells #[.int .i64 1] 3)).alloc (.cells #[.int .i64 0] 3)) := belA (bel1 _) _
        have HsU6 := Lib.hid (show ((W'.alloc (.cells #[.int .i64 1] 3)).alloc (.cells #[.int .i64 0] 3)).heap.size = W'.heap.size + 2 by simp)
        clear hn ht hmn
        generalize (W'.alloc (.cells #[.int .i64 1] 3)).alloc (.cells #[.int .i64 0] 3) = U6 at t6 n6 nf6 hbU6 HsU6 ⊢
        refine (wpIn_wide (n := 20)).1 ?_
        refine wpIn_rangeT rfl (by omega) (gf := 48) (lb := #[.pointer (some ⟨Bo, 0, none⟩)]) (by simp [go_sem]) trivial (enters_of Tryz.func48 (by kernel_rfl) rfl)
          (each_in (20 - 1) Bo Bb (by omega) v3 l hll) (fun W2 hb => ⟨cell_bel HE3.out (belT hbU6 hb), HE4.out.bel (belT hbU6 hb), Nat.lt_of_lt_of_le HS5.out.2.1 (belT hbU6 hb).size⟩) (fun _ => rfl)
          (fun k => k = W'.heap.size + 1) (fun k h => ⟨by have := HsU6.out; omega, fun h' => by have := HS5.out; omega⟩) (fun k h => by have := HsU6.out; have := HS5.out; omega) (fun k h => h.elim)
          (fun pre Wr => Below W'.heap.size W' Wr ∧ Wr.cell? ⟨W'.heap.size, 0, none⟩ = some (.int .i64 1) ∧ Wr.cell? ⟨W'.heap.size + 1, 0, none⟩ = some (.int .i64 (pre.length : Nat)) ∧ Wr.frozen? ⟨W'.heap.size + 1, 0, none⟩ = false ∧ True)
          (fun _ _ _ => False) ?hI2 ?hIx2 ?hs2 ?hround2 ?hdone2 ?hstop2
        case hI2 =>
          rintro s A B ⟨ha, h1, h2, h3, h4⟩ hb
          have hb' := hb.below (fun _ _ h => h)
          have := HsU6.out
          exact ⟨ha.trans (hb'.mono (by omega)), cell_belB h1 hb' (by omega), cell_belB h2 hb' (by omega), froz_belB h3 hb' (by omega), h4⟩
        case hIx2 => exact fun _ _ _ _ h _ => h
        case hs2 => exact ⟨hbU6, t6, n6, nf6, trivial⟩
        case hround2 =>
          rintro l2 pre x W2 ⟨hbx, ht, hn, hnf, hlt⟩ hsz2 hlen hsp
          gi_wp2
          refine ⟨Touch.below (bel1 _), fun W3 hb3 ht3 => ?_⟩
          have hs2 := HsU6.out
          have hbz : Below (W'.heap.size + 2) W2 W3 := ((bel1 (W := W2) (.cells #[.int .i64 x.op, .int .i64 x.a, .int .i64 x.b, .int .i64 x.c, .int .u32 x.m] 29)).mono (by omega)).trans (hb3.mono (by omega))
          have hb03 := hbx.trans (hbz.mono (by omega))
          have ht := cell_belB ht hbz (by omega)
          have hn := cell_belB hn hbz (by omega)
          have hnf := froz_belB hnf hbz (by omega)
          have hXs := Bare.touch (Bare.new x.op x.a x.b x.c x.m W2 29) ht3 (by omega)
          have HG := Lib.hid (HG5.out.more hb03)
          have hat : done[pre.length]? = some x := by
            obtain ⟨j, hj1, hj2, hj3⟩ := hsp
            rw [HX.out] at hj2 hj3
            have h1 := congrArg (fun l : List It => l[pre.length]?) hj3
            have h2 := congrArg List.length hj3
            simp only [List.length_append, List.length_cons, List.length_nil, List.length_take] at h2
            rw [List.getElem?_append_right (Nat.le_refl _), Nat.sub_self, List.getElem?_take_of_lt (by omega)] at h1
            exact h1.symm
          obtain ⟨va, ca, hA⟩ := HG.out.ca
          obtain ⟨vn, cn, hN⟩ := HG.out.cn
          have hq : pre.length < done.length := (List.getElem?_eq_some_iff.1 hat).1
          obtain ⟨ga, capa, rfl, _, _, _, _⟩ := hA.slice (by omega)
          obtain ⟨gn, capn, rfl, _, _, _, _⟩ := hN.slice (by omega)
          have y0 := OwnW.cell rowI.len hA pre.length 0 x _ hat rfl
          have z0 := OwnW.cell rowN.len hN pre.length 0 x _ hat rfl
          have z1 := OwnW.cell rowN.len hN pre.length 1 x _ hat rfl
          have z2 := OwnW.cell rowN.len hN pre.length 2 x _ hat rfl
          have z3 := OwnW.cell rowN.len hN pre.length 3 x _ hat rfl
          have z4 := OwnW.cell rowN.len hN pre.length 4 x _ hat rfl
          simp only [Nat.mul_one, Nat.add_zero] at y0 z0
          obtain ⟨x0, x1, x2, x3, x4, _, _, _, _⟩ := hXs
          dsimp only at x1 x2 x3 x4
          have hne : ∀ w, (binOp .neq 29 (.agg #[.int .i64 x.op, .int .i64 x.a, .int .i64 x.b, .int .i64 x.c, .int .u32 x.m]) (.agg #[.int .i64 x.op, .int .i64 x.a, .int .i64 x.b, .int .i64 x.c, .int .u32 x.m])).run Tryz.prog w = .ok (.bool false) w := fun w => by rw [ins_ne]; simp
          have q0 : (0 : Int) ≤ (pre.length : Int) := by omega
          have q1 : (pre.length : Int) < (done.length : Int) := by omega
          have q2 : ¬ (done.length : Int) ≤ (pre.length : Int) := by omega
          have q3 : decide (done.length ≤ pre.length) = false := decide_eq_false (by omega)
          have q4 : (pre.length : Int) ≤ 200 := by have := HDL.out; omega
          clear hA hN hat hsp hbz ht3 hb3 hs2 hbx
          gi_wp2
          refine region_round_quiet l2 (by kernel_rfl) (by kernel_rfl) (by kernel_rfl) ?_
          repeat (gi_big_quiet_step (fail))
          refine wpQuietIn_nil ?_
          intro _ hw'
          obtain ⟨nq, hw''⟩ := hw'
          subst hw''
          have hbD := bel_drewN W3 nq
          have ht := cell_bel ht hbD
          have hnf := froz_bel hn hnf hbD
          have hn := cell_bel hn hbD
          have hbW : Below W'.heap.size W' (W3.drewN nq) := hb03.trans (hbD.mono hb03.size)
          have cmD := cell_bel HG.out.cm hbD
          clear ca cn y0 z0 z1 z2 z3 z4 x0 x1 x2 x3 x4 q2 q3
          have hset := hbW.setCell (p := ⟨W'.heap.size + 1, 0, none⟩) (by simp) (.int .i64 ((pre.length : Int) + 1))
          have hcs : ((W3.drewN nq).setCell ⟨W'.heap.size + 1, 0, none⟩ (.int .i64 ((pre.length : Int) + 1))).cell? ⟨W'.heap.size + 1, 0, none⟩ = some (.int .i64 ((pre ++ [x]).length : Nat)) := by
            rw [World.cell?_setCell_same _ _ _ hn, List.length_append]
            rfl
          have hts := (World.cell?_setCell_other (W3.drewN nq) ⟨W'.heap.size + 1, 0, none⟩ ⟨W'.heap.size, 0, none⟩ (.int .i64 ((pre.length : Int) + 1)) (by simp)).trans ht
          have hms := (World.cell?_setCell_other (W3.drewN nq) ⟨W'.heap.size + 1, 0, none⟩ ⟨w.heap.size, 0, none⟩ (.int .i64 ((pre.length : Int) + 1)) (by first | (simp; done) | (have := HG5.out.sz; simp; omega))).trans cmD
          have htc := (Touch.below (T := fun k => k = W'.heap.size + 1) hbD).trans (Touch.setCell (W3.drewN nq) ⟨W'.heap.size + 1, 0, none⟩ (.int .i64 ((pre.length : Int) + 1)) rfl)
          have hlp : ((pre ++ [x]).length : Int) = pre.length + 1 := by simp
          have hlpre := Lib.hid hlp
          clear hlp
          gi_wp2
          exact ⟨htc, hset, hts, hcs, by rw [World.frozen?_setCell]; exact hnf, trivial⟩
        case hstop2 => exact fun _ _ _ _ _ _ h _ => h.elim
        case hdone2 =>
          rintro D2 xs W7 hD2 rfl ⟨hbx, ht, hn, hnf, hlt⟩ hKD2
          rw [HX.out] at hn
          have HG7 := Lib.hid (HG5.out.more hbx)
          have cn7 := cell_bel cn5 hbx
          have HK7 := Lib.hid ((hbx.block D hlD).trans HK5.out)
          have HC7 := Lib.hid (HC5.out.bel hbx)
          have HC8 := Lib.hid (HC6.out.bel hbx)
          have HB7 := Lib.hid (HB5.out.bel hbx)
          have HKD := Lib.hid hKD2
          have hz7 := Lib.hid (show W'.heap.size ≤ W7.heap.size from hbx.size)
          clear hbx hKD2 t6 n6 nf6 hbU6
          go_wp2
          rw [rounds_succ]
          have hbT := bel1 (W := W7) (.cells #[.int .i64 2] 3)
          have hcv1 := conv_arg (HC8.out.bel hbT)
          have hcv2 := conv_arg (HB7.out.bel hbT)
          have h77 : (W7.alloc (.cells #[.int .i64 2] 3)).cell? ⟨gc, l.length, none⟩ = some (.int .u8 77) := by
            refine cell_bel ?_ hbT
            rcases HC7.out with ⟨h1, _⟩ | ⟨ad, c2, h1, _, h3, h4⟩
            · cases h1
            · obtain ⟨b2, o2, rfl, h6⟩ := h4 (by simp)
              simp only [Value.slice.injEq, Option.some.injEq, Addr.mk.injEq, and_true] at h1
              obtain ⟨⟨h7, h8⟩, _, h9⟩ := h1
              subst h7 h8 h9
              have := h6.2 l.length (by simp)
              rw [Nat.zero_add] at this
              rw [this]
              simp [List.getD]
          have hslc := slice_cap ⟨gc, 0, none⟩ l.length cc l.length hc5 (W7.alloc (.cells #[.int .i64 2] 3))
          have r7 := cell_bel HG7.out.cr hbT
          have rf7 := froz_bel HG7.out.cr HG7.out.fr hbT
          have hB7 := belT HG7.out.bel hbT
          have HKa := Lib.hid ((hbT.block D (Array.getElem?_eq_some_iff.1 HK7.out).1).trans HK7.out)
          have HKb := Lib.hid ((hbT.block D2 (Array.getElem?_eq_some_iff.1 HKD.out).1).trans HKD.out)
          have t8 := cell_new W7 #[.int .i64 2] 3 0
          clear hbT cn7
          generalize W7.alloc _ = W8 at t8 hcv1 hcv2 h77 hslc r7 rf7 hB7 HKa HKb ⊢
          generalize bytesS l = sl at hcv1 hcv2
          go_wp2_with (go_at_call 10; refine (works_any _ (hE.on hB7)).mono ?_; rintro e w8 ⟨rfl, hb8⟩; have r8 := cell_bel r7 hb8; have rf8 := froz_bel r7 rf7 hb8; have hB8 := belT hB7 hb8)
          have hlt7 := HS5.out
          have hz8 := hz7.out
          have hsw : w.heap.size + 1 < D := by have := HG4.out.sz; omega
          have hDD : D < D2 := by have := HsU6.out; omega
          have hKa := (hb8.block D (Array.getElem?_eq_some_iff.1 HKa.out).1).trans HKa.out
          have hKb := (hb8.block D2 (Array.getElem?_eq_some_iff.1 HKb.out).1).trans HKb.out
          have hB9 := hB8.setCell (p := ⟨w.heap.size + 1, 0, none⟩) (by simp) (.bool true)
          have hKc := (Below.heap_setCell w8 ⟨w.heap.size + 1, 0, none⟩ (.bool true) D (by simp; omega)).trans hKa
          have hKd := (Below.heap_setCell w8 ⟨w.heap.size + 1, 0, none⟩ (.bool true) D2 (by simp; omega)).trans hKb
          have c5 : (w8.setCell ⟨w.heap.size + 1, 0, none⟩ (.bool true)).cell? ⟨w.heap.size + 1, 0, none⟩ = some (.bool true) := World.cell?_setCell_same _ _ _ r8
          have hKe := (World.putObj_heap_other (o := .deferred none) (w := w8.setCell ⟨w.heap.size + 1, 0, none⟩ (.bool true)) (r := D2) (k := D) (by omega)).trans hKc
          have hc6 := cell_kept c5 (grownBy_putObj' _ D2 (.deferred none)) (fun r e => by cases e; exact ⟨_, hKd, rfl⟩)
          have hc7 := cell_kept hc6 (grownBy_putObj' _ D (.deferred none)) (fun r e => by cases e; exact ⟨_, hKe, rfl⟩)
          refine ⟨by simp, .inl ⟨_, _, rfl, run_takeDeferred hKd, ?_⟩⟩
          refine ⟨by simp, .inl ⟨_, _, rfl, run_takeDeferred hKe, ?_⟩⟩
          have hBa := hB9.trans (below_put _ D2 (.deferred none) (by omega) hB9.size)
          exact ⟨.bool true, by simp [results, Tryz.results3, go_sem, hc7], rfl, hBa.trans (below_put _ D (.deferred none) (by omega) hBa.size)⟩

set_option maxRecDepth 100000 in
set_option maxHeartbeats 4000000 in
theorem instrEach_long (l : List Nat) (hl : 200 < l.length) (hm : l.length ≤ 9223372036854775807) (ao : Option Addr) (cp : Nat) (many : Int) (w : World) (hE : EnvM w) :
    Calls Tryz.prog 3 #[.slice ao l.length cp, .int .i64 many] w fun e w' => e = .returned (.bool true) ∧ Below w.heap.size w w' := by
  have CW := Lib.hid fun W hE => works_any W hE
  have h200 : (200 : Int) < (l.length : Int) := by omega
  have hB := belA (bel1 (W := w) (.cells #[.int .i64 many] 3)) (.cells #[.bool false] 4)
  have r0 := cell_two w (.cells #[.int .i64 many] 3) #[.bool false] 4 0
  have rf := froz_two w (.cells #[.int .i64 many] 3) #[.bool false] 4 0
  go_enter Tryz.func3, Tryz.ntmps3
  go_wp2_with (refine (CW.out _ (hE.on hB)).mono ?_; rintro e w5 ⟨rfl, hb5⟩; have rf5 := froz_bel r0 rf hb5; have r5 := cell_bel r0 hb5; have hB5 := belT hB hb5)
  have c5 : (w5.setCell ⟨w.heap.size + 1, 0, none⟩ (.bool true)).cell? ⟨w.heap.size + 1, 0, none⟩ = some (.bool true) := World.cell?_setCell_same _ _ _ r5
  have hB6 := hB5.setCell (p := ⟨w.heap.size + 1, 0, none⟩) (by simp) (.bool true)
  exact bodyPost_ret (v := .bool true) (by simp [results, Tryz.results3, go_sem, c5]) rfl ⟨rfl, hB6⟩

theorem instrEach_row (v : Value) (l : List Nat) (many : Int) (w : World) (hE : EnvM w) (hv : ArgB w v l) (hl : l.length ≤ 9223372036854775807) (m0 : -9223372036854775808 ≤ many) (m1 : many ≤ 9223372036854775807) :
    Calls Tryz.prog 3 #[v, .int .i64 many] w fun e w' => e = .returned (.bool true) ∧ Below w.heap.size w w' := by
  by_cases h : l.length ≤ 200
  · exact instrEach_short v l h many ⟨m0, m1⟩ w hE hv
  · obtain ⟨ao, cp, rfl⟩ := hv.form
    exact instrEach_long l (by omega) hl ao cp many w hE
end Go.Proofs.YtfnfcngkaepnjaaGreatDoor
