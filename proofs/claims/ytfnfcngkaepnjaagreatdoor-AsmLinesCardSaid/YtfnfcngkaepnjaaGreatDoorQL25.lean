/- Joined texts: Package program: is a place fine?; Places of a program, one behind the other: plain laws.; Package program: every, its iterator.; Law: what a region does outside a round it does inside one. -/
import Derived.Test.YtfnfcngkaepnjaaGreatDoorQL24
import Derived.Test.YtfnfcngkaepnjaaGreatDoorQL3
import Derived.OrdersIn
import Derived.Sort.QuietTacIn
import Derived.Sort.BigQuietIn
/- Package program: is a place fine? -/
namespace Go.Proofs.YtfnfcngkaepnjaaGreatDoor
set_option linter.unusedVariables false
set_option linter.unusedSimpArgs false
open Go Go.Proofs Go.RowKit

abbrev askV (i : Nat) (p : Value) : Value := .func (.func i) #[p] #[]
abbrev asksV (p : Value) : Value := .agg #[askV 180 p, askV 181 p, askV 182 p, askV 183 p]
theorem ask_at (p : Value) (w : World) : (Instr.index 257 (asksV p) (.int .i64 0)).run Tryz.prog w = .ok (askV 180 p) w ∧ (Instr.index 257 (asksV p) (.int .i64 1)).run Tryz.prog w = .ok (askV 181 p) w ∧ (Instr.index 257 (asksV p) (.int .i64 2)).run Tryz.prog w = .ok (askV 182 p) w ∧ (Instr.index 257 (asksV p) (.int .i64 3)).run Tryz.prog w = .ok (askV 183 p) w :=
  ⟨by kernel_rfl, by kernel_rfl, by kernel_rfl, by kernel_rfl⟩

set_option maxRecDepth 100000 in
set_option maxHeartbeats 4000000 in
theorem plcFine_any (F : List FnM) (vc vf : Value) (mu rw0 gr : Int) (pc : Nat) (f : FnM) (x : InsM) (hx : f.code[pc]? = some x) (hl : f.code.length ≤ 512) (hm : 0 ≤ x.m ∧ x.m < 4294967296) (w : World) (h : PlcA F f vc vf w) :
    Calls Tryz.prog 132 #[plcV f.regs vc vf mu rw0 gr pc] w fun e w' => e = .returned (.bool (fineF F f pc x)) ∧ Below w.heap.size w w' := by
  have HP := Lib.hid (PlcB.new w f.regs vc vf mu rw0 gr pc 213)
  have HB := Lib.hid (bel1 (W := w) (.cells #[.int .i64 f.regs, vc, vf, .int .i64 mu, .int .i64 rw0, .int .i64 gr, .int .i64 pc] 213))
  have HA := Lib.hid (h.bel HB.out)
  have C1 := Lib.hid fun (W : World) h => plcFits_any F vc vf mu rw0 gr pc f x hx hm W h
  have C2 := Lib.hid fun (W : World) h => plcJumps_any F vc vf mu rw0 gr pc f x hx hm W h
  have C3 := Lib.hid fun (W : World) h => plcCalls_any F vc vf mu rw0 gr pc f x hx hm W h
  have C4 := Lib.hid fun (W : World) h => plcEnds_any F vc vf mu rw0 gr pc f x hx hl hm W h
  have hI := ask_at (plcV f.regs vc vf mu rw0 gr pc)
  dsimp only [asksV, askV, plcV] at hI
  have I0 := Lib.hid fun w => (hI w).1
  have I1 := Lib.hid fun w => (hI w).2.1
  have I2 := Lib.hid fun w => (hI w).2.2.1
  have I3 := Lib.hid fun w => (hI w).2.2.2
  clear hI
  have hq : fineF F f pc x = (fitsF f x && (jumpsF f x && (callF F x && endsF f pc x))) := rfl
  rw [hq]
  clear hq
  obtain ⟨p0, p1, p2, p3, p4, p5, p6⟩ := HP.out
  go_enter Tryz.func132, Tryz.ntmps132
  go_wp2_with fail
  clear p0 p1 p2 p3 p4 p5 p6
  generalize w.alloc _ = V at HB HA ⊢
  refine wp_loop_rounds 5 ?_
  have hi := I0.out
  rw [rounds_succ]
  go_wp2_with fail
  refine (C1.out _ HA.out).mono ?_
  rintro e w1 ⟨rfl, hb⟩
  have HB := Lib.hid (belT HB.out hb)
  have HA := Lib.hid (HA.out.bel hb)
  clear hi hb
  cases hr : (fitsF f x) with
  | false =>
    have H0 := Lib.hid hr
    clear hr
    go_wp2_with fail
    go_ret
    exact ⟨ret_bool (by rw [H0.out]; rfl), HB.out⟩
  | true =>
  have H0 := Lib.hid hr
  clear hr
  go_wp2_with fail
  have hi := I1.out
  rw [rounds_succ]
  go_wp2_with fail
  refine (C2.out _ HA.out).mono ?_
  rintro e w2 ⟨rfl, hb⟩
  have HB := Lib.hid (belT HB.out hb)
  have HA := Lib.hid (HA.out.bel hb)
  clear hi hb
  cases hr : (jumpsF f x) with
  | false =>
    have H1 := Lib.hid hr
    clear hr
    go_wp2_with fail
    go_ret
    exact ⟨ret_bool (by rw [H0.out,H1.out]; rfl), HB.out⟩
  | true =>
  have H1 := Lib.hid hr
  clear hr
  go_wp2_with fail
  have hi := I2.out
  rw [rounds_succ]
  go_wp2_with fail
  refine (C3.out _ HA.out).mono ?_
  rintro e w3 ⟨rfl, hb⟩
  have HB := Lib.hid (belT HB.out hb)
  have HA := Lib.hid (HA.out.bel hb)
  clear hi hb
  cases hr : (callF F x) with
  | false =>
    have H2 := Lib.hid hr
    clear hr
    go_wp2_with fail
    go_ret
    exact ⟨ret_bool (by rw [H0.out,H1.out,H2.out]; rfl), HB.out⟩
  | true =>
  have H2 := Lib.hid hr
  clear hr
  go_wp2_with fail
  have hi := I3.out
  rw [rounds_succ]
  go_wp2_with fail
  refine (C4.out _ HA.out).mono ?_
  rintro e w4 ⟨rfl, hb⟩
  have HB := Lib.hid (belT HB.out hb)
  have HA := Lib.hid (HA.out.bel hb)
  clear hi hb
  cases hr : (endsF f pc x) with
  | false =>
    have H3 := Lib.hid hr
    clear hr
    go_wp2_with fail
    go_ret
    exact ⟨ret_bool (by rw [H0.out,H1.out,H2.out,H3.out]; rfl), HB.out⟩
  | true =>
  have H3 := Lib.hid hr
  clear hr
  go_wp2_with fail
  rw [rounds_succ]
  go_wp2_with fail
  go_ret
  exact ⟨ret_bool (by rw [H0.out, H1.out, H2.out, H3.out]; rfl), HB.out⟩
end Go.Proofs.YtfnfcngkaepnjaaGreatDoor

/- Places of a program, one behind the other: plain laws. -/
namespace Go.Proofs.YtfnfcngkaepnjaaGreatDoor
set_option linter.unusedVariables false
set_option linter.unusedSimpArgs false
open Go Go.Proofs Go.RowKit

/-- A place: its function, where it is; the function's cells. -/
structure PlT where
  f : Nat
  pc : Nat
  rg : Int
  vc : Value
/-- What a program's cells say of its functions, without the world. -/
structure RowF (R : List (Int × Value)) (F : List FnM) : Prop where
  len : R.length = F.length
  fn : ∀ (k : Nat) r f, R[k]? = some r → F[k]? = some f → r.1 = f.regs ∧ ∃ a c, r.2 = .slice a f.code.length c
theorem FnsR.row {w : World} {R : List (Int × Value)} {F : List FnM} (h : FnsR w R F) : RowF R F :=
  ⟨h.len, fun k r f hr hf => ⟨(h.fn k r f hr hf).1, (h.fn k r f hr hf).2.form⟩⟩

def rowT (k : Nat) (r : Int × Value) (n : Nat) : List PlT := (List.range n).map fun j => ⟨k, j, r.1, r.2⟩
def fnRow (R : List (Int × Value)) (F : List FnM) (i : Nat) : List PlT := match R[i]?, F[i]? with | some r, some f => rowT i r f.code.length | _, _ => []
def rowsT (R : List (Int × Value)) (F : List FnM) (k : Nat) : List PlT := (List.range k).flatMap (fnRow R F)
theorem rowT_succ (k : Nat) (r : Int × Value) (j : Nat) : rowT k r (j + 1) = rowT k r j ++ [⟨k, j, r.1, r.2⟩] := by
  unfold rowT
  rw [List.range_succ, List.map_append]
  rfl
theorem rowsT_succ (R : List (Int × Value)) (F : List FnM) (k : Nat) : rowsT R F (k + 1) = rowsT R F k ++ fnRow R F k := by
  unfold rowsT
  rw [List.range_succ, List.flatMap_append]
  simp
theorem fnRow_of {R : List (Int × Value)} {F : List FnM} {k : Nat} {r : Int × Value} {f : FnM} (hr : R[k]? = some r) (hf : F[k]? = some f) : fnRow R F k = rowT k r f.code.length := by
  unfold fnRow
  rw [hr, hf]
theorem rowsT_mono (R : List (Int × Value)) (F : List FnM) (k n : Nat) (h : k ≤ n) : rowsT R F k <+: rowsT R F n := by
  induction n with
  | zero =>
    obtain rfl : k = 0 := by omega
    exact List.prefix_refl _
  | succ n ih =>
    by_cases hk : k = n + 1
    · subst hk; exact List.prefix_refl _
    · rw [rowsT_succ]
      exact (ih (by omega)).trans (List.prefix_append _ _)
theorem rowT_mono (k : Nat) (r : Int × Value) (j n : Nat) (h : j ≤ n) : rowT k r j <+: rowT k r n := by
  induction n with
  | zero =>
    obtain rfl : j = 0 := by omega
    exact List.prefix_refl _
  | succ n ih =>
    by_cases hk : j = n + 1
    · subst hk; exact List.prefix_refl _
    · rw [rowT_succ]
      exact (ih (by omega)).trans (List.prefix_append _ _)
/-- Those ahead of a place are a beginning of all. -/
theorem rows_prefix {R : List (Int × Value)} {F : List FnM} {k : Nat} {r : Int × Value} {f : FnM} (hr : R[k]? = some r) (hf : F[k]? = some f) (j : Nat) (hj : j ≤ f.code.length) : rowsT R F k ++ rowT k r j <+: rowsT R F F.length := by
  have hk : k < F.length := (List.getElem?_eq_some_iff.1 hf).1
  refine List.IsPrefix.trans ?_ (rowsT_mono R F (k + 1) F.length hk)
  rw [rowsT_succ, fnRow_of hr hf]
  obtain ⟨t, ht⟩ := rowT_mono k r j _ hj
  exact ⟨t, by rw [List.append_assoc, ht]⟩
theorem rows_next {R : List (Int × Value)} {F : List FnM} {k : Nat} {r : Int × Value} {f : FnM} (hr : R[k]? = some r) (hf : F[k]? = some f) : rowsT R F k ++ rowT k r f.code.length = rowsT R F (k + 1) := by
  rw [rowsT_succ, fnRow_of hr hf]

/-- What is so of each place. -/
def PlOk (R : List (Int × Value)) (F : List FnM) (y : PlT) : Prop := ∃ r f, R[y.f]? = some r ∧ F[y.f]? = some f ∧ y.pc < f.code.length ∧ y.rg = r.1 ∧ y.vc = r.2
theorem mem_rowT {k : Nat} {r : Int × Value} {n : Nat} {y : PlT} (h : y ∈ rowT k r n) : y.f = k ∧ y.pc < n ∧ y.rg = r.1 ∧ y.vc = r.2 := by
  unfold rowT at h
  obtain ⟨j, hj, rfl⟩ := List.mem_map.1 h
  exact ⟨rfl, List.mem_range.1 hj, rfl, rfl⟩
theorem mem_fnRow {R : List (Int × Value)} {F : List FnM} {k : Nat} {y : PlT} (h : y ∈ fnRow R F k) : y.f = k ∧ PlOk R F y := by
  unfold fnRow at h
  split at h
  · rename_i r f hr hf
    obtain ⟨h1, h2, h3, h4⟩ := mem_rowT h
    exact ⟨h1, r, f, by rw [h1]; exact hr, by rw [h1]; exact hf, h2, h3, h4⟩
  · cases h
theorem mem_rows {R : List (Int × Value)} {F : List FnM} {k : Nat} {y : PlT} (h : y ∈ rowsT R F k) : PlOk R F y := by
  unfold rowsT at h
  obtain ⟨i, _, hi⟩ := List.mem_flatMap.1 h
  exact (mem_fnRow hi).2
theorem rows_mem {R : List (Int × Value)} {F : List FnM} (hR : R.length = F.length) {k pc : Nat} {f : FnM} (hf : F[k]? = some f) (hp : pc < f.code.length) : ∃ y ∈ rowsT R F F.length, y.f = k ∧ y.pc = pc := by
  have hk : k < F.length := (List.getElem?_eq_some_iff.1 hf).1
  obtain ⟨r, hr⟩ : ∃ r, R[k]? = some r := ⟨R[k]'(by rw [hR]; exact hk), List.getElem?_eq_getElem _⟩
  refine ⟨⟨k, pc, r.1, r.2⟩, List.mem_flatMap.2 ⟨k, List.mem_range.2 hk, ?_⟩, rfl, rfl⟩
  rw [fnRow_of hr hf]
  exact List.mem_map.2 ⟨pc, List.mem_range.2 hp, rfl⟩
/-- One place is ahead of another. -/
def ltT (a b : PlT) : Prop := a.f < b.f ∨ (a.f = b.f ∧ a.pc < b.pc)
theorem rows_sorted (R : List (Int × Value)) (F : List FnM) (k : Nat) : (rowsT R F k).Pairwise ltT := by
  unfold rowsT
  rw [List.pairwise_flatMap]
  refine ⟨fun i _ => ?_, ?_⟩
  · unfold fnRow
    split
    · unfold rowT
      rw [List.pairwise_map]
      exact (List.pairwise_lt_range).imp fun h => Or.inr ⟨rfl, h⟩
    · exact List.Pairwise.nil
  · refine (List.pairwise_lt_range).imp fun {a b} h x hx y hy => Or.inl ?_
    rw [(mem_fnRow hx).1, (mem_fnRow hy).1]
    exact h
/-- Behind a beginning of fine ones stands one: all ahead of it are fine. -/
theorem before_of {R : List (Int × Value)} {F : List FnM} (hR : R.length = F.length) {pre : List PlT} {x : PlT} (h : pre ++ [x] <+: rowsT R F F.length)
    (hp : ∀ y ∈ pre, ∀ fn i, F[y.f]? = some fn → fn.code[y.pc]? = some i → fineF F fn y.pc i = true) : Before F x.f x.pc := by
  intro f' pc' fn i h1 h2 h3
  obtain ⟨t, ht⟩ := h
  have hs := rows_sorted R F F.length
  obtain ⟨y, hy, rfl, rfl⟩ := rows_mem hR h1 (List.getElem?_eq_some_iff.1 h2).1
  rw [← ht] at hy hs
  rcases List.mem_append.1 hy with hy | hy
  · rcases List.mem_append.1 hy with hy | hy
    · exact hp y hy fn i h1 h2
    · rw [List.mem_singleton.1 hy] at h3
      omega
  · have := (List.pairwise_append.1 hs).2.2 x (by simp) y hy
    unfold ltT at this
    omega
theorem all_of {R : List (Int × Value)} {F : List FnM} (hR : R.length = F.length) (hp : ∀ y ∈ rowsT R F F.length, ∀ fn i, F[y.f]? = some fn → fn.code[y.pc]? = some i → fineF F fn y.pc i = true) : AllFine F := by
  intro f' pc' fn i h1 h2
  obtain ⟨y, hy, rfl, rfl⟩ := rows_mem hR h1 (List.getElem?_eq_some_iff.1 h2).1
  exact hp y hy fn i h1 h2
end Go.Proofs.YtfnfcngkaepnjaaGreatDoor

/- Package program: every, its iterator. -/
namespace Go.Proofs.YtfnfcngkaepnjaaGreatDoor
set_option linter.unusedVariables false
set_option linter.unusedSimpArgs false
open Go Go.Proofs Go.RowKit

/-- A place, as it comes. -/
abbrev plAt (vf : Value) (mu rw gr : Int) (x : PlT) : Array Value := #[.agg #[.int .i64 x.f, .int .i64 x.pc], plcV x.rg x.vc vf mu rw gr x.pc]
/-- What the iterator reads: the program's block, its functions' cells. -/
structure EvC (Bp bF : Nat) (vf : Value) (mu rw gr : Int) (R : List (Int × Value)) (w : World) : Prop where
  c0 : w.cell? ⟨Bp, 0, none⟩ = some vf
  c1 : w.cell? ⟨Bp, 1, none⟩ = some (.int .i64 mu)
  c2 : w.cell? ⟨Bp, 2, none⟩ = some (.int .i64 rw)
  c3 : w.cell? ⟨Bp, 3, none⟩ = some (.int .i64 gr)
  arg : ArgW 2 encF w vf R
  blk : ∀ b o n c, vf = .slice (some ⟨b, o, none⟩) n c → b = bF
theorem EvC.touch {Bp bF : Nat} {vf : Value} {mu rw gr : Int} {R : List (Int × Value)} {w w' : World} {T : Nat → Prop} (h : EvC Bp bF vf mu rw gr R w) (ht : Touch T w w') (h1 : ¬ T Bp) (h2 : ¬ T bF) : EvC Bp bF vf mu rw gr R w' := by
  refine ⟨cell_touch h.c0 ht h1, cell_touch h.c1 ht h1, cell_touch h.c2 ht h1, cell_touch h.c3 ht h1, ?_, h.blk⟩
  rcases h.arg with h0 | ⟨ad, c, e1, e2, e3, e4⟩
  · exact Or.inl h0
  · refine Or.inr ⟨ad, c, e1, e2, e3, fun hl => ?_⟩
    obtain ⟨b, o, rfl, hH⟩ := e4 hl
    have := h.blk b o _ _ e1
    subst this
    exact ⟨b, o, rfl, hH.touch ht h2⟩
theorem EvC.bel {Bp bF : Nat} {vf : Value} {mu rw gr : Int} {R : List (Int × Value)} {w w' : World} (h : EvC Bp bF vf mu rw gr R w) (hb : Below w.heap.size w w') : EvC Bp bF vf mu rw gr R w' :=
  h.touch (T := fun _ => False) (Touch.below hb) (fun h => h) (fun h => h)

attribute [local go_sem] Oper.semAt_some

set_option maxRecDepth 100000 in
set_option maxHeartbeats 2000000 in
theorem pgEvery_in (n Bp bF : Nat) (hn : 1 ≤ n) (vf : Value) (mu rw0 gr : Int) (R : List (Int × Value)) (F : List FnM) (hF : F.length ≤ 1000000) (hFl : ∀ f ∈ F, f.code.length ≤ 1000000) (hRF : RowF R F) :
    SeqB Fence.wide n Tryz.prog 179 #[.pointer (some ⟨Bp, 0, none⟩)] (plAt vf mu rw0 gr) (fun k => k = Bp ∨ k = bF) (fun _ => False)
      (fun xs => xs = rowsT R F F.length) (fun pre => pre <+: rowsT R F F.length) (rowsT R F F.length).length
      (fun W => EvC Bp bF vf mu rw0 gr R W) := by
  rintro lp J Jx W hC hJ hJx hY hj0
  obtain ⟨av, cv, hav⟩ := hC.arg.form
  have HC := Lib.hid hC
  have HY := Lib.hid hY
  have HJ := Lib.hid hJ
  have HJX := Lib.hid hJx
  have HRF := Lib.hid hRF
  rw [hRF.len] at hav
  subst hav
  have c0 := hC.c0
  clear hY hJ hJx hC hRF
  simp only [List.append_toArray, List.cons_append, List.nil_append]
  refine callsIn_of_wp Tryz.func179 rfl trivial ?_ rfl
  simp only [Tryz.ntmps179, List.size_toArray, List.length_cons, List.length_nil, Nat.reduceAdd, Nat.reduceSub, Array.replicate_succ, Array.replicate_zero, List.push_toArray, List.append_toArray, List.nil_append, List.cons_append]
  gi_wp2
  gi_loopw [9] (fun vi wr => ∃ k : Nat, vi = .int .i64 k ∧ k ≤ F.length ∧ Hid (EvC Bp bF (.slice av F.length cv) mu rw0 gr R wr) ∧ W.heap.size ≤ wr.heap.size ∧ Hid (J (rowsT R F k) wr)) (fun vi _ => F.length - (intOf vi).toNat)
  case atStart => exact ⟨0, rfl, by omega, HC, Nat.le_refl _, Lib.hid hj0⟩
  case round =>
    clear hj0 c0
    obtain ⟨k, rfl, hk, HCr, hsz, HJr⟩ := hrel
    by_cases hlt : k < F.length
    · obtain ⟨f, hf⟩ : ∃ f, F[k]? = some f := ⟨F[k], List.getElem?_eq_getElem hlt⟩
      obtain ⟨r, hr⟩ : ∃ r, R[k]? = some r := ⟨R[k]'(by rw [HRF.out.len]; exact hlt), List.getElem?_eq_getElem _⟩
      obtain ⟨e1, ac, cc, e2⟩ := HRF.out.fn k r f hr hf
      obtain ⟨rg, vc⟩ := r
      dsimp only at e1 e2
      subst e1 e2
      obtain ⟨b, o, c', hv, -, hH⟩ := HCr.out.arg.at_ hr
      simp only [Value.slice.injEq] at hv
      obtain ⟨hao, -, hcc⟩ := hv
      subst hao hcc
      have x0 := hH k 0 _ _ hr rfl
      have x1 := hH k 1 _ _ hr rfl
      simp only [Nat.add_zero] at x0
      have hlf := hFl f (List.mem_of_getElem? hf)
      have HKf := Lib.hid hf
      have HKr := Lib.hid hr
      have HB4 := Lib.hid (belA (Below.refl wr.heap.size wr) (.cells #[.int .i64 f.regs, .slice ac f.code.length cc] 114))
      have HCa := Lib.hid (HCr.out.bel HB4.out)
      have hy0 := cell_new wr #[.int .i64 f.regs, .slice ac f.code.length cc] 114 0
      have hy1 := cell_new wr #[.int .i64 f.regs, .slice ac f.code.length cc] 114 1
      have HJa := Lib.hid (HJ.out _ _ _ HJr.out (BelX.of_below (HB4.out.mono hsz)))
      have hsa : W.heap.size ≤ (wr.alloc (.cells #[.int .i64 f.regs, .slice ac f.code.length cc] 114)).heap.size := Nat.le_trans hsz HB4.out.size
      clear hf hr hH HCr HJr
      have hB4 : W.heap.size ≤ wr.heap.size := hsz
      gi_wp2
      clear x0 x1
      generalize wr.alloc _ = V at HB4 HCa hy0 hy1 HJa hsa ⊢
      gi_loopw [17] (fun vi w2 => ∃ j : Nat, vi = .int .i64 j ∧ j ≤ f.code.length ∧ Hid (EvC Bp bF (.slice (some ⟨b, o, none⟩) F.length cv) mu rw0 gr R w2) ∧ W.heap.size ≤ w2.heap.size ∧ w2.cell? ⟨wr.heap.size, 0, none⟩ = some (.int .i64 f.regs) ∧ w2.cell? ⟨wr.heap.size, 1, none⟩ = some (.slice ac f.code.length cc) ∧ Hid (J (rowsT R F k ++ rowT k (f.regs, .slice ac f.code.length cc) j) w2)) (fun vi _ => f.code.length - (intOf vi).toNat)
      case atStart => exact ⟨0, rfl, by omega, HCa, hsa, hy0, hy1, Lib.hid (by have := HJa.out; simpa [rowT] using this)⟩
      case round =>
        clear HCa HJa hsa hy0 hy1
        obtain ⟨j, rfl, hj, HCr, hsz, hy0, hy1, HJr⟩ := hrel
        by_cases hlj : j < f.code.length
        · have hsp : (rowsT R F k ++ rowT k (f.regs, .slice ac f.code.length cc) j) ++ [(⟨k, j, f.regs, .slice ac f.code.length cc⟩ : PlT)] <+: rowsT R F F.length := by
            rw [List.append_assoc, ← rowT_succ k (f.regs, .slice ac f.code.length cc) j]
            exact rows_prefix HKr.out HKf.out (j + 1) hlj
          have hlen : (rowsT R F k ++ rowT k (f.regs, .slice ac f.code.length cc) j).length < (rowsT R F F.length).length := by
            have := hsp.length_le
            simp only [List.length_append, List.length_cons, List.length_nil] at this ⊢
            omega
          obtain ⟨fn, tmps, assign, body, hy, hR⟩ := HY.out _ (⟨k, j, f.regs, .slice ac f.code.length cc⟩ : PlT) wr HJr.out hsz hlen hsp
          have HSP := Lib.hid hsp
          dsimp only [plAt, plcV] at hy
          obtain ⟨c0, c1, c2, c3, -, -⟩ := HCr.out
          rw [List.append_assoc, ← rowT_succ k (f.regs, .slice ac f.code.length cc) j] at hR
          clear hsp hlen
          gi_wp2
          refine hR.mono ?_
          rintro e W' ⟨⟨rfl, hj'⟩ | ⟨rfl, hjx⟩, ht⟩
          · have HC2 := Lib.hid (HCr.out.touch ht (fun h => h.2 (Or.inl rfl)) (fun h => h.2 (Or.inr rfl)))
            have hz0 := cell_touch hy0 ht (fun h => by have := h.1; omega)
            have hz1 := cell_touch hy1 ht (fun h => by have := h.1; omega)
            have hsz2 : W.heap.size ≤ W'.heap.size := Nat.le_trans hsz ht.size
            have HJ2 := Lib.hid hj'
            clear hj' ht hR hy c0 c1 c2 c3 hy0 hy1 HCr HJr
            gi_wp2
            exact ⟨⟨j + 1, by go_num, by omega, HC2, hsz2, hz0, hz1, HJ2⟩, by simp [intOf]; omega⟩
          · gi_wp2
            refine bodyPost_ret (results_none rfl _ _ _) rfl ?_
            exact ⟨⟨_, rfl⟩, .inr ⟨_, rows_prefix HKr.out HKf.out (j + 1) hlj, hjx⟩⟩
        · have hj2 : j = f.code.length := by omega
          subst hj2
          gi_wp2
          exact ⟨⟨k + 1, by go_num, by omega, HCr, hsz, Lib.hid (by have := HJr.out; rwa [rows_next HKr.out HKf.out] at this)⟩, by simp [intOf]; omega⟩
    · have hk2 : k = F.length := by omega
      subst hk2
      gi_wp2
      go_end0
      exact ⟨⟨_, rfl⟩, .inl ⟨_, rfl, HJr.out⟩⟩
end Go.Proofs.YtfnfcngkaepnjaaGreatDoor

/- Law: what a region does outside a round it does inside one. -/
namespace Go.Proofs.YtfnfcngkaepnjaaGreatDoor
set_option linter.unusedVariables false
open Go Go.Proofs Go.RowKit

section
variable {P : Program} {ops : Array Oper} {Q : Exit → Act → World → Prop} {md : Region.Mode} {n : Nat}
end
end Go.Proofs.YtfnfcngkaepnjaaGreatDoor
