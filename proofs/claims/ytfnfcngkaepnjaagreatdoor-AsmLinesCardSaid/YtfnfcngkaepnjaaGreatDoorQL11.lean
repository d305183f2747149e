/- Joined texts: The kind of a name.; The instruction that a text's first word begins. -/
import Derived.Test.YtfnfcngkaepnjaaGreatDoorQL4
import Derived.Test.YtfnfcngkaepnjaaGreatDoorQL10
import Derived.Test.YtfnfcngkaepnjaaGreatDoorQL6
/- The kind of a name. -/
namespace Go.Proofs.YtfnfcngkaepnjaaGreatDoor
set_option linter.unusedVariables false
open Go Go.Proofs Go.RowKit

theorem str_ne {x y : ByteArray} (h : x ≠ y) : (x.toList == y.toList) = false := by
  rw [beq_eq_false_iff_ne, toList_data, toList_data]
  exact fun e => h (ByteArray.ext (Array.toList_inj.1 e))

/-- What arith.Parse answers. -/
def kindP (s : ByteArray) (k e : Int) : Prop := (∃ j : Nat, j < 12 ∧ k = j + 1 ∧ s = kindN j ∧ e = 0) ∨ ((∀ j : Nat, j < 12 → kindN j ≠ s) ∧ k = 0 ∧ e = 5)

structure KindI (W : World) (s : ByteArray) (xs : List Nat) (w : World) : Prop where
  cs : w.cell? ⟨W.heap.size, 0, none⟩ = some (.string s)
  ck : ∃ s, w.cell? ⟨W.heap.size + 1, 0, none⟩ = some (.int .i64 s)
  ce : ∃ e, w.cell? ⟨W.heap.size + 1 + 1, 0, none⟩ = some (.int .i64 e)
  fs : w.frozen? ⟨W.heap.size + 1, 0, none⟩ = false
  fe : w.frozen? ⟨W.heap.size + 1 + 1, 0, none⟩ = false
  no : ∀ j ∈ xs, kindN j ≠ s
  bel : Below W.heap.size W w

structure KindX (W : World) (s : ByteArray) (c : Code) (w : World) : Prop where
  cc : c = .ret
  yes : ∃ j : Nat, j < 12 ∧ s = kindN j ∧ w.cell? ⟨W.heap.size + 1, 0, none⟩ = some (.int .i64 (j + 1)) ∧ w.cell? ⟨W.heap.size + 1 + 1, 0, none⟩ = some (.int .i64 0)
  bel : Below W.heap.size W w

attribute [local go_sem] Oper.semAt_some

set_option maxRecDepth 100000 in
set_option maxHeartbeats 1000000 in
theorem kindParse_any (s : ByteArray) (w : World) : Calls Tryz.prog 150 #[.string s] w fun e w' => ∃ k n, kindP s k n ∧ e = .returned (.tuple #[.int .i64 k, .int .i64 n]) ∧ Below w.heap.size w w' := by
  refine (callsIn_wide (n := 9)).1 ?_
  refine callsIn_of_wp_marks Tryz.func150 rfl trivial ?_ rfl
  simp only [Tryz.ntmps150, List.size_toArray, List.length_cons, List.length_nil, Nat.reduceAdd, Nat.reduceSub, Array.replicate_succ, Array.replicate_zero, List.push_toArray, List.append_toArray, List.nil_append, List.cons_append]
  refine wpIn_wide.2 ?_
  go_wp2_with (go_at_call 187; refine (kindsOf_any _).mono ?_; rintro e w1 ⟨rfl, rfl⟩)
  refine (wpIn_wide (n := 9)).1 ?_
  have k0 := cell_al (cell_al (cell_new w #[.string s] 9 0) (.cells #[.int .i64 0] 220)) (.cells #[.int .i64 0] 38)
  have s0 := cell_al (cell_two w (.cells #[.string s] 9) #[.int .i64 0] 220 0) (.cells #[.int .i64 0] 38)
  have sf := froz_bel (cell_two w (.cells #[.string s] 9) #[.int .i64 0] 220 0) (froz_two w (.cells #[.string s] 9) #[.int .i64 0] 220 0) (bel1 (.cells #[.int .i64 0] 38))
  have e0 := cell_three w (.cells #[.string s] 9) (.cells #[.int .i64 0] 220) #[.int .i64 0] 38 0
  have ef : (((w.alloc (.cells #[.string s] 9)).alloc (.cells #[.int .i64 0] 220)).alloc (.cells #[.int .i64 0] 38)).frozen? ⟨w.heap.size + 1 + 1, 0, none⟩ = false := by
    have := froz_two (w.alloc (.cells #[.string s] 9)) (.cells #[.int .i64 0] 220) #[.int .i64 0] 38 0
    rwa [World.size_alloc] at this
  have hBU : Below w.heap.size w (((w.alloc (.cells #[.string s] 9)).alloc (.cells #[.int .i64 0] 220)).alloc (.cells #[.int .i64 0] 38)) := belA (belA (bel1 _) _) _
  have hsU : (((w.alloc (.cells #[.string s] 9)).alloc (.cells #[.int .i64 0] 220)).alloc (.cells #[.int .i64 0] 38)).heap.size = w.heap.size + 3 := by simp
  refine wpIn_rangeT rfl (by omega) (gf := 228) (lb := #[]) (by simp [go_sem]) trivial (enters_of Tryz.func228 (by kernel_rfl) rfl)
    (kinds_in 8 (by omega)) (fun W' hb => trivial) (fun _ => rfl)
    (fun b => b = w.heap.size + 1 ∨ b = w.heap.size + 1 + 1) (fun b h => ⟨by omega, fun h' => h'⟩) (fun b h => h.elim) (fun b h => h.elim)
    (KindI w s) (fun c _ W' => KindX w s c W') ?hI ?hIx ?h0 ?hround ?hdone ?hstop
  case hI =>
    rintro xs A B h hb
    obtain ⟨s1, h1⟩ := h.ck
    obtain ⟨s2, h2⟩ := h.ce
    exact ⟨cell_belX h.cs hb (by omega) (fun h => h), ⟨s1, cell_belX h1 hb (by omega) (fun h => h)⟩, ⟨s2, cell_belX h2 hb (by omega) (fun h => h)⟩, froz_belX h.fs hb (by omega) (fun h => h), froz_belX h.fe hb (by omega) (fun h => h), h.no, h.bel.trans ((hb.below (fun _ _ h => h)).mono (by omega))⟩
  case hIx =>
    rintro c xs A B h hb
    obtain ⟨j, hj, hk, h1, h2⟩ := h.yes
    exact ⟨h.cc, ⟨j, hj, hk, cell_belX h1 hb (by omega) (fun h => h), cell_belX h2 hb (by omega) (fun h => h)⟩, h.bel.trans ((hb.below (fun _ _ h => h)).mono (by omega))⟩
  case h0 => exact ⟨k0, ⟨_, s0⟩, ⟨_, e0⟩, sf, ef, fun j hj => (by cases hj), hBU⟩
  case hround =>
    rintro l2 pre j W2 hi hlt hlen hsp
    gi_wp2
    refine ⟨Touch.refl _ _, fun W3 hb3 ht3 => ?_⟩
    have hj12 : j < 12 := by
      obtain ⟨j', h1, h2, h3⟩ := hsp
      have : j ∈ List.range j' := by rw [← h3]; simp
      have := List.mem_range.1 this
      omega
    obtain ⟨s1, h1⟩ := hi.ck
    obtain ⟨s2, h2⟩ := hi.ce
    have cs := cell_belB hi.cs hb3 (by omega)
    have ck := cell_belB h1 hb3 (by omega)
    have ce := cell_belB h2 hb3 (by omega)
    have fs := froz_belB hi.fs hb3 (by omega)
    have fe := froz_belB hi.fe hb3 (by omega)
    have hbW := hi.bel.trans (hb3.mono (by omega))
    have hno := hi.no
    by_cases hx : kindN j = s
    · subst hx
      generalize hkn : kindN j = kn at *
      have HK := Lib.hid hkn
      clear hkn
      gi_wp2
      have cs' : (W3.setCell ⟨w.heap.size + 1, 0, none⟩ (.int .i64 ((j : Int) + 1))).cell? ⟨w.heap.size + 1 + 1, 0, none⟩ = some (.int .i64 s2) := (World.cell?_setCell_other _ _ _ _ (by simp)).trans ce
      refine ⟨(Touch.setCell W3 _ _ (Or.inl rfl)).trans (Touch.setCell _ _ _ (Or.inr rfl)), rfl, ⟨j, hj12, HK.out.symm, ?_, World.cell?_setCell_same _ _ _ cs'⟩, (hbW.setCell (by simp) _).setCell (by simp; omega) _⟩
      exact (World.cell?_setCell_other _ _ _ _ (by simp)).trans (World.cell?_setCell_same _ _ _ ck)
    · have hx' := str_ne hx
      have HX := Lib.hid hx
      clear hx
      gi_wp2
      refine ⟨Touch.refl _ _, cs, ⟨s1, ck⟩, ⟨s2, ce⟩, fs, fe, fun i hi => ?_, hbW⟩
      rcases List.mem_append.1 hi with hi | hi
      · exact hno i hi
      · rw [List.mem_singleton.1 hi]; exact HX.out
  case hdone =>
    rintro D xs W' hD hS hi hK
    have hxs : xs = List.range 12 := hS
    subst hxs
    obtain ⟨s1, h1⟩ := hi.ck
    obtain ⟨s2, h2⟩ := hi.ce
    have fs := hi.fs
    have fe := hi.fe
    go_wp2
    have hK2 : ((W'.setCell ⟨w.heap.size + 1, 0, none⟩ (.int .i64 0)).setCell ⟨w.heap.size + 1 + 1, 0, none⟩ (.int .i64 5)).heap[D]? = some (.deferred (some [])) := by
      rw [Below.heap_setCell _ _ _ _ (by simp; omega), Below.heap_setCell _ _ _ _ (by simp; omega)]
      exact hK
    have c2 : (W'.setCell ⟨w.heap.size + 1, 0, none⟩ (.int .i64 0)).cell? ⟨w.heap.size + 1 + 1, 0, none⟩ = some (.int .i64 s2) := (World.cell?_setCell_other _ _ _ _ (by simp)).trans h2
    refine ⟨by simp, .inl ⟨_, _, rfl, run_takeDeferred hK2, ?_⟩⟩
    have hDs := (Array.getElem?_eq_some_iff.1 hK2).1
    have g2 := cell_put (x := .deferred none) (World.cell?_setCell_same _ _ (.int .i64 5) c2) (show w.heap.size + 1 + 1 ≠ D by omega)
    have g1 := cell_put (x := .deferred none) ((World.cell?_setCell_other _ ⟨w.heap.size + 1 + 1, 0, none⟩ ⟨w.heap.size + 1, 0, none⟩ (.int .i64 5) (by simp)).trans (World.cell?_setCell_same _ _ (.int .i64 0) h1)) (show w.heap.size + 1 ≠ D by omega)
    refine ⟨.tuple #[.int .i64 0, .int .i64 5], by simp [results, Tryz.results150, go_sem, g1, g2], _, _, Or.inr ⟨fun j hj => hi.no j (List.mem_range.2 hj), rfl, rfl⟩, rfl, ?_⟩
    refine Below.trans ((hi.bel.setCell (by simp) _).setCell (by simp; omega) _) (below_put _ _ _ (by omega) (by simp; have := hi.bel.size; omega))
  case hstop =>
    rintro D c pre W' hD hSp ⟨rfl, ⟨j, hj, hk, h1, h2⟩, hb⟩ hK
    refine wpIn_wide.2 ?_
    have HK := Lib.hid hk
    clear hk
    go_wp2
    refine ⟨by simp, .inl ⟨_, _, rfl, run_takeDeferred hK, ?_⟩⟩
    have g2 := cell_put (x := .deferred none) h2 (show w.heap.size + 1 + 1 ≠ D by omega)
    have g1 := cell_put (x := .deferred none) h1 (show w.heap.size + 1 ≠ D by omega)
    refine ⟨.tuple #[.int .i64 ((j : Int) + 1), .int .i64 0], by simp [results, Tryz.results150, go_sem, g1, g2], _, _, Or.inl ⟨j, hj, rfl, HK.out, rfl⟩, rfl, ?_⟩
    exact hb.trans (below_put _ _ _ (by omega) hb.size)
end Go.Proofs.YtfnfcngkaepnjaaGreatDoor

/- The instruction that a text's first word begins. -/
namespace Go.Proofs.YtfnfcngkaepnjaaGreatDoor
set_option linter.unusedVariables false
open Go Go.Proofs Go.RowKit

theorem idx_cases (x : ByteArray) : ∀ (zs : List ByteArray) (i : Nat), (Lib.idxFromS zs x i = -1 ∧ ∀ k, k < zs.length → zs.getD k ByteArray.empty ≠ x) ∨ ∃ k, k < zs.length ∧ Lib.idxFromS zs x i = ((i + k : Nat) : Int) ∧ zs.getD k ByteArray.empty = x ∧ ∀ j, j < k → zs.getD j ByteArray.empty ≠ x
  | [], i => Or.inl ⟨rfl, fun k hk => absurd hk (Nat.not_lt_zero _)⟩
  | z :: zs, i => by
    by_cases hz : z = x
    · refine Or.inr ⟨0, by simp, by simp [Lib.idxFromS, hz], by simpa using hz, fun j hj => absurd hj (Nat.not_lt_zero _)⟩
    · rcases idx_cases x zs (i + 1) with ⟨h1, h2⟩ | ⟨k, h1, h2, h3, h4⟩
      · refine Or.inl ⟨by simp [Lib.idxFromS, hz, h1], fun k hk => ?_⟩
        cases k with
        | zero => simpa using hz
        | succ k => simpa using h2 k (by simpa using hk)
      · refine Or.inr ⟨k + 1, by simpa using h1, by simp only [Lib.idxFromS, if_neg hz, h2]; congr 1; omega, by simpa using h3, fun j hj => ?_⟩
        cases j with
        | zero => simpa using hz
        | succ j => simpa using h4 j (by omega)

def wordI (s : ByteArray) : Int := Lib.idxOfS wordL s
theorem wordL_length : wordL.length = 20 := rfl
theorem word_cases (s : ByteArray) : (wordI s = -1 ∧ ∀ k : Nat, k < 20 → wordN k ≠ s) ∨ ∃ k : Nat, k < 20 ∧ wordI s = (k : Int) ∧ wordN k = s ∧ ∀ j : Nat, j < k → wordN j ≠ s := by
  rcases idx_cases s wordL 0 with ⟨h1, h2⟩ | ⟨k, h1, h2, h3, h4⟩
  · exact Or.inl ⟨h1, h2⟩
  · exact Or.inr ⟨k, h1, by rw [Nat.zero_add] at h2; exact h2, h3, h4⟩

theorem words_apart : ∀ k, 1 ≤ k → k < 20 → k ≠ 3 → ∀ j, j < 20 → j ≠ k → wordN j ≠ wordN k := by
  have h : ((List.range 20).all fun k => decide (k = 0 ∨ k = 3) || (List.range 20).all fun j => decide (j = k) || !(decide (wordN j = wordN k))) = true := by decide +kernel
  intro k h1 h2 h3 j hj hjk e
  have a := List.all_eq_true.1 h k (List.mem_range.2 h2)
  rw [decide_eq_false (by omega), Bool.false_or] at a
  have b := List.all_eq_true.1 a j (List.mem_range.2 hj)
  rw [decide_eq_false hjk, Bool.false_or, decide_eq_true e] at b
  cases b
theorem kinds_apart : ∀ k, k < 12 → ∀ j, j < 12 → kindN j = kindN k → j = k := by
  have h : ((List.range 12).all fun k => (List.range 12).all fun j => decide (j = k) || !(decide (kindN j = kindN k))) = true := by decide +kernel
  intro k hk j hj e
  have a := List.all_eq_true.1 (List.all_eq_true.1 h k (List.mem_range.2 hk)) j (List.mem_range.2 hj)
  rw [decide_eq_true e] at a
  simpa using a
theorem word_kind : ∀ k, k < 20 → ∀ j, j < 12 → kindN j ≠ wordN k := by
  have h : ((List.range 20).all fun k => (List.range 12).all fun j => !(decide (kindN j = wordN k))) = true := by decide +kernel
  intro k hk j hj e
  have a := List.all_eq_true.1 (List.all_eq_true.1 h k (List.mem_range.2 hk)) j (List.mem_range.2 hj)
  rw [decide_eq_true e] at a
  cases a
theorem word_empty : ∀ k, k < 20 → wordN k = ⟨#[]⟩ → k = 0 ∨ k = 3 := by
  have h : ((List.range 20).all fun k => decide (k = 0 ∨ k = 3) || !(decide (wordN k = ⟨#[]⟩))) = true := by decide +kernel
  intro k hk e
  have a := List.all_eq_true.1 h k (List.mem_range.2 hk)
  rw [decide_eq_true e] at a
  simpa using a

/-- What a first word begins: an Op, Imm, is it one? -/
structure BegP (s : ByteArray) (o k : Int) (f : Bool) : Prop where
  fits : f = true → (1 ≤ o ∧ o ≤ 19) ∧ (0 ≤ k ∧ k ≤ 12)
  name : ∀ op m, 1 ≤ op → op ≤ 19 → (op = 3 → 1 ≤ m ∧ m ≤ 12) → s = insN op m → f = true ∧ o = op ∧ k = if op = 3 then m else 0

theorem begP_kind (j : Nat) (hj : j < 12) : BegP (kindN j) 3 ((j : Int) + 1) true := by
  refine ⟨fun _ => ⟨by omega, by omega⟩, fun op m h1 h2 h3 hs => ?_⟩
  unfold insN at hs
  by_cases hop : op = 3
  · rw [if_pos hop] at hs
    obtain ⟨m1, m2⟩ := h3 hop
    have := kinds_apart _ (by omega) _ hj hs
    exact ⟨rfl, hop.symm, by rw [if_pos hop]; omega⟩
  · rw [if_neg hop] at hs
    exact absurd hs (word_kind _ (by omega) _ hj)
theorem begP_word (s : ByteArray) (hk : ∀ j : Nat, j < 12 → kindN j ≠ s) : BegP s (wordI s) 0 (decide (0 < wordI s) && decide (s ≠ ⟨#[]⟩)) := by
  refine ⟨fun hf => ?_, fun op m h1 h2 h3 hs => ?_⟩
  · simp only [Bool.and_eq_true, decide_eq_true_eq] at hf
    rcases word_cases s with ⟨h1, _⟩ | ⟨k, h1, h2, _⟩
    · omega
    · omega
  · unfold insN at hs
    by_cases hop : op = 3
    · rw [if_pos hop] at hs
      obtain ⟨m1, m2⟩ := h3 hop
      exact absurd hs.symm (hk _ (by omega))
    · rw [if_neg hop] at hs
      have hne : s ≠ ⟨#[]⟩ := by
        intro e
        rcases word_empty op.toNat (by omega) (hs.symm.trans e) with h | h <;> omega
      have hi : wordI s = op := by
        rcases word_cases s with ⟨_, h⟩ | ⟨k, h4, h5, h6, h7⟩
        · exact absurd hs.symm (h op.toNat (by omega))
        · by_cases hkk : k = op.toNat
          · omega
          · exact absurd (h6.trans hs) (words_apart op.toNat (by omega) (by omega) (by omega) k h4 hkk)
      rw [hi]
      exact ⟨by simp [hne]; omega, rfl, by rw [if_neg hop]⟩

def BegQ (s : ByteArray) (w : World) (e : Ending) (w' : World) : Prop := ∃ o k f, BegP s o k f ∧ e = .returned (.tuple #[insV o 0 0 0 k, .bool f]) ∧ Below w.heap.size w w'

set_option maxRecDepth 100000 in
set_option maxHeartbeats 1000000 in
theorem begun_any (s : ByteArray) (w : World) :
    Calls Tryz.prog 91 #[.string s] w (BegQ s w) := by
  go_enter Tryz.func91, Tryz.ntmps91
  go_wp2_with fail
  refine (kindParse_any s _).mono ?_
  rintro e w1 ⟨k, n, hp, rfl, hb1⟩
  have hI := Bare.bel (Bare.new 0 0 0 0 0 w 29) hb1
  have f0 := froz_bel (cell_new w #[.int .i64 0, .int .i64 0, .int .i64 0, .int .i64 0, .int .u32 0] 29 0) (World.frozen?_alloc_new _ _ _ _) hb1
  have hB1 := belT (bel1 _) hb1
  have hlt1 := lt_of_cell hI.c0
  clear hb1
  rcases hp with ⟨j, hj, rfl, rfl, rfl⟩ | ⟨hk, rfl, rfl⟩
  · have HB := Lib.hid (begP_kind j hj)
    have hset := Bare.set hI 3 0 0 0 ((j : Int) + 1)
    have hBs : Below w.heap.size w (((((w1.setCell ⟨w.heap.size, 0, none⟩ (.int .i64 3)).setCell ⟨w.heap.size, 1, none⟩ (.int .i64 0)).setCell ⟨w.heap.size, 2, none⟩ (.int .i64 0)).setCell ⟨w.heap.size, 3, none⟩ (.int .i64 0)).setCell ⟨w.heap.size, 4, none⟩ (.int .u32 ((j : Int) + 1))) := (((((hB1.setCell (p := ⟨w.heap.size, 0, none⟩) (Nat.le_refl _) _).setCell (p := ⟨w.heap.size, 1, none⟩) (Nat.le_refl _) _).setCell (p := ⟨w.heap.size, 2, none⟩) (Nat.le_refl _) _).setCell (p := ⟨w.heap.size, 3, none⟩) (Nat.le_refl _) _).setCell (p := ⟨w.heap.size, 4, none⟩) (Nat.le_refl _) _)
    have HSET := Lib.hid hset
    have HBS := Lib.hid hBs
    obtain ⟨i0, i1, i2, i3, i4, j1, j2, j3, j4⟩ := hI
    dsimp only at i1 i2 i3 i4
    clear hset hBs
    go_wp2_with fail
    obtain ⟨e0, e1, e2, e3, e4, _, _, _, _⟩ := HSET.out
    have hBS := HBS.out
    generalize ((((w1.setCell _ _).setCell _ _).setCell _ _).setCell _ _).setCell _ _ = W5 at e0 e1 e2 e3 e4 hBS ⊢
    exact bodyPost_ret (v := .tuple #[.agg #[.int .i64 3, .int .i64 0, .int .i64 0, .int .i64 0, .int .u32 ((j : Int) + 1)], .bool true]) (by simp [results, Tryz.results91, go_sem, e0, e1, e2, e3, e4]) rfl ⟨3, (j : Int) + 1, true, HB.out, rfl, hBS⟩
  · have HB := Lib.hid (begP_word s hk)
    have CW := Lib.hid words_any
    have hWi : Hid ((Tryz.prog.info? 221).map (·.size) = some wordA.size) := Lib.hid (by kernel_rfl)
    have hW1 : Hid (wordA.all (·.oneCell') = true) := Lib.hid (by kernel_rfl)
    have hW20 : Hid ((20 : Nat) = wordA.size) := Lib.hid (by kernel_rfl)
    have hWc : Hid (∀ j, j < 20 → wordA[j]? = some (.string (wordL.getD j ByteArray.empty))) := Lib.hid (by
      intro j hj
      have hl : j < wordL.length := hj
      simp [wordA, List.getD, hl])
    have CW' : Hid (∀ W, Calls Tryz.prog 142 #[] W fun e w' => e = .returned (.agg wordA) ∧ Below W.heap.size W w') := CW
    clear hk CW
    generalize wordA = WA at hWi hW1 hW20 hWc CW'
    go_wp2_with fail
    refine (CW'.out _).mono ?_
    rintro e w2 ⟨rfl, hb2⟩
    have f0 := froz_bel hI.c0 f0 hb2
    have hI := hI.bel hb2
    have hB2 := belT hB1 hb2
    have hlt2 := lt_of_cell hI.c0
    clear hb2 hlt1 hB1
    go_wp2_with (refine wpList_store_row rfl 221 _ _ rfl w2.heap.size WA rfl rfl 221 (Array.replicate 20 (.string ⟨#[]⟩)) (heap_alloc_new w2 _) hWi.out (by rw [Array.size_replicate]; exact hW20.out) hW1.out ?_)
    obtain ⟨W3, hW3⟩ : ∃ W3, W3 = (w2.alloc (.cells (Array.replicate 20 (.string ⟨#[]⟩)) 221)).setRow w2.heap.size WA := ⟨_, rfl⟩
    have hcW : ∀ j, j < 20 → W3.cell? ⟨w2.heap.size, 0 + j, none⟩ = some (.string (wordL.getD j ByteArray.empty)) := fun j hj => by
      rw [hW3, Nat.zero_add]
      exact (cell_setRow_same _ _ _ _ _ _ _ (heap_alloc_new w2 _)).trans (hWc.out j hj)
    have hbW : Below w2.heap.size w2 W3 := by rw [hW3]; exact below_setRow (bel1 _) (Nat.le_refl _) _
    have CI := Tryz.slices_Index_string w2.heap.size 0 20 20 wordL s W3 (by rw [wordL_length]; exact Nat.le_refl _) (by omega) hcW
    rw [List.take_of_length_le (by rw [wordL_length]; exact Nat.le_refl _), show Lib.idxOfS wordL s = wordI s from rfl] at CI
    have CI' := Lib.hid CI
    change Calls _ _ _ ((w2.alloc (.cells (Array.replicate 20 (.string ⟨#[]⟩)) 221)).setRow w2.heap.size WA) _
    rw [← hW3]
    clear hW3 hcW CI
    refine CI'.out.mono ?_
    rintro e w3 ⟨rfl, rfl⟩
    have f0 := froz_bel hI.c0 f0 hbW
    have hI := hI.bel hbW
    have hB3 := belT hB2 hbW
    have hlt3 := lt_of_cell hI.c0
    have hr : -1 ≤ wordI s ∧ wordI s ≤ 19 := by rcases word_cases s with ⟨h1, _⟩ | ⟨k, h1, h2, _⟩ <;> omega
    obtain ⟨r1, r2⟩ := hr
    generalize wordI s = ix at HB r1 r2 ⊢
    clear hbW hlt2 hB2 CI' CW'
    have hset := Bare.set hI ix 0 0 0 0
    have hBs : Below w.heap.size w (((((w3.setCell ⟨w.heap.size, 0, none⟩ (.int .i64 ix)).setCell ⟨w.heap.size, 1, none⟩ (.int .i64 0)).setCell ⟨w.heap.size, 2, none⟩ (.int .i64 0)).setCell ⟨w.heap.size, 3, none⟩ (.int .i64 0)).setCell ⟨w.heap.size, 4, none⟩ (.int .u32 0)) := (((((hB3.setCell (p := ⟨w.heap.size, 0, none⟩) (Nat.le_refl _) _).setCell (p := ⟨w.heap.size, 1, none⟩) (Nat.le_refl _) _).setCell (p := ⟨w.heap.size, 2, none⟩) (Nat.le_refl _) _).setCell (p := ⟨w.heap.size, 3, none⟩) (Nat.le_refl _) _).setCell (p := ⟨w.heap.size, 4, none⟩) (Nat.le_refl _) _)
    have HSET := Lib.hid hset
    have HBS := Lib.hid hBs
    obtain ⟨i0, i1, i2, i3, i4, j1, j2, j3, j4⟩ := hI
    dsimp only at i1 i2 i3 i4
    clear hset hBs
    by_cases hix : 0 < ix
    · by_cases hs : s = ⟨#[]⟩
      · have hs' : (s.toList == []) = true := by rw [hs, toList_data]; rfl
        rw [decide_eq_true hix, decide_eq_false (by simpa using hs)] at HB
        clear hs
        go_wp2_with fail
        obtain ⟨e0, e1, e2, e3, e4, _, _, _, _⟩ := HSET.out
        have hBS := HBS.out
        generalize ((((World.setCell _ _ _).setCell _ _).setCell _ _).setCell _ _).setCell _ _ = W5 at e0 e1 e2 e3 e4 hBS ⊢
        exact bodyPost_ret (v := .tuple #[.agg #[.int .i64 ix, .int .i64 0, .int .i64 0, .int .i64 0, .int .u32 0], .bool false]) (by simp [results, Tryz.results91, go_sem, e0, e1, e2, e3, e4]) rfl ⟨ix, 0, false, HB.out, rfl, hBS⟩
      · have hs' : (s.toList == []) = false := by have h0 := str_ne hs; rw [toList_data ⟨#[]⟩] at h0; exact h0
        rw [decide_eq_true hix, decide_eq_true hs] at HB
        clear hs
        go_wp2_with fail
        obtain ⟨e0, e1, e2, e3, e4, _, _, _, _⟩ := HSET.out
        have hBS := HBS.out
        generalize ((((World.setCell _ _ _).setCell _ _).setCell _ _).setCell _ _).setCell _ _ = W5 at e0 e1 e2 e3 e4 hBS ⊢
        exact bodyPost_ret (v := .tuple #[.agg #[.int .i64 ix, .int .i64 0, .int .i64 0, .int .i64 0, .int .u32 0], .bool true]) (by simp [results, Tryz.results91, go_sem, e0, e1, e2, e3, e4]) rfl ⟨ix, 0, true, HB.out, rfl, hBS⟩
    · rw [decide_eq_false hix, Bool.false_and] at HB
      have hix' : ix ≤ 0 := by omega
      go_wp2_with fail
      obtain ⟨e0, e1, e2, e3, e4, _, _, _, _⟩ := HSET.out
      have hBS := HBS.out
      generalize ((((World.setCell _ _ _).setCell _ _).setCell _ _).setCell _ _).setCell _ _ = W5 at e0 e1 e2 e3 e4 hBS ⊢
      exact bodyPost_ret (v := .tuple #[.agg #[.int .i64 ix, .int .i64 0, .int .i64 0, .int .i64 0, .int .u32 0], .bool false]) (by simp [results, Tryz.results91, go_sem, e0, e1, e2, e3, e4]) rfl ⟨ix, 0, false, HB.out, rfl, hBS⟩
end Go.Proofs.YtfnfcngkaepnjaaGreatDoor
