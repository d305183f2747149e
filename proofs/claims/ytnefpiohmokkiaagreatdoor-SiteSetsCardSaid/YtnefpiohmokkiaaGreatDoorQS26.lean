/- Joined texts: SiteSets' loop: what it keeps, plain.; Walks of internal/strconv.ParseUint in base 10, at whatever width up to 48.; The number of a text, plain.; Plain laws of decimals. -/
import Derived.Test.YtnefpiohmokkiaaGreatDoorQS23
import Derived.Test.YtnefpiohmokkiaaGreatDoorQS24
import Derived.Test.YtnefpiohmokkiaaGreatDoorQS25
import Derived.Test.YtnefpiohmokkiaaGreatDoorQS1
import Derived.Lib.Strings
import Derived.Lib.Walk
import Derived.Lib.ConvBytes
import Derived.Lib.AtoiErrMem
import Derived.Laws.Strings3
import Derived.Laws.Closers25
import Derived.Laws.Closers25b
import Derived.Test.YtnefpiohmokkiaaGreatDoorQS3
import Derived.Lib.ItoaLen
/- SiteSets' loop: what it keeps, plain. -/
namespace Go.Proofs.YtnefpiohmokkiaaGreatDoor
set_option linter.unusedVariables false
set_option linter.unusedSimpArgs false
open Go Go.Proofs Go.RowKit Go.Sort

/-- Behind k pairs: the set's entries, the pairs that the document holds. -/
structure FldP (l : List PaM) (k : Nat) (L : List (PaM × Int)) (K : List PaM) : Prop where
  ok : SetOk k L
  rise : Rise K
  mem : ∀ q, q ∈ K ↔ q ∈ L.map (·.1)
  rt : ∀ q ∈ K, q.right = true
  len : K.length ≤ k
theorem FldP.start (l : List PaM) : FldP l 0 [] [] := ⟨setOk_nil, List.Pairwise.nil, fun q => by simp, fun q hq => (List.not_mem_nil hq).elim, Nat.le_refl _⟩
theorem FldP.no {l : List PaM} {k : Nat} {L : List (PaM × Int)} {K : List PaM} (h : FldP l k L K) : FldP l (k + 1) L K := ⟨h.ok.more (by omega), h.rise, h.mem, h.rt, by have := h.len; omega⟩
theorem FldP.not {l : List PaM} {k : Nat} {L : List (PaM × Int)} {K : List PaM} (h : FldP l k L K) {p : PaM} (hr : p.right = false) : decide (p ∈ L.map (·.1)) = false := by
  rw [decide_eq_false_iff_not]
  intro hp
  have := h.rt p ((h.mem p).2 hp)
  rw [hr] at this
  cases this
theorem FldP.had {l : List PaM} {k : Nat} {L : List (PaM × Int)} {K : List PaM} (h : FldP l k L K) (p : PaM) : decide (p ∈ L.map (·.1)) = decide (p ∈ K) := decide_eq_decide.2 (h.mem p).symm
theorem FldP.yes {l : List PaM} {k : Nat} {L L' : List (PaM × Int)} {K : List PaM} (h : FldP l k L K) {p : PaM} (hr : p.right = true) (hok : SetOk (k + 1) L') (hk : L'.map (·.1) = addK (L.map (·.1)) p) : FldP l (k + 1) L' (insP K p) :=
  ⟨hok, insP_rise h.rise, fun q => by rw [insP_mem h.rise, hk, addK_mem, h.mem], fun q hq => by
    rcases (insP_mem h.rise).1 hq with hq | rfl
    · exact h.rt q hq
    · exact hr, by have := insP_length (K := K) (p := p); have := h.len; omega⟩
theorem FldP.size {l : List PaM} {k : Nat} {L : List (PaM × Int)} {K : List PaM} (h : FldP l k L K) : L.length = K.length := by
  have h1 : K.Perm (L.map (·.1)) := (List.perm_ext_iff_of_nodup h.rise.nodup h.ok.nd).2 h.mem
  have := h1.length_eq
  rw [List.length_map] at this
  exact this.symm
theorem FldP.has {l : List PaM} {k : Nat} {L L' : List (PaM × Int)} {p : PaM} (hk : L'.map (·.1) = addK (L.map (·.1)) p) : decide (p ∈ L'.map (·.1)) = true := by
  rw [decide_eq_true_eq, hk, addK_mem]
  exact Or.inr rfl
theorem FldP.all {l : List PaM} {k : Nat} {L : List (PaM × Int)} {K xs : List PaM} (h : FldP l k L K) (hx : xs.Perm (L.map (·.1))) : riseP xs = K := rise_eq h.rise h.ok.nd h.mem hx

theorem ixP_last {L : List PaM} {j : Nat} {pre : List (PaM × Nat)} {x : PaM × Nat} (hj : j < L.length) (h : pre ++ [x] = (ixP L).take (j + 1)) : j = pre.length ∧ x.2 = pre.length ∧ L[pre.length]? = some x.1 := by
  have hl := congrArg List.length h
  rw [List.length_append, List.length_take, ixP_length] at hl
  simp only [List.length_cons, List.length_nil] at hl
  have hj1 : j = pre.length := by omega
  subst hj1
  have h1 := congrArg (fun l : List (PaM × Nat) => l[pre.length]?) h
  simp only [List.getElem?_append_right (Nat.le_refl _), Nat.sub_self, List.getElem?_cons_zero] at h1
  rw [List.getElem?_take_of_lt (by omega)] at h1
  unfold ixP at h1
  rw [List.getElem?_zipIdx] at h1
  cases hL : L[pre.length]? with
  | none => rw [hL] at h1; cases h1
  | some p =>
    rw [hL] at h1
    simp only [Option.map_some, Option.some.injEq, Nat.zero_add] at h1
    subst h1
    exact ⟨rfl, rfl, rfl⟩
theorem ixP_pre {L : List PaM} {k : Nat} (h : k < L.length) : ((ixP L).take (k + 1)).length = k + 1 := by rw [List.length_take, ixP_length]; omega

theorem siNew_nil (w : World) : Calls Tryz.prog 6 #[.slice none 0 0] w fun e w' => ∃ B M, e = .returned (.tuple #[.pointer (some ⟨B, 0, none⟩), .int .i64 0]) ∧ SetB B M [] w' ∧ w.heap.size ≤ M ∧ w.heap.size ≤ B ∧ Below w.heap.size w w' := by
  refine (siNew_any [] (by simp) (fun p hp => by cases hp) (.slice none 0 0) w (Or.inl ⟨rfl, rfl⟩)).mono ?_
  rintro e w' ⟨h, hb⟩
  rw [if_pos (show ([] : List PaM).all PaM.right = true from rfl)] at h
  obtain ⟨B, M, L, rfl, hs, _, hk, h1, h2⟩ := h
  have : L = [] := List.map_eq_nil_iff.1 hk
  subst this
  exact ⟨B, M, rfl, hs, h1, h2, hb⟩

theorem ArgP_touch {w w' : World} {v : Value} {l : List PaM} {T : Nat → Prop} (h : ArgW 4 encPa w v l) (ht : Touch T w w') (hn : ∀ k, v.ownBlock = some k → ¬ T k) : ArgW 4 encPa w' v l := by
  rcases h with h0 | ⟨ad, c, h1, h2, h3, h4⟩
  · exact Or.inl h0
  · refine Or.inr ⟨ad, c, h1, h2, h3, fun hl => ?_⟩
    obtain ⟨b', o', rfl, hB⟩ := h4 hl
    exact ⟨b', o', rfl, hB.touch ht (hn b' (by rw [h1]; rfl))⟩

/-- What the loop keeps. -/
structure GatP (w0 : World) (many : Int) (B M WB : Nat) (lv : Value) (l : List PaM) (L : List (PaM × Int)) (K : List PaM) (vw : Value) (wr : World) : Prop where
  cm : wr.cell? ⟨w0.heap.size, 0, none⟩ = some (.int .i64 many)
  cr : wr.cell? ⟨w0.heap.size + 1, 0, none⟩ = some (.bool false)
  fr : wr.frozen? ⟨w0.heap.size + 1, 0, none⟩ = false
  st : SetB B M L wr
  cw : wr.cell? ⟨WB, 0, none⟩ = some vw
  fw : wr.frozen? ⟨WB, 0, none⟩ = false
  aw : ArgW 4 encPa wr vw K
  ow : ∀ b, vw.ownBlock = some b → b ≠ M ∧ b ≠ WB
  al : ArgW 4 encPa wr lv l
  bd : w0.heap.size + 1 < M ∧ w0.heap.size + 1 < B ∧ w0.heap.size + 1 < WB ∧ WB ≠ M ∧ WB ≠ B
  bel : Below w0.heap.size w0 wr
theorem GatP.more {w0 : World} {many : Int} {B M WB : Nat} {lv : Value} {l : List PaM} {L : List (PaM × Int)} {K : List PaM} {vw : Value} {wr w' : World} (h : GatP w0 many B M WB lv l L K vw wr) (hb : Below wr.heap.size wr w') : GatP w0 many B M WB lv l L K vw w' :=
  ⟨cell_bel h.cm hb, cell_bel h.cr hb, froz_bel h.cr h.fr hb, h.st.bel hb, cell_bel h.cw hb, froz_bel h.cw h.fw hb, h.aw.bel hb, h.ow, h.al.bel hb, h.bd, belT h.bel hb⟩
/-- Behind Add of one that may be. -/
theorem GatP.add {w0 : World} {many : Int} {B M WB : Nat} {lv : Value} {l : List PaM} {L L' : List (PaM × Int)} {K : List PaM} {vw : Value} {wr w' : World} (h : GatP w0 many B M WB lv l L K vw wr) (hA : ArgW 4 encPa w0 lv l) (hs : SetB B M L' w') (ht : Touch (fun k => k = M) wr w') (hb : Below (w0.heap.size + 2) wr w') : GatP w0 many B M WB lv l L' K vw w' := by
  obtain ⟨b1, b2, b3, b4, b5⟩ := h.bd
  have hB := h.bel.trans (hb.mono (by omega))
  have hfz : ∀ b, b ≠ M → b < wr.heap.size → w'.frozen? ⟨b, 0, none⟩ = wr.frozen? ⟨b, 0, none⟩ := fun b hb hl => World.frozen?_of_block (w := wr) (ht.same b hl hb)
  exact ⟨cell_belB h.cm hb (by omega), cell_belB h.cr hb (by omega), froz_belB h.fr hb (by omega), hs, cell_touch h.cw ht b4, (hfz WB b4 (lt_of_cell h.cw)).trans h.fw, ArgP_touch h.aw ht (fun k hk => (h.ow k hk).1), h.ow, hA.bel hB, h.bd, hB⟩
/-- Behind the store of what is wanted. -/
theorem GatP.want {w0 : World} {many : Int} {B M WB : Nat} {lv : Value} {l : List PaM} {L : List (PaM × Int)} {K K' : List PaM} {vw v' : Value} {wr : World} (h : GatP w0 many B M WB lv l L K vw wr) (hA : ArgW 4 encPa w0 lv l) (hv : ArgW 4 encPa wr v' K') (ho : ∀ b, v'.ownBlock = some b → b ≠ M ∧ b ≠ WB) : GatP w0 many B M WB lv l L K' v' (wr.setCell ⟨WB, 0, none⟩ v') := by
  obtain ⟨b1, b2, b3, b4, b5⟩ := h.bd
  have ht : Touch (fun k => k = WB) wr (wr.setCell ⟨WB, 0, none⟩ v') := Touch.setCell wr ⟨WB, 0, none⟩ v' rfl
  have hB := h.bel.setCell (p := ⟨WB, 0, none⟩) (by simp; omega) v'
  refine ⟨cell_touch h.cm ht (by omega), cell_touch h.cr ht (by omega), by rw [World.frozen?_setCell]; exact h.fr, ⟨cell_touch h.st.c0 ht (Ne.symm b5), (ht.same M (Array.getElem?_eq_some_iff.1 h.st.mp).1 (Ne.symm b4)).trans h.st.mp⟩, World.cell?_setCell_same _ _ _ h.cw, by rw [World.frozen?_setCell]; exact h.fw, ArgP_touch hv ht (fun k hk => (ho k hk).2), ho, hA.bel hB, h.bd, hB⟩
end Go.Proofs.YtnefpiohmokkiaaGreatDoor

/- Walks of internal/strconv.ParseUint in base 10, at whatever width up to 48. -/
namespace Go.Proofs.YtnefpiohmokkiaaGreatDoor
set_option linter.unusedVariables false
open Go Go.Proofs Go.RowKit

end Go.Proofs.YtnefpiohmokkiaaGreatDoor

/- The number of a text, plain. -/
namespace Go.Proofs.YtnefpiohmokkiaaGreatDoor
open Go Go.Proofs Go.RowKit Go.Sort Go.Lib

end Go.Proofs.YtnefpiohmokkiaaGreatDoor

/- Plain laws of decimals. -/
namespace Go.Proofs.YtnefpiohmokkiaaGreatDoor
set_option linter.unusedVariables false
open Go Go.Proofs Go.RowKit

theorem dig_toNat (d : Nat) (h : d < 10) : (UInt8.ofNat (48 + d)).toNat = 48 + d := by
  rw [UInt8.toNat_ofNat']; omega

theorem dec_ne (u : Nat) : Lib.decDigits u ≠ [] := by
  have h1 := Lib.nDigits_pos u
  have h2 := Lib.decDigits_length u
  intro h
  rw [h] at h2
  simp at h2
  omega

theorem dec_digit (u : Nat) : ∀ c ∈ Lib.decDigits u, 48 ≤ c.toNat ∧ c.toNat ≤ 57 := by
  induction u using Nat.strongRecOn with
  | _ u ih =>
    intro c hc
    by_cases h : u < 10
    · rw [Lib.decDigits, dif_pos h] at hc
      rw [List.mem_singleton] at hc
      subst hc
      rw [dig_toNat u h]; omega
    · rw [Lib.decDigits, dif_neg h] at hc
      rcases List.mem_append.1 hc with h1 | h1
      · exact ih (u / 10) (by omega) c h1
      · rw [List.mem_singleton] at h1
        subst h1
        rw [dig_toNat (u % 10) (by omega)]; omega
end Go.Proofs.YtnefpiohmokkiaaGreatDoor
