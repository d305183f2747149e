/- Joined texts: Plain laws of instructions one behind the other. -/
import Derived.Test.YtfnfcngkaepnjaaGreatDoorQE41
/- Plain laws of instructions one behind the other. -/
namespace Go.Proofs.YtfnfcngkaepnjaaGreatDoor
set_option linter.unusedVariables false
open Go Go.Proofs Go.RowKit

/-- An instruction at a place; how many bytes it has. -/
structure It where
  at_ : Nat
  op : Int
  a : Int
  b : Int
  c : Int
  m : Int
  n : Nat

/-- What begins a list of bytes. -/
def Begins (l : List Nat) (x : It) : Prop := readF l = readV x.op x.a x.b x.c x.m x.n 0
open Classical in
noncomputable def readO (l : List Nat) (i : Nat) : Option It := if h : ∃ x : It, x.at_ = i ∧ Begins l x then some (Classical.choose h) else none
theorem readO_some {l : List Nat} {i : Nat} {x : It} (h : readO l i = some x) : x.at_ = i ∧ Begins l x := by
  unfold readO at h
  split at h
  · rename_i hx
    have := Classical.choose_spec hx
    rw [Option.some.inj h] at this
    exact this
  · cases h
theorem readF_ex (l : List Nat) : ∃ op a b c m n e, readF l = readV op a b c m n e := by
  cases l with
  | nil => exact ⟨_, _, _, _, _, _, _, rfl⟩
  | cons x t =>
    simp only [readF]
    split
    · split
      · exact ⟨_, _, _, _, _, _, _, rfl⟩
      · split
        · exact ⟨_, _, _, _, _, _, _, rfl⟩
        · exact ⟨_, _, _, _, _, _, _, rfl⟩
    · exact ⟨_, _, _, _, _, _, _, rfl⟩
/-- What begins it has a length. -/
theorem begins_n {l : List Nat} (hl : ∀ x ∈ l, x < 256) {x : It} (h : Begins l x) : 1 ≤ x.n ∧ x.n ≤ l.length ∧ 0 ≤ x.m ∧ x.m < 4294967296 := by
  obtain ⟨_, hm, kk, hn, hkl, hx⟩ := read_back l hl _ _ _ _ _ _ h
  have hk : x.n = kk := by omega
  have h1 : 1 ≤ kk := by
    have := congrArg List.length hx
    rw [List.length_take] at this
    unfold insB at this
    rw [List.length_cons] at this
    omega
  exact ⟨by omega, by omega, hm.1, hm.2⟩
theorem readO_none {l : List Nat} (hl : ∀ x ∈ l, x < 256) {i : Nat} (h : readO l i = none) : ∃ op a b c m n e, readF l = readV op a b c m n e ∧ e ≠ 0 := by
  obtain ⟨op, a, b, c, m, n, e, he⟩ := readF_ex l
  refine ⟨op, a, b, c, m, n, e, he, fun h0 => ?_⟩
  subst h0
  obtain ⟨_, _, kk, hn, _, _⟩ := read_back l hl _ _ _ _ _ _ he
  unfold readO at h
  split at h
  · cases h
  · rename_i hx
    exact hx ⟨⟨i, op, a, b, c, m, kk⟩, rfl, by unfold Begins; rw [he, hn]⟩

noncomputable def itemsF (l : List Nat) : Nat → Nat → List It
  | 0, _ => []
  | f + 1, i => match readO (l.drop i) i with
    | none => []
    | some x => x :: itemsF l f (i + x.n)
/-- Those from a place on. -/
noncomputable def itemsAt (l : List Nat) (i : Nat) : List It := itemsF l (l.length + 1 - i) i

theorem itemsF_more {l : List Nat} (hl : ∀ x ∈ l, x < 256) : ∀ (f g i : Nat), l.length + 1 - i ≤ f → l.length + 1 - i ≤ g → i ≤ l.length → itemsF l f i = itemsF l g i
  | 0, _, i, h, _, hi => by omega
  | f + 1, 0, i, _, h, hi => by omega
  | f + 1, g + 1, i, h1, h2, hi => by
    simp only [itemsF]
    cases hr : readO (l.drop i) i with
    | none => rfl
    | some x =>
      obtain ⟨_, hb⟩ := readO_some hr
      obtain ⟨h3, h4, _⟩ := begins_n (fun y hy => hl y (List.mem_of_mem_drop hy)) hb
      rw [List.length_drop] at h4
      simp only
      rw [itemsF_more hl f g (i + x.n) (by omega) (by omega) (by omega)]
theorem itemsAt_some {l : List Nat} (hl : ∀ x ∈ l, x < 256) {i : Nat} (hi : i ≤ l.length) {x : It} (h : readO (l.drop i) i = some x) : itemsAt l i = x :: itemsAt l (i + x.n) ∧ 1 ≤ x.n ∧ i + x.n ≤ l.length := by
  obtain ⟨_, hb⟩ := readO_some h
  obtain ⟨h3, h4, _⟩ := begins_n (fun y hy => hl y (List.mem_of_mem_drop hy)) hb
  rw [List.length_drop] at h4
  refine ⟨?_, h3, by omega⟩
  unfold itemsAt
  obtain ⟨f, hf⟩ : ∃ f, l.length + 1 - i = f + 1 := ⟨l.length - i, by omega⟩
  rw [hf]
  simp only [itemsF, h]
  rw [itemsF_more hl f (l.length + 1 - (i + x.n)) (i + x.n) (by omega) (Nat.le_refl _) (by omega)]
theorem itemsAt_none {l : List Nat} {i : Nat} (hi : i ≤ l.length) (h : readO (l.drop i) i = none) : itemsAt l i = [] := by
  unfold itemsAt
  obtain ⟨f, hf⟩ : ∃ f, l.length + 1 - i = f + 1 := ⟨l.length - i, by omega⟩
  rw [hf]
  simp only [itemsF, h]

/-- Where a walk over them stands: those that have come, the next place. -/
def Stand (l : List Nat) (done : List It) (i : Nat) : Prop := i ≤ l.length ∧ itemsAt l 0 = done ++ itemsAt l i
theorem stand_start (l : List Nat) : Stand l [] 0 := ⟨Nat.zero_le _, rfl⟩
theorem Stand.next {l : List Nat} (hl : ∀ x ∈ l, x < 256) {done : List It} {i : Nat} (h : Stand l done i) {x : It} (hx : readO (l.drop i) i = some x) : Stand l (done ++ [x]) (i + x.n) ∧ x.at_ = i ∧ Begins (l.drop i) x ∧ 1 ≤ x.n := by
  obtain ⟨h1, h2, h3⟩ := itemsAt_some hl h.1 hx
  obtain ⟨h4, h5⟩ := readO_some hx
  exact ⟨⟨h3, by rw [h.2, h1, List.append_assoc]; rfl⟩, h4, h5, h2⟩
theorem Stand.last {l : List Nat} {done : List It} {i : Nat} (h : Stand l done i) (hx : readO (l.drop i) i = none) : itemsAt l 0 = done := by
  rw [h.2, itemsAt_none h.1 hx, List.append_nil]
theorem Stand.pre {l : List Nat} {done : List It} {i : Nat} (h : Stand l done i) : done = (itemsAt l 0).take done.length ∧ done.length ≤ (itemsAt l 0).length := by
  rw [h.2]
  exact ⟨by simp, by simp⟩
theorem Stand.len {l : List Nat} (hl : ∀ x ∈ l, x < 256) {done : List It} {i : Nat} (h : Stand l done i) : (itemsAt l i).length ≤ l.length - i := by
  have key : ∀ f i, i ≤ l.length → (itemsF l f i).length ≤ l.length - i := by
    intro f
    induction f with
    | zero => intro i _; simp [itemsF]
    | succ f ih =>
      intro i hi
      simp only [itemsF]
      cases hr : readO (l.drop i) i with
      | none => simp
      | some x =>
        obtain ⟨_, hb⟩ := readO_some hr
        obtain ⟨h3, h4, _⟩ := begins_n (fun y hy => hl y (List.mem_of_mem_drop hy)) hb
        rw [List.length_drop] at h4
        have := ih (i + x.n) (by omega)
        simp only [List.length_cons]
        omega
  exact key _ i h.1
end Go.Proofs.YtfnfcngkaepnjaaGreatDoor
