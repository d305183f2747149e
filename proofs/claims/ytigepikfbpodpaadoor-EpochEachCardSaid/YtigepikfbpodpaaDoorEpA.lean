/- Walks of package epoch: bounds, parts, Pack, Next; every argument. -/
import Derived.Test.YtigepikfbpodpaaDoorKit
namespace Go.Proofs.YtigepikfbpodpaaDoor
set_option linter.unusedVariables false
open Go Go.Proofs Go.RowKit

def okB (n a b : Int) : Bool := decide (a ≤ n) && decide (n ≤ b)

set_option maxHeartbeats 400000 in
theorem fine1_any (n a b : Int) (w : World) :
    Calls Tryd.prog 35 #[.agg #[.int .u64 n, .int .u64 a, .int .u64 b]] w fun e w' => e = .returned (.bool (okB n a b)) ∧ Below w.heap.size w w' := by
  go_enter Tryd.func35, Tryd.ntmps35
  go_wp2
  · have h : a ≤ n := by assumption
    go_ret
    exact ⟨ret_bool (by simp [okB, h]), (Below.refl _ _).alloc (Nat.le_refl _) _⟩
  · have h : n < a := by assumption
    go_ret
    exact ⟨ret_bool (by simp [okB]; omega), (Below.refl _ _).alloc (Nat.le_refl _) _⟩

set_option maxHeartbeats 400000 in
theorem all1_any (n a b : Int) (B : Nat) (w : World) (hB : B < w.heap.size) (hc : w.cell? ⟨B, 0, none⟩ = some (.func (.func 35) #[] #[])) :
    Calls Tryd.prog 45 #[.agg #[.int .u64 n, .int .u64 a, .int .u64 b], .pointer (some ⟨B, 0, none⟩)] w fun e w' => e = .returned (.bool (!okB n a b)) ∧ Below w.heap.size w w' := by
  go_enter Tryd.func45, Tryd.ntmps45
  go_wp2_with (go_at_call 35; refine (fine1_any _ _ _ _).mono ?_; rintro e w' ⟨rfl, hb⟩)
  go_ret
  exact ⟨rfl, ((Below.refl _ _).alloc (Nat.le_refl _) _).trans (hb.mono (by simp))⟩

/-- the bounds of a list, in memory -/
def hasB (l : List (Int × Int × Int)) (B : Nat) (w : World) : Prop :=
  ∀ i : Nat, i < l.length → w.cell? ⟨B, i * 3, none⟩ = some (.int .u64 (l.getD i (0, 0, 0)).1) ∧ w.cell? ⟨B, i * 3 + 1, none⟩ = some (.int .u64 (l.getD i (0, 0, 0)).2.1) ∧
    w.cell? ⟨B, i * 3 + 2, none⟩ = some (.int .u64 (l.getD i (0, 0, 0)).2.2)

def badB (l : List (Int × Int × Int)) : Bool := l.any fun t => !okB t.1 t.2.1 t.2.2

theorem badB_take (l : List (Int × Int × Int)) (k : Nat) (h : k < l.length) : badB (l.take (k + 1)) = (badB (l.take k) || !okB l[k].1 l[k].2.1 l[k].2.2) := by
  unfold badB
  rw [List.take_succ_eq_append_getElem h, List.any_append]
  simp

theorem badB_of (l : List (Int × Int × Int)) (k : Nat) (h : k < l.length) (hb : (!okB l[k].1 l[k].2.1 l[k].2.2) = true) : badB l = true := by
  unfold badB
  rw [List.any_eq_true]
  exact ⟨l[k], List.getElem_mem h, hb⟩

set_option maxHeartbeats 400000 in
theorem index_any (l : List (Int × Int × Int)) (B F : Nat) (w : World) (hB : B < w.heap.size) (hF : F < w.heap.size) (hl : l.length ≤ 100) (hbs : hasB l B w)
    (hc : w.cell? ⟨F, 0, none⟩ = some (.func (.func 35) #[] #[])) :
    Calls Tryd.prog 59 #[.slice (some ⟨B, 0, none⟩) l.length l.length, .func (.func 45) #[] #[.pointer (some ⟨F, 0, none⟩)]] w fun e w' =>
      ∃ r : Int, e = .returned (.int .i64 r) ∧ decide (0 ≤ r) = badB l ∧ Below w.heap.size w w' := by
  go_enter Tryd.func59, Tryd.ntmps59
  go_wp2
  go_loopw [5, 8] (fun _ i wr => ∃ k : Nat, k ≤ l.length ∧ i = .int .i64 k ∧ badB (l.take k) = false ∧ Below w.heap.size w wr) (fun _ i _ => l.length - (intOf i).toNat)
  case atStart => exact ⟨0, Nat.zero_le _, rfl, rfl, Below.refl _ _⟩
  case round =>
    obtain ⟨k, hk, rfl, hbad, hb⟩ := hrel
    obtain ⟨hcc, hff⟩ := bcell hb
    have hc' := (hcc F 0 hF).trans hc
    have hsz := hb.size
    by_cases hlt : k < l.length
    · obtain ⟨c0, c1, c2⟩ := hbs k hlt
      have c0' := (hcc B _ hB).trans c0
      have c1' := (hcc B _ hB).trans c1
      have c2' := (hcc B _ hB).trans c2
      have HS := Lib.hid (badB_take l k hlt)
      have HT := Lib.hid (badB_of l k hlt)
      have HB := Lib.hid hbad
      clear hcc hff c0 c1 c2 hbad
      go_wp2_with (go_at_call 45; refine (all1_any _ _ _ _ _ (by omega) hc').mono ?_; rintro e w' ⟨rfl, hb2⟩)
      · have hx : (!okB l[k].1 l[k].2.1 l[k].2.2) = true := by assumption
        go_ret
        exact ⟨k, rfl, by rw [HT.out hx]; simp, hb.trans (hb2.mono hsz)⟩
      · have hx : (!okB l[k].1 l[k].2.1 l[k].2.2) = false := by assumption
        exact ⟨⟨k + 1, by omega, by go_num, by rw [HS.out, HB.out, hx]; rfl, hb.trans (hb2.mono hsz)⟩, by simp [intOf]; omega⟩
    · have HB := Lib.hid hbad
      obtain rfl : k = l.length := by omega
      go_wp2
      go_ret
      refine ⟨-1, rfl, ?_, hb⟩
      have := HB.out
      rw [List.take_length] at this
      rw [this]; decide

set_option maxHeartbeats 400000 in
theorem contains_any (l : List (Int × Int × Int)) (B F : Nat) (w : World) (hB : B < w.heap.size) (hF : F < w.heap.size) (hl : l.length ≤ 100) (hbs : hasB l B w)
    (hc : w.cell? ⟨F, 0, none⟩ = some (.func (.func 35) #[] #[])) :
    Calls Tryd.prog 44 #[.slice (some ⟨B, 0, none⟩) l.length l.length, .func (.func 45) #[] #[.pointer (some ⟨F, 0, none⟩)]] w fun e w' =>
      e = .returned (.bool (badB l)) ∧ Below w.heap.size w w' := by
  go_enter Tryd.func44, Tryd.ntmps44
  go_wp2_with (go_at_call 59; refine (index_any l _ _ _ hB hF hl hbs hc).mono ?_; rintro e w' ⟨r, rfl, hr, hb2⟩; have HR := Lib.hid hr; clear hr)
  go_ret
  exact ⟨ret_bool HR.out, hb2⟩

theorem hasB_below {l : List (Int × Int × Int)} {B : Nat} {w w' : World} (hB : B < w.heap.size) (h : hasB l B w) (hb : Below w.heap.size w w') : hasB l B w' := by
  intro i hi
  obtain ⟨h0, h1, h2⟩ := h i hi
  exact ⟨((bcell hb).1 _ _ hB).trans h0, ((bcell hb).1 _ _ hB).trans h1, ((bcell hb).1 _ _ hB).trans h2⟩

set_option maxHeartbeats 400000 in
theorem all_any (l : List (Int × Int × Int)) (B : Nat) (w : World) (hB : B < w.heap.size) (hl : l.length ≤ 100) (hbs : hasB l B w) :
    Calls Tryd.prog 34 #[.func (.func 35) #[] #[], .slice (some ⟨B, 0, none⟩) l.length l.length] w fun e w' =>
      e = .returned (.bool (!badB l)) ∧ Below w.heap.size w w' := by
  go_enter Tryd.func34, Tryd.ntmps34
  go_wp2_with (go_at_call 44; refine (contains_any l _ _ _ (by simp; omega) (by simp) hl (hasB_below hB hbs ((Below.refl _ _).alloc (Nat.le_refl _) _)) (by go_simp)).mono ?_; rintro e w' ⟨rfl, hb2⟩)
  go_ret
  exact ⟨rfl, ((Below.refl _ _).alloc (Nat.le_refl _) _).trans (hb2.mono (by simp))⟩

set_option maxHeartbeats 400000 in
theorem fine_any (l : List (Int × Int × Int)) (B : Nat) (w : World) (hB : B < w.heap.size) (hl : l.length ≤ 100) (hbs : hasB l B w) :
    Calls Tryd.prog 22 #[.slice (some ⟨B, 0, none⟩) l.length l.length] w fun e w' =>
      e = .returned (.bool (!badB l)) ∧ Below w.heap.size w w' := by
  go_enter Tryd.func22, Tryd.ntmps22
  go_wp2_with (go_at_call 34; refine (all_any l _ _ hB hl hbs).mono ?_; rintro e w' ⟨rfl, hb2⟩)
  go_ret
  exact ⟨rfl, hb2⟩

/-- one bound -/
theorem fine_one (n a b : Int) (B : Nat) (w : World) (hB : B < w.heap.size) (c0 : w.cell? ⟨B, 0, none⟩ = some (.int .u64 n)) (c1 : w.cell? ⟨B, 1, none⟩ = some (.int .u64 a)) (c2 : w.cell? ⟨B, 2, none⟩ = some (.int .u64 b)) :
    Calls Tryd.prog 22 #[.slice (some ⟨B, 0, none⟩) 1 1] w fun e w' => e = .returned (.bool (okB n a b)) ∧ Below w.heap.size w w' := by
  refine (fine_any [(n, a, b)] B w hB (by simp) ?_).mono ?_
  · intro i hi
    obtain rfl : i = 0 := by simpa using hi
    exact ⟨c0, c1, c2⟩
  · rintro e w' ⟨rfl, hb⟩
    exact ⟨ret_bool (by simp [badB]), hb⟩

/-- two bounds -/
theorem fine_two (n a b n' a' b' : Int) (B : Nat) (w : World) (hB : B < w.heap.size) (c0 : w.cell? ⟨B, 0, none⟩ = some (.int .u64 n)) (c1 : w.cell? ⟨B, 1, none⟩ = some (.int .u64 a)) (c2 : w.cell? ⟨B, 2, none⟩ = some (.int .u64 b))
    (c3 : w.cell? ⟨B, 3, none⟩ = some (.int .u64 n')) (c4 : w.cell? ⟨B, 4, none⟩ = some (.int .u64 a')) (c5 : w.cell? ⟨B, 5, none⟩ = some (.int .u64 b')) :
    Calls Tryd.prog 22 #[.slice (some ⟨B, 0, none⟩) 2 2] w fun e w' => e = .returned (.bool (okB n a b && okB n' a' b')) ∧ Below w.heap.size w w' := by
  refine (fine_any [(n, a, b), (n', a', b')] B w hB (by simp) ?_).mono ?_
  · intro i hi
    have hi2 : i < 2 := hi
    rcases (by omega : i = 0 ∨ i = 1) with rfl | rfl
    · exact ⟨c0, c1, c2⟩
    · exact ⟨c3, c4, c5⟩
  · rintro e w' ⟨rfl, hb⟩
    exact ⟨ret_bool (by simp [badB]), hb⟩
end Go.Proofs.YtigepikfbpodpaaDoor
