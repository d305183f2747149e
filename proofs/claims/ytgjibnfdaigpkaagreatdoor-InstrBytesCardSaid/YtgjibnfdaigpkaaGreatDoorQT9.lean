/- Joined texts: A part's two functions, whichever part it is. -/
import Derived.Test.YtgjibnfdaigpkaaGreatDoorQT8
/- A part's two functions, whichever part it is. -/
namespace Go.Proofs.YtgjibnfdaigpkaaGreatDoor
set_option linter.unusedVariables false
open Go Go.Proofs Go.RowKit

/-- What a part gets. -/
def getF (p : Part) (a b c m : Int) : Int :=
  if p.g = 115 then a else if p.g = 117 then b else if p.g = 121 then c else m
/-- A number, put where a part stands. -/
def putN (p : Part) (n : Int) (s : Int × Int × Int × Int) : Int × Int × Int × Int :=
  if p.g = 115 then (n, s.2) else if p.g = 117 then (s.1, n, s.2.2) else if p.g = 121 then (s.1, s.2.1, n, s.2.2.2) else (s.1, s.2.1, s.2.2.1, n)
theorem putF_N (p : Part) (a b c m : Int) (s : Int × Int × Int × Int) : putF p (a, b, c, m) s = putN p (getF p a b c m) s := by
  unfold putF putN getF
  split
  · rfl
  · split
    · rfl
    · split <;> rfl

theorem getF_bd (p : Part) (a b c m : Int) (ha : 0 ≤ a ∧ a < 4294967296) (hb : 0 ≤ b ∧ b < 4294967296) (hc : 0 ≤ c ∧ c < 4294967296) (hm : 0 ≤ m ∧ m < 4294967296) : 0 ≤ getF p a b c m ∧ getF p a b c m < 4294967296 := by
  unfold getF
  split
  · exact ha
  · split
    · exact hb
    · split
      · exact hc
      · exact hm

theorem part_enters {p : Part} (hp : isPart p) : (∀ args w, (callFunc p.g args).run Tryz.prog w = .ok (.enter p.g args) w) ∧ (∀ args w, (callFunc p.p args).run Tryz.prog w = .ok (.enter p.p args) w) := by
  rcases hp with rfl | rfl | rfl | rfl | ⟨mk, rfl⟩
  · exact ⟨enters_of Tryz.func115 (by kernel_rfl) rfl, enters_of Tryz.func116 (by kernel_rfl) rfl⟩
  · exact ⟨enters_of Tryz.func117 (by kernel_rfl) rfl, enters_of Tryz.func118 (by kernel_rfl) rfl⟩
  · exact ⟨enters_of Tryz.func121 (by kernel_rfl) rfl, enters_of Tryz.func122 (by kernel_rfl) rfl⟩
  · exact ⟨enters_of Tryz.func121 (by kernel_rfl) rfl, enters_of Tryz.func122 (by kernel_rfl) rfl⟩
  · exact ⟨enters_of Tryz.func119 (by kernel_rfl) rfl, enters_of Tryz.func120 (by kernel_rfl) rfl⟩

theorem part_get {p : Part} (hp : isPart p) (op a b c m : Int) (ha : 0 ≤ a ∧ a < 4294967296) (hb : 0 ≤ b ∧ b < 4294967296) (hc : 0 ≤ c ∧ c < 4294967296) (hm : 0 ≤ m ∧ m < 4294967296) (w : World) :
    Calls Tryz.prog p.g #[insV op a b c m] w fun e w' => e = .returned (.int .u64 (getF p a b c m)) ∧ Below w.heap.size w w' := by
  rcases hp with rfl | rfl | rfl | rfl | ⟨mk, rfl⟩
  · exact (getA op a b c m ha w).mono (by rintro e w' ⟨rfl, o, rfl⟩; exact ⟨rfl, bel1 _⟩)
  · exact (getB op a b c m hb w).mono (by rintro e w' ⟨rfl, o, rfl⟩; exact ⟨rfl, bel1 _⟩)
  · exact (getC op a b c m hc w).mono (by rintro e w' ⟨rfl, o, rfl⟩; exact ⟨rfl, bel1 _⟩)
  · exact (getC op a b c m hc w).mono (by rintro e w' ⟨rfl, o, rfl⟩; exact ⟨rfl, bel1 _⟩)
  · exact (getI op a b c m hm w).mono (by rintro e w' ⟨rfl, o, rfl⟩; exact ⟨rfl, bel1 _⟩)

theorem part_put {p : Part} (hp : isPart p) (B : Nat) (op n : Int) (s : Int × Int × Int × Int) (hn : 0 ≤ n ∧ n < 4294967296) (w : World) (h : Bare B op s w) :
    Calls Tryz.prog p.p #[.pointer (some ⟨B, 0, none⟩), .int .u64 n] w fun e w' => e = .returned (.tuple #[]) ∧ Bare B op (putN p n s) w' ∧ ∃ o v, w' = w.setCell ⟨B, o, none⟩ v ∧ ∃ y, w.cell? ⟨B, o, none⟩ = some y ∧ ∀ n, y ≠ .int .u8 n := by
  rcases hp with rfl | rfl | rfl | rfl | ⟨mk, rfl⟩
  · exact (putA B _ n hn w h.c1 h.f1).mono (by rintro e w' ⟨rfl, rfl⟩; exact ⟨rfl, h.put1, _, _, rfl, _, h.c1, fun n e => by cases e⟩)
  · exact (putB B _ n hn w h.c2 h.f2).mono (by rintro e w' ⟨rfl, rfl⟩; exact ⟨rfl, h.put2, _, _, rfl, _, h.c2, fun n e => by cases e⟩)
  · exact (putC B _ n hn w h.c3 h.f3).mono (by rintro e w' ⟨rfl, rfl⟩; exact ⟨rfl, h.put3, _, _, rfl, _, h.c3, fun n e => by cases e⟩)
  · exact (putC B _ n hn w h.c3 h.f3).mono (by rintro e w' ⟨rfl, rfl⟩; exact ⟨rfl, h.put3, _, _, rfl, _, h.c3, fun n e => by cases e⟩)
  · exact (putI B _ n hn w h.c4 h.f4).mono (by rintro e w' ⟨rfl, rfl⟩; exact ⟨rfl, h.put4, _, _, rfl, _, h.c4, fun n e => by cases e⟩)
end Go.Proofs.YtgjibnfdaigpkaaGreatDoor
