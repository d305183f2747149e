/- A cut behind a piece of code: of what it has written, only what is named is carried on. -/
import Derived.Test.YtgjibnfdaigpkaaGreatDoorTail
import Derived.LoopTactic
namespace Go.Proofs.YtgjibnfdaigpkaaGreatDoor
set_option linter.unusedVariables false
open Go Go.Proofs Go.RowKit

def goesOn (I : Act → World → Prop) : Exit → Act → World → Prop
  | .normal, a, w => I a w
  | _, _, _ => False

theorem goesOn_normal {I : Act → World → Prop} {a : Act} {w : World} : goesOn I .normal a w = I a w := rfl

theorem wp_cut {P : Program} {c : Code} {Q : Exit → Act → World → Prop} {a : Act} {w : World} (I : Act → World → Prop) (h1 : c.wp P (goesOn I) a w) (h2 : ∀ a w, I a w → Q .normal a w) : c.wp P Q a w :=
  Code.wp_mono (by intro e a w h; cases e <;> first | exact h2 _ _ h | exact h.elim) h1

end Go.Proofs.YtgjibnfdaigpkaaGreatDoor
