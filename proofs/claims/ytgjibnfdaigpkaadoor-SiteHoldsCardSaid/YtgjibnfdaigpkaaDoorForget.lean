/- A cut behind a piece of code: of what it has written, only what is named is carried on. -/
import Derived.Test.YtgjibnfdaigpkaaDoorTail
import Derived.LoopTactic
namespace Go.Proofs.YtgjibnfdaigpkaaDoor
set_option linter.unusedVariables false
open Go Go.Proofs Go.RowKit

def goesOn (I : Act → World → Prop) : Exit → Act → World → Prop
  | .normal, a, w => I a w
  | _, _, _ => False

theorem goesOn_normal {I : Act → World → Prop} {a : Act} {w : World} : goesOn I .normal a w = I a w := rfl

theorem wp_cut {P : Program} {c : Code} {Q : Exit → Act → World → Prop} {a : Act} {w : World} (I : Act → World → Prop) (h1 : c.wp P (goesOn I) a w) (h2 : ∀ a w, I a w → Q .normal a w) : c.wp P Q a w :=
  Code.wp_mono (by intro e a w h; cases e <;> first | exact h2 _ _ h | exact h.elim) h1

open Lean Elab Tactic Meta in
/-- go_forget [slots] rel: cuts here. 'case walk': the code's own walk, up to rel of the slots and the world; 'case rest': what follows, from rel on. -/
elab "go_forget " "[" ns:num,* "]" rel:term:max : tactic => withMainContext do
  let t := (← instantiateMVars (← getMainTarget)).consumeMData
  unless t.isAppOfArity ``Code.wp 5 do throwError "go_forget: the goal is no Code.wp"
  let args := t.getAppArgs
  let code := args[1]!
  let act ← whnfR args[3]!
  unless act.isAppOfArity ``Act.mk 2 do throwError "go_forget: the frame is not written out"
  let arr := act.getArg! 0
  unless arr.isAppOfArity ``List.toArray 2 do throwError "go_forget: the temporaries are not written out"
  let some elems := listElems (arr.getArg! 1) | throwError "go_forget: the temporaries are not written out"
  let slots := ns.getElems.toList.map (·.getNat)
  let ds := ((dstsOf code).eraseDups.filter (· < elems.length)).toArray.qsort (· < ·) |>.toList
  for n in slots do unless ds.contains n do throwError "go_forget: the code writes no slot {n}"
  let value := mkConst ``Go.Value
  let relTy := slots.foldr (fun _ acc => mkForall `v .default value acc) (mkForall `w .default (mkConst ``Go.World) (mkSort Level.zero))
  let relE ← Tactic.elabTermEnsuringType rel relTy
  let inv ← withLocalDeclD `a' (mkConst ``Go.Act) fun a' => withLocalDeclD `w' (mkConst ``Go.World) fun w' => do
    withLocalDeclsD (ds.toArray.map fun d => (Name.mkSimple s!"u{d}", fun _ => pure value)) fun us => do
      let at_ (n : Nat) : Lean.Expr := match ds.idxOf? n with | some k => us[k]! | none => elems[n]!
      let elems' := (List.range elems.length).map at_
      let act' := mkApp2 (mkConst ``Act.mk) (← mkAppM ``List.toArray #[← mkListLit value elems']) (act.getArg! 1)
      let body := mkAnd (mkAppN relE ((slots.map at_).toArray.push w')).headBeta (← mkEq a' act')
      let ex ← us.foldrM (fun u acc => do mkAppM ``Exists #[← mkLambdaFVars #[u] acc]) body
      mkLambdaFVars #[a', w'] ex
  let invS ← Term.exprToSyntax inv
  evalTactic (← `(tactic| refine wp_cut $invS ?_ ?_))
  let [g1, g2] ← getGoals | throwError "go_forget: two goals expected"
  let names := ds.map fun d => mkIdent (Name.mkSimple s!"u{d}")
  g1.setTag `walk
  setGoals [g2]
  evalTactic (← `(tactic| intro _ $(mkIdent `wr):ident hinv))
  for n in names do evalTactic (← `(tactic| obtain ⟨$n:ident, hinv⟩ := hinv))
  evalTactic (← `(tactic| (obtain ⟨$(mkIdent `hrel):ident, ha⟩ := hinv; subst ha; try dsimp only)))
  let r2 ← getGoals
  for g in r2 do g.setTag `rest
  setGoals (g1 :: r2)

/-- At the end of the cut piece's walk. -/
macro "go_forgot" : tactic => `(tactic| (rw [goesOn_normal]; (repeat apply Exists.intro); refine ⟨?_, rfl⟩))
end Go.Proofs.YtgjibnfdaigpkaaDoor
