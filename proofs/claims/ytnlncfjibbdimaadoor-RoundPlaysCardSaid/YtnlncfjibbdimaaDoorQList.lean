/-
  A region whose operations stand in one order, only read and call functions that leave what was there: walked quietly.
-/
import Derived.Test.YtnlncfjibbdimaaDoorLex
namespace Go.Proofs.YtnlncfjibbdimaaDoor
open Go.RowKit
set_option linter.unusedSimpArgs false
set_option linter.unusedVariables false

theorem wpList_of_quiet {P : Program} {ops : Array Oper} {C : World → Prop} {Q : Exit → Act → World → Prop} : ∀ (l : List Oper) (a : Act) (w : World), C w → wpQuiet P ops C (fun a' => ∀ w', C w' → Q .normal a' w') l a → wpList P ops Q l a w
  | [], a, w, hC, h => h w hC
  | o :: rest, a, w, hC, h => by
    unfold wpQuiet at h
    unfold wpList
    split at h
    · rename_i hw
      simp only [hw, if_true]
      exact .inl (Oper.wp_of_quiet hC (fun a w' hC' h' => wpList_of_quiet rest a w' hC' h') h)
    · rename_i hw
      simp only [hw, Bool.false_eq_true, if_false]
      exact wpList_of_quiet rest _ w hC h

theorem wp_region_lit_below {P : Program} {id : Nat} {Q : Exit → Act → World → Prop} {a : Act} {w : World} {l : List Oper}
    (h : wpQuiet P l.toArray (fun w' => ∃ p : Regrown, w' = Go.Sort.grow (redrawn w p.d) p.os) (fun a' => ∀ w', (∃ p : Regrown, w' = Go.Sort.grow (redrawn w p.d) p.os) → Q .normal a' w') l a) : (Code.region id l.toArray false).wp P Q a w :=
  wp_region_lit (wpList_of_quiet (C := fun w' => ∃ p : Regrown, w' = Go.Sort.grow (redrawn w p.d) p.os) l a w ⟨⟨w.drawn, #[]⟩, by simp [Go.Sort.grow, redrawn]⟩ h)

end Go.Proofs.YtnlncfjibbdimaaDoor
