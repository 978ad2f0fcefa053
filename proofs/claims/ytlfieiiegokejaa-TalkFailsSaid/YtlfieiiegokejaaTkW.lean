/- A region whose order is fixed, walked like one that draws its order: reads and calls that only make memory, the facts on cells laid once for all worlds. -/
import Derived.Test.YtlfieiiegokejaaCore
namespace Go.Proofs.Ytlfieiiegokejaa
open Go.ChangeShapes Go.WideShapes Go.ChangeAt Go.RowKit
set_option linter.unusedVariables false
theorem wpList_of_quiet {P : Program} {ops : Array Oper} {C : World → Prop} {R : Act → Prop} {Q : Exit → Act → World → Prop} (hQ : ∀ a w, C w → R a → Q .normal a w) : ∀ (l : List Oper) (a : Act) (w : World), C w → wpQuiet P ops C R l a → wpList P ops Q l a w
  | [], a, w, hw, h => hQ a w hw h
  | o :: rest, a, w, hw, h => by
    unfold wpQuiet at h
    unfold wpList
    by_cases hwt : Region.wanted o (yielded ops a.tmps) = true
    · rw [if_pos hwt] at h ⊢
      exact .inl (Oper.wp_of_quiet hw (fun a' w' hw' h' => wpList_of_quiet hQ rest a' w' hw' h') h)
    · rw [if_neg hwt] at h ⊢
      exact wpList_of_quiet hQ rest _ w hw h
theorem wp_region_still {P : Program} {id : Nat} {Q : Exit → Act → World → Prop} {a : Act} {w : World} {l : List Oper} (B : Nat)
    (h : wpQuiet P l.toArray (fun w' => ∃ x : Gr B w, w' = x.val) (fun a' => ∀ w', (∃ x : Gr B w, w' = x.val) → Q .normal a' w') l a) : (Code.region id l.toArray false).wp P Q a w :=
  wp_region_lit (wpList_of_quiet (C := fun w' => ∃ x : Gr B w, w' = x.val) (R := fun a' => ∀ w', (∃ x : Gr B w, w' = x.val) → Q .normal a' w') (fun a w' hw h => h w' hw) l a w ⟨⟨w, Below.refl _ _⟩, rfl⟩ h)
end Go.Proofs.Ytlfieiiegokejaa
