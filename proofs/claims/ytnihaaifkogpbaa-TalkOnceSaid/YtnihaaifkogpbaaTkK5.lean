/- The walk of the reference's Has and of the law KindTells. -/
import Derived.Test.YtnihaaifkogpbaaTkK3
import Derived.Test.YtnihaaifkogpbaaTkK4
namespace Go.Proofs.Ytnihaaifkogpbaa
open Go.ChangeShapes Go.WideShapes Go.ChangeAt Go.RowKit
set_option linter.unusedVariables false

def krefU (z p : Int) : Nat → Bool
  | 0 => false
  | n + 1 => krefU z p n || (((2 ^ n : Nat) : Int) == p && (z.tdiv ((2 ^ n : Nat) : Int)).tmod 2 == 1)
set_option maxRecDepth 100000 in
theorem krefU_all (i : Nat) (p : Int) : Kd.refHasI i p = krefU (Kd.rowAt i).2.1 p 8 := by
  have e : ∀ n : Nat, ∀ z, krefU z p (n + 1) = (krefU z p n || (((2 ^ n : Nat) : Int) == p && (z.tdiv ((2 ^ n : Nat) : Int)).tmod 2 == 1)) := fun _ _ => rfl
  unfold Kd.refHasI
  simp only [List.any_cons, List.any_nil, e]
  simp only [krefU, Bool.false_or, Bool.or_false, Bool.or_assoc]
  rfl
set_option maxRecDepth 100000 in
theorem krefU_mono {z p : Int} {n : Nat} (h : krefU z p n = true) : ∀ m, n ≤ m → krefU z p m = true := by
  intro m hm
  induction m with
  | zero => obtain rfl : n = 0 := by omega
            exact h
  | succ m ih =>
    by_cases e : n = m + 1
    · subst e; exact h
    · rw [krefU, ih (by omega)]; rfl
end Go.Proofs.Ytnihaaifkogpbaa
