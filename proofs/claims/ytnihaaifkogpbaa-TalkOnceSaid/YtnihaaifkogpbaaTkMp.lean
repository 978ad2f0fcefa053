/- The map of a talk: from a request's number to its place. -/
import Derived.Test.YtnihaaifkogpbaaTkR
import Derived.Maps.OwnSet
import Derived.Maps.Views
namespace Go.Proofs.Ytnihaaifkogpbaa
open Go.ChangeShapes Go.WideShapes Go.ChangeAt Go.RowKit
open Go.Maps (Keyed int_keyed keyOf_int_mk)
set_option linter.unusedVariables false
abbrev ky (x : Nat) : Lit := .int .u64 (x : Int)
theorem ky_wf {x : Nat} (hx : x ≤ 18446744073709551615) : (Lit.int .u64 (x : Int)).wf = true := by
  rw [Lit.wf, Bool.and_eq_true, decide_eq_true_iff, decide_eq_true_iff, (by decide : IntKind.u64.min = 0), (by decide : IntKind.u64.max = 18446744073709551615)]; omega
theorem lwf_i64 {x : Nat} (hx : x ≤ 9223372036854775807) : (Lit.int .i64 (x : Int)).wf = true := by
  rw [Lit.wf, Bool.and_eq_true, decide_eq_true_iff, decide_eq_true_iff, (by decide : IntKind.i64.min = -9223372036854775808), (by decide : IntKind.i64.max = 9223372036854775807)]; omega
theorem ky_ne {x y : Nat} (h : y ≠ x) : ky y ≠ ky x := fun e => by injection e with _ e; omega
theorem keyed64 : Keyed Try.prog 29 := int_keyed Try.underlying29
def litI : DataW Unit → Int | .lit (.int _ n) => n | _ => 0
theorem zeroI (w : World) : (zeroValue 3).run Try.prog w = .ok (.int .i64 0) w := by kernel_rfl
def fput (f : Nat → Option Nat) (x i : Nat) : Nat → Option Nat := fun y => if y = x then some i else f y
def fdel (f : Nat → Option Nat) (x : Nat) : Nat → Option Nat := fun y => if y = x then none else f y
/-- The block b is a map of at most n entries that gives f. -/
def MapOf (w : World) (b n : Nat) (f : Nat → Option Nat) : Prop :=
  ∃ D : DataW Unit, w.ownsMap Try.prog 29 (plainElem Try.prog 3) b n D ∧ Maps.IsMap D ∧ ∀ x, x ≤ 18446744073709551615 → Maps.has D (ky x) = (f x).isSome ∧ ∀ i, f x = some i → D.atKey (ky x) (.lit (.int .i64 0)) = .lit (.int .i64 (i : Int))
theorem mapOf_made (w : World) : MapOf (w.alloc (.map #[] 0)) w.heap.size 0 (fun _ => none) :=
  ⟨.map [], World.ownsMap_made _ _ _ _, Maps.isMap_empty, fun x hx => ⟨rfl, fun i h => by cases h⟩⟩
section
variable {w w' : World} {b n : Nat} {f : Nat → Option Nat}
theorem MapOf.lt (h : MapOf w b n f) : b < w.heap.size := by obtain ⟨D, h, _⟩ := h; exact h.lt
theorem MapOf.same (h : MapOf w b n f) (hs : w'.heap[b]? = w.heap[b]?) : MapOf w' b n f := by
  obtain ⟨D, ⟨es, clock, hb, hr⟩, h2⟩ := h
  exact ⟨D, ⟨es, clock, hs.trans hb, hr⟩, h2⟩
theorem MapOf.below {B : Nat} (h : MapOf w b n f) (hb : Below B w w') (hB : b < B) : MapOf w' b n f := h.same (hb.block b hB)
theorem MapOf.look (h : MapOf w b n f) {x : Nat} (hx : x ≤ 18446744073709551615) :
    ∃ c : Int, (∀ i, f x = some i → c = i) ∧ ∀ u : World, u.heap[b]? = w.heap[b]? → (Instr.lookup 86 (.map (some b)) (.int .u64 (x : Int)) true).run Try.prog u = .ok (.tuple #[.int .i64 c, .bool (f x).isSome]) u := by
  obtain ⟨D, ho, hm, hf⟩ := h
  have hk : keyOf Try.prog 29 (.int .u64 (x : Int)) = some (ky x) := keyOf_int_mk Try.underlying29 (ky_wf hx)
  have hzd : plainElem (H := Unit) Try.prog 3 (.int .i64 0) = some (.lit (.int .i64 0), []) := plainElem_int Try.underlying3 (by decide)
  have key : ∀ u : World, u.heap[b]? = w.heap[b]? → ∃ c : Int, D.atKey (ky x) (.lit (.int .i64 0)) = .lit (.int .i64 c) ∧ (Instr.lookup 86 (.map (some b)) (.int .u64 (x : Int)) true).run Try.prog u = .ok (.tuple #[.int .i64 c, .bool (Maps.has D (ky x))]) u := by
    intro u hu
    have hou : u.ownsMap Try.prog 29 (plainElem Try.prog 3) b n D := by
      obtain ⟨es, clock, hb, hr⟩ := ho
      exact ⟨es, clock, hu.trans hb, hr⟩
    obtain ⟨v, ps, hrun, hv⟩ := hou.look_ok keyed64 Try.underlying86 (zeroI u) hzd hk
    obtain ⟨c, rfl, hc, _⟩ := plainElem_int_inv Try.underlying3 hv
    exact ⟨c, congrArg Prod.fst hc, hrun⟩
  obtain ⟨c, hc, hrun⟩ := key w rfl
  refine ⟨c, fun i hi => ?_, fun u hu => ?_⟩
  · have h1 := (hf x hx).2 i hi
    rw [hc] at h1
    exact congrArg litI h1
  · obtain ⟨c', hc', hrun'⟩ := key u hu
    rw [hc] at hc'
    obtain rfl : c = c' := congrArg litI hc'
    rw [(hf x hx).1] at hrun'
    exact hrun'
theorem MapOf.put_of {D : DataW Unit} {x i m : Nat} (hx : x ≤ 18446744073709551615) (hm : Maps.IsMap D) (hf : ∀ x, x ≤ 18446744073709551615 → Maps.has D (ky x) = (f x).isSome ∧ ∀ i, f x = some i → D.atKey (ky x) (.lit (.int .i64 0)) = .lit (.int .i64 (i : Int)))
    (ho : w'.ownsMap Try.prog 29 (plainElem Try.prog 3) b m (D.put (ky x) (.lit (.int .i64 (i : Int))))) : MapOf w' b m (fput f x i) := by
  have hkl : WideAt.IsKeyLit (ky x) := by simp [WideAt.IsKeyLit]
  refine ⟨_, ho, hm.put _ _, fun y hy => ?_⟩
  unfold fput
  by_cases e : y = x
  · subst e
    rw [if_pos rfl]
    exact ⟨Maps.has_put_same hm hkl _, fun j hj => by injection hj with hj; subst hj; exact Maps.atKey_put_same hm hkl _ _⟩
  · rw [if_neg e]
    rw [Maps.has_put_other (ky_ne e), Maps.atKey_put_other (ky_ne e)]
    exact hf y hy
theorem MapOf.del_of {D : DataW Unit} {x m : Nat} (hm : Maps.IsMap D) (hf : ∀ x, x ≤ 18446744073709551615 → Maps.has D (ky x) = (f x).isSome ∧ ∀ i, f x = some i → D.atKey (ky x) (.lit (.int .i64 0)) = .lit (.int .i64 (i : Int)))
    (ho : w'.ownsMap Try.prog 29 (plainElem Try.prog 3) b m (D.del (ky x))) : MapOf w' b m (fdel f x) := by
  refine ⟨_, ho, hm.del _, fun y hy => ?_⟩
  unfold fdel
  by_cases e : y = x
  · subst e
    rw [if_pos rfl]
    exact ⟨Maps.has_del_same, fun j hj => by cases hj⟩
  · rw [if_neg e]
    rw [Maps.has_del_other (ky_ne e), Maps.atKey_del_other (ky_ne e)]
    exact hf y hy
/-- 'm[x] = i' in the walk. -/
theorem wpList_map_put {ops : Array Oper} {rest : List Oper} {o : Oper} {a : Act} {Q : Exit → Act → World → Prop} (hg : o.guard = none) (m x v : Operand) (hop : o.op = Op.mapUpdate 86 m x v) {y i : Nat}
    (h : MapOf w b n f) (hy : y ≤ 18446744073709551615) (hi : i ≤ 9223372036854775807) (hn : n < maxLen) (hm : a.eval m = .map (some b)) (hx : a.eval x = .int .u64 (y : Int)) (hv : a.eval v = .int .i64 (i : Int))
    (hK : ∀ w', MapOf w' b (n + 1) (fput f y i) → w.grownBy w' (some b) → wpList Try.prog ops Q rest (a.put o.dst undef) w') : wpList Try.prog ops Q (o :: rest) a w := by
  obtain ⟨D, ho, hmm, hf⟩ := h
  exact wpList_mapUpdate_own w hg m x v 86 hop 29 3 keyed64 Try.underlying86 _ b n D hm ho hn _ _ (ky y) hx hv (keyOf_int_mk Try.underlying29 (ky_wf hy)) (.lit (.int .i64 (i : Int))) []
    (plainElem_int Try.underlying3 (lwf_i64 hi)) (fun w' h1 h2 => hK w' (MapOf.put_of hy hmm hf h1) h2)
/-- 'delete(m, x)' in the walk. -/
theorem wpList_map_del {ops : Array Oper} {rest : List Oper} {o : Oper} {a : Act} {Q : Exit → Act → World → Prop} (hg : o.guard = none) (m x : Operand) (hop : o.op = Op.call { callee := Callee.builtin Builtin.delete, args := #[m, x], argTypes := #[86, 29] }) {y : Nat}
    (h : MapOf w b n f) (hy : y ≤ 18446744073709551615) (hm : a.eval m = .map (some b)) (hx : a.eval x = .int .u64 (y : Int))
    (hK : ∀ w', MapOf w' b n (fdel f y) → w.grownBy w' (some b) → wpList Try.prog ops Q rest (a.put o.dst (.tuple #[])) w') : wpList Try.prog ops Q (o :: rest) a w := by
  obtain ⟨D, ho, hmm, hf⟩ := h
  exact wpList_delete_own w hg m x 86 29 hop 3 keyed64 Try.underlying86 _ b n D hm ho _ (ky y) hx (keyOf_int_mk Try.underlying29 (ky_wf hy)) (fun w' h1 h2 => hK w' (MapOf.del_of hmm hf h1) h2.grown)
end
end Go.Proofs.Ytnihaaifkogpbaa
