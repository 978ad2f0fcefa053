/-
  'tholepinlaw21.LocateMoves' returns true for every input, and each argument reads behind the call as it read before. No condition.
-/
import Derived.Test.YtmdgmnaaopineaaMovesW
import Derived.Test.YtmdgmnaaopineaaOpenF
import Derived.Test.YtmdgmnaaopineaaRows
namespace Go.Proofs.Ytmdgmnaaopineaa.locateMoves
open Go.ChangeShapes Go.WideShapes Go.ChangeAt Go.RowKit
open Go.ChangeMaps (open_string shut_string)
set_option linter.unusedVariables false

theorem own : ownKnob Try.prog.godebug = none := by kernel_rfl
theorem laidOut : laidOutB Try.prog = true := by kernel_rfl

set_option maxRecDepth 100000 in
theorem lifted (os : Os) (started : os.Started) (H : Type) (enc : TypeId × Value → H) :
    ReturnsInHanded {} Try.checked os 6 .any (Rows.locateMovesSpec.pre6 enc Try.prog Try.f6 Rows.locateMovesRow.domain false) (Rows.locateMovesSpec.post enc Try.prog Try.f6 false true false false) := by
  refine returnsInHanded_of_change (C := Try.checked) own started (by kernel_rfl) Try.func6
    (ChangeSpec.witness6 (enc := enc) (C := Try.checked) false ⟨#[], #[.agg #[.int .u64 0, .slice none 0 0], .agg #[.int .u64 0, .slice none 0 0], .int .u64 0], []⟩ 8 (by kernel_rfl) (by kernel_rfl) (by kernel_rfl) (by kernel_rfl)) ?_
  intro W base args ds gs before hval0 hW hcnd _
  have hval : ∀ (j : Nat) t v, Try.f6.params[j]? = some t → args[j]? = some v → Value.okWide Try.prog W .any base t v := hval0
  have hW' := hW
  obtain ⟨p, q, hA0, hV, rfl, hfz, hnd⟩ := hW
  have hA : DataW.TrodAll enc Try.prog W 0 (fun _ => true) true Try.f6.params.toList args.toList ds p := hA0
  rw [Try.params6] at hA hval
  obtain ⟨v0, vs0, d0, ds0, p0, q0, hargs, rfl, rfl, h0, r0⟩ := trodAll_cons hA
  obtain ⟨v1, vs1, d1, ds1, p1, q1, rfl, rfl, rfl, h1, r1⟩ := trodAll_cons r0
  obtain ⟨v2, vs2, d2, ds2, p2, q2, rfl, rfl, rfl, h2, r2⟩ := trodAll_cons r1
  obtain ⟨rfl, rfl, rfl⟩ := trodAll_nil r2
  obtain rfl : args = #[v0, v1, v2] := by cases args; simp_all
  obtain ⟨rfl, rfl⟩ := trodVars_none hV
  have k0 := h0
  have lt0 : ∀ x ∈ p0, x.block < W.heap.size := by obtain ⟨m, hm⟩ := k0; exact DataW.trod_lt m _ _ _ hm
  obtain ⟨cs0, rfl, hsz0⟩ := okWide_struct Try.underlying25 (hval 0 25 v0 rfl rfl)
  obtain ⟨x0, w0⟩ : ∃ x, (rpPrj).ok W (lt W.heap.size) x cs0.toList := by
    obtain ⟨fuel, hf⟩ := h0
    obtain ⟨x, hx⟩ := (opens_struct2 Try.underlying25 (opens_u64 Try.underlying22) (opens_slice Try.underlying23 (opens_struct3 Try.underlying31 (opens_u64 Try.underlying22) (opens_u64 Try.underlying22) (opens_slice Try.underlying27 (opens_slice Try.underlying46 (opens_u64 Try.underlying22) (by kernel_rfl) (by decide)) (by kernel_rfl) (by decide)) (by kernel_rfl)) (by kernel_rfl) (by decide)) (by kernel_rfl)) H enc W _ fuel _ _ hf
    exact ⟨x, hx⟩
  have k1 := h1
  have lt1 : ∀ x ∈ p1, x.block < W.heap.size := by obtain ⟨m, hm⟩ := k1; exact DataW.trod_lt m _ _ _ hm
  obtain ⟨cs1, rfl, hsz1⟩ := okWide_struct Try.underlying25 (hval 1 25 v1 rfl rfl)
  obtain ⟨x1, w1⟩ : ∃ x, (rpPrj).ok W (lt W.heap.size) x cs1.toList := by
    obtain ⟨fuel, hf⟩ := h1
    obtain ⟨x, hx⟩ := (opens_struct2 Try.underlying25 (opens_u64 Try.underlying22) (opens_slice Try.underlying23 (opens_struct3 Try.underlying31 (opens_u64 Try.underlying22) (opens_u64 Try.underlying22) (opens_slice Try.underlying27 (opens_slice Try.underlying46 (opens_u64 Try.underlying22) (by kernel_rfl) (by decide)) (by kernel_rfl) (by decide)) (by kernel_rfl)) (by kernel_rfl) (by decide)) (by kernel_rfl)) H enc W _ fuel _ _ hf
    exact ⟨x, hx⟩
  have k2 := h2
  have lt2 : ∀ x ∈ p2, x.block < W.heap.size := by obtain ⟨m, hm⟩ := k2; exact DataW.trod_lt m _ _ _ hm
  obtain ⟨a2, rfl, rfl, rfl, w2⟩ := open_int Try.underlying22 (hval 2 22 v2 rfl rfl) h2
  clear hA0 hval0
  refine (locateMoves_st cs0 x0 cs1 x1 a2 W w0 w1 (bounds_u64 w2).1 (bounds_u64 w2).2).mono fun e W' ⟨he, bel⟩ => ?_
  subst he
  exact ⟨_, rfl, _, _, _, [], _, [], hW', trodAll_mk1 (shut_bool Try.underlying4 _), (trodAll_cons_mk (Below.trod laidOut (by kernel_rfl) (of_decide_eq_true (by kernel_rfl)) k0 bel lt0) (trodAll_cons_mk (Below.trod laidOut (by kernel_rfl) (of_decide_eq_true (by kernel_rfl)) k1 bel lt1) (trodAll_cons_mk (shut_int Try.underlying22 w2) trodAll_mk0))), rfl, bel.frame _, fun h => by cases h⟩

theorem over : Rows.locateMovesRow.holds Try.pinned (OpenSpec.ofChange Rows.locateMovesSpec) :=
  OpenClaim.holds_of_wide 6 Try.f6 rfl rfl rfl rfl rfl rfl rfl ⟨rfl, rfl, rfl, rfl, rfl⟩ rfl rfl rfl rfl rfl (by kernel_rfl) Try.func6 (by kernel_rfl)
    (of_decide_eq_true (by kernel_rfl)) (by unfold Func.isWrapper; first | (rw [if_pos (by decide +kernel)]; kernel_rfl) | (rw [if_neg (by decide +kernel)]; exact ⟨rfl, rfl⟩))
    (fun os started H enc _ => lifted os started H enc)

theorem proved : Rows.LocateMovesSaid := over
#print axioms proved
end Go.Proofs.Ytmdgmnaaopineaa.locateMoves
