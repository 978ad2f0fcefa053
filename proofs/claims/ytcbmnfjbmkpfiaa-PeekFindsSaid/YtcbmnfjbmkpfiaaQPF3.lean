/-
  'tholepinlaw26.PeekFinds' returns true for every input, and each argument reads behind the call as it read before. No condition.
-/
import Derived.Test.YtcbmnfjbmkpfiaaPkR
import Derived.Test.YtcbmnfjbmkpfiaaOpenF
import Derived.Test.YtcbmnfjbmkpfiaaRows
import Derived.Test.YtcbmnfjbmkpfiaaQPF2
/- Opening a batch and a chain that are handed over. -/
namespace Go.Proofs.Ytcbmnfjbmkpfiaa
open Go.ChangeShapes Go.WideShapes Go.ChangeAt Go.RowKit
set_option linter.unusedVariables false
abbrev rpBat : Rp (Nat × Nat × List Ent) := rpPair rpU64 (rpPair rpU64 (rpSlice rpEnt))
theorem opens_lnk26 : Opens Try.prog 57 rpLnk :=
  opens_struct2 Try.underlying57 (opens_u64 Try.underlying22) (opens_slice Try.underlying48 (opens_u64 Try.underlying22) (by kernel_rfl) (by decide)) (by kernel_rfl)
theorem opens_lnks26 : Opens Try.prog 35 (rpSlice rpLnk) := opens_slice Try.underlying35 opens_lnk26 (by kernel_rfl) (by decide)
theorem opens_ent26 : Opens Try.prog 45 rpEnt :=
  opens_struct2 Try.underlying45 opens_lnks26 (opens_slice Try.underlying43 (opens_u8 Try.underlying5) (by kernel_rfl) (by decide)) (by kernel_rfl)
theorem opens_bat26 : Opens Try.prog 25 rpBat :=
  opens_struct3 Try.underlying25 (opens_u64 Try.underlying22) (opens_u64 Try.underlying22) (opens_slice Try.underlying23 opens_ent26 (by kernel_rfl) (by decide)) (by kernel_rfl)
/-- A batch that was handed over. -/
theorem bat_open {w : World} {D : Dom} {x : Nat × Nat × List Ent} {cs : Array Value} (h : rpBat.ok w D x cs.toList) : ∃ A n c, cs = batV x.1 x.2.1 A n c ∧ rpEnt.sl w D A n c x.2.2 ∧ x.1 ≤ 18446744073709551615 ∧ x.2.1 ≤ 18446744073709551615 := by
  obtain ⟨xs, ys, h1, h2, us, vs, h3, h4, h5⟩ := h
  obtain ⟨A, c, rfl, hs⟩ := Rp.sl_form h5
  obtain ⟨e2, l2⟩ := h2
  obtain ⟨e4, l4⟩ := h4
  exact ⟨A, _, c, Array.ext' (by rw [h1, h3, e2, e4]; rfl), hs, by omega, by omega⟩
end Go.Proofs.Ytcbmnfjbmkpfiaa
/- PeekFinds: the walk, at arguments as they are opened. -/
namespace Go.Proofs.Ytcbmnfjbmkpfiaa
open Go.ChangeShapes Go.WideShapes Go.ChangeAt Go.RowKit
set_option linter.unusedVariables false
theorem peekFinds_law (cs0 : Array Value) (x0 : Nat × Nat × List Ent) (f t : Int) (w : World) (h0 : rpBat.ok w (lt w.heap.size) x0 cs0.toList) (hf0 : 0 ≤ f) (hf : f ≤ 18446744073709551615) (ht0 : 0 ≤ t) (ht : t ≤ 18446744073709551615) :
    Calls Try.prog 6 #[.agg cs0, .int .u64 f, .int .u64 t] w fun e w' => e = .returned (.bool true) ∧ Below w.heap.size w w' := by
  obtain ⟨A, n, c, rfl, hs, he, hb⟩ := bat_open h0
  obtain ⟨f, rfl⟩ := Int.eq_ofNat_of_zero_le hf0
  obtain ⟨t, rfl⟩ := Int.eq_ofNat_of_zero_le ht0
  exact peekFinds_any hs (fun _ h => h) he hb (by omega) (by omega)
end Go.Proofs.Ytcbmnfjbmkpfiaa
/-
  'tholepinlaw26.PeekFinds' returns true for every input, and each argument reads behind the call as it read before. No condition.
-/
namespace Go.Proofs.Ytcbmnfjbmkpfiaa.peekFinds
open Go.ChangeShapes Go.WideShapes Go.ChangeAt Go.RowKit
open Go.ChangeMaps (open_string shut_string)
set_option linter.unusedVariables false

theorem own : ownKnob Try.prog.godebug = none := by kernel_rfl
theorem laidOut : laidOutB Try.prog = true := by kernel_rfl

set_option maxRecDepth 100000 in
theorem lifted (os : Os) (started : os.Started) (H : Type) (enc : TypeId × Value → H) :
    ReturnsInHanded {} Try.checked os 6 .any (Rows.peekFindsSpec.pre6 enc Try.prog Try.f6 Rows.peekFindsRow.domain false) (Rows.peekFindsSpec.post enc Try.prog Try.f6 false true false false) := by
  refine returnsInHanded_of_change (C := Try.checked) own started (by kernel_rfl) Try.func6
    (ChangeSpec.witness6 (enc := enc) (C := Try.checked) false ⟨#[], #[.agg #[.int .u64 0, .int .u64 0, .slice none 0 0], .int .u64 0, .int .u64 0], []⟩ 8 (by kernel_rfl) (by kernel_rfl) (by kernel_rfl) (by kernel_rfl)) ?_
  intro W base args ds gs before hval0 hW hcnd _
  have hval : ∀ (j : Nat) t v, Try.f6.params[j]? = some t → args[j]? = some v → Value.okWide Try.prog W .any base t v := hval0
  have hW' := hW
  obtain ⟨p, q, hA0, hV, rfl, hfz, hnd⟩ := hW
  have hA : DataW.TrodAll enc Try.prog W 0 (fun _ => true) true Try.f6.params.toList args.toList ds p := hA0
  rw [Try.params6] at hA hval
  obtain ⟨v0, vs0, d0, ds0, p0, q0, hargs, rfl, rfl, h0, r0⟩ := trodAll_cons hA
  obtain ⟨v1, vs1, d1, ds1, p1, q1, rfl, rfl, rfl, h1, r1⟩ := trodAll_cons r0
  obtain ⟨v2, vs2, d2, ds2, p2, q2, rfl, rfl, rfl, h2, r2⟩ := trodAll_cons r1
  obtain ⟨rfl, rfl, rfl⟩ := trodAll_nil r2
  obtain rfl : args = #[v0, v1, v2] := by cases args; simp_all
  obtain ⟨rfl, rfl⟩ := trodVars_none hV
  have k0 := h0
  have lt0 : ∀ x ∈ p0, x.block < W.heap.size := by obtain ⟨m, hm⟩ := k0; exact DataW.trod_lt m _ _ _ hm
  obtain ⟨cs0, rfl, hsz0⟩ := okWide_struct Try.underlying25 (hval 0 25 v0 rfl rfl)
  obtain ⟨x0, w0⟩ : ∃ x, (rpBat).ok W (lt W.heap.size) x cs0.toList := by
    obtain ⟨fuel, hf⟩ := h0
    obtain ⟨x, hx⟩ := opens_bat26 H enc W _ fuel _ _ hf
    exact ⟨x, hx⟩
  have k1 := h1
  have lt1 : ∀ x ∈ p1, x.block < W.heap.size := by obtain ⟨m, hm⟩ := k1; exact DataW.trod_lt m _ _ _ hm
  obtain ⟨a1, rfl, rfl, rfl, w1⟩ := open_int Try.underlying22 (hval 1 22 v1 rfl rfl) h1
  have k2 := h2
  have lt2 : ∀ x ∈ p2, x.block < W.heap.size := by obtain ⟨m, hm⟩ := k2; exact DataW.trod_lt m _ _ _ hm
  obtain ⟨a2, rfl, rfl, rfl, w2⟩ := open_int Try.underlying22 (hval 2 22 v2 rfl rfl) h2
  clear hA0 hval0
  refine (peekFinds_law cs0 x0 a1 a2 W w0 (bounds_u64 w1).1 (bounds_u64 w1).2 (bounds_u64 w2).1 (bounds_u64 w2).2).mono fun e W' ⟨he, bel⟩ => ?_
  subst he
  exact ⟨_, rfl, _, _, _, [], _, [], hW', trodAll_mk1 (shut_bool Try.underlying4 _), (trodAll_cons_mk (Below.trod laidOut (by kernel_rfl) (of_decide_eq_true (by kernel_rfl)) k0 bel lt0) (trodAll_cons_mk (shut_int Try.underlying22 w1) (trodAll_cons_mk (shut_int Try.underlying22 w2) trodAll_mk0))), rfl, bel.frame _, fun h => by cases h⟩

theorem over : Rows.peekFindsRow.holds Try.pinned (OpenSpec.ofChange Rows.peekFindsSpec) :=
  OpenClaim.holds_of_wide 6 Try.f6 rfl rfl rfl rfl rfl rfl rfl ⟨rfl, rfl, rfl, rfl, rfl⟩ rfl rfl rfl rfl rfl (by kernel_rfl) Try.func6 (by kernel_rfl)
    (of_decide_eq_true (by kernel_rfl)) (by unfold Func.isWrapper; first | (rw [if_pos (by decide +kernel)]; kernel_rfl) | (rw [if_neg (by decide +kernel)]; exact ⟨rfl, rfl⟩))
    (fun os started H enc _ => lifted os started H enc)

theorem proved : Rows.PeekFindsSaid := over
#print axioms proved
end Go.Proofs.Ytcbmnfjbmkpfiaa.peekFinds
