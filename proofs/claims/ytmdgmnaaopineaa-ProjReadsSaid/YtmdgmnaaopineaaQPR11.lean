/-
  'tholepinlaw20.ProjReads' returns true for every input, and each argument reads behind the call as it read before. No condition.
-/
import Derived.Deep.Slices
import Derived.Deep.Fields
import Derived.ChangeOld
import Derived.OpenShut
import Derived.ShutString
import Derived.Test.YtmdgmnaaopineaaRows
import Derived.Test.YtmdgmnaaopineaaQPR10
/- How a law's arguments open: from the reading of a value of Go to plain data. -/
namespace Go.Proofs.Ytmdgmnaaopineaa
open Go.RowKit Go.ChangeShapes Go.WideShapes Go.Deep

def Opens {α : Type} (P : Program) (T : TypeId) (r : Rp α) : Prop :=
  ∀ (H : Type) (enc : TypeId × Value → H) (w : World) (held : Bool) (fuel : Nat) (cs : List Value) (x : DataW H × List MemPlace),
    DataW.trod enc P w 0 (fun _ => true) held fuel T cs = some x → ∃ a, r.ok w (lt w.heap.size) a cs

section
variable {P : Program} {T : TypeId} {α β γ δ : Type}
theorem opens_u8 (ht : P.underlying T = some (.int .u8)) : Opens P T rpU8 := fun H enc w held fuel cs x h => by
  obtain ⟨n, rfl, _, hw⟩ := DataW.trod_int ht h
  obtain ⟨h0, h1⟩ := bounds_u8 hw
  obtain ⟨u, rfl⟩ := byte_of (v := n) h0 (by omega)
  exact ⟨u, rfl⟩
theorem opens_u64 (ht : P.underlying T = some (.int .u64)) : Opens P T rpU64 := fun H enc w held fuel cs x h => by
  obtain ⟨n, rfl, _, hw⟩ := DataW.trod_int ht h
  obtain ⟨h0, h1⟩ := bounds_u64 hw
  exact ⟨n.toNat, by rw [Int.toNat_of_nonneg h0], by omega⟩
theorem opens_int (ht : P.underlying T = some (.int .i64)) : Opens P T rpInt := fun H enc w held fuel cs x h => by
  obtain ⟨n, rfl, _, hw⟩ := DataW.trod_int ht h
  obtain ⟨h0, h1⟩ := bounds_i64 hw
  exact ⟨n, rfl, h0, by omega⟩
theorem opens_bool (ht : P.underlying T = some .bool) : Opens P T rpBool := fun H enc w held fuel cs x h => by
  obtain ⟨b, rfl, _⟩ := DataW.trod_bool ht h
  exact ⟨b, rfl⟩
theorem opens_slice {e : TypeId} {r : Rp α} (ht : P.underlying T = some (.slice e)) (he : Opens P e r) (hc : P.cellsOf e = r.size) (hs : 0 < r.size) : Opens P T (rpSlice r) := fun H enc w held fuel cs x h => by
  rcases open_slice ht h with ⟨rfl, _⟩ | ⟨a, len, cap, m, n, D, Pl, rfl, _, hl, hm, hmm, _, hi⟩
  · exact ⟨[], none, 0, rfl, Nat.zero_le _, by decide, fun h => absurd h (by simp)⟩
  · have hex : ∀ i, i < len → ∃ y : α, ∃ cs', r.ok w (lt w.heap.size) y cs' ∧ ∀ j u, cs'[j]? = some u → w.cell? (a.add (i * r.size + j)) = some u := by
      intro i hil
      obtain ⟨cs', hcs, htr⟩ := hi i (by rw [hmm]; simp; omega)
      obtain ⟨y, hy⟩ := he H enc w held n cs' _ htr
      obtain ⟨_, hlen, hat⟩ := World.cells?_some hcs
      refine ⟨y, cs', hy, fun j u hu => ?_⟩
      have hj : j < P.cellsOf e := by rw [← hlen]; exact (List.getElem?_eq_some_iff.1 hu).1
      have := hat j hj
      rw [hc, Go.Deep.add_add] at this
      rw [this]; exact hu
    have hchoose : ∀ k, k ≤ len → ∃ l : List α, l.length = k ∧ ∀ (i : Nat) (y : α), l[i]? = some y → ∃ cs', r.ok w (lt w.heap.size) y cs' ∧ ∀ j u, cs'[j]? = some u → w.cell? (a.add (i * r.size + j)) = some u := by
      intro k
      induction k with
      | zero => exact fun _ => ⟨[], rfl, fun i y h => by simp at h⟩
      | succ k ih =>
        intro hk
        obtain ⟨l, hll, hg⟩ := ih (by omega)
        obtain ⟨y, cs', hy, hcell⟩ := hex k (by omega)
        refine ⟨l ++ [y], by simp [hll], fun i z hz => ?_⟩
        rcases Nat.lt_trichotomy i k with hik | hik | hik
        · exact hg i z (by rwa [List.getElem?_append_left (by omega)] at hz)
        · subst hik
          rw [List.getElem?_append_right (by omega), hll, Nat.sub_self] at hz
          simp only [List.getElem?_cons_zero, Option.some.injEq] at hz
          subst hz
          exact ⟨cs', hy, hcell⟩
        · rw [List.getElem?_eq_none (by simp; omega)] at hz; cases hz
    obtain ⟨l, hll, hg⟩ := hchoose len (Nat.le_refl _)
    refine ⟨l, some a, cap, by rw [hll], by omega, hm, fun hp => ?_⟩
    obtain ⟨cs0, hok, hc0⟩ := hg 0 l[0] (List.getElem?_eq_getElem hp)
    have hcs0 : 0 < cs0.length := by rw [r.len hok]; exact hs
    have hcell := hc0 0 cs0[0] (List.getElem?_eq_getElem hcs0)
    have hsp : (a.add (0 * r.size + 0)) = a := by simp [Addr.add]
    rw [hsp] at hcell
    have hspot : a.spot = none := World.cell?_spot hcell
    obtain ⟨b, off, spot⟩ := a
    subst hspot
    refine ⟨b, off, rfl, World.block_lt_of_cell? w _ hcell, fun i y hy => ?_⟩
    obtain ⟨cs', hok', hcc⟩ := hg i y hy
    refine ⟨cs', hok', fun j u hu => ?_⟩
    have := hcc j u hu
    have hplain : (⟨b, off, none⟩ : Addr).add (i * r.size + j) = ⟨b, off + i * r.size + j, none⟩ := by
      unfold Addr.add; split
      · simp
      · simp; omega
    rwa [hplain] at this
theorem opens_via (f : β → α) {r : Rp α} (h : Opens P T r) (g : α → β) (hg : ∀ a, f (g a) = a) : Opens P T (rpVia f r) := fun H enc w held fuel cs x hx => by
  obtain ⟨a, ha⟩ := h H enc w held fuel cs x hx
  exact ⟨g a, by show r.ok _ _ (f (g a)) _; rw [hg]; exact ha⟩
theorem opens_struct2 {r : Rp α} {s : Rp β} {f0 f1 : Field} (ht : P.underlying T = some (.struct #[f0, f1])) (h0 : Opens P f0.type r) (h1 : Opens P f1.type s)
    (hc : (f0.offset, P.cellsOf f0.type, f1.offset, P.cellsOf f1.type, P.cellsOf T) = (0, r.size, r.size, s.size, r.size + s.size)) : Opens P T (rpPair r s) := fun H enc w held fuel cs x h => by
  obtain ⟨xs, n, _, _, hlen, hxl, hf⟩ := DataW.trod_struct ht h
  simp only [Prod.mk.injEq] at hc
  obtain ⟨c0, c1, c2, c3, c4⟩ := hc
  have g0 := hf 0 f0 rfl
  have g1 := hf 1 f1 rfl
  have hxl' : xs.length = 2 := by simpa using hxl
  rw [List.getElem?_eq_getElem (by omega)] at g0 g1
  rw [c0, c1, List.drop_zero] at g0
  rw [c2, c3] at g1
  obtain ⟨a, ha⟩ := h0 H enc w held n _ _ g0
  obtain ⟨b, hb⟩ := h1 H enc w held n _ _ g1
  refine ⟨(a, b), _, _, ?_, ha, hb⟩
  rw [List.take_of_length_le (l := List.drop r.size cs) (by rw [List.length_drop]; omega), List.take_append_drop]
end
end Go.Proofs.Ytmdgmnaaopineaa
/- Opening a struct of four fields. -/
namespace Go.Proofs.Ytmdgmnaaopineaa
open Go.ChangeShapes Go.WideShapes Go.ChangeAt Go.RowKit
set_option linter.unusedVariables false
section
variable {P : Program} {T : TypeId} {α β γ δ : Type}
theorem opens_struct4 {r : Rp α} {s : Rp β} {t : Rp γ} {u : Rp δ} {f0 f1 f2 f3 : Field} (ht : P.underlying T = some (.struct #[f0, f1, f2, f3])) (h0 : Opens P f0.type r) (h1 : Opens P f1.type s) (h2 : Opens P f2.type t) (h3 : Opens P f3.type u)
    (hc : (f0.offset, P.cellsOf f0.type, f1.offset, P.cellsOf f1.type, f2.offset, P.cellsOf f2.type, f3.offset, P.cellsOf f3.type, P.cellsOf T) = (0, r.size, r.size, s.size, r.size + s.size, t.size, r.size + s.size + t.size, u.size, r.size + s.size + t.size + u.size)) : Opens P T (rpPair r (rpPair s (rpPair t u))) := fun H enc w held fuel cs x h => by
  obtain ⟨xs, n, _, _, hlen, hxl, hf⟩ := DataW.trod_struct ht h
  simp only [Prod.mk.injEq] at hc
  obtain ⟨c0, c1, c2, c3, c4, c5, c6, c7, c8⟩ := hc
  have g0 := hf 0 f0 rfl
  have g1 := hf 1 f1 rfl
  have g2 := hf 2 f2 rfl
  have g3 := hf 3 f3 rfl
  have hxl' : xs.length = 4 := by simpa using hxl
  rw [List.getElem?_eq_getElem (by omega)] at g0 g1 g2 g3
  rw [c0, c1, List.drop_zero] at g0
  rw [c2, c3] at g1
  rw [c4, c5] at g2
  rw [c6, c7] at g3
  obtain ⟨a, ha⟩ := h0 H enc w held n _ _ g0
  obtain ⟨b, hb⟩ := h1 H enc w held n _ _ g1
  obtain ⟨c, hcc⟩ := h2 H enc w held n _ _ g2
  obtain ⟨d, hd⟩ := h3 H enc w held n _ _ g3
  refine ⟨(a, b, c, d), _, _, ?_, ha, _, _, rfl, hb, _, _, rfl, hcc, hd⟩
  rw [List.take_of_length_le (l := List.drop (r.size + s.size + t.size) cs) (by rw [List.length_drop]; omega)]
  simp only [← List.drop_drop, List.take_append_drop]
theorem opens_struct3 {r : Rp α} {s : Rp β} {t : Rp γ} {f0 f1 f2 : Field} (ht : P.underlying T = some (.struct #[f0, f1, f2])) (h0 : Opens P f0.type r) (h1 : Opens P f1.type s) (h2 : Opens P f2.type t)
    (hc : (f0.offset, P.cellsOf f0.type, f1.offset, P.cellsOf f1.type, f2.offset, P.cellsOf f2.type, P.cellsOf T) = (0, r.size, r.size, s.size, r.size + s.size, t.size, r.size + s.size + t.size)) : Opens P T (rpPair r (rpPair s t)) := fun H enc w held fuel cs x h => by
  obtain ⟨xs, n, _, _, hlen, hxl, hf⟩ := DataW.trod_struct ht h
  simp only [Prod.mk.injEq] at hc
  obtain ⟨c0, c1, c2, c3, c4, c5, c6⟩ := hc
  have g0 := hf 0 f0 rfl
  have g1 := hf 1 f1 rfl
  have g2 := hf 2 f2 rfl
  have hxl' : xs.length = 3 := by simpa using hxl
  rw [List.getElem?_eq_getElem (by omega)] at g0 g1 g2
  rw [c0, c1, List.drop_zero] at g0
  rw [c2, c3] at g1
  rw [c4, c5] at g2
  obtain ⟨a, ha⟩ := h0 H enc w held n _ _ g0
  obtain ⟨b, hb⟩ := h1 H enc w held n _ _ g1
  obtain ⟨c, hcc⟩ := h2 H enc w held n _ _ g2
  refine ⟨(a, b, c), _, _, ?_, ha, _, _, rfl, hb, hcc⟩
  rw [List.take_of_length_le (l := List.drop (r.size + s.size) cs) (by rw [List.length_drop]; omega)]
  simp only [← List.drop_drop, List.take_append_drop]
end
end Go.Proofs.Ytmdgmnaaopineaa
/-
  'tholepinlaw20.ProjReads' returns true for every input, and each argument reads behind the call as it read before. No condition.
-/
namespace Go.Proofs.Ytmdgmnaaopineaa.projReads
open Go.ChangeShapes Go.WideShapes Go.ChangeAt Go.RowKit
open Go.ChangeMaps (open_string shut_string)
set_option linter.unusedVariables false

theorem own : ownKnob Try.prog.godebug = none := by kernel_rfl
theorem laidOut : laidOutB Try.prog = true := by kernel_rfl

set_option maxRecDepth 100000 in
theorem lifted (os : Os) (started : os.Started) (H : Type) (enc : TypeId × Value → H) :
    ReturnsInHanded {} Try.checked os 10 .any (Rows.projReadsSpec.pre6 enc Try.prog Try.f10 Rows.projReadsRow.domain false) (Rows.projReadsSpec.post enc Try.prog Try.f10 false true false false) := by
  refine returnsInHanded_of_change (C := Try.checked) own started (by kernel_rfl) Try.func10
    (ChangeSpec.witness6 (enc := enc) (C := Try.checked) false ⟨#[], #[.slice none 0 0], []⟩ 8 (by kernel_rfl) (by kernel_rfl) (by kernel_rfl) (by kernel_rfl)) ?_
  intro W base args ds gs before hval0 hW hcnd _
  have hval : ∀ (j : Nat) t v, Try.f10.params[j]? = some t → args[j]? = some v → Value.okWide Try.prog W .any base t v := hval0
  have hW' := hW
  obtain ⟨p, q, hA0, hV, rfl, hfz, hnd⟩ := hW
  have hA : DataW.TrodAll enc Try.prog W 0 (fun _ => true) true Try.f10.params.toList args.toList ds p := hA0
  rw [Try.params10] at hA hval
  obtain ⟨v0, vs0, d0, ds0, p0, q0, hargs, rfl, rfl, h0, r0⟩ := trodAll_cons hA
  obtain ⟨rfl, rfl, rfl⟩ := trodAll_nil r0
  obtain rfl : args = #[v0] := by cases args; simp_all
  obtain ⟨rfl, rfl⟩ := trodVars_none hV
  have k0 := h0
  have lt0 : ∀ x ∈ p0, x.block < W.heap.size := by obtain ⟨m, hm⟩ := k0; exact DataW.trod_lt m _ _ _ hm
  obtain ⟨a0, len0, cap0, rfl⟩ := okWide_slice Try.underlying36 (hval 0 36 v0 rfl rfl)
  obtain ⟨l0, w0⟩ : ∃ l, (rpU8).sl W (lt W.heap.size) a0 len0 cap0 l := by
    obtain ⟨fuel, hf⟩ := h0
    obtain ⟨l, hl⟩ := (opens_slice Try.underlying36 (opens_u8 Try.underlying5) (by kernel_rfl) (by decide)) H enc W _ fuel _ _ hf
    exact ⟨l, hl⟩
  clear hA0 hval0
  refine (projReads_any a0 len0 cap0 l0 W w0).mono fun e W' ⟨he, bel⟩ => ?_
  subst he
  exact ⟨_, rfl, _, _, _, [], _, [], hW', trodAll_mk1 (shut_bool Try.underlying4 _), (trodAll_cons_mk (Below.trod laidOut (by kernel_rfl) (of_decide_eq_true (by kernel_rfl)) k0 bel lt0) trodAll_mk0), rfl, bel.frame _, fun h => by cases h⟩

theorem over : Rows.projReadsRow.holds Try.pinned (OpenSpec.ofChange Rows.projReadsSpec) :=
  OpenClaim.holds_of_wide 10 Try.f10 rfl rfl rfl rfl rfl rfl rfl ⟨rfl, rfl, rfl, rfl, rfl⟩ rfl rfl rfl rfl rfl (by kernel_rfl) Try.func10 (by kernel_rfl)
    (of_decide_eq_true (by kernel_rfl)) (by unfold Func.isWrapper; first | (rw [if_pos (by decide +kernel)]; kernel_rfl) | (rw [if_neg (by decide +kernel)]; exact ⟨rfl, rfl⟩))
    (fun os started H enc _ => lifted os started H enc)

theorem proved : Rows.ProjReadsSaid := over
#print axioms proved
end Go.Proofs.Ytmdgmnaaopineaa.projReads
