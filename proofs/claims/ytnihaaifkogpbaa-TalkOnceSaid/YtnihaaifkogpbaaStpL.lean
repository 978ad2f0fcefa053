/- The example of chapter 19's laws. -/
import Derived.Test.YtnihaaifkogpbaaStp5
namespace Go.Proofs.Ytnihaaifkogpbaa
open Go.ChangeShapes Go.WideShapes Go.ChangeAt Go.RowKit
set_option linter.unusedVariables false
theorem Rp.sl_block {α : Type} {r : Rp α} (hsz : r.size = 1) {w : World} {g : Nat} {t : TypeId} {cs : Array Value} (hb : Blk w g t cs) {D : Dom} (hg : D g) {l : List α} {n : Nat} (hn : l.length = n) (hm : n ≤ maxLen)
    (hrow : ∀ (i : Nat) x, l[i]? = some x → ∃ v, cs[i]? = some v ∧ r.ok w D x [v]) : r.sl w D (some ⟨g, 0, none⟩) n n l := by
  subst hn
  refine ⟨_, _, rfl, Nat.le_refl _, hm, fun _ => ⟨g, 0, rfl, hg, fun i x hx => ?_⟩⟩
  obtain ⟨v, hv, hok⟩ := hrow i x hx
  refine ⟨[v], hok, fun j u hu => ?_⟩
  have hj : j = 0 := by
    rcases Nat.eq_zero_or_pos j with h0 | h0
    · exact h0
    · rw [List.getElem?_eq_none (by simp; omega)] at hu; cases hu
  subst hj
  simp only [List.getElem?_cons_zero, Option.some.injEq] at hu
  subst hu
  rw [hsz]
  have := hb.cell (0 + i * 1 + 0)
  rw [this]
  simpa using hv
theorem sOk_ten : SOk (10, 17, [[1, 2], [5]]) := by
  refine ⟨by decide, by decide, by decide, by decide, fun i l hl => ?_⟩
  match i, hl with
  | 0, hl =>
    cases hl
    refine ⟨by decide, by decide, fun i a b ha hb => ?_, fun a ha => by cases ha; decide, fun j o hj => by omega⟩
    match i, ha, hb with
    | 0, ha, hb => cases ha; cases hb; decide
    | i + 1, ha, hb => simp at hb
  | 1, hl =>
    cases hl
    refine ⟨by decide, by decide, fun i a b ha hb => by simp at hb, fun a ha => by cases ha; decide, fun j o hj ho x hx => ?_⟩
    obtain rfl : j = 0 := by omega
    cases ho
    simp at hx ⊢
    omega
  | i + 2, hl => simp at hl
theorem Blk.newAt {w : World} {g : Nat} (h : w.heap.size = g) (t : TypeId) (cs : Array Value) : Blk (w.alloc (.cells cs t)) g t cs := h ▸ Blk.new w t cs
theorem size_alloc (w : World) (o : Obj) : (w.alloc o).heap.size = w.heap.size + 1 := by simp
theorem four_blks (w : World) (c1 c2 c3 c4 : Array Value) (t1 t2 t3 t4 : TypeId) :
    Blk ((((w.alloc (.cells c1 t1)).alloc (.cells c2 t2)).alloc (.cells c3 t3)).alloc (.cells c4 t4)) w.heap.size t1 c1 ∧ Blk ((((w.alloc (.cells c1 t1)).alloc (.cells c2 t2)).alloc (.cells c3 t3)).alloc (.cells c4 t4)) (w.heap.size + 1) t2 c2 ∧
    Blk ((((w.alloc (.cells c1 t1)).alloc (.cells c2 t2)).alloc (.cells c3 t3)).alloc (.cells c4 t4)) (w.heap.size + 1 + 1) t3 c3 ∧ Blk ((((w.alloc (.cells c1 t1)).alloc (.cells c2 t2)).alloc (.cells c3 t3)).alloc (.cells c4 t4)) (w.heap.size + 1 + 1 + 1) t4 c4 ∧
    Below w.heap.size w ((((w.alloc (.cells c1 t1)).alloc (.cells c2 t2)).alloc (.cells c3 t3)).alloc (.cells c4 t4)) ∧ ((((w.alloc (.cells c1 t1)).alloc (.cells c2 t2)).alloc (.cells c3 t3)).alloc (.cells c4 t4)).heap.size = w.heap.size + 4 := by
  refine ⟨(((Blk.newAt rfl t1 c1).alloc _).alloc _).alloc _, ((Blk.newAt (size_alloc _ _) t2 c2).alloc _).alloc _, (Blk.newAt (by rw [size_alloc, size_alloc]) t3 c3).alloc _, Blk.newAt (by rw [size_alloc, size_alloc, size_alloc]) t4 c4, ?_, by rw [size_alloc, size_alloc, size_alloc, size_alloc]⟩
  exact ((((Below.refl _ w).alloc (Nat.le_refl _) _).alloc (by simp) _).alloc (by simp; omega) _).alloc (by simp; omega) _
theorem u64_ok (w : World) (D : Dom) (x : Nat) (h : x < 18446744073709551616) : rpU64.ok w D x [.int .u64 (x : Int)] := ⟨rfl, h⟩
end Go.Proofs.Ytnihaaifkogpbaa
