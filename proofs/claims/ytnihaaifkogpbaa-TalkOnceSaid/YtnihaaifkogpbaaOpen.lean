/- How a law's arguments open: from the reading of a value of Go to plain data. -/
import Derived.Test.YtnihaaifkogpbaaCore
import Derived.Deep.Slices
import Derived.Deep.Fields
import Derived.ChangeOld
import Derived.OpenShut
import Derived.ShutString
namespace Go.Proofs.Ytnihaaifkogpbaa
open Go.RowKit Go.ChangeShapes Go.WideShapes Go.Deep

def Opens {α : Type} (P : Program) (T : TypeId) (r : Rp α) : Prop :=
  ∀ (H : Type) (enc : TypeId × Value → H) (w : World) (held : Bool) (fuel : Nat) (cs : List Value) (x : DataW H × List MemPlace),
    DataW.trod enc P w 0 (fun _ => true) held fuel T cs = some x → ∃ a, r.ok w (lt w.heap.size) a cs

section
variable {P : Program} {T : TypeId} {α β γ δ : Type}
theorem opens_u8 (ht : P.underlying T = some (.int .u8)) : Opens P T rpU8 := fun H enc w held fuel cs x h => by
  obtain ⟨n, rfl, _, hw⟩ := DataW.trod_int ht h
  obtain ⟨h0, h1⟩ := bounds_u8 hw
  obtain ⟨u, rfl⟩ := byte_of (v := n) h0 (by omega)
  exact ⟨u, rfl⟩
theorem opens_u64 (ht : P.underlying T = some (.int .u64)) : Opens P T rpU64 := fun H enc w held fuel cs x h => by
  obtain ⟨n, rfl, _, hw⟩ := DataW.trod_int ht h
  obtain ⟨h0, h1⟩ := bounds_u64 hw
  exact ⟨n.toNat, by rw [Int.toNat_of_nonneg h0], by omega⟩
theorem opens_int (ht : P.underlying T = some (.int .i64)) : Opens P T rpInt := fun H enc w held fuel cs x h => by
  obtain ⟨n, rfl, _, hw⟩ := DataW.trod_int ht h
  obtain ⟨h0, h1⟩ := bounds_i64 hw
  exact ⟨n, rfl, h0, by omega⟩
theorem opens_bool (ht : P.underlying T = some .bool) : Opens P T rpBool := fun H enc w held fuel cs x h => by
  obtain ⟨b, rfl, _⟩ := DataW.trod_bool ht h
  exact ⟨b, rfl⟩
theorem opens_slice {e : TypeId} {r : Rp α} (ht : P.underlying T = some (.slice e)) (he : Opens P e r) (hc : P.cellsOf e = r.size) (hs : 0 < r.size) : Opens P T (rpSlice r) := fun H enc w held fuel cs x h => by
  rcases open_slice ht h with ⟨rfl, _⟩ | ⟨a, len, cap, m, n, D, Pl, rfl, _, hl, hm, hmm, _, hi⟩
  · exact ⟨[], none, 0, rfl, Nat.zero_le _, by decide, fun h => absurd h (by simp)⟩
  · have hex : ∀ i, i < len → ∃ y : α, ∃ cs', r.ok w (lt w.heap.size) y cs' ∧ ∀ j u, cs'[j]? = some u → w.cell? (a.add (i * r.size + j)) = some u := by
      intro i hil
      obtain ⟨cs', hcs, htr⟩ := hi i (by rw [hmm]; simp; omega)
      obtain ⟨y, hy⟩ := he H enc w held n cs' _ htr
      obtain ⟨_, hlen, hat⟩ := World.cells?_some hcs
      refine ⟨y, cs', hy, fun j u hu => ?_⟩
      have hj : j < P.cellsOf e := by rw [← hlen]; exact (List.getElem?_eq_some_iff.1 hu).1
      have := hat j hj
      rw [hc, Go.Deep.add_add] at this
      rw [this]; exact hu
    have hchoose : ∀ k, k ≤ len → ∃ l : List α, l.length = k ∧ ∀ (i : Nat) (y : α), l[i]? = some y → ∃ cs', r.ok w (lt w.heap.size) y cs' ∧ ∀ j u, cs'[j]? = some u → w.cell? (a.add (i * r.size + j)) = some u := by
      intro k
      induction k with
      | zero => exact fun _ => ⟨[], rfl, fun i y h => by simp at h⟩
      | succ k ih =>
        intro hk
        obtain ⟨l, hll, hg⟩ := ih (by omega)
        obtain ⟨y, cs', hy, hcell⟩ := hex k (by omega)
        refine ⟨l ++ [y], by simp [hll], fun i z hz => ?_⟩
        rcases Nat.lt_trichotomy i k with hik | hik | hik
        · exact hg i z (by rwa [List.getElem?_append_left (by omega)] at hz)
        · subst hik
          rw [List.getElem?_append_right (by omega), hll, Nat.sub_self] at hz
          simp only [List.getElem?_cons_zero, Option.some.injEq] at hz
          subst hz
          exact ⟨cs', hy, hcell⟩
        · rw [List.getElem?_eq_none (by simp; omega)] at hz; cases hz
    obtain ⟨l, hll, hg⟩ := hchoose len (Nat.le_refl _)
    refine ⟨l, some a, cap, by rw [hll], by omega, hm, fun hp => ?_⟩
    obtain ⟨cs0, hok, hc0⟩ := hg 0 l[0] (List.getElem?_eq_getElem hp)
    have hcs0 : 0 < cs0.length := by rw [r.len hok]; exact hs
    have hcell := hc0 0 cs0[0] (List.getElem?_eq_getElem hcs0)
    have hsp : (a.add (0 * r.size + 0)) = a := by simp [Addr.add]
    rw [hsp] at hcell
    have hspot : a.spot = none := World.cell?_spot hcell
    obtain ⟨b, off, spot⟩ := a
    subst hspot
    refine ⟨b, off, rfl, World.block_lt_of_cell? w _ hcell, fun i y hy => ?_⟩
    obtain ⟨cs', hok', hcc⟩ := hg i y hy
    refine ⟨cs', hok', fun j u hu => ?_⟩
    have := hcc j u hu
    have hplain : (⟨b, off, none⟩ : Addr).add (i * r.size + j) = ⟨b, off + i * r.size + j, none⟩ := by
      unfold Addr.add; split
      · simp
      · simp; omega
    rwa [hplain] at this
theorem opens_via (f : β → α) {r : Rp α} (h : Opens P T r) (g : α → β) (hg : ∀ a, f (g a) = a) : Opens P T (rpVia f r) := fun H enc w held fuel cs x hx => by
  obtain ⟨a, ha⟩ := h H enc w held fuel cs x hx
  exact ⟨g a, by show r.ok _ _ (f (g a)) _; rw [hg]; exact ha⟩
theorem opens_struct2 {r : Rp α} {s : Rp β} {f0 f1 : Field} (ht : P.underlying T = some (.struct #[f0, f1])) (h0 : Opens P f0.type r) (h1 : Opens P f1.type s)
    (hc : (f0.offset, P.cellsOf f0.type, f1.offset, P.cellsOf f1.type, P.cellsOf T) = (0, r.size, r.size, s.size, r.size + s.size)) : Opens P T (rpPair r s) := fun H enc w held fuel cs x h => by
  obtain ⟨xs, n, _, _, hlen, hxl, hf⟩ := DataW.trod_struct ht h
  simp only [Prod.mk.injEq] at hc
  obtain ⟨c0, c1, c2, c3, c4⟩ := hc
  have g0 := hf 0 f0 rfl
  have g1 := hf 1 f1 rfl
  have hxl' : xs.length = 2 := by simpa using hxl
  rw [List.getElem?_eq_getElem (by omega)] at g0 g1
  rw [c0, c1, List.drop_zero] at g0
  rw [c2, c3] at g1
  obtain ⟨a, ha⟩ := h0 H enc w held n _ _ g0
  obtain ⟨b, hb⟩ := h1 H enc w held n _ _ g1
  refine ⟨(a, b), _, _, ?_, ha, hb⟩
  rw [List.take_of_length_le (l := List.drop r.size cs) (by rw [List.length_drop]; omega), List.take_append_drop]
end
end Go.Proofs.Ytnihaaifkogpbaa
