/- A list that the call has made itself, of elements that lead on to other memory: it lies in a row of its own, what its elements lead to lies in blocks of other types, or is older. -/
import Derived.Test.YtnihaaifkogpbaaCore
namespace Go.Proofs.Ytnihaaifkogpbaa
open Go.RowKit
set_option linter.unusedVariables false
/-- Blocks of some types, and some more. -/
def Tb (TS : TypeId → Prop) (D0 : Dom) (w : World) : Dom := fun k => k < w.heap.size ∧ (D0 k ∨ ∃ cs t, w.heap[k]? = some (.cells cs t (0, 0)) ∧ TS t)
def OL {α : Type} (r : Rp α) (TS : TypeId → Prop) (D0 : Dom) (e : TypeId) (w : World) (base : Nat) (A : Option Addr) (n c : Nat) (l : List α) : Prop :=
  ∃ vals : List Value, w.ownsRow base e r.size (.slice A n c) n vals ∧ l.length = n ∧ ∀ (i : Nat) x, l[i]? = some x → ∃ cs, r.ok w (Tb TS D0 w) x cs ∧ ∀ (j : Nat) u, cs[j]? = some u → vals[i * r.size + j]? = some u
section
variable {α : Type} {r : Rp α} {TS : TypeId → Prop} {D0 D1 : Dom} {e : TypeId} {w w' : World} {base n c g : Nat} {A : Option Addr} {l : List α}
theorem OL.nil (r : Rp α) (TS : TypeId → Prop) (D0 : Dom) (e : TypeId) (w : World) (base : Nat) : OL r TS D0 e w base none 0 0 [] := ⟨[], World.ownsRow_nil _ _ _ _, rfl, fun i x h => by simp at h⟩
theorem OL.len (h : OL r TS D0 e w base A n c l) : l.length = n := by obtain ⟨_, _, hn, _⟩ := h; exact hn
theorem Tb.keep (hs : ∀ k, Tb TS D0 w k → w'.heap[k]? = w.heap[k]?) (hz : w.heap.size ≤ w'.heap.size) {k : Nat} (hk : Tb TS D0 w k) : Tb TS D0 w' k := by
  refine ⟨Nat.lt_of_lt_of_le hk.1 hz, ?_⟩
  rcases hk.2 with h | ⟨cs, t, h, ht⟩
  · exact .inl h
  · exact .inr ⟨cs, t, (hs k hk).trans h, ht⟩
theorem OL.more (h : OL r TS D0 e w base A n c l) (hD : ∀ k, D0 k → D1 k) : OL r TS D1 e w base A n c l := by
  obtain ⟨vals, ho, hn, hi⟩ := h
  refine ⟨vals, ho, hn, fun i x hx => ?_⟩
  obtain ⟨cs, hok, hc⟩ := hi i x hx
  exact ⟨cs, r.more hok (fun k hk => ⟨hk.1, hk.2.imp (hD k) id⟩), hc⟩
theorem OL.mono {base' : Nat} (h : OL r TS D0 e w base A n c l) (hb : base' ≤ base) : OL r TS D0 e w base' A n c l := by
  obtain ⟨vals, ho, hn, hi⟩ := h
  refine ⟨vals, ⟨ho.1, ?_⟩, hn, hi⟩
  rcases ho.2 with h0 | ⟨g, cap, cur, hv, hg, hr⟩
  · exact .inl h0
  · exact .inr ⟨g, cap, cur, hv, Nat.le_trans hb hg, hr⟩
/-- An element's reading stays. -/
theorem ok_same {x : α} {cs : List Value} (h : r.ok w (Tb TS D0 w) x cs) (hs : ∀ k, Tb TS D0 w k → w'.heap[k]? = w.heap[k]?) (hz : w.heap.size ≤ w'.heap.size) : r.ok w' (Tb TS D0 w') x cs :=
  r.more (r.keep h (fun k hk => hs k hk)) (fun k hk => Tb.keep hs hz hk)
theorem OL.same (h : OL r TS D0 e w base A n c l) (hs : ∀ k, Tb TS D0 w k → w'.heap[k]? = w.heap[k]?) (hr : ∀ k cs, base ≤ k → w.heap[k]? = some (.cells cs e (0, 0)) → w'.heap[k]? = w.heap[k]?) (hz : w.heap.size ≤ w'.heap.size) : OL r TS D0 e w' base A n c l := by
  obtain ⟨vals, ho, hn, hi⟩ := h
  refine ⟨vals, ⟨ho.1, ?_⟩, hn, fun i x hx => ?_⟩
  · rcases ho.2 with h0 | ⟨g, cap, cur, hv, hg, hh, hrr⟩
    · exact .inl h0
    · exact .inr ⟨g, cap, cur, hv, hg, (hr g cur hg hh).trans hh, hrr⟩
  · obtain ⟨cs, hok, hc⟩ := hi i x hx
    exact ⟨cs, ok_same hok hs hz, hc⟩
theorem OL.below (h : OL r TS D0 e w base A n c l) (hb : Below w.heap.size w w') : OL r TS D0 e w' base A n c l :=
  h.same (fun k hk => hb.block k hk.1) (fun k cs _ hk => hb.block k (Array.getElem?_eq_some_iff.1 hk).1) hb.size
theorem OL.chg {F : Dom} (h : OL r TS D0 e w base A n c l) (hc : Chg F w w') (hF : ∀ k, F k → k < w.heap.size → ¬ D0 k ∧ ∀ cs t, w.heap[k]? = some (.cells cs t (0, 0)) → ¬ TS t ∧ t ≠ e) : OL r TS D0 e w' base A n c l :=
  h.same (fun k hk => hc.block k hk.1 (fun hf => by
    obtain ⟨h1, h2⟩ := hF k hf hk.1
    rcases hk.2 with h | ⟨cs, t, h, ht⟩
    · exact h1 h
    · exact (h2 cs t h).1 ht)) (fun k cs _ hk => hc.block k (Array.getElem?_eq_some_iff.1 hk).1 (fun hf => (((hF k hf (Array.getElem?_eq_some_iff.1 hk).1).2 cs e hk).2 rfl))) hc.size
theorem blk_type {t t' : TypeId} {cs cs' : Array Value} (hb : Blk w g t cs) (h : w.heap[g]? = some (.cells cs' t' (0, 0))) : t' = t := by
  have h2 := h.symm.trans hb
  injection h2 with h2
  injection h2
/-- A store into a block of another type. -/
theorem OL.put {t : TypeId} {cs : Array Value} (h : OL r TS D0 e w base A n c l) (hb : Blk w g t cs) (hg : ¬ D0 g) (ht : ¬ TS t) (ht2 : t ≠ e) {a : Addr} (ha : a.block = g) (u : Value) : OL r TS D0 e (w.setCell a u) base A n c l :=
  h.chg (F := fun k => k = g) ((Chg.refl _ _).setCell (.inl ha) u) (fun k hk _ => by
    subst hk
    refine ⟨hg, fun cs' t' h' => ?_⟩
    obtain rfl := blk_type hb h'
    exact ⟨ht, ht2⟩)
theorem OL.grown {t : TypeId} {cs : Array Value} (h : OL r TS D0 e w base A n c l) (hb : Blk w g t cs) (hg : ¬ D0 g) (ht : ¬ TS t) (ht2 : t ≠ e) (hgr : w.grownBy w' (some g)) : OL r TS D0 e w' base A n c l :=
  h.chg (F := fun k => k = g) ((Chg.of_grown hgr).more (fun k _ hk => by injection hk)) (fun k hk _ => by
    subst hk
    refine ⟨hg, fun cs' t' h' => ?_⟩
    obtain rfl := blk_type hb h'
    exact ⟨ht, ht2⟩)
/-- What is no block of the row itself stays behind an append. -/
theorem tb_grown (ho : ∃ xs sz v m, v = Value.slice A n c ∧ w.ownsRow base e sz v m xs) (hTe : ¬ TS e) (h0 : ∀ k, D0 k → k < base) (hg : w.grownBy w' (Value.slice A n c).ownBlock) : ∀ k, Tb TS D0 w k → w'.heap[k]? = w.heap[k]? := by
  obtain ⟨xs, sz, v, m, rfl, ho⟩ := ho
  intro k hk
  refine hg.block k hk.1 (fun he => ?_)
  rcases ho.2 with ⟨hv, _⟩ | ⟨g, cap, cur, hv, hbg, hh, _⟩
  · rw [hv] at he; cases he
  · rw [hv] at he
    simp only [Value.ownBlock, Option.some.injEq] at he
    subst he
    rcases hk.2 with h | ⟨cs, t, h, ht⟩
    · have := h0 k h; omega
    · obtain rfl := blk_type (w := w) hh h
      exact hTe ht
/-- One element more. -/
theorem OL.push (h : OL r TS D0 e w base A n c l) {vals : List Value} (ho : w.ownsRow base e r.size (.slice A n c) n vals) (hvals : ∀ (i : Nat) x, l[i]? = some x → ∃ cs, r.ok w (Tb TS D0 w) x cs ∧ ∀ (j : Nat) u, cs[j]? = some u → vals[i * r.size + j]? = some u)
    (hTe : ¬ TS e) (h0 : ∀ k, D0 k → k < base) {w3 : World} {A3 : Option Addr} {c3 : Nat} {x : α} {cs : List Value} (ho3 : w3.ownsRow base e r.size (.slice A3 (n + 1) c3) (n + 1) (vals ++ cs)) (hg : w.grownBy w3 (Value.slice A n c).ownBlock)
    (hx : r.ok w (Tb TS D0 w) x cs) : OL r TS D0 e w3 base A3 (n + 1) c3 (l ++ [x]) := by
  have hlen := h.len
  have hvl : vals.length = n * r.size := ho.1
  have hs := tb_grown ⟨_, _, _, _, rfl, ho⟩ hTe h0 hg
  refine ⟨_, ho3, by rw [List.length_append, hlen]; rfl, fun i y hy => ?_⟩
  by_cases hi : i < n
  · rw [List.getElem?_append_left (by omega)] at hy
    obtain ⟨cs', hok, hc⟩ := hvals i y hy
    refine ⟨cs', ok_same hok hs hg.size, fun j u hu => ?_⟩
    have hj : j < r.size := by rw [← r.len hok]; exact (List.getElem?_eq_some_iff.1 hu).1
    have h1 : (i + 1) * r.size ≤ n * r.size := Nat.mul_le_mul_right _ hi
    rw [Nat.succ_mul] at h1
    rw [List.getElem?_append_left (by omega)]
    exact hc j u hu
  · rw [List.getElem?_append_right (by omega)] at hy
    have hi2 : i - l.length = 0 := by
      rcases Nat.eq_zero_or_pos (i - l.length) with h0 | h0
      · exact h0
      · rw [List.getElem?_eq_none (by simp; omega)] at hy; cases hy
    rw [hi2] at hy
    simp only [List.getElem?_cons_zero, Option.some.injEq] at hy
    subst hy
    obtain rfl : i = n := by
      have : i < l.length + 1 := by omega
      omega
    refine ⟨cs, ok_same hx hs hg.size, fun j u hu => ?_⟩
    rw [List.getElem?_append_right (by omega), hvl, Nat.add_sub_cancel_left]
    exact hu
/-- It reads as its list. -/
theorem OL.slT (h : OL r TS D0 e w base A n c l) : r.sl w (fun k => k < w.heap.size ∧ (D0 k ∨ ∃ cs t, w.heap[k]? = some (.cells cs t (0, 0)) ∧ (TS t ∨ (t = e ∧ base ≤ k)))) A n c l := by
  obtain ⟨vals, ho, hn, hi⟩ := h
  have hT : ∀ k, Tb TS D0 w k → k < w.heap.size ∧ (D0 k ∨ ∃ cs t, w.heap[k]? = some (.cells cs t (0, 0)) ∧ (TS t ∨ (t = e ∧ base ≤ k))) := fun k hk => ⟨hk.1, by
    rcases hk.2 with h | ⟨cs, t, h, ht⟩
    · exact .inl h
    · exact .inr ⟨cs, t, h, .inl ht⟩⟩
  rcases ho.2 with ⟨hv, h0⟩ | ⟨g, cap, cur, hv, hg, hh, hnc, hcm, hcs, htake⟩
  · injection hv with h1 h2 h3
    subst h1; subst h3
    have hs0 : l = [] := List.eq_nil_of_length_eq_zero (by omega)
    subst hs0
    have hn0 : n = 0 := by simpa using hn.symm
    subst hn0
    exact Rp.sl_nil _ _ _ _ _ (by decide)
  · injection hv with h1 h2 h3
    subst h1; subst h3
    subst hn
    refine ⟨_, _, rfl, hnc, hcm, fun _ => ⟨g, 0, rfl, ⟨(Array.getElem?_eq_some_iff.1 hh).1, .inr ⟨cur, e, hh, .inr ⟨rfl, hg⟩⟩⟩, fun i x hx => ?_⟩⟩
    obtain ⟨cs, hok, hc⟩ := hi i x hx
    refine ⟨cs, r.more hok hT, fun j u hu => ?_⟩
    have hcell := cell_of_row w g (0 + i * r.size + j) cur e (0, 0) hh
    rw [hcell]
    have hvi := hc j u hu
    rw [← htake, List.getElem?_take] at hvi
    split at hvi
    · rw [Nat.zero_add]; simpa using hvi
    · cases hvi
theorem OL.sl (h : OL r TS D0 e w base A n c l) : r.sl w (fun k => k < w.heap.size) A n c l := Rp.sl_more (OL.slT h) (fun k hk => hk.1)
/-- A cell of an element is written. -/
theorem OL.set (h : OL r TS D0 e w base A n c l) {i j : Nat} {x x' : α} {u : Value} (hi : l[i]? = some x) (hj : j < r.size) (hTe : ¬ TS e) (h0 : ∀ k, D0 k → k < base) (hx : ∀ cs, r.ok w (Tb TS D0 w) x cs → r.ok w (Tb TS D0 w) x' (cs.set j u)) :
    ∃ g v, A = some ⟨g, 0, none⟩ ∧ base ≤ g ∧ g < w.heap.size ∧ (∀ q, w.frozen? ⟨g, q, none⟩ = false) ∧ w.cell? ⟨g, i * r.size + j, none⟩ = some v ∧ OL r TS D0 e (w.setCell ⟨g, i * r.size + j, none⟩ u) base A n c (l.set i x') := by
  obtain ⟨vals, ho, hn, hv⟩ := h
  have hil : i < l.length := (List.getElem?_eq_some_iff.1 hi).1
  rcases ho.2 with ⟨_, hz⟩ | ⟨g, cap, cur, hvv, hg, hh, hnc, hcm, hcs, htake⟩
  · omega
  injection hvv with h1 h2 h3
  subst h1; subst h3
  have hblk : Blk w g e cur := hh
  have hmul : (i + 1) * r.size ≤ n * r.size := Nat.mul_le_mul_right _ (by omega)
  rw [Nat.succ_mul] at hmul
  obtain ⟨cs0, hok0, hc0⟩ := hv i x hi
  have hl0 := r.len hok0
  have hcj := hc0 j cs0[j] (List.getElem?_eq_getElem (by omega))
  have hcell : w.cell? ⟨g, i * r.size + j, none⟩ = some cs0[j] := by
    rw [hblk.cell]
    have := hcj
    rw [← htake, List.getElem?_take] at this
    split at this
    · simpa using this
    · cases this
  have hgr : w.grownBy (w.setCell ⟨g, i * r.size + j, none⟩ u) (some g) := grown_setCell w ⟨g, i * r.size + j, none⟩ u
  have hs := tb_grown (A := some ⟨g, 0, none⟩) (n := n) (c := c) ⟨_, _, _, _, rfl, ho⟩ hTe h0 hgr
  refine ⟨g, _, rfl, hg, hblk.lt, hblk.frozen, hcell, vals.set (i * r.size + j) u, ⟨by rw [List.length_set]; exact ho.1, .inr ⟨g, c, cur.setIfInBounds (i * r.size + j) u, rfl, hg, hblk.put _ u, hnc, hcm, by simpa using hcs, ?_⟩⟩, by rw [List.length_set]; exact hn, fun q y hy => ?_⟩
  · rw [Array.toList_setIfInBounds, List.take_set, htake]
  · by_cases hq : q = i
    · subst hq
      rw [List.getElem?_set_self hil] at hy
      injection hy with hy
      subst hy
      refine ⟨_, ok_same (hx cs0 hok0) hs hgr.size, fun k v hk => ?_⟩
      by_cases hkj : k = j
      · subst hkj
        rw [List.getElem?_set_self (by omega)] at hk
        rw [List.getElem?_set_self (by have := ho.1; omega)]
        exact hk
      · rw [List.getElem?_set_ne (fun e => hkj e.symm)] at hk
        rw [List.getElem?_set_ne (by omega)]
        exact hc0 k v hk
    · rw [List.getElem?_set_ne (fun e => hq e.symm)] at hy
      obtain ⟨cs, hok, hc⟩ := hv q y hy
      refine ⟨cs, ok_same hok hs hgr.size, fun k v hk => ?_⟩
      have hkl : k < r.size := by rw [← r.len hok]; exact (List.getElem?_eq_some_iff.1 hk).1
      rw [List.getElem?_set_ne ?_]
      · exact hc k v hk
      · intro he
        rcases Nat.lt_or_gt_of_ne hq with h | h
        · have : (q + 1) * r.size ≤ i * r.size := Nat.mul_le_mul_right _ h
          rw [Nat.succ_mul] at this
          omega
        · have : (i + 1) * r.size ≤ q * r.size := Nat.mul_le_mul_right _ h
          rw [Nat.succ_mul] at this
          omega
end
/-- The cells of a block, to be appended. -/
theorem Src.blk {w : World} {g : Nat} {t : TypeId} {cs : Array Value} {size : Nat} (hb : Blk w g t cs) (hs : cs.size = size) (h1 : ∀ u ∈ cs.toList, u.oneCell' = true) : Src w (some ⟨g, 0, none⟩) 1 size cs.toList := by
  refine ⟨by simpa using hs, h1, fun _ => ⟨_, rfl, fun j u hu => ?_⟩⟩
  rw [add_plain, hb.cell, Nat.zero_add]
  simpa using hu
end Go.Proofs.Ytnihaaifkogpbaa
