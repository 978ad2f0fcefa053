/-
  The law of this claim, part 6 of its proof: the parts OL, StrS, LL, StpC, PrC, StrT, StrU.
-/
import Derived.RegionTactic
import Derived.Deep.RegionLaw
import Derived.Test.YtmdgmnaaopineaaQPR5
/- A list that the call has made itself, of elements that lead on to other memory: it lies in a row of its own, what its elements lead to lies in blocks of other types, or is older. -/
namespace Go.Proofs.Ytmdgmnaaopineaa
open Go.RowKit
set_option linter.unusedVariables false
/-- Blocks of some types, and some more. -/
def Tb (TS : TypeId → Prop) (D0 : Dom) (w : World) : Dom := fun k => k < w.heap.size ∧ (D0 k ∨ ∃ cs t, w.heap[k]? = some (.cells cs t (0, 0)) ∧ TS t)
def OL {α : Type} (r : Rp α) (TS : TypeId → Prop) (D0 : Dom) (e : TypeId) (w : World) (base : Nat) (A : Option Addr) (n c : Nat) (l : List α) : Prop :=
  ∃ vals : List Value, w.ownsRow base e r.size (.slice A n c) n vals ∧ l.length = n ∧ ∀ (i : Nat) x, l[i]? = some x → ∃ cs, r.ok w (Tb TS D0 w) x cs ∧ ∀ (j : Nat) u, cs[j]? = some u → vals[i * r.size + j]? = some u
section
variable {α : Type} {r : Rp α} {TS : TypeId → Prop} {D0 D1 : Dom} {e : TypeId} {w w' : World} {base n c g : Nat} {A : Option Addr} {l : List α}
theorem OL.nil (r : Rp α) (TS : TypeId → Prop) (D0 : Dom) (e : TypeId) (w : World) (base : Nat) : OL r TS D0 e w base none 0 0 [] := ⟨[], World.ownsRow_nil _ _ _ _, rfl, fun i x h => by simp at h⟩
theorem OL.len (h : OL r TS D0 e w base A n c l) : l.length = n := by obtain ⟨_, _, hn, _⟩ := h; exact hn
theorem Tb.keep (hs : ∀ k, Tb TS D0 w k → w'.heap[k]? = w.heap[k]?) (hz : w.heap.size ≤ w'.heap.size) {k : Nat} (hk : Tb TS D0 w k) : Tb TS D0 w' k := by
  refine ⟨Nat.lt_of_lt_of_le hk.1 hz, ?_⟩
  rcases hk.2 with h | ⟨cs, t, h, ht⟩
  · exact .inl h
  · exact .inr ⟨cs, t, (hs k hk).trans h, ht⟩
theorem OL.more (h : OL r TS D0 e w base A n c l) (hD : ∀ k, D0 k → D1 k) : OL r TS D1 e w base A n c l := by
  obtain ⟨vals, ho, hn, hi⟩ := h
  refine ⟨vals, ho, hn, fun i x hx => ?_⟩
  obtain ⟨cs, hok, hc⟩ := hi i x hx
  exact ⟨cs, r.more hok (fun k hk => ⟨hk.1, hk.2.imp (hD k) id⟩), hc⟩
theorem OL.mono {base' : Nat} (h : OL r TS D0 e w base A n c l) (hb : base' ≤ base) : OL r TS D0 e w base' A n c l := by
  obtain ⟨vals, ho, hn, hi⟩ := h
  refine ⟨vals, ⟨ho.1, ?_⟩, hn, hi⟩
  rcases ho.2 with h0 | ⟨g, cap, cur, hv, hg, hr⟩
  · exact .inl h0
  · exact .inr ⟨g, cap, cur, hv, Nat.le_trans hb hg, hr⟩
/-- An element's reading stays. -/
theorem ok_same {x : α} {cs : List Value} (h : r.ok w (Tb TS D0 w) x cs) (hs : ∀ k, Tb TS D0 w k → w'.heap[k]? = w.heap[k]?) (hz : w.heap.size ≤ w'.heap.size) : r.ok w' (Tb TS D0 w') x cs :=
  r.more (r.keep h (fun k hk => hs k hk)) (fun k hk => Tb.keep hs hz hk)
theorem OL.same (h : OL r TS D0 e w base A n c l) (hs : ∀ k, Tb TS D0 w k → w'.heap[k]? = w.heap[k]?) (hr : ∀ k cs, base ≤ k → w.heap[k]? = some (.cells cs e (0, 0)) → w'.heap[k]? = w.heap[k]?) (hz : w.heap.size ≤ w'.heap.size) : OL r TS D0 e w' base A n c l := by
  obtain ⟨vals, ho, hn, hi⟩ := h
  refine ⟨vals, ⟨ho.1, ?_⟩, hn, fun i x hx => ?_⟩
  · rcases ho.2 with h0 | ⟨g, cap, cur, hv, hg, hh, hrr⟩
    · exact .inl h0
    · exact .inr ⟨g, cap, cur, hv, hg, (hr g cur hg hh).trans hh, hrr⟩
  · obtain ⟨cs, hok, hc⟩ := hi i x hx
    exact ⟨cs, ok_same hok hs hz, hc⟩
theorem OL.below (h : OL r TS D0 e w base A n c l) (hb : Below w.heap.size w w') : OL r TS D0 e w' base A n c l :=
  h.same (fun k hk => hb.block k hk.1) (fun k cs _ hk => hb.block k (Array.getElem?_eq_some_iff.1 hk).1) hb.size
theorem OL.chg {F : Dom} (h : OL r TS D0 e w base A n c l) (hc : Chg F w w') (hF : ∀ k, F k → k < w.heap.size → ¬ D0 k ∧ ∀ cs t, w.heap[k]? = some (.cells cs t (0, 0)) → ¬ TS t ∧ t ≠ e) : OL r TS D0 e w' base A n c l :=
  h.same (fun k hk => hc.block k hk.1 (fun hf => by
    obtain ⟨h1, h2⟩ := hF k hf hk.1
    rcases hk.2 with h | ⟨cs, t, h, ht⟩
    · exact h1 h
    · exact (h2 cs t h).1 ht)) (fun k cs _ hk => hc.block k (Array.getElem?_eq_some_iff.1 hk).1 (fun hf => (((hF k hf (Array.getElem?_eq_some_iff.1 hk).1).2 cs e hk).2 rfl))) hc.size
theorem blk_type {t t' : TypeId} {cs cs' : Array Value} (hb : Blk w g t cs) (h : w.heap[g]? = some (.cells cs' t' (0, 0))) : t' = t := by
  have h2 := h.symm.trans hb
  injection h2 with h2
  injection h2
/-- A store into a block of another type. -/
theorem OL.put {t : TypeId} {cs : Array Value} (h : OL r TS D0 e w base A n c l) (hb : Blk w g t cs) (hg : ¬ D0 g) (ht : ¬ TS t) (ht2 : t ≠ e) {a : Addr} (ha : a.block = g) (u : Value) : OL r TS D0 e (w.setCell a u) base A n c l :=
  h.chg (F := fun k => k = g) ((Chg.refl _ _).setCell (.inl ha) u) (fun k hk _ => by
    subst hk
    refine ⟨hg, fun cs' t' h' => ?_⟩
    obtain rfl := blk_type hb h'
    exact ⟨ht, ht2⟩)
theorem OL.grown {t : TypeId} {cs : Array Value} (h : OL r TS D0 e w base A n c l) (hb : Blk w g t cs) (hg : ¬ D0 g) (ht : ¬ TS t) (ht2 : t ≠ e) (hgr : w.grownBy w' (some g)) : OL r TS D0 e w' base A n c l :=
  h.chg (F := fun k => k = g) ((Chg.of_grown hgr).more (fun k _ hk => by injection hk)) (fun k hk _ => by
    subst hk
    refine ⟨hg, fun cs' t' h' => ?_⟩
    obtain rfl := blk_type hb h'
    exact ⟨ht, ht2⟩)
/-- What is no block of the row itself stays behind an append. -/
theorem tb_grown (ho : ∃ xs sz v m, v = Value.slice A n c ∧ w.ownsRow base e sz v m xs) (hTe : ¬ TS e) (h0 : ∀ k, D0 k → k < base) (hg : w.grownBy w' (Value.slice A n c).ownBlock) : ∀ k, Tb TS D0 w k → w'.heap[k]? = w.heap[k]? := by
  obtain ⟨xs, sz, v, m, rfl, ho⟩ := ho
  intro k hk
  refine hg.block k hk.1 (fun he => ?_)
  rcases ho.2 with ⟨hv, _⟩ | ⟨g, cap, cur, hv, hbg, hh, _⟩
  · rw [hv] at he; cases he
  · rw [hv] at he
    simp only [Value.ownBlock, Option.some.injEq] at he
    subst he
    rcases hk.2 with h | ⟨cs, t, h, ht⟩
    · have := h0 k h; omega
    · obtain rfl := blk_type (w := w) hh h
      exact hTe ht
/-- One element more. -/
theorem OL.push (h : OL r TS D0 e w base A n c l) {vals : List Value} (ho : w.ownsRow base e r.size (.slice A n c) n vals) (hvals : ∀ (i : Nat) x, l[i]? = some x → ∃ cs, r.ok w (Tb TS D0 w) x cs ∧ ∀ (j : Nat) u, cs[j]? = some u → vals[i * r.size + j]? = some u)
    (hTe : ¬ TS e) (h0 : ∀ k, D0 k → k < base) {w3 : World} {A3 : Option Addr} {c3 : Nat} {x : α} {cs : List Value} (ho3 : w3.ownsRow base e r.size (.slice A3 (n + 1) c3) (n + 1) (vals ++ cs)) (hg : w.grownBy w3 (Value.slice A n c).ownBlock)
    (hx : r.ok w (Tb TS D0 w) x cs) : OL r TS D0 e w3 base A3 (n + 1) c3 (l ++ [x]) := by
  have hlen := h.len
  have hvl : vals.length = n * r.size := ho.1
  have hs := tb_grown ⟨_, _, _, _, rfl, ho⟩ hTe h0 hg
  refine ⟨_, ho3, by rw [List.length_append, hlen]; rfl, fun i y hy => ?_⟩
  by_cases hi : i < n
  · rw [List.getElem?_append_left (by omega)] at hy
    obtain ⟨cs', hok, hc⟩ := hvals i y hy
    refine ⟨cs', ok_same hok hs hg.size, fun j u hu => ?_⟩
    have hj : j < r.size := by rw [← r.len hok]; exact (List.getElem?_eq_some_iff.1 hu).1
    have h1 : (i + 1) * r.size ≤ n * r.size := Nat.mul_le_mul_right _ hi
    rw [Nat.succ_mul] at h1
    rw [List.getElem?_append_left (by omega)]
    exact hc j u hu
  · rw [List.getElem?_append_right (by omega)] at hy
    have hi2 : i - l.length = 0 := by
      rcases Nat.eq_zero_or_pos (i - l.length) with h0 | h0
      · exact h0
      · rw [List.getElem?_eq_none (by simp; omega)] at hy; cases hy
    rw [hi2] at hy
    simp only [List.getElem?_cons_zero, Option.some.injEq] at hy
    subst hy
    obtain rfl : i = n := by
      have : i < l.length + 1 := by omega
      omega
    refine ⟨cs, ok_same hx hs hg.size, fun j u hu => ?_⟩
    rw [List.getElem?_append_right (by omega), hvl, Nat.add_sub_cancel_left]
    exact hu
/-- It reads as its list. -/
theorem OL.slT (h : OL r TS D0 e w base A n c l) : r.sl w (fun k => k < w.heap.size ∧ (D0 k ∨ ∃ cs t, w.heap[k]? = some (.cells cs t (0, 0)) ∧ (TS t ∨ (t = e ∧ base ≤ k)))) A n c l := by
  obtain ⟨vals, ho, hn, hi⟩ := h
  have hT : ∀ k, Tb TS D0 w k → k < w.heap.size ∧ (D0 k ∨ ∃ cs t, w.heap[k]? = some (.cells cs t (0, 0)) ∧ (TS t ∨ (t = e ∧ base ≤ k))) := fun k hk => ⟨hk.1, by
    rcases hk.2 with h | ⟨cs, t, h, ht⟩
    · exact .inl h
    · exact .inr ⟨cs, t, h, .inl ht⟩⟩
  rcases ho.2 with ⟨hv, h0⟩ | ⟨g, cap, cur, hv, hg, hh, hnc, hcm, hcs, htake⟩
  · injection hv with h1 h2 h3
    subst h1; subst h3
    have hs0 : l = [] := List.eq_nil_of_length_eq_zero (by omega)
    subst hs0
    have hn0 : n = 0 := by simpa using hn.symm
    subst hn0
    exact Rp.sl_nil _ _ _ _ _ (by decide)
  · injection hv with h1 h2 h3
    subst h1; subst h3
    subst hn
    refine ⟨_, _, rfl, hnc, hcm, fun _ => ⟨g, 0, rfl, ⟨(Array.getElem?_eq_some_iff.1 hh).1, .inr ⟨cur, e, hh, .inr ⟨rfl, hg⟩⟩⟩, fun i x hx => ?_⟩⟩
    obtain ⟨cs, hok, hc⟩ := hi i x hx
    refine ⟨cs, r.more hok hT, fun j u hu => ?_⟩
    have hcell := cell_of_row w g (0 + i * r.size + j) cur e (0, 0) hh
    rw [hcell]
    have hvi := hc j u hu
    rw [← htake, List.getElem?_take] at hvi
    split at hvi
    · rw [Nat.zero_add]; simpa using hvi
    · cases hvi
theorem OL.sl (h : OL r TS D0 e w base A n c l) : r.sl w (fun k => k < w.heap.size) A n c l := Rp.sl_more (OL.slT h) (fun k hk => hk.1)
/-- A cell of an element is written. -/
theorem OL.set (h : OL r TS D0 e w base A n c l) {i j : Nat} {x x' : α} {u : Value} (hi : l[i]? = some x) (hj : j < r.size) (hTe : ¬ TS e) (h0 : ∀ k, D0 k → k < base) (hx : ∀ cs, r.ok w (Tb TS D0 w) x cs → r.ok w (Tb TS D0 w) x' (cs.set j u)) :
    ∃ g v, A = some ⟨g, 0, none⟩ ∧ base ≤ g ∧ g < w.heap.size ∧ (∀ q, w.frozen? ⟨g, q, none⟩ = false) ∧ w.cell? ⟨g, i * r.size + j, none⟩ = some v ∧ OL r TS D0 e (w.setCell ⟨g, i * r.size + j, none⟩ u) base A n c (l.set i x') := by
  obtain ⟨vals, ho, hn, hv⟩ := h
  have hil : i < l.length := (List.getElem?_eq_some_iff.1 hi).1
  rcases ho.2 with ⟨_, hz⟩ | ⟨g, cap, cur, hvv, hg, hh, hnc, hcm, hcs, htake⟩
  · omega
  injection hvv with h1 h2 h3
  subst h1; subst h3
  have hblk : Blk w g e cur := hh
  have hmul : (i + 1) * r.size ≤ n * r.size := Nat.mul_le_mul_right _ (by omega)
  rw [Nat.succ_mul] at hmul
  obtain ⟨cs0, hok0, hc0⟩ := hv i x hi
  have hl0 := r.len hok0
  have hcj := hc0 j cs0[j] (List.getElem?_eq_getElem (by omega))
  have hcell : w.cell? ⟨g, i * r.size + j, none⟩ = some cs0[j] := by
    rw [hblk.cell]
    have := hcj
    rw [← htake, List.getElem?_take] at this
    split at this
    · simpa using this
    · cases this
  have hgr : w.grownBy (w.setCell ⟨g, i * r.size + j, none⟩ u) (some g) := grown_setCell w ⟨g, i * r.size + j, none⟩ u
  have hs := tb_grown (A := some ⟨g, 0, none⟩) (n := n) (c := c) ⟨_, _, _, _, rfl, ho⟩ hTe h0 hgr
  refine ⟨g, _, rfl, hg, hblk.lt, hblk.frozen, hcell, vals.set (i * r.size + j) u, ⟨by rw [List.length_set]; exact ho.1, .inr ⟨g, c, cur.setIfInBounds (i * r.size + j) u, rfl, hg, hblk.put _ u, hnc, hcm, by simpa using hcs, ?_⟩⟩, by rw [List.length_set]; exact hn, fun q y hy => ?_⟩
  · rw [Array.toList_setIfInBounds, List.take_set, htake]
  · by_cases hq : q = i
    · subst hq
      rw [List.getElem?_set_self hil] at hy
      injection hy with hy
      subst hy
      refine ⟨_, ok_same (hx cs0 hok0) hs hgr.size, fun k v hk => ?_⟩
      by_cases hkj : k = j
      · subst hkj
        rw [List.getElem?_set_self (by omega)] at hk
        rw [List.getElem?_set_self (by have := ho.1; omega)]
        exact hk
      · rw [List.getElem?_set_ne (fun e => hkj e.symm)] at hk
        rw [List.getElem?_set_ne (by omega)]
        exact hc0 k v hk
    · rw [List.getElem?_set_ne (fun e => hq e.symm)] at hy
      obtain ⟨cs, hok, hc⟩ := hv q y hy
      refine ⟨cs, ok_same hok hs hgr.size, fun k v hk => ?_⟩
      have hkl : k < r.size := by rw [← r.len hok]; exact (List.getElem?_eq_some_iff.1 hk).1
      rw [List.getElem?_set_ne ?_]
      · exact hc k v hk
      · intro he
        rcases Nat.lt_or_gt_of_ne hq with h | h
        · have : (q + 1) * r.size ≤ i * r.size := Nat.mul_le_mul_right _ h
          rw [Nat.succ_mul] at this
          omega
        · have : (i + 1) * r.size ≤ q * r.size := Nat.mul_le_mul_right _ h
          rw [Nat.succ_mul] at this
          omega
end
/-- The cells of a block, to be appended. -/
theorem Src.blk {w : World} {g : Nat} {t : TypeId} {cs : Array Value} {size : Nat} (hb : Blk w g t cs) (hs : cs.size = size) (h1 : ∀ u ∈ cs.toList, u.oneCell' = true) : Src w (some ⟨g, 0, none⟩) 1 size cs.toList := by
  refine ⟨by simpa using hs, h1, fun _ => ⟨_, rfl, fun j u hu => ?_⟩⟩
  rw [add_plain, hb.cell, Nat.zero_add]
  simpa using hu
end Go.Proofs.Ytmdgmnaaopineaa
/- Reading a set: the program. -/
namespace Go.Proofs.Ytmdgmnaaopineaa
open Go.ChangeShapes Go.WideShapes Go.ChangeAt Go.RowKit
set_option linter.unusedVariables false
theorem setF_bad {l : List UInt8} {p : Nat} {f : Flt} {others : List (List Nat)} (h : (risF l (manyF l p f 8).1 (manyF l p f 8).2.1 (manyF l p f 8).2.2 []).2.2.1 ≠ 0) : setF l p f others = ([], (risF l (manyF l p f 8).1 (manyF l p f 8).2.1 (manyF l p f 8).2.2 []).2) := by
  unfold setF; simp only; rw [if_neg h]
theorem setF_big {l : List UInt8} {p : Nat} {f : Flt} {others : List (List Nat)} {x : List Nat} {q : Nat} {F : Flt} (h : risF l (manyF l p f 8).1 (manyF l p f 8).2.1 (manyF l p f 8).2.2 [] = (x, q, F)) (h0 : F.1 = 0) (h1 : 4294967295 < x.getD (x.length - 1) 0) : setF l p f others = (x, q, failF F 3 ((manyF l p f 8).2.1 : Nat)) := by
  unfold setF; simp only; rw [h]; simp only; rw [if_pos h0, if_pos h1]
theorem setF_fine {l : List UInt8} {p : Nat} {f : Flt} {others : List (List Nat)} {x : List Nat} {q : Nat} {F : Flt} (h : risF l (manyF l p f 8).1 (manyF l p f 8).2.1 (manyF l p f 8).2.2 [] = (x, q, F)) (h0 : F.1 = 0) (h1 : ¬ 4294967295 < x.getD (x.length - 1) 0) (h2 : Apart x others) : setF l p f others = (x, q, F) := by
  unfold setF; simp only; rw [h]; simp only; rw [if_pos h0, if_neg h1, if_pos h2]
theorem setF_met {l : List UInt8} {p : Nat} {f : Flt} {others : List (List Nat)} {x : List Nat} {q : Nat} {F : Flt} (h : risF l (manyF l p f 8).1 (manyF l p f 8).2.1 (manyF l p f 8).2.2 [] = (x, q, F)) (h0 : F.1 = 0) (h1 : ¬ 4294967295 < x.getD (x.length - 1) 0) (h2 : ¬ Apart x others) : setF l p f others = (x, q, failF F 13 ((manyF l p f 8).2.1 : Nat)) := by
  unfold setF; simp only; rw [h]; simp only; rw [if_pos h0, if_neg h1, if_neg h2]
section
variable {w : World} {D Do : Dom} {g : Nat} {l : List UInt8} {p : Nat} {f : Flt}
set_option maxRecDepth 100000 in
set_option maxHeartbeats 2000000 in
theorem readSet_at (h : Rd w D g l p f) (hf : OkF f) (hl : l.length ≤ 1000000000) {Ao : Option Addr} {no co : Nat} {others : List (List Nat)} (ho : (rpSlice rpU64).sl w Do Ao no co others) (hDo : ∀ k, Do k → k < w.heap.size) (hDg : ¬ Do g) :
    Calls Try.prog 94 #[.pointer (some ⟨g, 0, none⟩), .slice Ao no co] w (RisIs w D g l (setF l p f others)) := by
  have HM := Lib.hid (many_at h hf hl 8 (by decide))
  have hml := manyF_le (l := l) (p := p) (f := f) (m := 8)
  have hmok := manyF_ok (l := l) (p := p) (m := 8) hf
  have hminv := manyF_inv (l := l) (p := p) (f := f) (m := 8)
  have hbad := setF_bad (l := l) (p := p) (f := f) (others := others)
  have hbig := @setF_big l p f others
  have hfine := @setF_fine l p f others
  have hmet := @setF_met l p f others
  generalize setF l p f others = R at *
  generalize manyF l p f 8 = m at *
  obtain ⟨mn, mq, mf⟩ := m
  simp only at HM hml hmok hminv hbad hbig hfine hmet
  have HRR : Hid (∀ w, Rd w D g l mq mf → Calls Try.prog 131 #[.pointer (some ⟨g, 0, none⟩), .int .i64 (mn : Int)] w (RisIs w D g l (risF l mn mq mf []))) := fun w h => rising_at h hmok hl mn (by omega)
  have hinv := risF_inv (l := l) (k := mn) (p := mq) (f := mf) (acc := [])
  have hr64 := risF_lt (l := l) (k := mn) (p := mq) (f := mf) (acc := []) (fun x hx => by cases hx)
  generalize risF l mn mq mf [] = r at *
  obtain ⟨x, q, F⟩ := r
  simp only at HRR hinv hbad hr64
  obtain ⟨nn, hnn⟩ : ∃ nn, nn = x.length := ⟨_, rfl⟩
  have HRS : Hid (∀ w, Rd w D g l mq mf → Calls Try.prog 131 #[.pointer (some ⟨g, 0, none⟩), .int .i64 (mn : Int)] w fun e w' => ∃ A c, e = .returned (.slice A nn c) ∧ w'.ownsRow w.heap.size 22 1 (.slice A nn c) nn (x.map uv) ∧ Rd w' D g l q F ∧ Chg (one g) w w') := by rw [hnn]; exact HRR.out
  have HNN := Lib.hid hnn
  have HBAD := Lib.hid hbad
  have HBIG := Lib.hid (fun h0 h1 => @hbig x q F rfl h0 h1)
  have HFINE := Lib.hid (fun h0 h1 h2 => @hfine x q F rfl h0 h1 h2)
  have HMET := Lib.hid (fun h0 h1 h2 => @hmet x q F rfl h0 h1 h2)
  have HSO : Hid (Sl (rpSlice rpU64) w Do Ao no co others) := ⟨ho, hDo⟩
  have HDG := Lib.hid hDg
  have hgl := h.lt
  have HR64 := Lib.hid hr64
  have HL : Hid (F.1 = 0 → 1 ≤ nn ∧ nn ≤ 8) := fun h0 => by
    obtain ⟨new, e1, e2, _, _, _, _, _, e8⟩ := hinv h0
    have h1 := (hminv e8).2.1
    rw [hnn, e1, List.nil_append]; omega
  clear HRR hnn h hf ho hDo hDg hbad hbig hfine hmet hinv hminv hmok hml hr64
  by_cases h0 : F.1 = 0
  case neg =>
    have hq : (F.1 == 0) = false := by simpa using h0
    have HB : Hid (R = ([], q, F)) := HBAD.out h0
    clear h0
    go_enter Try.func94, Try.ntmps94
    go_wp2_with fail
    refine HM.out.mono ?_; rintro e w1 ⟨rfl, hr, hc⟩
    have HR1 := Lib.hid hr
    have HC1 := Lib.hid hc
    have HO1 := Lib.hid (chS HSO.out hc (fun k hk e => HDG.out ((show k = g from e) ▸ hk)))
    clear hr hc
    go_wp2_with fail
    refine (cat_at HR1.out).mono ?_; rintro e w2 ⟨rfl, rfl⟩
    go_wp2_with fail
    refine (HRS.out _ HR1.out).mono ?_; rintro e w2 ⟨A, c, rfl, how, hr, hc⟩
    have HR2 := Lib.hid hr
    have HC2 := Lib.hid (HC1.out.trans hc)
    have HO2 := Lib.hid (chS HO1.out hc (fun k hk e => HDG.out ((show k = g from e) ▸ hk)))
    have HW2 := Lib.hid (own_mono how HC1.out.size)
    clear hr hc how
    go_wp2_with fail
    refine (cgood_at HR2.out).mono ?_; rintro e w3 ⟨rfl, hb⟩
    have HR3 := Lib.hid (HR2.out.below hb)
    have HC3 := Lib.hid (HC2.out.trans (Chg.of_pure hb _))
    have HO3 := Lib.hid (keepS HO2.out hb)
    have HW3 := Lib.hid (keepO HW2.out hb)
    clear hb
    go_wp2_with fail
    go_ret
    have hR := HB.out
    subst hR
    exact ⟨none, 0, rfl, World.ownsRow_nil _ _ _ _, HR3.out, HC3.out⟩
  case pos =>
    have hq : (F.1 == 0) = true := by simpa using h0
    obtain ⟨hx1, hx8⟩ := HL.out h0
    have hxI : (1 : Int) ≤ (nn : Int) := by omega
    have hxI2 : (0 : Int) ≤ (nn : Int) - 1 := by omega
    obtain ⟨a, ha⟩ : ∃ a, x[nn - 1]? = some a := ⟨_, List.getElem?_eq_getElem (by have := HNN.out; omega)⟩
    have hgd : x.getD (x.length - 1) 0 = a := by rw [← HNN.out, List.getD_eq_getElem?_getD, ha]; rfl
    have HA := Lib.hid ha
    rw [hgd] at HBIG HFINE HMET
    clear ha hgd
    have H0 := Lib.hid h0
    clear h0
    by_cases hbg : 4294967295 < a
    case pos =>
      have hd : decide ((4294967295 : Int) < (a : Int)) = true := by simp; omega
      have HB : Hid (R = (x, q, failF F 3 (mq : Nat))) := HBIG.out H0.out hbg
      clear hbg
      go_enter Try.func94, Try.ntmps94
      go_wp2_with fail
      refine HM.out.mono ?_; rintro e w1 ⟨rfl, hr, hc⟩
      have HR1 := Lib.hid hr
      have HC1 := Lib.hid hc
      have HO1 := Lib.hid (chS HSO.out hc (fun k hk e => HDG.out ((show k = g from e) ▸ hk)))
      clear hr hc
      go_wp2_with fail
      refine (cat_at HR1.out).mono ?_; rintro e w2 ⟨rfl, rfl⟩
      go_wp2_with fail
      refine (HRS.out _ HR1.out).mono ?_; rintro e w2 ⟨A, c, rfl, how, hr, hc⟩
      have HR2 := Lib.hid hr
      have HC2 := Lib.hid (HC1.out.trans hc)
      have HO2 := Lib.hid (chS HO1.out hc (fun k hk e => HDG.out ((show k = g from e) ▸ hk)))
      have HW2 := Lib.hid (own_mono how HC1.out.size)
      clear hr hc how
      go_wp2_with fail
      refine (cgood_at HR2.out).mono ?_; rintro e w3 ⟨rfl, hb⟩
      have HR3 := Lib.hid (HR2.out.below hb)
      have HC3 := Lib.hid (HC2.out.trans (Chg.of_pure hb _))
      have HO3 := Lib.hid (keepS HO2.out hb)
      have HW3 := Lib.hid (keepO HW2.out hb)
      clear hb
      obtain ⟨bo, hAo, hbo, _, _, hco, _⟩ := own_block HW3.out (by omega)
      have hcell := hco (nn - 1) (uv a) (by rw [List.getElem?_map, HA.out]; rfl)
      unfold uv at hcell
      clear hco
      subst hAo
      go_wp2_with fail
      refine (cfail_at HR3.out 3 _).mono ?_; rintro e w4 ⟨rfl, hr, hc⟩
      have HR4 := Lib.hid hr
      have HC4 := Lib.hid (HC3.out.trans hc)
      have HW4 := Lib.hid (chO HW3.out hc (fun j hj e => by have e : j = g := e; have := (HW3.out.lt j hj).1; have := hgl; omega))
      clear hr hc hcell
      go_wp2_with fail
      go_ret
      have hR := HB.out
      subst hR
      have hnn := HNN.out
      subst hnn
      exact ⟨_, c, rfl, HW4.out, HR4.out, HC4.out⟩
    case neg =>
      have hd : decide ((4294967295 : Int) < (a : Int)) = false := by simp; omega
      by_cases hap : Apart x others
      case pos =>
        have HB : Hid (R = (x, q, F)) := HFINE.out H0.out hbg hap
        have HAP := Lib.hid (dec_true hap)
        clear hbg hap
        go_enter Try.func94, Try.ntmps94
        go_wp2_with fail
        refine HM.out.mono ?_; rintro e w1 ⟨rfl, hr, hc⟩
        have HR1 := Lib.hid hr
        have HC1 := Lib.hid hc
        have HO1 := Lib.hid (chS HSO.out hc (fun k hk e => HDG.out ((show k = g from e) ▸ hk)))
        clear hr hc
        go_wp2_with fail
        refine (cat_at HR1.out).mono ?_; rintro e w2 ⟨rfl, rfl⟩
        go_wp2_with fail
        refine (HRS.out _ HR1.out).mono ?_; rintro e w2 ⟨A, c, rfl, how, hr, hc⟩
        have HR2 := Lib.hid hr
        have HC2 := Lib.hid (HC1.out.trans hc)
        have HO2 := Lib.hid (chS HO1.out hc (fun k hk e => HDG.out ((show k = g from e) ▸ hk)))
        have HW2 := Lib.hid (own_mono how HC1.out.size)
        clear hr hc how
        go_wp2_with fail
        refine (cgood_at HR2.out).mono ?_; rintro e w3 ⟨rfl, hb⟩
        have HR3 := Lib.hid (HR2.out.below hb)
        have HC3 := Lib.hid (HC2.out.trans (Chg.of_pure hb _))
        have HO3 := Lib.hid (keepS HO2.out hb)
        have HW3 := Lib.hid (keepO HW2.out hb)
        clear hb
        obtain ⟨bo, hAo, hbo, _, _, hco, _⟩ := own_block HW3.out (by omega)
        have hcell := hco (nn - 1) (uv a) (by rw [List.getElem?_map, HA.out]; rfl)
        unfold uv at hcell
        clear hco
        subst hAo
        go_wp2_with fail
        refine (apart_any (own_u64 HW3.out HR64.out) HO3.out.1).mono ?_; rintro e w4 ⟨rfl, rfl⟩
        rw [HAP.out]
        go_wp2_with fail
        go_ret
        have hR := HB.out
        subst hR
        have hnn := HNN.out
        subst hnn
        exact ⟨_, c, rfl, HW3.out, HR3.out, HC3.out⟩
      case neg =>
        have HB : Hid (R = (x, q, failF F 13 (mq : Nat))) := HMET.out H0.out hbg hap
        have HAP := Lib.hid (dec_false hap)
        clear hbg hap
        go_enter Try.func94, Try.ntmps94
        go_wp2_with fail
        refine HM.out.mono ?_; rintro e w1 ⟨rfl, hr, hc⟩
        have HR1 := Lib.hid hr
        have HC1 := Lib.hid hc
        have HO1 := Lib.hid (chS HSO.out hc (fun k hk e => HDG.out ((show k = g from e) ▸ hk)))
        clear hr hc
        go_wp2_with fail
        refine (cat_at HR1.out).mono ?_; rintro e w2 ⟨rfl, rfl⟩
        go_wp2_with fail
        refine (HRS.out _ HR1.out).mono ?_; rintro e w2 ⟨A, c, rfl, how, hr, hc⟩
        have HR2 := Lib.hid hr
        have HC2 := Lib.hid (HC1.out.trans hc)
        have HO2 := Lib.hid (chS HO1.out hc (fun k hk e => HDG.out ((show k = g from e) ▸ hk)))
        have HW2 := Lib.hid (own_mono how HC1.out.size)
        clear hr hc how
        go_wp2_with fail
        refine (cgood_at HR2.out).mono ?_; rintro e w3 ⟨rfl, hb⟩
        have HR3 := Lib.hid (HR2.out.below hb)
        have HC3 := Lib.hid (HC2.out.trans (Chg.of_pure hb _))
        have HO3 := Lib.hid (keepS HO2.out hb)
        have HW3 := Lib.hid (keepO HW2.out hb)
        clear hb
        obtain ⟨bo, hAo, hbo, _, _, hco, _⟩ := own_block HW3.out (by omega)
        have hcell := hco (nn - 1) (uv a) (by rw [List.getElem?_map, HA.out]; rfl)
        unfold uv at hcell
        clear hco
        subst hAo
        go_wp2_with fail
        refine (apart_any (own_u64 HW3.out HR64.out) HO3.out.1).mono ?_; rintro e w4 ⟨rfl, rfl⟩
        rw [HAP.out]
        go_wp2_with fail
        refine (cfail_at HR3.out 13 _).mono ?_; rintro e w4 ⟨rfl, hr, hc⟩
        have HR4 := Lib.hid hr
        have HC4 := Lib.hid (HC3.out.trans hc)
        have HW4 := Lib.hid (chO HW3.out hc (fun j hj e => by have e : j = g := e; have := (HW3.out.lt j hj).1; have := hgl; omega))
        clear hr hc hcell
        go_wp2_with fail
        go_ret
        have hR := HB.out
        subst hR
        have hnn := HNN.out
        subst hnn
        exact ⟨_, c, rfl, HW4.out, HR4.out, HC4.out⟩
end
end Go.Proofs.Ytmdgmnaaopineaa
/- A list of lists of numbers that the call has made itself. -/
namespace Go.Proofs.Ytmdgmnaaopineaa
open Go.ChangeShapes Go.WideShapes Go.ChangeAt Go.RowKit
set_option linter.unusedVariables false
def LL (w : World) (base : Nat) (A : Option Addr) (n c : Nat) (sets : List (List Nat)) : Prop :=
  ∃ vals : List Value, w.ownsRow base 46 1 (.slice A n c) n vals ∧ sets.length = n ∧ ∀ (i : Nat) x, sets[i]? = some x → (∃ A' c', vals[i]? = some (.slice A' x.length c') ∧ w.ownsRow base 22 1 (.slice A' x.length c') x.length (x.map uv)) ∧ ∀ y ∈ x, y < 18446744073709551616
section
variable {w w' : World} {base n c g : Nat} {A : Option Addr} {sets : List (List Nat)}
theorem LL.nil (w : World) (base : Nat) : LL w base none 0 0 [] := ⟨[], World.ownsRow_nil _ _ _ _, rfl, fun i x h => by simp at h⟩
/-- It stays where the blocks of its two types stay. -/
theorem LL.same (h : LL w base A n c sets) (hs : ∀ k cs t, w.heap[k]? = some (.cells cs t (0, 0)) → (t = 22 ∨ t = 46) → base ≤ k → w'.heap[k]? = w.heap[k]?) : LL w' base A n c sets := by
  have key : ∀ {e : TypeId} {v : Value} {m : Nat} {xs : List Value}, (e = 22 ∨ e = 46) → w.ownsRow base e 1 v m xs → w'.ownsRow base e 1 v m xs := by
    intro e v m xs he ho
    refine ⟨ho.1, ?_⟩
    rcases ho.2 with h0 | ⟨g, cap, cur, hv, hg, hh, hr⟩
    · exact .inl h0
    · exact .inr ⟨g, cap, cur, hv, hg, (hs g cur e hh he hg).trans hh, hr⟩
  obtain ⟨vals, ho, hn, hi⟩ := h
  refine ⟨vals, key (.inr rfl) ho, hn, fun i x hx => ?_⟩
  obtain ⟨⟨A', c', hv, hw⟩, hy⟩ := hi i x hx
  exact ⟨⟨A', c', hv, key (.inl rfl) hw⟩, hy⟩
theorem LL.below (h : LL w base A n c sets) (hb : Below w.heap.size w w') : LL w' base A n c sets :=
  h.same (fun k cs t hk _ _ => hb.block k (Blk.lt (w := w) hk))
theorem LL.chg {F : Dom} (h : LL w base A n c sets) (hc : Chg F w w') (hF : ∀ k, F k → k < base) : LL w' base A n c sets :=
  h.same (fun k cs t hk _ hb => hc.block k (Blk.lt (w := w) hk) (fun hf => by have := hF k hf; omega))
/-- A store into a block of another type. -/
theorem LL.put {t : TypeId} {cs : Array Value} (h : LL w base A n c sets) (hb : Blk w g t cs) (ht : t ≠ 22) (ht2 : t ≠ 46) {a : Addr} (ha : a.block = g) (u : Value) : LL (w.setCell a u) base A n c sets :=
  h.same (fun k cs' t' hk ht' _ => Below.heap_setCell w a u k (by
    rintro rfl
    rw [ha] at hk
    have : some (Obj.cells cs' t' (0, 0)) = some (Obj.cells cs t (0, 0)) := hk.symm.trans hb
    injection this with this
    injection this with _ h2 _
    rcases ht' with rfl | rfl
    · exact ht h2.symm
    · exact ht2 h2.symm))
theorem LL.len (h : LL w base A n c sets) : sets.length = n := by obtain ⟨_, _, hn, _⟩ := h; exact hn
/-- One list more. -/
theorem LL.push (h : LL w base A n c sets) {vals : List Value} (ho : w.ownsRow base 46 1 (.slice A n c) n vals) (hvals : ∀ (i : Nat) x, sets[i]? = some x → (∃ A' c', vals[i]? = some (.slice A' x.length c') ∧ w.ownsRow base 22 1 (.slice A' x.length c') x.length (x.map uv)) ∧ ∀ y ∈ x, y < 18446744073709551616)
    {w3 : World} {A3 A' : Option Addr} {c3 c' : Nat} {x : List Nat} (ho3 : w3.ownsRow base 46 1 (.slice A3 (n + 1) c3) (n + 1) (vals ++ [.slice A' x.length c'])) (hg : w.grownBy w3 (Value.slice A n c).ownBlock)
    (hx : w.ownsRow base 22 1 (.slice A' x.length c') x.length (x.map uv)) (hx64 : ∀ y ∈ x, y < 18446744073709551616) : LL w3 base A3 (n + 1) c3 (sets ++ [x]) := by
  have hlen := h.len
  have hvl : vals.length = n := by have := ho.1; simpa using this
  have key : ∀ {v : Value} {m : Nat} {xs : List Value}, w.ownsRow base 22 1 v m xs → w3.ownsRow base 22 1 v m xs := by
    intro v m xs hw
    refine ⟨hw.1, ?_⟩
    rcases hw.2 with h0 | ⟨g, cap, cur, hv, hg2, hh, hr⟩
    · exact .inl h0
    · refine .inr ⟨g, cap, cur, hv, hg2, (hg.block g (Blk.lt (w := w) hh) (fun e => ?_)).trans hh, hr⟩
      exact absurd e (Pen.ne' (t := 22) (cs := cur) hh ho (by decide))
  refine ⟨_, ho3, by rw [List.length_append, hlen]; rfl, fun i y hy => ?_⟩
  by_cases hi : i < n
  · rw [List.getElem?_append_left (by omega)] at hy
    obtain ⟨⟨A2, c2, hv, hw⟩, h64⟩ := hvals i y hy
    exact ⟨⟨A2, c2, by rw [List.getElem?_append_left (by omega)]; exact hv, key hw⟩, h64⟩
  · rw [List.getElem?_append_right (by omega)] at hy
    have hi2 : i - sets.length = 0 := by
      rcases Nat.eq_zero_or_pos (i - sets.length) with h0 | h0
      · exact h0
      · rw [List.getElem?_eq_none (by simp; omega)] at hy; cases hy
    rw [hi2] at hy
    simp only [List.getElem?_cons_zero, Option.some.injEq] at hy
    subst hy
    refine ⟨⟨A', c', ?_, key hx⟩, hx64⟩
    rw [List.getElem?_append_right (by omega), show i - vals.length = 0 by omega]; rfl
/-- It reads as its lists. -/
theorem LL.sl (h : LL w base A n c sets) : Sl (rpSlice rpU64) w (fun k => base ≤ k ∧ k < w.heap.size) A n c sets := by
  obtain ⟨vals, ho, hn, hi⟩ := h
  refine ⟨?_, fun k hk => hk.2⟩
  have hrow : ∀ (i : Nat) x, sets[i]? = some x → ∃ v, vals[i]? = some v ∧ (rpSlice rpU64).ok w (fun k => base ≤ k ∧ k < w.heap.size) x [v] := by
    intro i x hx
    obtain ⟨⟨A', c', hv, hw⟩, h64⟩ := hi i x hx
    exact ⟨_, hv, Rp.sl_more (own_u64 hw h64) (fun k hk => ⟨(hw.lt k hk.symm).1, (hw.lt k hk.symm).2⟩)⟩
  have hvl : vals.length = n := by have := ho.1; simpa using this
  rcases ho.2 with ⟨hv, h0⟩ | ⟨g, cap, cur, hv, hg, hh, hnc, hcm, hcs, htake⟩
  · injection hv with h1 h2 h3
    subst h1; subst h3
    have hs0 : sets = [] := List.eq_nil_of_length_eq_zero (by omega)
    subst hs0
    have hn0 : n = 0 := by simpa using hn.symm
    subst hn0
    exact Rp.sl_nil _ _ _ _ _ (by decide)
  · injection hv with h1 h2 h3
    subst h1; subst h3
    subst hn
    refine ⟨_, _, rfl, hnc, hcm, fun _ => ⟨g, 0, rfl, ⟨hg, Blk.lt (w := w) hh⟩, fun i x hx => ?_⟩⟩
    obtain ⟨v, hvi, hok⟩ := hrow i x hx
    refine ⟨[v], hok, fun j u hu => ?_⟩
    have hj : j = 0 := by
      rcases Nat.eq_zero_or_pos j with h0 | h0
      · exact h0
      · rw [List.getElem?_eq_none (by simp; omega)] at hu; cases hu
    subst hj
    simp only [List.getElem?_cons_zero, Option.some.injEq] at hu
    subst hu
    have hcell := cell_of_row w g (0 + i * (rpSlice rpU64).size + 0) cur 46 (0, 0) hh
    rw [hcell]
    have e1 : 0 + i * (rpSlice rpU64).size + 0 = i := by show 0 + i * 1 + 0 = i; omega
    rw [e1]
    rw [← htake, List.getElem?_take] at hvi
    split at hvi
    · simpa using hvi
    · cases hvi
end
end Go.Proofs.Ytmdgmnaaopineaa
/- stripe.Copy. -/
namespace Go.Proofs.Ytmdgmnaaopineaa
open Go.ChangeShapes Go.WideShapes Go.ChangeAt Go.RowKit
set_option linter.unusedVariables false
theorem LL.grownC {w w' : World} {base n c g : Nat} {A : Option Addr} {sets : List (List Nat)} {t : TypeId} {cs : Array Value} (h : LL w base A n c sets) (hb : Blk w g t cs) (ht : t ≠ 22) (ht2 : t ≠ 46) (hg : w.grownBy w' (some g)) : LL w' base A n c sets :=
  h.same (fun j cs' t' hj ht' _ => hg.block j (Blk.lt (w := w) hj) (fun e => by
    injection e with e
    subst e
    have h1 : some (Obj.cells cs' t' (0, 0)) = some (Obj.cells cs t (0, 0)) := hj.symm.trans hb
    injection h1 with h1
    injection h1 with _ h2 _
    rcases ht' with rfl | rfl
    · exact ht h2.symm
    · exact ht2 h2.symm))
section
variable {D : Dom} {A : Option Addr} {n c f t : Nat} {sets : List (List Nat)} {w : World}
set_option maxRecDepth 100000 in
set_option maxHeartbeats 3000000 in
theorem stcopy_any (hs : (rpSlice rpU64).sl w D A n c sets) (hD : ∀ k, D k → k < w.heap.size) (hn : n ≤ 1000) (hl : ∀ (i : Nat) x, sets[i]? = some x → x.length ≤ 1000) :
    Calls Try.prog 55 #[.agg (stpV f t A n c)] w fun e w' => ∃ A2 c2, e = .returned (.agg (stpV f t A2 n c2)) ∧ LL w' w.heap.size A2 n c2 sets ∧ Below w.heap.size w w' := by
  have H : Hid ((Try.prog.info? 31).map (·.size) = some 3) := by unfold Hid; kernel_rfl
  have hlen := (Rp.sl_len hs).1
  have HZ := Lib.hid (below2 w (.cells (stpV f t A n c) 31) (.cells (stpV 0 0 none 0 0) 31))
  have HK := Lib.hid (blk21 w 31 31 (stpV f t A n c) (stpV 0 0 none 0 0))
  have HR := Lib.hid (blk22 w 31 31 (stpV f t A n c) (stpV 0 0 none 0 0))
  have HS := Lib.hid (show Sl (rpSlice rpU64) w D A n c sets from ⟨hs, hD⟩)
  have HN := Lib.hid hlen
  have HLE := Lib.hid hl
  clear hs hD hlen hl
  go_enter Try.func55, Try.ntmps55
  go_wp2_with fail
  generalize World.alloc (World.alloc w _) _ = w0 at *
  have k2 := (show Blk w0 w.heap.size 31 _ from HK.out).cell 2
  go_wp2_with fail
  clear k2
  go_loopw [3, 9] (fun o i wr => ∃ (k : Nat) (As : Option Addr) (cs : Nat), k ≤ n ∧ i = .int .i64 k ∧ o = .slice As k cs ∧ Hid (LL wr w.heap.size As k cs (sets.take k)) ∧ Hid (Blk wr w.heap.size 31 (stpV f t A n c)) ∧ Hid (Blk wr (w.heap.size + 1) 31 (stpV 0 0 none 0 0)) ∧ Hid (Below w.heap.size w wr)) (fun _ i _ => n - (intOf i).toNat)
  case atStart => exact ⟨0, none, 0, by omega, rfl, rfl, LL.nil _ _, HK.out, HR.out, HZ.out⟩
  case round =>
    clear HK HR HZ
    obtain ⟨k, As, cs, hk, rfl, rfl, hll, hkb, hkr, hbel⟩ := hrel
    have hzr := hbel.out.size
    have hltr := (show Blk wr (w.heap.size + 1) 31 _ from hkr.out).lt
    by_cases hkn : k < n
    case neg =>
      obtain rfl : k = n := by omega
      have hd : decide ((k : Int) < (k : Int)) = false := by simp
      have k0 := (show Blk wr w.heap.size 31 _ from hkb.out).cell 0
      have k1 := (show Blk wr w.heap.size 31 _ from hkb.out).cell 1
      have k2 := (show Blk wr w.heap.size 31 _ from hkb.out).cell 2
      have f2 := (show Blk wr w.heap.size 31 _ from hkb.out).frozen 2
      have HL7 := Lib.hid ((show LL wr w.heap.size As k cs (sets.take k) from hll.out).put (show Blk wr w.heap.size 31 _ from hkb.out) (by decide) (by decide) (a := ⟨w.heap.size, 2, none⟩) rfl (.slice As k cs))
      have HR7 := Lib.hid ((show Blk wr (w.heap.size + 1) 31 _ from hkr.out).far (p := ⟨w.heap.size, 2, none⟩) (by dsimp only; omega) (.slice As k cs))
      have HB7 := Lib.hid (hbel.out.setCell (p := ⟨w.heap.size, 2, none⟩) (by dsimp only; omega) (.slice As k cs))
      have HE : Hid (sets.take k = sets) := List.take_of_length_le (by rw [HN.out]; exact Nat.le_refl _)
      go_wp2_with (refine wpList_put_row rfl 31 (.tmp 2) (.tmp 22) rfl (w.heap.size + 1) (stpV f t As k cs) rfl rfl 31 _ HR7.out H.out rfl (by simp [Value.oneCell']) ?_; intro w9 hblk hgr)
      have hl9 := (show LL (wr.setCell ⟨w.heap.size, 2, none⟩ (.slice As k cs)) w.heap.size As k cs (sets.take k) from HL7.out).grownC HR7.out (by decide) (by decide) hgr
      rw [HE.out] at hl9
      exact bodyPost_ret (results_cell_row rfl _ _ (w.heap.size + 1) 31 _ (0, 0) _ rfl hblk Try.underlying31 rfl H.out) rfl ⟨As, cs, rfl, hl9, HB7.out.grown hgr HB7.out.size (fun j hj => by injection hj with hj; omega)⟩
    case pos =>
      have hd : decide ((k : Int) < (n : Int)) = true := by simp; omega
      have hkI : (0 : Int) ≤ (k : Int) := by omega
      have hkI2 : (k : Int) < (n : Int) := by omega
      obtain ⟨b, off, x, A3, c3, rfl, hb, hx, hcell, hrow⟩ := rows_at (keepS HS.out hbel.out).1 hkn
      have hx1 := HLE.out k x hx
      have HSR := Lib.hid (Src.u64 (Rp.sl_below hrow (below1 wr (.cells #[] 22)) (keepS HS.out hbel.out).2))
      have HLT := Lib.hid (u64_lt hrow)
      have hm := World.ownsRow_made (e := 22) (size := 1) (base := w.heap.size) wr #[] 0 (by omega) (by decide) rfl
      have HM := Lib.hid hm
      have HTK : Hid (sets.take (k + 1) = sets.take k ++ [x]) := by
        show sets.take (k + 1) = sets.take k ++ [x]
        rw [List.take_add_one, hx]; rfl
      have hmx : 0 + x.length ≤ maxLen := by unfold maxLen; omega
      have hk16 : k + 1 ≤ maxLen := by unfold maxLen; omega
      clear hm hrow hx hb
      go_wp2_with (first
        | (at_builtin; refine wpList_app rfl (.tmp 14) (.tmp 15) _ rfl elem64 rfl HM.out rfl HSR.out hmx (by omega) (by simp; omega) ?_; intro A4 c4 w4 ho4 hg4 hat4
           have hb4 : Below wr.heap.size wr w4 := (below1 wr (.cells #[] 22)).grown hg4 (below1 wr (.cells #[] 22)).size (fun j hj => by have e : j = wr.heap.size := (by injection hj with hj; exact hj.symm); omega)
           have HB4 := Lib.hid hb4
           have ho4' : w4.ownsRow w.heap.size 22 1 (.slice A4 x.length c4) x.length (x.map uv) := by
             have := ho4
             rw [List.nil_append] at this
             simpa using this
           have HO4 := Lib.hid ho4'
           obtain ⟨vals, hov, hln, hvi⟩ := (show LL wr w.heap.size As k cs (sets.take k) from hll.out).below hb4
           have HOV := Lib.hid hov
           have HVI := Lib.hid hvi
           have HLN := Lib.hid hln
           have hz4 := hb4.size
           clear ho4 hg4 hat4 hb4 ho4' hov hvi hln)
        | (at_builtin; refine wpList_app rfl (.tmp 13) (.tmp 17) _ rfl elemSets rfl (HOV.out.alloc _) rfl (Src.new w4 (.slice A4 x.length c4) _ rfl) hk16 (by omega) (by simp; omega) ?_; intro A6 c6 w6 ho6 hg6 hat6
           have HO6 := Lib.hid ho6
           have HG6 := Lib.hid (show w4.grownBy w6 _ from ⟨hg6.os, hg6.tape, hg6.output, by have := hg6.size; simp at this; omega, fun j hj hn => (hg6.block j (by simp; omega) hn).trans (Below.heap_alloc _ _ _ hj)⟩)
           clear ho6 hg6 hat6))
      have hkb4 := keepB (show Blk wr w.heap.size 31 _ from hkb.out) HB4.out
      have hkr4 := keepB (show Blk wr (w.heap.size + 1) 31 _ from hkr.out) HB4.out
      have ho6 := HO6.out
      try rw [Nat.zero_add] at ho6
      have hll6 := (show LL w4 w.heap.size As k cs (sets.take k) from ⟨vals, HOV.out, HLN.out, HVI.out⟩).push HOV.out HVI.out ho6 HG6.out HO4.out HLT.out
      go_roundw
      case rel => exact ⟨k + 1, A6, c6, by omega, by go_num, rfl, by rw [HTK.out]; exact hll6, hkb4.grown HG6.out (Pen.ne' hkb4 HOV.out (by decide)), hkr4.grown HG6.out (Pen.ne' hkr4 HOV.out (by decide)), (stepB hbel.out HB4.out).grown HG6.out (stepB hbel.out HB4.out).size (fun j hj => (HOV.out.lt j hj).1)⟩
      case measure => simp [intOf]; omega
end
end Go.Proofs.Ytmdgmnaaopineaa
/- proj.Copy. -/
namespace Go.Proofs.Ytmdgmnaaopineaa
open Go.ChangeShapes Go.WideShapes Go.ChangeAt Go.RowKit
set_option linter.unusedVariables false
def TSs (t : TypeId) : Prop := t = 22 ∨ t = 46
theorem tss_stp : ¬ TSs 31 := by unfold TSs; decide
theorem tss_prj : ¬ TSs 25 := by unfold TSs; decide
theorem elemStp : Elem Try.prog 23 31 rpStp.size 40 := Elem.of (z := .agg #[.int .u64 0, .int .u64 0, .slice none 0 0]) Try.underlying23 (by kernel_rfl) rfl (by decide)
abbrev OS (w : World) (base : Nat) (A : Option Addr) (n c : Nat) (l : List Stp) : Prop := OL rpStp TSs (fun _ => False) 31 w base A n c l
theorem own_tb {D0 : Dom} {w : World} {base n c : Nat} {A : Option Addr} {xs : List Value} {e : TypeId} (he : TSs e) (h : w.ownsRow base e 1 (.slice A n c) n xs) : ∀ k, some k = (Value.slice A n c).ownBlock → Tb TSs D0 w k := by
  intro k hk
  rcases h.2 with ⟨hv, _⟩ | ⟨g, cap, cur, hv, hg, hh, _⟩
  · rw [hv] at hk; cases hk
  · rw [hv] at hk
    simp only [Value.ownBlock, Option.some.injEq] at hk
    subst hk
    exact ⟨Blk.lt (w := w) hh, .inr ⟨cur, e, hh, he⟩⟩
theorem LL.tb {D0 : Dom} {w : World} {base n c : Nat} {A : Option Addr} {sets : List (List Nat)} (h : LL w base A n c sets) : (rpSlice rpU64).sl w (Tb TSs D0 w) A n c sets := by
  obtain ⟨vals, ho, hn, hi⟩ := h
  have hrow : ∀ (i : Nat) x, sets[i]? = some x → ∃ v, vals[i]? = some v ∧ (rpSlice rpU64).ok w (Tb TSs D0 w) x [v] := by
    intro i x hx
    obtain ⟨⟨A', c', hv, hw⟩, h64⟩ := hi i x hx
    exact ⟨_, hv, Rp.sl_more (own_u64 hw h64) (own_tb (.inl rfl) hw)⟩
  have hT := own_tb (D0 := D0) (.inr rfl) ho
  rcases ho.2 with ⟨hv, h0⟩ | ⟨g, cap, cur, hv, hg, hh, hnc, hcm, hcs, htake⟩
  · injection hv with h1 h2 h3
    subst h1; subst h3
    have hs0 : sets = [] := List.eq_nil_of_length_eq_zero (by omega)
    subst hs0
    have hn0 : n = 0 := by simpa using hn.symm
    subst hn0
    exact Rp.sl_nil _ _ _ _ _ (by decide)
  · injection hv with h1 h2 h3
    subst h1; subst h3
    subst hn
    refine ⟨_, _, rfl, hnc, hcm, fun _ => ⟨g, 0, rfl, hT g rfl, fun i x hx => ?_⟩⟩
    obtain ⟨v, hvi, hok⟩ := hrow i x hx
    refine ⟨[v], hok, fun j u hu => ?_⟩
    have hj : j = 0 := by
      rcases Nat.eq_zero_or_pos j with h0 | h0
      · exact h0
      · rw [List.getElem?_eq_none (by simp; omega)] at hu; cases hu
    subst hj
    simp only [List.getElem?_cons_zero, Option.some.injEq] at hu
    subst hu
    have hcell := cell_of_row w g (0 + i * (rpSlice rpU64).size + 0) cur 46 (0, 0) hh
    rw [hcell]
    have e1 : 0 + i * (rpSlice rpU64).size + 0 = i := by show 0 + i * 1 + 0 = i; omega
    rw [e1]
    rw [← htake, List.getElem?_take] at hvi
    split at hvi
    · simpa using hvi
    · cases hvi
theorem stp_ok {w : World} {D : Dom} {f t n c : Nat} {A : Option Addr} {sets : List (List Nat)} (hf : f ≤ 18446744073709551615) (ht : t ≤ 18446744073709551615) (h : (rpSlice rpU64).sl w D A n c sets) : rpStp.ok w D (f, t, sets) (stpV f t A n c).toList :=
  ⟨[_], _, rfl, ⟨rfl, by show f < _; omega⟩, [_], _, rfl, ⟨rfl, by show t < _; omega⟩, h⟩
section
variable {D : Dom} {A : Option Addr} {n c e : Nat} {l : List Stp} {w : World}
set_option maxRecDepth 100000 in
set_option maxHeartbeats 4000000 in
theorem prcopy_any (hs : rpStp.sl w D A n c l) (hD : ∀ k, D k → k < w.heap.size) (hn : n ≤ 1000) (hl : ∀ s ∈ l, s.2.2.length ≤ 1000 ∧ ∀ (j : Nat) x, s.2.2[j]? = some x → x.length ≤ 1000) :
    Calls Try.prog 63 #[.agg (prjV e A n c)] w fun en w' => ∃ A2 c2, en = .returned (.agg (prjV e A2 n c2)) ∧ OS w' w.heap.size A2 n c2 l ∧ Below w.heap.size w w' := by
  have H : Hid ((Try.prog.info? 25).map (·.size) = some 2) := by unfold Hid; kernel_rfl
  have hlen := (Rp.sl_len hs).1
  have HZ := Lib.hid (below2 w (.cells (prjV e A n c) 25) (.cells (prjV 0 none 0 0) 25))
  have HK := Lib.hid (blk21 w 25 25 (prjV e A n c) (prjV 0 none 0 0))
  have HR := Lib.hid (blk22 w 25 25 (prjV e A n c) (prjV 0 none 0 0))
  have HS := Lib.hid (show Sl rpStp w D A n c l from ⟨hs, hD⟩)
  have HN := Lib.hid hlen
  have HLE := Lib.hid hl
  clear hs hD hlen hl
  go_enter Try.func63, Try.ntmps63
  go_wp2_with fail
  generalize World.alloc (World.alloc w _) _ = w0 at *
  have k1 := (show Blk w0 w.heap.size 25 _ from HK.out).cell 1
  go_wp2_with fail
  clear k1
  go_loopw [3, 9] (fun o i wr => ∃ (k : Nat) (As : Option Addr) (cs : Nat), k ≤ n ∧ i = .int .i64 k ∧ o = .slice As k cs ∧ Hid (OS wr w.heap.size As k cs (l.take k)) ∧ Hid (Blk wr w.heap.size 25 (prjV e A n c)) ∧ Hid (Blk wr (w.heap.size + 1) 25 (prjV 0 none 0 0)) ∧ Hid (Below w.heap.size w wr)) (fun _ i _ => n - (intOf i).toNat)
  case atStart => exact ⟨0, none, 0, by omega, rfl, rfl, OL.nil _ _ _ _ _ _, HK.out, HR.out, HZ.out⟩
  case round =>
    clear HK HR HZ
    obtain ⟨k, As, cs, hk, rfl, rfl, hll, hkb, hkr, hbel⟩ := hrel
    have hzr := hbel.out.size
    have hltr := (show Blk wr (w.heap.size + 1) 25 _ from hkr.out).lt
    by_cases hkn : k < n
    case neg =>
      obtain rfl : k = n := by omega
      have hd : decide ((k : Int) < (k : Int)) = false := by simp
      have k0 := (show Blk wr w.heap.size 25 _ from hkb.out).cell 0
      have k1 := (show Blk wr w.heap.size 25 _ from hkb.out).cell 1
      have f1 := (show Blk wr w.heap.size 25 _ from hkb.out).frozen 1
      have HL7 := Lib.hid ((show OS wr w.heap.size As k cs (l.take k) from hll.out).put (show Blk wr w.heap.size 25 _ from hkb.out) id tss_prj (by decide) (a := ⟨w.heap.size, 1, none⟩) rfl (.slice As k cs))
      have HR7 := Lib.hid ((show Blk wr (w.heap.size + 1) 25 _ from hkr.out).far (p := ⟨w.heap.size, 1, none⟩) (by dsimp only; omega) (.slice As k cs))
      have HB7 := Lib.hid (hbel.out.setCell (p := ⟨w.heap.size, 1, none⟩) (by dsimp only; omega) (.slice As k cs))
      have HE : Hid (l.take k = l) := List.take_of_length_le (by rw [HN.out]; exact Nat.le_refl _)
      go_wp2_with (refine wpList_put_row rfl 25 (.tmp 2) (.tmp 21) rfl (w.heap.size + 1) (prjV e As k cs) rfl rfl 25 _ HR7.out H.out rfl (by simp [Value.oneCell']) ?_; intro w9 hblk hgr)
      have hl9 := (show OS (wr.setCell ⟨w.heap.size, 1, none⟩ (.slice As k cs)) w.heap.size As k cs (l.take k) from HL7.out).grown HR7.out id tss_prj (by decide) hgr
      rw [HE.out] at hl9
      exact bodyPost_ret (results_cell_row rfl _ _ (w.heap.size + 1) 25 _ (0, 0) _ rfl hblk Try.underlying25 rfl H.out) rfl ⟨As, cs, rfl, hl9, HB7.out.grown hgr HB7.out.size (fun j hj => by injection hj with hj; omega)⟩
    case pos =>
      have hd : decide ((k : Int) < (n : Int)) = true := by simp; omega
      have hkI : (0 : Int) ≤ (k : Int) := by omega
      have hkI2 : (k : Int) < (n : Int) := by omega
      have hsr := keepS HS.out hbel.out
      obtain ⟨bo, off, s, A3, c3, rfl, hbD, hx, g0, g1, g2, hrow, hs1, hs2⟩ := stps_at hsr.1 hkn
      obtain ⟨sf, hsf⟩ : ∃ sf, sf = s.1 := ⟨_, rfl⟩
      obtain ⟨st, hst⟩ : ∃ st, st = s.2.1 := ⟨_, rfl⟩
      obtain ⟨ss, hss⟩ : ∃ ss, ss = s.2.2 := ⟨_, rfl⟩
      have es : s = (sf, st, ss) := by rw [hsf, hst, hss]
      rw [← hsf] at g0 hs1
      rw [← hst] at g1 hs2
      rw [← hss] at g2 hrow
      subst es
      have hle := HLE.out _ (List.mem_of_getElem? hx)
      have HLS := Lib.hid hle
      have hba := below1 wr (.cells (stpV sf st A3 ss.length c3) 31)
      have HRW := Lib.hid (keepS (show Sl (rpSlice rpU64) wr _ A3 ss.length c3 ss from ⟨hrow, hsr.2⟩) hba)
      have HKS := Lib.hid (blk11 wr 31 (stpV sf st A3 ss.length c3))
      have HBA := Lib.hid hba
      have HTK : Hid (l.take (k + 1) = l.take k ++ [(sf, st, ss)]) := by
        show l.take (k + 1) = l.take k ++ [(sf, st, ss)]
        rw [List.take_add_one, hx]; rfl
      have hk16 : k + 1 ≤ maxLen := by unfold maxLen; omega
      clear hx hle hrow hsr hsf hst hss hba
      go_wp2_with fail
      generalize World.alloc wr _ = w4 at *
      have hz4 := HBA.out.size
      have v0 := (show Blk w4 _ _ _ from HKS.out).cell 0
      have v1 := (show Blk w4 _ _ _ from HKS.out).cell 1
      have v2 := (show Blk w4 _ _ _ from HKS.out).cell 2
      clear g0 g1 g2
      go_wp2_with fail
      refine (stcopy_any HRW.out.1 HRW.out.2 HLS.out.1 HLS.out.2).mono ?_; rintro en w5 ⟨A5, c5, rfl, hl5, hb5⟩
      have hb5a := below1 w5 (.cells (stpV sf st A5 ss.length c5) 31)
      have hb45 := stepB HBA.out hb5
      have HB5 := Lib.hid (stepB hb45 hb5a)
      have hz5 := hb5.size
      obtain ⟨vals, hov, hln, hvi⟩ := ((show OS wr w.heap.size As k cs (l.take k) from hll.out).below hb45).below hb5a
      have HOV := Lib.hid hov
      have HVI := Lib.hid hvi
      have HLN := Lib.hid hln
      have HX5 := Lib.hid (stp_ok hs1 hs2 (LL.tb (D0 := fun _ => False) (hl5.below hb5a)))
      have HSR := Lib.hid (Src.blk (size := rpStp.size) (blk11 w5 31 (stpV sf st A5 ss.length c5)) (by kernel_rfl) (by simp [Value.oneCell']))
      clear hl5 hb5 hb5a hb45 hov hvi hln v0 v1 v2
      go_wp2_with (at_builtin; refine wpList_app rfl (.tmp 13) (.tmp 16) _ rfl elemStp rfl HOV.out rfl HSR.out hk16 (by omega) (by simp; omega) ?_; intro A6 c6 w6 ho6 hg6 hat6
                   have HO6 := Lib.hid ho6
                   have HG6 := Lib.hid hg6
                   clear ho6 hg6 hat6)
      have hll6 := (show OS (w5.alloc (.cells (stpV sf st A5 ss.length c5) 31)) w.heap.size As k cs (l.take k) from ⟨vals, HOV.out, HLN.out, HVI.out⟩).push HOV.out HVI.out tss_stp (fun _ h => h.elim) HO6.out HG6.out HX5.out
      have hb6 := HB5.out
      have hkb6 := keepB (show Blk wr w.heap.size 25 _ from hkb.out) hb6
      have hkr6 := keepB (show Blk wr (w.heap.size + 1) 25 _ from hkr.out) hb6
      go_roundw
      case rel => exact ⟨k + 1, A6, c6, by omega, by go_num, rfl, by rw [HTK.out]; exact hll6, hkb6.grown HG6.out (Pen.ne hkb6 HOV.out (by decide)), hkr6.grown HG6.out (Pen.ne hkr6 HOV.out (by decide)), (stepB hbel.out hb6).grown HG6.out (stepB hbel.out hb6).size (fun j hj => (HOV.out.lt j hj).1)⟩
      case measure => simp [intOf]; omega
end
end Go.Proofs.Ytmdgmnaaopineaa
/- Reading a stripe: the program. -/
namespace Go.Proofs.Ytmdgmnaaopineaa
open Go.ChangeShapes Go.WideShapes Go.ChangeAt Go.RowKit
set_option linter.unusedVariables false
theorem setsF_stop {l : List UInt8} {k p : Nat} {f : Flt} {sets : List (List Nat)} (h : (setF l p f sets).2.2.1 ≠ 0) : setsF l (k + 1) p f sets = (sets ++ [(setF l p f sets).1], (setF l p f sets).2) := by
  rw [setsF, if_neg h]
theorem setF_lt {l : List UInt8} {p : Nat} {f : Flt} {others : List (List Nat)} : ∀ y ∈ (setF l p f others).1, y < 18446744073709551616 := by
  have h : ∀ y ∈ (risF l (manyF l p f 8).1 (manyF l p f 8).2.1 (manyF l p f 8).2.2 []).1, y < 18446744073709551616 := risF_lt (fun x hx => by cases hx)
  unfold setF
  simp only
  split
  · split
    · exact h
    · split <;> exact h
  · intro y hy; cases hy
def StrIs (w : World) (D : Dom) (g : Nat) (l : List UInt8) (r : Stp × Nat × Flt) (e : Ending) (w' : World) : Prop :=
  ∃ A n c, e = .returned (.agg (stpV r.1.1 r.1.2.1 A n c)) ∧ LL w' w.heap.size A n c r.1.2.2 ∧ Rd w' D g l r.2.1 r.2.2 ∧ Chg (one g) w w'
section
variable {w : World} {D : Dom} {g : Nat} {l : List UInt8} {p : Nat} {f : Flt}
set_option maxRecDepth 100000 in
set_option maxHeartbeats 4000000 in
theorem strRead_good (h : Rd w D g l p f) (hf : OkF f) (hl : l.length ≤ 1000000000) (fr : Nat) (hfr : fr ≤ 4611686018427387904) {x q : Nat} {F : Flt} (hv : vrdF l p f = (x, q, F)) (h0 : F.1 = 0) (hx : fr + x < 4611686018427387904) :
    Calls Try.prog 41 #[.pointer (some ⟨g, 0, none⟩), .int .u64 (fr : Int)] w (StrIs w D g l (strF l p f fr)) := by
  have HS4 : Hid ((Try.prog.info? 31).map (·.size) = some 3) := by unfold Hid; kernel_rfl
  have hvr := vread_any h hf hl
  have hok2 := vrdF_ok (l := l) (p := p) hf
  rw [hv] at hvr hok2
  simp only at hvr hok2
  obtain ⟨RS, hRS⟩ : ∃ RS, RS = setsF l (manyF l q F 8).1 (manyF l q F 8).2.1 (manyF l q F 8).2.2 [] := ⟨_, rfl⟩
  have hstr : strF l p f fr = (if RS.2.2.1 = 0 then ((fr, fr + x + 1, RS.1), RS.2) else ((0, 0, []), RS.2)) := by
    unfold strF
    rw [if_neg (by omega), hv]
    simp only
    rw [if_neg (by rintro ⟨_, hh⟩; omega), ← hRS]
  have HM : Hid (∀ w, Rd w D g l q F → Calls Try.prog 93 #[.pointer (some ⟨g, 0, none⟩), .int .i64 8] w fun e w' => e = .returned (.int .i64 ((manyF l q F 8).1 : Int)) ∧ Rd w' D g l (manyF l q F 8).2.1 (manyF l q F 8).2.2 ∧ Chg (one g) w w') := fun w h => many_at h hok2 hl 8 (by decide)
  have hmok := manyF_ok (l := l) (p := q) (m := 8) hok2
  have hmle := manyF_le (l := l) (p := q) (f := F) (m := 8)
  generalize manyF l q F 8 = m at *
  obtain ⟨mn, mq, mf⟩ := m
  simp only at HM hmok hmle hRS
  rw [hstr]
  obtain ⟨X, hX⟩ : ∃ X : Stp × Nat × Flt, X = (if RS.2.2.1 = 0 then ((fr, fr + x + 1, RS.1), RS.2) else ((0, 0, []), RS.2)) := ⟨_, rfl⟩
  rw [← hX]
  have HX := Lib.hid hX
  have HRS := Lib.hid hRS
  have HMOK := Lib.hid hmok
  have HV := Lib.hid (show ∀ w', Rd w' D g l p f → Calls Try.prog 92 #[.pointer (some ⟨g, 0, none⟩)] w' fun e w'' => e = .returned (.int .u64 (x : Int)) ∧ Rd w'' D g l q F ∧ Chg (one g) w' w'' from fun w' h' => by have := vread_any h' hf hl; rw [hv] at this; exact this)
  have hgl := h.lt
  have HRD := Lib.hid h
  have HDD := Lib.hid h.dom
  have dd0 : decide ((4611686018427387904 : Int) < (fr : Int)) = false := by simp; omega
  have dd1 : (if (4611686018427387904 : Int) < (fr : Int) then (4611686018427387904 : Int) else (fr : Int)) = (fr : Int) := if_neg (by omega)
  have dd1' : (if (fr : Int) < (4611686018427387904 : Int) then (fr : Int) else (4611686018427387904 : Int)) = (fr : Int) := by split <;> omega
  have dd2 : decide ((4611686018427387904 : Int) - (fr : Int) ≤ (x : Int)) = false := by simp; omega
  have dd3 : IntKind.u64.wrap ((4611686018427387904 : Int) - (fr : Int)) = (4611686018427387904 : Int) - (fr : Int) := IntWalk.u64_in _ (by omega)
  have dd4 : IntKind.u64.wrap ((fr : Int) + (x : Int)) = (fr : Int) + (x : Int) := IntWalk.u64_in _ (by omega)
  have dd5 : IntKind.u64.wrap ((fr : Int) + (x : Int) + 1) = (fr : Int) + (x : Int) + 1 := IntWalk.u64_in _ (by omega)
  clear h hf hvr hok2 hRS hstr hX hmok hv h0
  have HT0 := Lib.hid (Blk.new w 31 (stpV 0 0 none 0 0))
  have HC0 := Lib.hid (Chg.of_pure (below1 w (.cells (stpV 0 0 none 0 0) 31)) (one g))
  have HR0 := Lib.hid (HRD.out.below (below1 w (.cells (stpV 0 0 none 0 0) 31)))
  go_enter Try.func41, Try.ntmps41
  go_wp2_with fail
  go_step3
  go_wp2_with fail
  generalize World.alloc w _ = w0 at *
  have hz0 := HC0.out.size
  have hl0 := (show Blk w0 w.heap.size 31 (stpV 0 0 none 0 0) from HT0.out).lt
  refine (cat_at HR0.out).mono ?_; rintro e wx ⟨rfl, rfl⟩
  go_wp2_with fail
  have HKa := Lib.hid (blk11 w0 31 (stpV fr 0 none 0 0))
  have HTa := Lib.hid (keepB (show Blk w0 w.heap.size 31 (stpV 0 0 none 0 0) from HT0.out) (below1 w0 (.cells (stpV fr 0 none 0 0) 31)))
  have HRa := Lib.hid (HR0.out.below (below1 w0 (.cells (stpV fr 0 none 0 0) 31)))
  have HCa := Lib.hid (HC0.out.trans (Chg.of_pure (below1 w0 (.cells (stpV fr 0 none 0 0) 31)) (one g)))
  generalize hgs : w0.heap.size = gs at *
  generalize World.alloc w0 _ = w1 at *
  have HG1 : Hid (¬ one g gs) := fun e => by have e : gs = g := e; omega
  have HG2 : Hid (¬ one g w.heap.size) := fun e => by have e : w.heap.size = g := e; omega
  have HD1 : Hid (¬ D gs) := fun e => by have := HDD.out gs e; omega
  have HD2 : Hid (¬ D w.heap.size) := fun e => by have := HDD.out _ e; omega
  refine (HV.out _ HRa.out).mono ?_; rintro e w2 ⟨rfl, hr, hc⟩
  have hk2 := chB (show Blk w1 gs 31 (stpV fr 0 none 0 0) from HKa.out) hc HG1.out
  have k1 := hk2.cell 1
  have kf1 := hk2.frozen 1
  have HKb := Lib.hid (show Blk (w2.setCell ⟨gs, 1, none⟩ (.int .u64 ((fr : Int) + (x : Int) + 1))) gs 31 #[.int .u64 (fr : Int), .int .u64 ((fr : Int) + (x : Int) + 1), .slice none 0 0] from hk2.put 1 _)
  have HTb := Lib.hid ((chB (show Blk w1 w.heap.size 31 (stpV 0 0 none 0 0) from HTa.out) hc HG2.out).far (p := ⟨gs, 1, none⟩) (by dsimp only; omega) (.int .u64 ((fr : Int) + (x : Int) + 1)))
  have HRb := Lib.hid (rdPut hr (a := ⟨gs, 1, none⟩) HG1.out HD1.out (.int .u64 ((fr : Int) + (x : Int) + 1)))
  have HCb := Lib.hid ((HCa.out.trans hc).setCell (p := ⟨gs, 1, none⟩) (.inr (by dsimp only; omega)) (.int .u64 ((fr : Int) + (x : Int) + 1)))
  clear hr hc hk2
  go_wp2_with fail
  clear k1 kf1 dd0 dd1 dd1' dd2 dd3 dd4 dd5
  generalize World.setCell w2 _ _ = w3 at *
  refine (HM.out _ HRb.out).mono ?_; rintro e w4 ⟨rfl, hr, hc⟩
  have HKc := Lib.hid (chB (show Blk w3 gs 31 _ from HKb.out) hc HG1.out)
  have HTc := Lib.hid (chB (show Blk w3 w.heap.size 31 _ from HTb.out) hc HG2.out)
  have HRc := Lib.hid hr
  have HCc := Lib.hid (HCb.out.trans hc)
  clear hr hc
  go_wp2_with fail
  go_step3
  go_wp2_with fail
  go_loopw [36] (fun i wr => ∃ (k q : Nat) (F : Flt) (sets : List (List Nat)) (A : Option Addr) (c : Nat), k ≤ mn ∧ i = .int .i64 k ∧ Hid (OkF F) ∧ Hid (Blk wr gs 31 #[.int .u64 (fr : Int), .int .u64 ((fr : Int) + (x : Int) + 1), .slice A k c]) ∧ Hid (Blk wr w.heap.size 31 (stpV 0 0 none 0 0)) ∧ Hid (LL wr w.heap.size A k c sets) ∧ Hid (Rd wr D g l q F) ∧ Hid (Chg (one g) w wr) ∧ Hid (setsF l (mn - k) q F sets = RS)) (fun i _ => mn - (intOf i).toNat)
  case atStart => exact ⟨0, mq, mf, [], none, 0, by omega, rfl, HMOK.out, HKc.out, HTc.out, LL.nil _ _, HRc.out, HCc.out, HRS.out.symm⟩
  case round =>
    obtain ⟨k, q, F, sets, A, c, hk, rfl, hokF, hkk, htt, hll, hrd, hch, heq⟩ := hrel
    have hzr := hch.out.size
    have hgsl := (show Blk wr gs 31 _ from hkk.out).lt
    by_cases hkn : k < mn
    case pos =>
      have hd : decide ((k : Int) < (mn : Int)) = true := by simp; omega
      have hd2 : decide (k < mn) = true := by simpa using hkn
      have hset : Hid (∀ w', Rd w' D g l q F → LL w' w.heap.size A k c sets → Calls Try.prog 94 #[.pointer (some ⟨g, 0, none⟩), .slice A k c] w' (RisIs w' D g l (setF l q F sets))) := fun w' h1 h2 => readSet_at h1 hokF.out hl h2.sl.1 h2.sl.2 (fun e => by have := e.1; omega)
      have s64 := setF_lt (l := l) (p := q) (f := F) (others := sets)
      have sok := setF_ok (l := l) (p := q) (others := sets) hokF.out
      have hstep : mn - k = (mn - (k + 1)) + 1 := by omega
      have heq2 := heq.out
      rw [hstep] at heq2
      have hgo := setsF_step (l := l) (k := mn - (k + 1)) (p := q) (f := F) (sets := sets)
      have hst := setsF_stop (l := l) (k := mn - (k + 1)) (p := q) (f := F) (sets := sets)
      rw [heq2] at hgo hst
      generalize setF l q F sets = s at *
      obtain ⟨xs, q2, F2⟩ := s
      simp only at hgo hst s64 sok
      obtain ⟨nx', hnx⟩ : ∃ nn, nn = xs.length := ⟨_, rfl⟩
      have hset2 : Hid (∀ w', Rd w' D g l q F → LL w' w.heap.size A k c sets → Calls Try.prog 94 #[.pointer (some ⟨g, 0, none⟩), .slice A k c] w' fun e w'' => ∃ A c, e = .returned (.slice A nx' c) ∧ w''.ownsRow w'.heap.size 22 1 (.slice A nx' c) nx' (xs.map uv) ∧ Rd w'' D g l q2 F2 ∧ Chg (one g) w' w'') := by rw [hnx]; exact hset.out
      have HNX := Lib.hid hnx
      have HGO := Lib.hid hgo
      have HST := Lib.hid hst
      have HS64 := Lib.hid s64
      have HSOK := Lib.hid sok
      have k2 := (show Blk wr gs 31 _ from hkk.out).cell 2
      have kf2 := (show Blk wr gs 31 _ from hkk.out).frozen 2
      clear hset hnx hgo hst s64 sok hstep heq2 heq
      go_wp2_with fail
      obtain ⟨vals, hov, hln, hvi⟩ := hll.out
      have HOV := Lib.hid hov
      have HVI := Lib.hid hvi
      clear hov hvi
      have hk16 : k + 1 ≤ maxLen := by unfold maxLen; omega
      go_region_law ((first
        | (refine step_app rfl (.tmp 39) (.tmp 44) _ (by rfl) elemSets (by rfl) HO5.out (by rfl) (Src.new w5 (.slice A5 nx' c5) _ rfl) hk16 (by omega) (by have := HZ5.out; simp; omega) ?_
           intro A6 c6 w6 ho6 hg6 hat6
           have HO6 := Lib.hid ho6
           have HG6 := Lib.hid (show w5.grownBy w6 _ from ⟨hg6.os, hg6.tape, hg6.output, by have := hg6.size; simp at this; omega, fun j hj hn => (hg6.block j (by simp; omega) hn).trans (Below.heap_alloc _ _ _ hj)⟩)
           have hk6 : Blk w6 gs 31 _ := HK5.out.grown HG6.out (Pen.ne' HK5.out HO5'.out (by decide))
           have k6 := hk6.cell 2
           have kf6 := hk6.frozen 2
           have HK6 := Lib.hid hk6
           clear ho6 hg6 hat6 hk6)
        | (go_simp; refine (hset2.out _ (rdDrew hrd.out) (hll.out.below ((Below.refl _ _).drew))).mono ?_
           rintro e w5 ⟨A5, c5, rfl, ho5, hr5, hc5⟩
           have hc5' : Chg (one g) wr w5 := ⟨hc5.os, hc5.tape, hc5.output, hc5.size, hc5.block⟩
           have HC5 := Lib.hid hc5'
           have HR5 := Lib.hid hr5
           have HW5 := Lib.hid ho5
           have hk5 := chB (show Blk wr gs 31 _ from hkk.out) hc5' HG1.out
           have k5 := hk5.cell 2
           have kf5 := hk5.frozen 2
           have kz5 := hk5.lt
           have HK5 := Lib.hid hk5
           have HO5' := Lib.hid (chO HOV.out hc5' (fun j hj e => by have e : j = g := e; have := (HOV.out.lt j hj).1; omega))
           have HO5 := Lib.hid (HO5'.out.alloc (.cells #[.slice A5 nx' c5] 46))
           have HZ5 := Lib.hid (Nat.le_trans hzr hc5'.size)
           clear ho5 hr5 hc5 hc5' hk5
           dsimp only)))
      all_goals
        have hvi5 : ∀ (i : Nat) x, sets[i]? = some x → (∃ A' c', vals[i]? = some (.slice A' x.length c') ∧ w5.ownsRow w.heap.size 22 1 (.slice A' x.length c') x.length (x.map uv)) ∧ ∀ y ∈ x, y < 18446744073709551616 := fun i x hx => by
          obtain ⟨⟨A', c', h1, h2⟩, h3⟩ := HVI.out i x hx
          exact ⟨⟨A', c', h1, chO h2 HC5.out (fun j hj e => by have e : j = g := e; have := (h2.lt j hj).1; omega)⟩, h3⟩
        have hll5 : LL w5 w.heap.size A k c sets := ⟨vals, HO5'.out, hln, hvi5⟩
        have hw5 : w5.ownsRow w.heap.size 22 1 (.slice A5 xs.length c5) xs.length (xs.map uv) := by rw [← HNX.out]; exact own_mono HW5.out hzr
        have ho6 : w6.ownsRow w.heap.size 46 1 (.slice A6 (k + 1) c6) (k + 1) (vals ++ [.slice A5 xs.length c5]) := by rw [← HNX.out]; exact HO6.out
        have hll6 := hll5.push HO5'.out hvi5 ho6 HG6.out hw5 HS64.out
        have HL7 := Lib.hid (hll6.put HK6.out (by decide) (by decide) (a := ⟨gs, 2, none⟩) rfl (.slice A6 (k + 1) c6))
        have HK7 := Lib.hid (show Blk (w6.setCell ⟨gs, 2, none⟩ (.slice A6 (k + 1) c6)) gs 31 #[.int .u64 (fr : Int), .int .u64 ((fr : Int) + (x : Int) + 1), .slice A6 (k + 1) c6] from HK6.out.put 2 _)
        have ht5 := chB (show Blk wr w.heap.size 31 (stpV 0 0 none 0 0) from htt.out) HC5.out HG2.out
        have HT7 := Lib.hid ((ht5.grown HG6.out (Pen.ne' ht5 HO5'.out (by decide))).far (p := ⟨gs, 2, none⟩) (by dsimp only; omega) (.slice A6 (k + 1) c6))
        have HR7 := Lib.hid (rdPut (rdGrown HR5.out HG6.out (fun e => by have := (HO5'.out.lt g e.symm).1; omega) (fun j hj e => by have h1 := (HO5'.out.lt j e.symm).1; have h2 := HDD.out j hj; omega)) (a := ⟨gs, 2, none⟩) HG1.out HD1.out (.slice A6 (k + 1) c6))
        have HC7 := Lib.hid ((chGrown (hch.out.trans HC5.out) HG6.out (fun j hj => (HO5'.out.lt j hj).1)).setCell (p := ⟨gs, 2, none⟩) (.inr (by dsimp only; omega)) (.slice A6 (k + 1) c6))
        clear hvi5 hll5 hw5 ho6 hll6 ht5 k2 kf2 k5 kf5 k6 kf6 hln kz5
        generalize World.setCell w6 _ _ = w7 at *
        by_cases hF : F2.1 = 0
        · have hq : (F2.1 == 0) = true := by simpa using hF
          have HG := Lib.hid (HGO.out hF)
          clear hF
          go_wp2_with fail
          refine (cgood_at HR7.out).mono ?_; rintro e w8 ⟨rfl, hb⟩
          have HK8 := Lib.hid (keepB (show Blk w7 gs 31 _ from HK7.out) hb)
          have HT8 := Lib.hid (keepB (show Blk w7 w.heap.size 31 _ from HT7.out) hb)
          have HL8 := Lib.hid (HL7.out.below hb)
          have HR8 := Lib.hid (HR7.out.below hb)
          have HC8 := Lib.hid (HC7.out.trans (Chg.of_pure hb _))
          clear hb
          go_wp2_with fail
          go_roundw
          case rel => exact ⟨k + 1, q2, F2, sets ++ [xs], A6, c6, by omega, by go_num, HSOK.out, HK8.out, HT8.out, HL8.out, HR8.out, HC8.out, HG.out.symm⟩
          case measure => simp [intOf]; omega
        · have hq : (F2.1 == 0) = false := by simpa using hF
          have hxx : X = ((0, 0, []), q2, F2) := by
            have h1 := HST.out hF
            have h2 := HX.out
            rw [h1] at h2
            rw [h2, if_neg hF]
          have HXX := Lib.hid hxx
          clear hF hxx
          go_wp2_with fail
          refine (cgood_at HR7.out).mono ?_; rintro e w8 ⟨rfl, hb⟩
          have HT8 := Lib.hid (keepB (show Blk w7 w.heap.size 31 _ from HT7.out) hb)
          have HR8 := Lib.hid (HR7.out.below hb)
          have HC8 := Lib.hid (HC7.out.trans (Chg.of_pure hb _))
          clear hb
          go_wp2_with fail
          refine (cgood_at HR8.out).mono ?_; rintro e w10 ⟨rfl, hb⟩
          have HTz := Lib.hid (keepB (show Blk w8 w.heap.size 31 _ from HT8.out) hb)
          have HRz := Lib.hid (HR8.out.below hb)
          have HCz := Lib.hid (HC8.out.trans (Chg.of_pure hb _))
          clear hb
          go_wp2_with (refine wpList_put_row rfl 31 (.tmp 4) (.tmp 54) rfl w.heap.size (stpV 0 0 none 0 0) rfl rfl 31 _ HTz.out HS4.out rfl (by simp [Value.oneCell']) ?_; intro w9 hblk hgr)
          try rw [Exit.noGoto_ret]
          have hXX := HXX.out
          clear HX HXX
          subst hXX
          exact bodyPost_ret (results_cell_row rfl _ _ w.heap.size 31 _ (0, 0) _ rfl hblk Try.underlying31 rfl HS4.out) rfl ⟨none, 0, 0, rfl, LL.nil _ _, rdGrown HRz.out hgr (fun e => by injection e with e; omega) (fun j hj e => by injection e with e; subst e; exact HD2.out hj), chGrown HCz.out hgr (fun j hj => by injection hj with hj; omega)⟩
    case neg =>
      obtain rfl : k = mn := by omega
      have hd : decide ((k : Int) < (k : Int)) = false := by simp
      have hd2 : decide (k < k) = false := by simp
      have heq2 := heq.out
      rw [Nat.sub_self] at heq2
      have heq3 : RS = (sets, q, F) := heq2.symm
      by_cases hF : F.1 = 0
      · have hq : (F.1 == 0) = true := by simpa using hF
        have hxx : X = ((fr, fr + x + 1, sets), q, F) := by
          have h2 := HX.out
          rw [heq3] at h2
          rw [h2, if_pos hF]
        have HXX := Lib.hid hxx
        clear hF hxx heq2 heq3 heq
        go_wp2_with fail
        refine (cgood_at hrd.out).mono ?_; rintro e w8 ⟨rfl, hb⟩
        have hk8 := keepB (show Blk wr gs 31 _ from hkk.out) hb
        have k0 := hk8.cell 0
        have k1 := hk8.cell 1
        have k2 := hk8.cell 2
        have HT8 := Lib.hid (keepB (show Blk wr w.heap.size 31 _ from htt.out) hb)
        have HL8 := Lib.hid (hll.out.below hb)
        have HR8 := Lib.hid (hrd.out.below hb)
        have HC8 := Lib.hid (hch.out.trans (Chg.of_pure hb _))
        clear hb hk8
        go_wp2_with (refine wpList_put_row rfl 31 (.tmp 4) (.tmp 55) rfl w.heap.size (#[.int .u64 (fr : Int), .int .u64 ((fr : Int) + (x : Int) + 1), .slice A k c]) rfl rfl 31 _ HT8.out HS4.out rfl (by simp [Value.oneCell']) ?_; intro w9 hblk hgr)
        try rw [Exit.noGoto_ret]
        have hXX := HXX.out
        clear HX HXX
        subst hXX
        have hl9 := HL8.out.same (w' := w9) (fun j cs t hj ht _ => hgr.block j (Blk.lt (w := w8) hj) (fun e => by
          injection e with e
          subst e
          have h1 : some (Obj.cells cs t (0, 0)) = some (Obj.cells (stpV 0 0 none 0 0) 31 (0, 0)) := hj.symm.trans HT8.out
          injection h1 with h1
          injection h1 with _ h2 _
          rcases ht with rfl | rfl <;> cases h2))
        have he : ((fr + x + 1 : Nat) : Int) = (fr : Int) + (x : Int) + 1 := by omega
        refine bodyPost_ret (results_cell_row rfl _ _ w.heap.size 31 _ (0, 0) _ rfl hblk Try.underlying31 rfl HS4.out) rfl ⟨A, k, c, ?_, hl9, rdGrown HR8.out hgr (fun e => by injection e with e; omega) (fun j hj e => by injection e with e; subst e; exact HD2.out hj), chGrown HC8.out hgr (fun j hj => by injection hj with hj; omega)⟩
        show _ = Ending.returned (.agg #[.int .u64 (fr : Int), .int .u64 ((fr + x + 1 : Nat) : Int), .slice A k c])
        rw [he]
      · have hq : (F.1 == 0) = false := by simpa using hF
        have hxx : X = ((0, 0, []), q, F) := by
          have h2 := HX.out
          rw [heq3] at h2
          rw [h2, if_neg hF]
        have HXX := Lib.hid hxx
        have HT7 := htt
        have HR7 := hrd
        have HC7 := hch
        clear hF hxx heq2 heq3 heq
        go_wp2_with fail
        refine (cgood_at HR7.out).mono ?_; rintro e w10 ⟨rfl, hb⟩
        have HTz := Lib.hid (keepB (show Blk wr w.heap.size 31 _ from HT7.out) hb)
        have HRz := Lib.hid (HR7.out.below hb)
        have HCz := Lib.hid (HC7.out.trans (Chg.of_pure hb _))
        clear hb
        go_wp2_with (refine wpList_put_row rfl 31 (.tmp 4) (.tmp 54) rfl w.heap.size (stpV 0 0 none 0 0) rfl rfl 31 _ HTz.out HS4.out rfl (by simp [Value.oneCell']) ?_; intro w9 hblk hgr)
        try rw [Exit.noGoto_ret]
        have hXX := HXX.out
        clear HX HXX
        subst hXX
        exact bodyPost_ret (results_cell_row rfl _ _ w.heap.size 31 _ (0, 0) _ rfl hblk Try.underlying31 rfl HS4.out) rfl ⟨none, 0, 0, rfl, LL.nil _ _, rdGrown HRz.out hgr (fun e => by injection e with e; omega) (fun j hj e => by injection e with e; subst e; exact HD2.out hj), chGrown HCz.out hgr (fun j hj => by injection hj with hj; omega)⟩
end
end Go.Proofs.Ytmdgmnaaopineaa
/- Reading a stripe where there is a fault: the program; and all ways. -/
namespace Go.Proofs.Ytmdgmnaaopineaa
open Go.ChangeShapes Go.WideShapes Go.ChangeAt Go.RowKit
set_option linter.unusedVariables false
theorem manyF_bad {l : List UInt8} {p m : Nat} {f : Flt} (h : f.1 ≠ 0) : manyF l p f m = (0, p, f) := by
  have hm : mostF l p f m = (0, p, f) := by
    unfold mostF
    rw [vrdF_bad h, if_neg (by simp only; omega)]
  unfold manyF
  rw [hm, if_pos rfl]
  unfold failF
  rw [if_neg h]
theorem failF_stay {f : Flt} {c a : Int} (h : f.1 ≠ 0) : failF f c a = f := if_neg h
section
variable {w : World} {D : Dom} {g : Nat} {l : List UInt8} {p : Nat} {f : Flt}
set_option maxRecDepth 100000 in
set_option maxHeartbeats 2000000 in
theorem strRead_over (h : Rd w D g l p f) (hf : OkF f) (hl : l.length ≤ 1000000000) (fr : Nat) (hfr : fr ≤ 18446744073709551615) (hbig : 4611686018427387904 < fr) :
    Calls Try.prog 41 #[.pointer (some ⟨g, 0, none⟩), .int .u64 (fr : Int)] w (StrIs w D g l ((0, 0, []), p, failF f 3 p)) := by
  have HS4 : Hid ((Try.prog.info? 31).map (·.size) = some 3) := by unfold Hid; kernel_rfl
  obtain ⟨F', hFe⟩ : ∃ F', F' = failF f 3 p := ⟨_, rfl⟩
  obtain ⟨Q', hQe⟩ : ∃ Q', Q' = p := ⟨_, rfl⟩
  have hF' : F'.1 ≠ 0 := by rw [hFe]; exact failF_bad (by decide)
  have HQF : Hid (p = Q' ∧ failF f 3 p = F') := ⟨hQe.symm, hFe.symm⟩
  have HFL : Hid (∀ w, Rd w D g l p f → Calls Try.prog 91 #[.pointer (some ⟨g, 0, none⟩), .int .i64 3, .int .i64 (p : Int)] w fun e w' => e = .returned (.tuple #[]) ∧ Rd w' D g l Q' F' ∧ Chg (one g) w w') := fun w h => by rw [hQe, hFe]; exact cfail_at h 3 p
  have HFL2 : Hid (∀ w, Rd w D g l Q' F' → Calls Try.prog 91 #[.pointer (some ⟨g, 0, none⟩), .int .i64 3, .int .i64 (p : Int)] w fun e w' => e = .returned (.tuple #[]) ∧ Rd w' D g l Q' F' ∧ Chg (one g) w w') := fun w h => by have := cfail_at h 3 p; rwa [failF_stay hF'] at this
  have HV : Hid (∀ w, Rd w D g l Q' F' → Calls Try.prog 92 #[.pointer (some ⟨g, 0, none⟩)] w fun e w' => e = .returned (.int .u64 0) ∧ Rd w' D g l Q' F' ∧ Chg (one g) w w') := fun w h => by have := vread_any h (.inr hF') hl; rwa [vrdF_bad hF'] at this
  have dd0 : decide ((4611686018427387904 : Int) < (fr : Int)) = true := by simp; omega
  have dd1 : (if (4611686018427387904 : Int) < (fr : Int) then (4611686018427387904 : Int) else (fr : Int)) = 4611686018427387904 := if_pos (by omega)
  have dd1' : (if (fr : Int) < (4611686018427387904 : Int) then (fr : Int) else (4611686018427387904 : Int)) = 4611686018427387904 := if_neg (by omega)
  clear hQe hFe
  have hfb : (F'.1 == 0) = false := by simpa using hF'
  have HFB := Lib.hid hF'
  have HM : Hid (∀ w, Rd w D g l Q' F' → Calls Try.prog 93 #[.pointer (some ⟨g, 0, none⟩), .int .i64 8] w fun e w' => e = .returned (.int .i64 0) ∧ Rd w' D g l Q' F' ∧ Chg (one g) w w') := fun w h => by
    have := many_at h (.inr hF') hl 8 (by decide)
    rw [manyF_bad hF'] at this
    exact this
  have hgl := h.lt
  have HRD := Lib.hid h
  have HDD := Lib.hid h.dom
  have HT0 := Lib.hid (Blk.new w 31 (stpV 0 0 none 0 0))
  have HC0 := Lib.hid (Chg.of_pure (below1 w (.cells (stpV 0 0 none 0 0) 31)) (one g))
  have HR0 := Lib.hid (HRD.out.below (below1 w (.cells (stpV 0 0 none 0 0) 31)))
  clear h hf hF'
  go_enter Try.func41, Try.ntmps41
  go_wp2_with fail
  go_step3
  go_wp2_with fail
  generalize World.alloc w _ = w0 at *
  have hz0 := HC0.out.size
  have hl0 := (show Blk w0 w.heap.size 31 (stpV 0 0 none 0 0) from HT0.out).lt
  refine (cat_at HR0.out).mono ?_; rintro e wx ⟨rfl, rfl⟩
  go_wp2_with fail
  refine (HFL.out _ HR0.out).mono ?_; rintro e wf ⟨rfl, hr, hc⟩
  have HRf := Lib.hid hr
  have HCf := Lib.hid (HC0.out.trans hc)
  have HTf := Lib.hid (chB (show Blk w0 w.heap.size 31 (stpV 0 0 none 0 0) from HT0.out) hc (fun e => by have e : w.heap.size = g := e; omega))
  have hlf := (show Blk wf w.heap.size 31 (stpV 0 0 none 0 0) from HTf.out).lt
  clear hr hc
  go_wp2_with fail
  have HKa := Lib.hid (blk11 wf 31 (stpV fr 0 none 0 0))
  have HTa := Lib.hid (keepB (show Blk wf w.heap.size 31 (stpV 0 0 none 0 0) from HTf.out) (below1 wf (.cells (stpV fr 0 none 0 0) 31)))
  have HRa := Lib.hid (HRf.out.below (below1 wf (.cells (stpV fr 0 none 0 0) 31)))
  have HCa := Lib.hid (HCf.out.trans (Chg.of_pure (below1 wf (.cells (stpV fr 0 none 0 0) 31)) (one g)))
  generalize hgs : wf.heap.size = gs at *
  generalize World.alloc wf _ = w1 at *
  have HG1 : Hid (¬ one g gs) := fun e => by have e : gs = g := e; omega
  have HG2 : Hid (¬ one g w.heap.size) := fun e => by have e : w.heap.size = g := e; omega
  have HD1 : Hid (¬ D gs) := fun e => by have := HDD.out gs e; omega
  have HD2 : Hid (¬ D w.heap.size) := fun e => by have := HDD.out _ e; omega
  refine (HV.out _ HRa.out).mono ?_; rintro e w2 ⟨rfl, hr, hc⟩
  have HK2 := Lib.hid (chB (show Blk w1 gs 31 (stpV fr 0 none 0 0) from HKa.out) hc HG1.out)
  have HT2 := Lib.hid (chB (show Blk w1 w.heap.size 31 (stpV 0 0 none 0 0) from HTa.out) hc HG2.out)
  have HR2 := Lib.hid hr
  have HC2 := Lib.hid (HCa.out.trans hc)
  clear hr hc
  go_wp2_with fail
  refine (HFL2.out _ HR2.out).mono ?_; rintro e w3 ⟨rfl, hr, hc⟩
  have HK3 := Lib.hid (chB (show Blk w2 gs 31 _ from HK2.out) hc HG1.out)
  have HT3 := Lib.hid (chB (show Blk w2 w.heap.size 31 _ from HT2.out) hc HG2.out)
  have HR3 := Lib.hid hr
  have HC3 := Lib.hid (HC2.out.trans hc)
  clear hr hc
  have k1 := (show Blk w3 gs 31 _ from HK3.out).cell 1
  have kf1 := (show Blk w3 gs 31 _ from HK3.out).frozen 1
  go_wp2_with fail
  clear k1 kf1
  generalize hW : World.setCell w3 _ _ = w4
  have HRb : Hid (Rd w4 D g l Q' F') := by rw [← hW]; exact rdPut HR3.out (a := ⟨gs, 1, none⟩) HG1.out HD1.out _
  have HTb : Hid (Blk w4 w.heap.size 31 (stpV 0 0 none 0 0)) := by rw [← hW]; exact (show Blk w3 w.heap.size 31 _ from HT3.out).far (p := ⟨gs, 1, none⟩) (by dsimp only; omega) _
  have HCb : Hid (Chg (one g) w w4) := by rw [← hW]; exact HC3.out.setCell (p := ⟨gs, 1, none⟩) (.inr (by dsimp only; omega)) _
  clear hW
  refine (HM.out _ HRb.out).mono ?_; rintro e w5 ⟨rfl, hr, hc⟩
  have HR5 := Lib.hid hr
  have HT5 := Lib.hid (chB (show Blk w4 w.heap.size 31 _ from HTb.out) hc HG2.out)
  have HC5 := Lib.hid (HCb.out.trans hc)
  clear hr hc
  go_wp2_with fail
  go_step3
  go_wp2_with fail
  go_loop [36] (fun i => i = .int .i64 0) (fun _ => 0)
  case atStart => rfl
  case round =>
    obtain rfl := hrel
    go_wp2_with fail
    refine (cgood_at HR5.out).mono ?_; rintro e w10 ⟨rfl, hb⟩
    have HTz := Lib.hid (keepB (show Blk w5 w.heap.size 31 _ from HT5.out) hb)
    have HRz := Lib.hid (HR5.out.below hb)
    have HCz := Lib.hid (HC5.out.trans (Chg.of_pure hb _))
    clear hb
    go_wp2_with (refine wpList_put_row rfl 31 (.tmp 4) (.tmp 54) rfl w.heap.size (stpV 0 0 none 0 0) rfl rfl 31 _ HTz.out HS4.out rfl (by simp [Value.oneCell']) ?_; intro w9 hblk hgr)
    try rw [Exit.noGoto_ret]
    have hq := HQF.out
    obtain ⟨hq1, hq2⟩ := hq
    refine bodyPost_ret (results_cell_row rfl _ _ w.heap.size 31 _ (0, 0) _ rfl hblk Try.underlying31 rfl HS4.out) rfl ⟨none, 0, 0, rfl, LL.nil _ _, ?_, chGrown HCz.out hgr (fun j hj => by injection hj with hj; omega)⟩
    rw [hq2, hq1]
    exact rdGrown HRz.out hgr (fun e => by injection e with e; omega) (fun j hj e => by injection e with e; subst e; exact HD2.out hj)
set_option maxRecDepth 100000 in
set_option maxHeartbeats 2000000 in
theorem strRead_great (h : Rd w D g l p f) (hf : OkF f) (hl : l.length ≤ 1000000000) (fr : Nat) (hfr : fr ≤ 18446744073709551615) (hle : fr ≤ 4611686018427387904) {x q : Nat} {F : Flt} (hv : vrdF l p f = (x, q, F)) (h0 : F.1 = 0) (hx : 4611686018427387904 ≤ fr + x) :
    Calls Try.prog 41 #[.pointer (some ⟨g, 0, none⟩), .int .u64 (fr : Int)] w (StrIs w D g l ((0, 0, []), q, failF F 3 p)) := by
  have HS4 : Hid ((Try.prog.info? 31).map (·.size) = some 3) := by unfold Hid; kernel_rfl
  obtain ⟨F', hFe⟩ : ∃ F', F' = failF F 3 p := ⟨_, rfl⟩
  obtain ⟨Q', hQe⟩ : ∃ Q', Q' = q := ⟨_, rfl⟩
  have hF' : F'.1 ≠ 0 := by rw [hFe]; exact failF_bad (by decide)
  have HQF : Hid (q = Q' ∧ failF F 3 p = F') := ⟨hQe.symm, hFe.symm⟩
  have HV : Hid (∀ w, Rd w D g l p f → Calls Try.prog 92 #[.pointer (some ⟨g, 0, none⟩)] w fun e w' => e = .returned (.int .u64 (x : Int)) ∧ Rd w' D g l q F ∧ Chg (one g) w w') := fun w h => by have := vread_any h hf hl; rwa [hv] at this
  have HFL2 : Hid (∀ w, Rd w D g l q F → Calls Try.prog 91 #[.pointer (some ⟨g, 0, none⟩), .int .i64 3, .int .i64 (p : Int)] w fun e w' => e = .returned (.tuple #[]) ∧ Rd w' D g l Q' F' ∧ Chg (one g) w w') := fun w h => by rw [hQe, hFe]; exact cfail_at h 3 p
  have dd0 : decide ((4611686018427387904 : Int) < (fr : Int)) = false := by simp; omega
  have dd1 : (if (4611686018427387904 : Int) < (fr : Int) then (4611686018427387904 : Int) else (fr : Int)) = (fr : Int) := if_neg (by omega)
  have dd1' : (if (fr : Int) < (4611686018427387904 : Int) then (fr : Int) else (4611686018427387904 : Int)) = (fr : Int) := by split <;> omega
  have dd3 : IntKind.u64.wrap ((4611686018427387904 : Int) - (fr : Int)) = (4611686018427387904 : Int) - (fr : Int) := IntWalk.u64_in _ (by omega)
  have dd2 : decide ((4611686018427387904 : Int) - (fr : Int) ≤ (x : Int)) = true := by simp; omega
  clear hQe hFe hv h0
  have hfb : (F'.1 == 0) = false := by simpa using hF'
  have HFB := Lib.hid hF'
  have HM : Hid (∀ w, Rd w D g l Q' F' → Calls Try.prog 93 #[.pointer (some ⟨g, 0, none⟩), .int .i64 8] w fun e w' => e = .returned (.int .i64 0) ∧ Rd w' D g l Q' F' ∧ Chg (one g) w w') := fun w h => by
    have := many_at h (.inr hF') hl 8 (by decide)
    rw [manyF_bad hF'] at this
    exact this
  have hgl := h.lt
  have HRD := Lib.hid h
  have HDD := Lib.hid h.dom
  have HT0 := Lib.hid (Blk.new w 31 (stpV 0 0 none 0 0))
  have HC0 := Lib.hid (Chg.of_pure (below1 w (.cells (stpV 0 0 none 0 0) 31)) (one g))
  have HR0 := Lib.hid (HRD.out.below (below1 w (.cells (stpV 0 0 none 0 0) 31)))
  clear h hf hF'
  go_enter Try.func41, Try.ntmps41
  go_wp2_with fail
  go_step3
  go_wp2_with fail
  generalize World.alloc w _ = w0 at *
  have hz0 := HC0.out.size
  have hl0 := (show Blk w0 w.heap.size 31 (stpV 0 0 none 0 0) from HT0.out).lt
  refine (cat_at HR0.out).mono ?_; rintro e wx ⟨rfl, rfl⟩
  go_wp2_with fail
  have HKa := Lib.hid (blk11 w0 31 (stpV fr 0 none 0 0))
  have HTa := Lib.hid (keepB (show Blk w0 w.heap.size 31 (stpV 0 0 none 0 0) from HT0.out) (below1 w0 (.cells (stpV fr 0 none 0 0) 31)))
  have HRa := Lib.hid (HR0.out.below (below1 w0 (.cells (stpV fr 0 none 0 0) 31)))
  have HCa := Lib.hid (HC0.out.trans (Chg.of_pure (below1 w0 (.cells (stpV fr 0 none 0 0) 31)) (one g)))
  generalize hgs : w0.heap.size = gs at *
  generalize World.alloc w0 _ = w1 at *
  have HG1 : Hid (¬ one g gs) := fun e => by have e : gs = g := e; omega
  have HG2 : Hid (¬ one g w.heap.size) := fun e => by have e : w.heap.size = g := e; omega
  have HD1 : Hid (¬ D gs) := fun e => by have := HDD.out gs e; omega
  have HD2 : Hid (¬ D w.heap.size) := fun e => by have := HDD.out _ e; omega
  refine (HV.out _ HRa.out).mono ?_; rintro e w2 ⟨rfl, hr, hc⟩
  have HK2 := Lib.hid (chB (show Blk w1 gs 31 (stpV fr 0 none 0 0) from HKa.out) hc HG1.out)
  have HT2 := Lib.hid (chB (show Blk w1 w.heap.size 31 (stpV 0 0 none 0 0) from HTa.out) hc HG2.out)
  have HR2 := Lib.hid hr
  have HC2 := Lib.hid (HCa.out.trans hc)
  clear hr hc
  go_wp2_with fail
  refine (HFL2.out _ HR2.out).mono ?_; rintro e w3 ⟨rfl, hr, hc⟩
  have HK3 := Lib.hid (chB (show Blk w2 gs 31 _ from HK2.out) hc HG1.out)
  have HT3 := Lib.hid (chB (show Blk w2 w.heap.size 31 _ from HT2.out) hc HG2.out)
  have HR3 := Lib.hid hr
  have HC3 := Lib.hid (HC2.out.trans hc)
  clear hr hc
  have k1 := (show Blk w3 gs 31 _ from HK3.out).cell 1
  have kf1 := (show Blk w3 gs 31 _ from HK3.out).frozen 1
  go_wp2_with fail
  clear k1 kf1
  generalize hW : World.setCell w3 _ _ = w4
  have HRb : Hid (Rd w4 D g l Q' F') := by rw [← hW]; exact rdPut HR3.out (a := ⟨gs, 1, none⟩) HG1.out HD1.out _
  have HTb : Hid (Blk w4 w.heap.size 31 (stpV 0 0 none 0 0)) := by rw [← hW]; exact (show Blk w3 w.heap.size 31 _ from HT3.out).far (p := ⟨gs, 1, none⟩) (by dsimp only; omega) _
  have HCb : Hid (Chg (one g) w w4) := by rw [← hW]; exact HC3.out.setCell (p := ⟨gs, 1, none⟩) (.inr (by dsimp only; omega)) _
  clear hW
  refine (HM.out _ HRb.out).mono ?_; rintro e w5 ⟨rfl, hr, hc⟩
  have HR5 := Lib.hid hr
  have HT5 := Lib.hid (chB (show Blk w4 w.heap.size 31 _ from HTb.out) hc HG2.out)
  have HC5 := Lib.hid (HCb.out.trans hc)
  clear hr hc
  go_wp2_with fail
  go_step3
  go_wp2_with fail
  go_loop [36] (fun i => i = .int .i64 0) (fun _ => 0)
  case atStart => rfl
  case round =>
    obtain rfl := hrel
    go_wp2_with fail
    refine (cgood_at HR5.out).mono ?_; rintro e w10 ⟨rfl, hb⟩
    have HTz := Lib.hid (keepB (show Blk w5 w.heap.size 31 _ from HT5.out) hb)
    have HRz := Lib.hid (HR5.out.below hb)
    have HCz := Lib.hid (HC5.out.trans (Chg.of_pure hb _))
    clear hb
    go_wp2_with (refine wpList_put_row rfl 31 (.tmp 4) (.tmp 54) rfl w.heap.size (stpV 0 0 none 0 0) rfl rfl 31 _ HTz.out HS4.out rfl (by simp [Value.oneCell']) ?_; intro w9 hblk hgr)
    try rw [Exit.noGoto_ret]
    have hq := HQF.out
    obtain ⟨hq1, hq2⟩ := hq
    refine bodyPost_ret (results_cell_row rfl _ _ w.heap.size 31 _ (0, 0) _ rfl hblk Try.underlying31 rfl HS4.out) rfl ⟨none, 0, 0, rfl, LL.nil _ _, ?_, chGrown HCz.out hgr (fun j hj => by injection hj with hj; omega)⟩
    rw [hq2, hq1]
    exact rdGrown HRz.out hgr (fun e => by injection e with e; omega) (fun j hj e => by injection e with e; subst e; exact HD2.out hj)
set_option maxRecDepth 100000 in
set_option maxHeartbeats 2000000 in
theorem strRead_bad1 (h : Rd w D g l p f) (hf : OkF f) (hl : l.length ≤ 1000000000) (fr : Nat) (hfr : fr ≤ 18446744073709551615) (hle : 4611686018427387904 ≤ fr) (hle2 : fr ≤ 4611686018427387904) {q : Nat} {F : Flt} (hv : vrdF l p f = (0, q, F)) (h0 : F.1 ≠ 0) :
    Calls Try.prog 41 #[.pointer (some ⟨g, 0, none⟩), .int .u64 (fr : Int)] w (StrIs w D g l ((0, 0, []), q, F)) := by
  have HS4 : Hid ((Try.prog.info? 31).map (·.size) = some 3) := by unfold Hid; kernel_rfl
  obtain ⟨F', hFe⟩ : ∃ F', F' = F := ⟨_, rfl⟩
  obtain ⟨Q', hQe⟩ : ∃ Q', Q' = q := ⟨_, rfl⟩
  have hF' : F'.1 ≠ 0 := by rw [hFe]; exact h0
  have HQF : Hid (q = Q' ∧ F = F') := ⟨hQe.symm, hFe.symm⟩
  have HV : Hid (∀ w, Rd w D g l p f → Calls Try.prog 92 #[.pointer (some ⟨g, 0, none⟩)] w fun e w' => e = .returned (.int .u64 0) ∧ Rd w' D g l Q' F' ∧ Chg (one g) w w') := fun w h => by have := vread_any h hf hl; rw [hv] at this; rw [hQe, hFe]; exact this
  have HFL2 : Hid (∀ w, Rd w D g l Q' F' → Calls Try.prog 91 #[.pointer (some ⟨g, 0, none⟩), .int .i64 3, .int .i64 (p : Int)] w fun e w' => e = .returned (.tuple #[]) ∧ Rd w' D g l Q' F' ∧ Chg (one g) w w') := fun w h => by have := cfail_at h 3 p; rwa [failF_stay hF'] at this
  have dd0 : decide ((4611686018427387904 : Int) < (fr : Int)) = false := by simp; omega
  have dd1 : (if (4611686018427387904 : Int) < (fr : Int) then (4611686018427387904 : Int) else (fr : Int)) = (fr : Int) := if_neg (by omega)
  have dd1' : (if (fr : Int) < (4611686018427387904 : Int) then (fr : Int) else (4611686018427387904 : Int)) = (fr : Int) := by split <;> omega
  have dd3 : IntKind.u64.wrap ((4611686018427387904 : Int) - (fr : Int)) = (4611686018427387904 : Int) - (fr : Int) := IntWalk.u64_in _ (by omega)
  have dd2 : decide ((4611686018427387904 : Int) - (fr : Int) ≤ 0) = true := by simp; omega
  clear hQe hFe hv h0
  have hfb : (F'.1 == 0) = false := by simpa using hF'
  have HFB := Lib.hid hF'
  have HM : Hid (∀ w, Rd w D g l Q' F' → Calls Try.prog 93 #[.pointer (some ⟨g, 0, none⟩), .int .i64 8] w fun e w' => e = .returned (.int .i64 0) ∧ Rd w' D g l Q' F' ∧ Chg (one g) w w') := fun w h => by
    have := many_at h (.inr hF') hl 8 (by decide)
    rw [manyF_bad hF'] at this
    exact this
  have hgl := h.lt
  have HRD := Lib.hid h
  have HDD := Lib.hid h.dom
  have HT0 := Lib.hid (Blk.new w 31 (stpV 0 0 none 0 0))
  have HC0 := Lib.hid (Chg.of_pure (below1 w (.cells (stpV 0 0 none 0 0) 31)) (one g))
  have HR0 := Lib.hid (HRD.out.below (below1 w (.cells (stpV 0 0 none 0 0) 31)))
  clear h hf hF'
  go_enter Try.func41, Try.ntmps41
  go_wp2_with fail
  go_step3
  go_wp2_with fail
  generalize World.alloc w _ = w0 at *
  have hz0 := HC0.out.size
  have hl0 := (show Blk w0 w.heap.size 31 (stpV 0 0 none 0 0) from HT0.out).lt
  refine (cat_at HR0.out).mono ?_; rintro e wx ⟨rfl, rfl⟩
  go_wp2_with fail
  have HKa := Lib.hid (blk11 w0 31 (stpV fr 0 none 0 0))
  have HTa := Lib.hid (keepB (show Blk w0 w.heap.size 31 (stpV 0 0 none 0 0) from HT0.out) (below1 w0 (.cells (stpV fr 0 none 0 0) 31)))
  have HRa := Lib.hid (HR0.out.below (below1 w0 (.cells (stpV fr 0 none 0 0) 31)))
  have HCa := Lib.hid (HC0.out.trans (Chg.of_pure (below1 w0 (.cells (stpV fr 0 none 0 0) 31)) (one g)))
  generalize hgs : w0.heap.size = gs at *
  generalize World.alloc w0 _ = w1 at *
  have HG1 : Hid (¬ one g gs) := fun e => by have e : gs = g := e; omega
  have HG2 : Hid (¬ one g w.heap.size) := fun e => by have e : w.heap.size = g := e; omega
  have HD1 : Hid (¬ D gs) := fun e => by have := HDD.out gs e; omega
  have HD2 : Hid (¬ D w.heap.size) := fun e => by have := HDD.out _ e; omega
  refine (HV.out _ HRa.out).mono ?_; rintro e w2 ⟨rfl, hr, hc⟩
  have HK2 := Lib.hid (chB (show Blk w1 gs 31 (stpV fr 0 none 0 0) from HKa.out) hc HG1.out)
  have HT2 := Lib.hid (chB (show Blk w1 w.heap.size 31 (stpV 0 0 none 0 0) from HTa.out) hc HG2.out)
  have HR2 := Lib.hid hr
  have HC2 := Lib.hid (HCa.out.trans hc)
  clear hr hc
  go_wp2_with fail
  refine (HFL2.out _ HR2.out).mono ?_; rintro e w3 ⟨rfl, hr, hc⟩
  have HK3 := Lib.hid (chB (show Blk w2 gs 31 _ from HK2.out) hc HG1.out)
  have HT3 := Lib.hid (chB (show Blk w2 w.heap.size 31 _ from HT2.out) hc HG2.out)
  have HR3 := Lib.hid hr
  have HC3 := Lib.hid (HC2.out.trans hc)
  clear hr hc
  have k1 := (show Blk w3 gs 31 _ from HK3.out).cell 1
  have kf1 := (show Blk w3 gs 31 _ from HK3.out).frozen 1
  go_wp2_with fail
  clear k1 kf1
  generalize hW : World.setCell w3 _ _ = w4
  have HRb : Hid (Rd w4 D g l Q' F') := by rw [← hW]; exact rdPut HR3.out (a := ⟨gs, 1, none⟩) HG1.out HD1.out _
  have HTb : Hid (Blk w4 w.heap.size 31 (stpV 0 0 none 0 0)) := by rw [← hW]; exact (show Blk w3 w.heap.size 31 _ from HT3.out).far (p := ⟨gs, 1, none⟩) (by dsimp only; omega) _
  have HCb : Hid (Chg (one g) w w4) := by rw [← hW]; exact HC3.out.setCell (p := ⟨gs, 1, none⟩) (.inr (by dsimp only; omega)) _
  clear hW
  refine (HM.out _ HRb.out).mono ?_; rintro e w5 ⟨rfl, hr, hc⟩
  have HR5 := Lib.hid hr
  have HT5 := Lib.hid (chB (show Blk w4 w.heap.size 31 _ from HTb.out) hc HG2.out)
  have HC5 := Lib.hid (HCb.out.trans hc)
  clear hr hc
  go_wp2_with fail
  go_step3
  go_wp2_with fail
  go_loop [36] (fun i => i = .int .i64 0) (fun _ => 0)
  case atStart => rfl
  case round =>
    obtain rfl := hrel
    go_wp2_with fail
    refine (cgood_at HR5.out).mono ?_; rintro e w10 ⟨rfl, hb⟩
    have HTz := Lib.hid (keepB (show Blk w5 w.heap.size 31 _ from HT5.out) hb)
    have HRz := Lib.hid (HR5.out.below hb)
    have HCz := Lib.hid (HC5.out.trans (Chg.of_pure hb _))
    clear hb
    go_wp2_with (refine wpList_put_row rfl 31 (.tmp 4) (.tmp 54) rfl w.heap.size (stpV 0 0 none 0 0) rfl rfl 31 _ HTz.out HS4.out rfl (by simp [Value.oneCell']) ?_; intro w9 hblk hgr)
    try rw [Exit.noGoto_ret]
    have hq := HQF.out
    obtain ⟨hq1, hq2⟩ := hq
    refine bodyPost_ret (results_cell_row rfl _ _ w.heap.size 31 _ (0, 0) _ rfl hblk Try.underlying31 rfl HS4.out) rfl ⟨none, 0, 0, rfl, LL.nil _ _, ?_, chGrown HCz.out hgr (fun j hj => by injection hj with hj; omega)⟩
    rw [hq2, hq1]
    exact rdGrown HRz.out hgr (fun e => by injection e with e; omega) (fun j hj e => by injection e with e; subst e; exact HD2.out hj)
set_option maxRecDepth 100000 in
set_option maxHeartbeats 2000000 in
theorem strRead_bad2 (h : Rd w D g l p f) (hf : OkF f) (hl : l.length ≤ 1000000000) (fr : Nat) (hfr : fr ≤ 18446744073709551615) (hle : fr < 4611686018427387904) {q : Nat} {F : Flt} (hv : vrdF l p f = (0, q, F)) (h0 : F.1 ≠ 0) :
    Calls Try.prog 41 #[.pointer (some ⟨g, 0, none⟩), .int .u64 (fr : Int)] w (StrIs w D g l ((0, 0, []), q, F)) := by
  have HS4 : Hid ((Try.prog.info? 31).map (·.size) = some 3) := by unfold Hid; kernel_rfl
  obtain ⟨F', hFe⟩ : ∃ F', F' = F := ⟨_, rfl⟩
  obtain ⟨Q', hQe⟩ : ∃ Q', Q' = q := ⟨_, rfl⟩
  have hF' : F'.1 ≠ 0 := by rw [hFe]; exact h0
  have HQF : Hid (q = Q' ∧ F = F') := ⟨hQe.symm, hFe.symm⟩
  have HV : Hid (∀ w, Rd w D g l p f → Calls Try.prog 92 #[.pointer (some ⟨g, 0, none⟩)] w fun e w' => e = .returned (.int .u64 0) ∧ Rd w' D g l Q' F' ∧ Chg (one g) w w') := fun w h => by have := vread_any h hf hl; rw [hv] at this; rw [hQe, hFe]; exact this
  have HFL2 : Hid (∀ w, Rd w D g l Q' F' → Calls Try.prog 91 #[.pointer (some ⟨g, 0, none⟩), .int .i64 3, .int .i64 (p : Int)] w fun e w' => e = .returned (.tuple #[]) ∧ Rd w' D g l Q' F' ∧ Chg (one g) w w') := fun w h => by have := cfail_at h 3 p; rwa [failF_stay hF'] at this
  have dd0 : decide ((4611686018427387904 : Int) < (fr : Int)) = false := by simp; omega
  have dd1 : (if (4611686018427387904 : Int) < (fr : Int) then (4611686018427387904 : Int) else (fr : Int)) = (fr : Int) := if_neg (by omega)
  have dd1' : (if (fr : Int) < (4611686018427387904 : Int) then (fr : Int) else (4611686018427387904 : Int)) = (fr : Int) := by split <;> omega
  have dd3 : IntKind.u64.wrap ((4611686018427387904 : Int) - (fr : Int)) = (4611686018427387904 : Int) - (fr : Int) := IntWalk.u64_in _ (by omega)
  have dd2 : decide ((4611686018427387904 : Int) - (fr : Int) ≤ 0) = false := by simp; omega
  clear hQe hFe hv h0
  have hfb : (F'.1 == 0) = false := by simpa using hF'
  have HFB := Lib.hid hF'
  have HM : Hid (∀ w, Rd w D g l Q' F' → Calls Try.prog 93 #[.pointer (some ⟨g, 0, none⟩), .int .i64 8] w fun e w' => e = .returned (.int .i64 0) ∧ Rd w' D g l Q' F' ∧ Chg (one g) w w') := fun w h => by
    have := many_at h (.inr hF') hl 8 (by decide)
    rw [manyF_bad hF'] at this
    exact this
  have hgl := h.lt
  have HRD := Lib.hid h
  have HDD := Lib.hid h.dom
  have HT0 := Lib.hid (Blk.new w 31 (stpV 0 0 none 0 0))
  have HC0 := Lib.hid (Chg.of_pure (below1 w (.cells (stpV 0 0 none 0 0) 31)) (one g))
  have HR0 := Lib.hid (HRD.out.below (below1 w (.cells (stpV 0 0 none 0 0) 31)))
  clear h hf hF'
  go_enter Try.func41, Try.ntmps41
  go_wp2_with fail
  go_step3
  go_wp2_with fail
  generalize World.alloc w _ = w0 at *
  have hz0 := HC0.out.size
  have hl0 := (show Blk w0 w.heap.size 31 (stpV 0 0 none 0 0) from HT0.out).lt
  refine (cat_at HR0.out).mono ?_; rintro e wx ⟨rfl, rfl⟩
  go_wp2_with fail
  have HKa := Lib.hid (blk11 w0 31 (stpV fr 0 none 0 0))
  have HTa := Lib.hid (keepB (show Blk w0 w.heap.size 31 (stpV 0 0 none 0 0) from HT0.out) (below1 w0 (.cells (stpV fr 0 none 0 0) 31)))
  have HRa := Lib.hid (HR0.out.below (below1 w0 (.cells (stpV fr 0 none 0 0) 31)))
  have HCa := Lib.hid (HC0.out.trans (Chg.of_pure (below1 w0 (.cells (stpV fr 0 none 0 0) 31)) (one g)))
  generalize hgs : w0.heap.size = gs at *
  generalize World.alloc w0 _ = w1 at *
  have HG1 : Hid (¬ one g gs) := fun e => by have e : gs = g := e; omega
  have HG2 : Hid (¬ one g w.heap.size) := fun e => by have e : w.heap.size = g := e; omega
  have HD1 : Hid (¬ D gs) := fun e => by have := HDD.out gs e; omega
  have HD2 : Hid (¬ D w.heap.size) := fun e => by have := HDD.out _ e; omega
  refine (HV.out _ HRa.out).mono ?_; rintro e w2 ⟨rfl, hr, hc⟩
  have HK2 := Lib.hid (chB (show Blk w1 gs 31 (stpV fr 0 none 0 0) from HKa.out) hc HG1.out)
  have HT2 := Lib.hid (chB (show Blk w1 w.heap.size 31 (stpV 0 0 none 0 0) from HTa.out) hc HG2.out)
  have HR2 := Lib.hid hr
  have HC2 := Lib.hid (HCa.out.trans hc)
  clear hr hc
  have k1 := (show Blk w2 gs 31 _ from HK2.out).cell 1
  have kf1 := (show Blk w2 gs 31 _ from HK2.out).frozen 1
  go_wp2_with fail
  clear k1 kf1
  generalize hW : World.setCell w2 _ _ = w4
  have HRb : Hid (Rd w4 D g l Q' F') := by rw [← hW]; exact rdPut HR2.out (a := ⟨gs, 1, none⟩) HG1.out HD1.out _
  have HTb : Hid (Blk w4 w.heap.size 31 (stpV 0 0 none 0 0)) := by rw [← hW]; exact (show Blk w2 w.heap.size 31 _ from HT2.out).far (p := ⟨gs, 1, none⟩) (by dsimp only; omega) _
  have HCb : Hid (Chg (one g) w w4) := by rw [← hW]; exact HC2.out.setCell (p := ⟨gs, 1, none⟩) (.inr (by dsimp only; omega)) _
  clear hW
  refine (HM.out _ HRb.out).mono ?_; rintro e w5 ⟨rfl, hr, hc⟩
  have HR5 := Lib.hid hr
  have HT5 := Lib.hid (chB (show Blk w4 w.heap.size 31 _ from HTb.out) hc HG2.out)
  have HC5 := Lib.hid (HCb.out.trans hc)
  clear hr hc
  go_wp2_with fail
  go_step3
  go_wp2_with fail
  go_loop [36] (fun i => i = .int .i64 0) (fun _ => 0)
  case atStart => rfl
  case round =>
    obtain rfl := hrel
    go_wp2_with fail
    refine (cgood_at HR5.out).mono ?_; rintro e w10 ⟨rfl, hb⟩
    have HTz := Lib.hid (keepB (show Blk w5 w.heap.size 31 _ from HT5.out) hb)
    have HRz := Lib.hid (HR5.out.below hb)
    have HCz := Lib.hid (HC5.out.trans (Chg.of_pure hb _))
    clear hb
    go_wp2_with (refine wpList_put_row rfl 31 (.tmp 4) (.tmp 54) rfl w.heap.size (stpV 0 0 none 0 0) rfl rfl 31 _ HTz.out HS4.out rfl (by simp [Value.oneCell']) ?_; intro w9 hblk hgr)
    try rw [Exit.noGoto_ret]
    have hq := HQF.out
    obtain ⟨hq1, hq2⟩ := hq
    refine bodyPost_ret (results_cell_row rfl _ _ w.heap.size 31 _ (0, 0) _ rfl hblk Try.underlying31 rfl HS4.out) rfl ⟨none, 0, 0, rfl, LL.nil _ _, ?_, chGrown HCz.out hgr (fun j hj => by injection hj with hj; omega)⟩
    rw [hq2, hq1]
    exact rdGrown HRz.out hgr (fun e => by injection e with e; omega) (fun j hj e => by injection e with e; subst e; exact HD2.out hj)
theorem strRead_any (h : Rd w D g l p f) (hf : OkF f) (hl : l.length ≤ 1000000000) (fr : Nat) (hfr : fr ≤ 18446744073709551615) :
    Calls Try.prog 41 #[.pointer (some ⟨g, 0, none⟩), .int .u64 (fr : Int)] w (StrIs w D g l (strF l p f fr)) := by
  by_cases h1 : 4611686018427387904 < fr
  · have e : strF l p f fr = ((0, 0, []), p, failF f 3 p) := by unfold strF; rw [if_pos h1]
    rw [e]
    exact strRead_over h hf hl fr hfr h1
  rcases hv : vrdF l p f with ⟨x, q, F⟩
  by_cases h0 : F.1 = 0
  · by_cases hx : 4611686018427387904 ≤ fr + x
    · have e : strF l p f fr = ((0, 0, []), q, failF F 3 p) := by
        unfold strF
        rw [if_neg h1, hv, if_pos ⟨h0, by show 4611686018427387904 - fr ≤ x; omega⟩]
      rw [e]
      exact strRead_great h hf hl fr hfr (by omega) hv h0 hx
    · exact strRead_good h hf hl fr (by omega) hv h0 (by omega)
  · have hx0 : x = 0 := by have := vrdF_fail0 (l := l) (p := p) (f := f) (by rw [hv]; exact h0); rwa [hv] at this
    subst hx0
    have e : strF l p f fr = ((0, 0, []), q, F) := by
      unfold strF
      rw [if_neg h1, hv, if_neg (by rintro ⟨hh, _⟩; exact h0 hh)]
      simp only
      rw [manyF_bad h0]
      exact if_neg h0
    rw [e]
    rcases Nat.lt_or_ge fr 4611686018427387904 with hh | hh
    · exact strRead_bad2 h hf hl fr hfr hh hv h0
    · exact strRead_bad1 h hf hl fr hfr hh (by omega) hv h0
end
end Go.Proofs.Ytmdgmnaaopineaa
