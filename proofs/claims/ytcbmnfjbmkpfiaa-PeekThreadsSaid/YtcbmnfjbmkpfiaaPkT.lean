/- Entries of one's own whose rows of links lie apart: a link may be turned where it lies. -/
import Derived.Test.YtcbmnfjbmkpfiaaPkR
import Derived.Laws.CopyRow
namespace Go.Proofs.Ytcbmnfjbmkpfiaa
open Go.ChangeShapes Go.WideShapes Go.ChangeAt Go.RowKit
set_option linter.unusedVariables false
def TD : TypeId → Prop := fun t => t = 22 ∨ t = 5
theorem td_link : ¬ TD 57 := by unfold TD; decide
theorem td_ent : ¬ TD 45 := by unfold TD; decide
def TBv (vals : List Value) (rv : Nat → List Value) (D0 : Dom) (w : World) (base : Nat) (A : Option Addr) (n c : Nat) (es : List Ent) : Prop :=
  w.ownsRow base 45 2 (.slice A n c) n vals ∧ es.length = n ∧
  (∀ (i : Nat) e, es[i]? = some e → ∃ A' c' B d, vals[i * 2]? = some (.slice A' e.1.length c') ∧ vals[i * 2 + 1]? = some (.slice B e.2.length d) ∧
    w.ownsRow base 57 2 (.slice A' e.1.length c') e.1.length (rv i) ∧ rpU8.sl w (Tb TD D0 w) B e.2.length d e.2 ∧
    ∀ (k : Nat) x, e.1[k]? = some x → ∃ cs, rpLnk.ok w (Tb TD D0 w) x cs ∧ ∀ (j : Nat) u, cs[j]? = some u → (rv i)[k * 2 + j]? = some u) ∧
  ∀ (i j : Nat) u v g, i < n → j < n → vals[i * 2]? = some u → vals[j * 2]? = some v → u.ownBlock = some g → v.ownBlock = some g → i = j
def TB (D0 : Dom) (w : World) (base : Nat) (A : Option Addr) (n c : Nat) (es : List Ent) : Prop := ∃ vals rv, TBv vals rv D0 w base A n c es
section
variable {w w' : World} {base n c i k : Nat} {A : Option Addr} {es : List Ent} {vals : List Value} {rv : Nat → List Value} {D0 : Dom}
theorem own_sameT {size m : Nat} {e : TypeId} {v : Value} {xs : List Value} (h : w.ownsRow base e size v m xs) (hs : ∀ k cs, w.heap[k]? = some (.cells cs e (0, 0)) → base ≤ k → v.ownBlock = some k → w'.heap[k]? = w.heap[k]?) : w'.ownsRow base e size v m xs := by
  refine ⟨h.1, ?_⟩
  rcases h.2 with h0 | ⟨g, cap, cur, rfl, hg, hh, hr⟩
  · exact .inl h0
  · exact .inr ⟨g, cap, cur, rfl, hg, (hs g cur hh hg rfl).trans hh, hr⟩
theorem own_type {size m : Nat} {e : TypeId} {v : Value} {xs : List Value} (h : w.ownsRow base e size v m xs) {g : Nat} (hg : v.ownBlock = some g) : ∃ cs, w.heap[g]? = some (.cells cs e (0, 0)) := by
  rcases h.2 with ⟨hv, _⟩ | ⟨g', cap, cur, hv, _, hh, _⟩
  · rw [hv] at hg; cases hg
  · rw [hv] at hg
    have e : g' = g := Option.some.inj hg
    subst e
    exact ⟨cur, hh⟩
theorem TBv.same (h : TBv vals rv D0 w base A n c es) (hT : ∀ k, Tb TD D0 w k → w'.heap[k]? = w.heap[k]?) (hr : ∀ k cs t, base ≤ k → w.heap[k]? = some (.cells cs t (0, 0)) → (t = 57 ∨ t = 45) → w'.heap[k]? = w.heap[k]?) (hz : w.heap.size ≤ w'.heap.size) : TBv vals rv D0 w' base A n c es := by
  obtain ⟨ho, hn, hi, ha⟩ := h
  refine ⟨own_sameT ho fun k cs hk hb _ => hr k cs _ hb hk (.inr rfl), hn, fun i e he => ?_, ha⟩
  obtain ⟨A', c', B, d, h1, h2, h3, h4, h5⟩ := hi i e he
  refine ⟨A', c', B, d, h1, h2, own_sameT h3 fun k cs hk hb _ => hr k cs _ hb hk (.inl rfl), Rp.sl_more (Rp.sl_keep h4 (fun k hk => hT k hk)) (fun k hk => Tb.keep hT hz hk), fun k x hx => ?_⟩
  obtain ⟨cs, hok, hc⟩ := h5 k x hx
  exact ⟨cs, ok_same hok hT hz, hc⟩
theorem TBv.below (h : TBv vals rv D0 w base A n c es) (hb : Below w.heap.size w w') : TBv vals rv D0 w' base A n c es :=
  h.same (fun k hk => hb.block k hk.1) (fun k cs t _ hk _ => hb.block k (Array.getElem?_eq_some_iff.1 hk).1) hb.size
theorem TB.below (h : TB D0 w base A n c es) (hb : Below w.heap.size w w') : TB D0 w' base A n c es := by
  obtain ⟨vals, rv, h⟩ := h
  exact ⟨vals, rv, h.below hb⟩
theorem TB.len (h : TB D0 w base A n c es) : es.length = n := by obtain ⟨_, _, _, hn, _⟩ := h; exact hn
theorem TB.nil (D0 : Dom) (w : World) (base : Nat) : TB D0 w base none 0 0 [] := ⟨[], fun _ => [], World.ownsRow_nil _ _ _ _, rfl, fun i e h => by simp at h, fun i j u v g h => absurd h (Nat.not_lt_zero _)⟩
/-- A block of another type, or an older one, has turned. -/
theorem TB.turned {b0 : Nat} {t : TypeId} {cs : Array Value} (h : TB D0 w base A n c es) (hb : Blk w b0 t cs) (ht : ¬ TD t) (hn : ¬ D0 b0) (h2 : (t ≠ 57 ∧ t ≠ 45) ∨ b0 < base) (hg : w.grownBy w' (some b0)) : TB D0 w' base A n c es := by
  obtain ⟨vals, rv, h⟩ := h
  refine ⟨vals, rv, h.same (fun k hk => hg.block k hk.1 (fun e => ?_)) (fun k cs' t' hbk hk ht' => hg.block k (Array.getElem?_eq_some_iff.1 hk).1 (fun e => ?_)) hg.size⟩
  · have e' : k = b0 := Option.some.inj e
    subst e'
    rcases hk.2 with h | ⟨cs', t', h, ht'⟩
    · exact hn h
    · obtain rfl := blk_type hb h
      exact ht ht'
  · have e' : k = b0 := Option.some.inj e
    subst e'
    obtain rfl := blk_type hb hk
    rcases h2 with ⟨h3, h4⟩ | h3
    · rcases ht' with h | h
      · exact h3 h
      · exact h4 h
    · omega
/-- It reads as its entries. -/
theorem TB.sl (h : TB D0 w base A n c es) : rpEnt.sl w (fun k => k < w.heap.size) A n c es := by
  obtain ⟨vals, rv, ho, hn, hi, ha⟩ := h
  rcases ho.2 with ⟨hv, h0⟩ | ⟨g, cap, cur, hv, hg, hh, hnc, hcm, hcs, htake⟩
  · injection hv with h1 h2 h3
    subst h1; subst h3
    have hs0 : es = [] := List.eq_nil_of_length_eq_zero (by omega)
    subst hs0
    have hn0 : n = 0 := by simpa using hn.symm
    subst hn0
    exact Rp.sl_nil _ _ _ _ _ (by decide)
  · injection hv with h1 h2 h3
    subst h1; subst h3
    subst hn
    refine ⟨_, _, rfl, hnc, hcm, fun _ => ⟨g, 0, rfl, (Array.getElem?_eq_some_iff.1 hh).1, fun i e he => ?_⟩⟩
    obtain ⟨A', c', B, d, h1, h2, h3, h4, h5⟩ := hi i e he
    have hrow : rpLnk.sl w (fun k => k < w.heap.size) A' e.1.length c' e.1 := OL.sl (TS := TD) (D0 := D0) (e := 57) (base := base) ⟨rv i, h3, rfl, h5⟩
    refine ⟨[.slice A' e.1.length c', .slice B e.2.length d], ⟨[.slice A' e.1.length c'], [.slice B e.2.length d], rfl, hrow, Rp.sl_more h4 (fun k hk => hk.1)⟩, fun j u hu => ?_⟩
    have hj : j < 2 := (List.getElem?_eq_some_iff.1 hu).1
    have hvi : vals[i * 2 + j]? = some u := by
      match j, hj with
      | 0, _ => rw [Nat.add_zero, h1, ← hu]; rfl
      | 1, _ => rw [h2, ← hu]; rfl
    rw [ent_size, cell_of_row w g (0 + i * 2 + j) cur _ (0, 0) hh, Nat.zero_add]
    rw [← htake, List.getElem?_take] at hvi
    split at hvi
    · simpa using hvi
    · cases hvi
/-- One entry more, made behind a world w0. -/
theorem TBv.push {w0 w3 : World} {A3 A' B : Option Addr} {c3 c' d : Nat} {e : Ent} {rvE : List Value} (h : TBv vals rv D0 w0 base A n c es) (hb : Below w0.heap.size w0 w) (h0 : ∀ k, D0 k → k < base) (hbz : base ≤ w0.heap.size)
    (ho3 : w3.ownsRow base 45 2 (.slice A3 (n + 1) c3) (n + 1) (vals ++ [.slice A' e.1.length c', .slice B e.2.length d])) (hg : w.grownBy w3 (Value.slice A n c).ownBlock)
    (hl : w.ownsRow w0.heap.size 57 2 (.slice A' e.1.length c') e.1.length rvE) (hd : rpU8.sl w (Tb TD D0 w) B e.2.length d e.2)
    (hx : ∀ (k : Nat) x, e.1[k]? = some x → ∃ cs, rpLnk.ok w (Tb TD D0 w) x cs ∧ ∀ (j : Nat) u, cs[j]? = some u → rvE[k * 2 + j]? = some u) : TB D0 w3 base A3 (n + 1) c3 (es ++ [e]) := by
  have hw := h.below hb
  obtain ⟨ho, hn, hi, ha⟩ := h
  obtain ⟨how, _, hiw, _⟩ := hw
  have hvl : vals.length = n * 2 := ho.1
  have hT := tb_grown (TS := TD) (D0 := D0) ⟨_, _, _, _, rfl, how⟩ td_ent h0 hg
  have hlk : ∀ {b m : Nat} {v : Value} {xs : List Value}, w.ownsRow b 57 2 v m xs → w3.ownsRow b 57 2 v m xs := fun hr =>
    own_sameT hr fun k cs hk _ _ => hg.block k (Array.getElem?_eq_some_iff.1 hk).1 (fun e => by
      obtain ⟨cs', hk'⟩ := own_type how e.symm
      rw [hk] at hk'
      injection hk' with hk'
      injection hk' with _ e2
      exact absurd e2 (by decide))
  refine ⟨_, fun i => if i = n then rvE else rv i, ho3, by rw [List.length_append, hn]; rfl, fun i y hy => ?_, fun i j u v g hin hjn hu hv hgu hgv => ?_⟩
  · by_cases hin : i < n
    · rw [List.getElem?_append_left (by omega)] at hy
      obtain ⟨A2, c2, B2, d2, h1, h2, h3, h4, h5⟩ := hiw i y hy
      have hne : i ≠ n := by omega
      refine ⟨A2, c2, B2, d2, by rw [List.getElem?_append_left (by omega)]; exact h1, by rw [List.getElem?_append_left (by omega)]; exact h2, ?_, Rp.sl_more (Rp.sl_keep h4 (fun k hk => hT k hk)) (fun k hk => Tb.keep hT hg.size hk), fun k x hx => ?_⟩
      · simp only [if_neg hne]; exact hlk h3
      · obtain ⟨cs, hok, hc⟩ := h5 k x hx
        simp only [if_neg hne]
        exact ⟨cs, ok_same hok hT hg.size, hc⟩
    · rw [List.getElem?_append_right (by omega)] at hy
      have hi2 : i - es.length = 0 := by
        rcases Nat.eq_zero_or_pos (i - es.length) with h0 | h0
        · exact h0
        · rw [List.getElem?_eq_none (by simp; omega)] at hy; cases hy
      rw [hi2] at hy
      simp only [List.getElem?_cons_zero, Option.some.injEq] at hy
      subst hy
      obtain rfl : i = n := by omega
      refine ⟨A', c', B, d, by rw [List.getElem?_append_right (by omega), hvl, Nat.sub_self]; rfl, by rw [List.getElem?_append_right (by omega), hvl, Nat.add_sub_cancel_left]; rfl, ?_, Rp.sl_more (Rp.sl_keep hd (fun k hk => hT k hk)) (fun k hk => Tb.keep hT hg.size hk), fun k x hxx => ?_⟩
      · simp only [if_pos]; exact own_less2 (hlk hl) hbz
      · obtain ⟨cs, hok, hc⟩ := hx k x hxx
        simp only [if_pos]
        exact ⟨cs, ok_same hok hT hg.size, hc⟩
  · have old : ∀ (q : Nat) u, q < n → vals[q * 2]? = some u → u.ownBlock = some g → g < w0.heap.size := fun q u hq hqu hqg => by
      obtain ⟨A2, c2, B2, d2, h1, h2, h3, _⟩ := hi q es[q] (List.getElem?_eq_getElem (by omega))
      rw [hqu] at h1
      injection h1 with h1
      subst h1
      exact (h3.lt g hqg).2
    have new : ∀ u, (vals ++ [.slice A' e.1.length c', .slice B e.2.length d])[n * 2]? = some u → u.ownBlock = some g → w0.heap.size ≤ g := fun u hqu hqg => by
      rw [List.getElem?_append_right (by omega), hvl, Nat.sub_self] at hqu
      simp only [List.getElem?_cons_zero, Option.some.injEq] at hqu
      subst hqu
      exact (hl.lt g hqg).1
    rcases Nat.lt_or_ge i n with h1 | h1
    · rcases Nat.lt_or_ge j n with h2 | h2
      · rw [List.getElem?_append_left (by omega)] at hu hv
        exact ha i j u v g h1 h2 hu hv hgu hgv
      · obtain rfl : j = n := by omega
        rw [List.getElem?_append_left (by omega)] at hu
        have := old i u h1 hu hgu
        have := new v hv hgv
        omega
    · obtain rfl : i = n := by omega
      rcases Nat.lt_or_ge j i with h2 | h2
      · rw [List.getElem?_append_left (by omega)] at hv
        have := old j v h2 hv hgv
        have := new u hu hgu
        omega
      · omega
theorem own_putT {e : TypeId} {size g : Nat} {xs : List Value} (h : w.ownsRow base e size (.slice (some ⟨g, 0, none⟩) n c) n xs) (j : Nat) (u : Value) : (w.setCell ⟨g, j, none⟩ u).ownsRow base e size (.slice (some ⟨g, 0, none⟩) n c) n (xs.set j u) := by
  refine ⟨by rw [List.length_set]; exact h.1, ?_⟩
  rcases h.2 with ⟨hv, _⟩ | ⟨q, cap, cur, hv, hg, hh, hnc, hcm, hcs, htake⟩
  · cases hv
  · injection hv with h1 _ h3
    injection h1 with h1
    injection h1 with h1
    subst h1; subst h3
    have hb : Blk w g e cur := hh
    exact .inr ⟨g, c, cur.setIfInBounds j u, rfl, hg, hb.put _ u, hnc, hcm, by simpa using hcs, by rw [Array.toList_setIfInBounds, List.take_set, htake]⟩
theorem own_cellT {e : TypeId} {size m : Nat} {A' : Option Addr} {c' : Nat} {xs : List Value} (h : w.ownsRow base e size (.slice A' m c') m xs) {j : Nat} {u : Value} (hj : xs[j]? = some u) :
    ∃ g cur, A' = some ⟨g, 0, none⟩ ∧ base ≤ g ∧ Blk w g e cur ∧ w.cell? ⟨g, j, none⟩ = some u := by
  rcases h.2 with ⟨_, h0⟩ | ⟨g, cap, cur, hv, hg, hh, hnc, hcm, hcs, htake⟩
  · have h1 := h.1
    rw [h0, Nat.zero_mul] at h1
    have := (List.getElem?_eq_some_iff.1 hj).1
    omega
  · injection hv with h1 _ h3
    have hb : Blk w g e cur := hh
    refine ⟨g, cur, h1, hg, hb, ?_⟩
    rw [hb.cell]
    rw [← htake, List.getElem?_take] at hj
    split at hj
    · simpa using hj
    · cases hj
/-- Where an entry stands. -/
theorem TB.at {e : Ent} (h : TB D0 w base A n c es) (hi : es[i]? = some e) :
    ∃ gE A' c' B d cur, A = some ⟨gE, 0, none⟩ ∧ base ≤ gE ∧ Blk w gE 45 cur ∧ w.cell? ⟨gE, i * 2, none⟩ = some (.slice A' e.1.length c') ∧ w.cell? ⟨gE, i * 2 + 1, none⟩ = some (.slice B e.2.length d) := by
  obtain ⟨vals, rv, ho, hn, hes, ha⟩ := h
  obtain ⟨A', c', B, dd, h1, h2, h3, h4, h5⟩ := hes i _ hi
  obtain ⟨gE, curE, hAE, hgE, hbE, cE0⟩ := own_cellT ho h1
  obtain ⟨gE', curE', hAE', _, _, cE1⟩ := own_cellT ho h2
  rw [hAE] at hAE'
  injection hAE' with hAE'
  injection hAE' with hAE'
  subst hAE'
  exact ⟨gE, A', c', B, dd, curE, hAE, hgE, hbE, cE0, cE1⟩
/-- A cell that is written as it was. -/
theorem setCell_self {g j : Nat} {t : TypeId} {cur : Array Value} {v : Value} (hb : Blk w g t cur) (hc : w.cell? ⟨g, j, none⟩ = some v) : w.setCell ⟨g, j, none⟩ v = w := by
  have h : w.heap[g]? = some (.cells cur t (0, 0)) := hb
  rw [setCell_eq_setRow w g j cur t (0, 0) v h]
  have e : cur.setIfInBounds j v = cur := by
    rw [hb.cell] at hc
    apply Array.ext
    · simp
    · intro q h1 h2
      rw [Array.getElem_setIfInBounds]
      split
      · next hq =>
        subst hq
        rw [Array.getElem?_eq_getElem h2] at hc
        injection hc with hc
        exact hc.symm
      · rfl
  rw [e]
  exact setRow_self w g cur t (0, 0) h
/-- The Backs of a link are turned where they lie. -/
theorem TBv.turn {L : List Lnk} {d : List UInt8} {x : Lnk} (hv : TBv vals rv D0 w base A n c es) (h0 : ∀ k, D0 k → k < base) (hi : es[i]? = some (L, d)) (hk : L[k]? = some x) :
    ∃ gE c' B dd g v1, A = some ⟨gE, 0, none⟩ ∧ gE < w.heap.size ∧ base ≤ gE ∧ w.cell? ⟨gE, i * 2, none⟩ = some (.slice (some ⟨g, 0, none⟩) L.length c') ∧ w.cell? ⟨gE, i * 2 + 1, none⟩ = some (.slice B d.length dd) ∧
      base ≤ g ∧ g < w.heap.size ∧ g ≠ gE ∧ (∀ q, w.frozen? ⟨g, q, none⟩ = false) ∧ w.cell? ⟨g, k * 2, none⟩ = some (.int .u64 (x.1 : Int)) ∧ w.cell? ⟨g, k * 2 + 1, none⟩ = some v1 ∧ (∃ A7 m7 c7, v1 = .slice A7 m7 c7) ∧ x.1 ≤ 18446744073709551615 ∧ (∃ cur, Blk w g 57 cur) ∧ vals[i * 2]? = some (.slice (some ⟨g, 0, none⟩) L.length c') ∧
      ∀ (w1 : World) (A5 : Option Addr) (xn c5 : Nat) (xl : List Nat), Below w.heap.size w w1 → rpU64.sl w1 (Tb TD D0 w1) A5 xn c5 xl → ∃ rv', TBv vals rv' D0 (w1.setCell ⟨g, k * 2 + 1, none⟩ (.slice A5 xn c5)) base A n c (es.set i (L.set k (x.1, xl), d)) := by
  have hall := hv
  obtain ⟨ho, hn, hes, ha⟩ := hv
  obtain ⟨A', c', B, dd, h1, h2, h3, h4, h5⟩ := hes i _ hi
  have hin : i < n := by rw [← hn]; exact (List.getElem?_eq_some_iff.1 hi).1
  obtain ⟨cs, hok, hc⟩ := h5 k x hk
  obtain ⟨a, b, rfl, ⟨rfl, hx64⟩, hb⟩ := hok
  obtain ⟨A7, c7, rfl, hb7⟩ := Rp.sl_form hb
  have r0 := hc 0 _ rfl
  have r1 := hc 1 _ rfl
  rw [Nat.add_zero] at r0
  obtain ⟨gE, curE, hAE, hgE, hbE, cE0⟩ := own_cellT ho h1
  obtain ⟨gE', curE', hAE', _, _, cE1⟩ := own_cellT ho h2
  rw [hAE] at hAE'
  injection hAE' with hAE'
  injection hAE' with hAE'
  subst hAE'
  obtain ⟨g, cur, hA', hg, hbg, c0⟩ := own_cellT h3 r0
  obtain ⟨g', cur', hA'', _, _, c1⟩ := own_cellT h3 r1
  rw [hA'] at hA''
  injection hA'' with hA''
  injection hA'' with hA''
  subst hA''
  subst hA'
  have hne : g ≠ gE := fun e => by
    subst e
    have := blk_type hbE hbg
    exact absurd this (by decide)
  refine ⟨gE, c', B, dd, g, _, hAE, hbE.lt, hgE, cE0, cE1, hg, hbg.lt, hne, hbg.frozen, c0, c1, ⟨_, _, _, rfl⟩, by omega, ⟨cur, hbg⟩, h1, fun w1 A5 xn c5 xl hb1 hr => ?_⟩
  obtain ⟨ho, hn, hes, ha⟩ := hall.below hb1
  obtain ⟨A2, c2, B2, d2, k1, k2, k3, k4, k5⟩ := hes i _ hi
  rw [h1] at k1
  injection k1 with k1
  injection k1 with k1 _ k1c
  subst k1; subst k1c
  have hbg1 : Blk w1 g 57 cur := keepB hbg hb1
  have hgr : w1.grownBy (w1.setCell ⟨g, k * 2 + 1, none⟩ (.slice A5 xn c5)) (some g) := grown_setCell w1 ⟨g, k * 2 + 1, none⟩ (.slice A5 xn c5)
  have hsame : ∀ q, q ≠ g → (w1.setCell ⟨g, k * 2 + 1, none⟩ (.slice A5 xn c5)).heap[q]? = w1.heap[q]? := fun q hq => Below.heap_setCell w1 ⟨g, k * 2 + 1, none⟩ (.slice A5 xn c5) q hq
  have hT : ∀ q, Tb TD D0 w1 q → (w1.setCell ⟨g, k * 2 + 1, none⟩ (.slice A5 xn c5)).heap[q]? = w1.heap[q]? := fun q hq => hsame q (fun e => by
    subst e
    rcases hq.2 with h | ⟨cs, t, h, ht⟩
    · have := h0 q h; omega
    · obtain rfl := blk_type hbg1 h
      exact td_link ht)
  have hz := hgr.size
  have hil : i < es.length := by omega
  refine ⟨fun q => if q = i then (rv i).set (k * 2 + 1) (.slice A5 xn c5) else rv q, own_sameT ho fun q cs hq hbq _ => hsame q (fun e => by
    subst e
    exact absurd (blk_type hbg1 hq) (by decide)), by rw [List.length_set]; exact hn, fun q y hy => ?_, ha⟩
  by_cases hqi : q = i
  · subst hqi
    rw [List.getElem?_set_self hil] at hy
    injection hy with hy
    subst hy
    refine ⟨some ⟨g, 0, none⟩, c', B2, d2, by rw [h1]; simp, k2, ?_, Rp.sl_more (Rp.sl_keep k4 (fun k hk => hT k hk)) (fun k hk => Tb.keep hT hz hk), fun p z hz' => ?_⟩
    · simp only [if_pos]
      have h6 := own_putT k3 (k * 2 + 1) (.slice A5 xn c5)
      simpa using h6
    · simp only [if_pos]
      have hrl : (rv q).length = L.length * 2 := k3.1
      have hkl : k < L.length := (List.getElem?_eq_some_iff.1 hk).1
      by_cases hpk : p = k
      · subst hpk
        have hz2 : (L.set p (x.1, xl))[p]? = some (x.1, xl) := List.getElem?_set_self hkl
        have hzz : z = (x.1, xl) := by
          have := hz'
          simp only at this
          rw [hz2] at this
          injection this with this
          exact this.symm
        subst hzz
        have hxn := (Rp.sl_len hr).1
        subst hxn
        refine ⟨[.int .u64 (x.1 : Int), .slice A5 xl.length c5], ⟨[.int .u64 (x.1 : Int)], [.slice A5 xl.length c5], rfl, ⟨rfl, hx64⟩, Rp.sl_more (Rp.sl_keep hr (fun k hk => hT k hk)) (fun k hk => Tb.keep hT hz hk)⟩, fun j u hu => ?_⟩
        have hj : j < 2 := (List.getElem?_eq_some_iff.1 hu).1
        match j, hj with
        | 0, _ =>
          rw [Nat.add_zero, List.getElem?_set_ne (by omega)]
          simp only [List.getElem?_cons_zero, Option.some.injEq] at hu
          subst hu
          exact r0
        | 1, _ =>
          rw [List.getElem?_set_self (by omega)]
          simpa using hu
      · have hz3 : L[p]? = some z := by
          have := hz'
          simp only at this
          rw [List.getElem?_set_ne (fun e => hpk e.symm)] at this
          exact this
        obtain ⟨cs, hok, hcc⟩ := k5 p z hz3
        refine ⟨cs, ok_same hok hT hz, fun j u hu => ?_⟩
        have hj : j < 2 := by
          have hcl : cs.length = 2 := rpLnk.len hok
          have := (List.getElem?_eq_some_iff.1 hu).1
          omega
        rw [List.getElem?_set_ne (by omega)]
        exact hcc j u hu
  · rw [List.getElem?_set_ne (fun e => hqi e.symm)] at hy
    obtain ⟨A3, c3, B3, d3, m1, m2, m3, m4, m5⟩ := hes q y hy
    refine ⟨A3, c3, B3, d3, m1, m2, ?_, Rp.sl_more (Rp.sl_keep m4 (fun k hk => hT k hk)) (fun k hk => Tb.keep hT hz hk), fun p z hz' => ?_⟩
    · simp only [if_neg hqi]
      exact own_sameT m3 fun b cs hb hbb hob => hsame b (fun e => by
        subst e
        have hql : q < n := by rw [← hn]; exact (List.getElem?_eq_some_iff.1 hy).1
        exact hqi (ha q i _ _ b hql hin m1 h1 hob rfl))
    · obtain ⟨cs, hok, hcc⟩ := m5 p z hz'
      simp only [if_neg hqi]
      exact ⟨cs, ok_same hok hT hz, hcc⟩
theorem TB.turn {L : List Lnk} {d : List UInt8} {x : Lnk} (h : TB D0 w base A n c es) (h0 : ∀ k, D0 k → k < base) (hi : es[i]? = some (L, d)) (hk : L[k]? = some x) :
    ∃ gE c' B dd g v1, A = some ⟨gE, 0, none⟩ ∧ gE < w.heap.size ∧ base ≤ gE ∧ w.cell? ⟨gE, i * 2, none⟩ = some (.slice (some ⟨g, 0, none⟩) L.length c') ∧ w.cell? ⟨gE, i * 2 + 1, none⟩ = some (.slice B d.length dd) ∧
      base ≤ g ∧ g < w.heap.size ∧ g ≠ gE ∧ (∀ q, w.frozen? ⟨g, q, none⟩ = false) ∧ w.cell? ⟨g, k * 2, none⟩ = some (.int .u64 (x.1 : Int)) ∧ w.cell? ⟨g, k * 2 + 1, none⟩ = some v1 ∧ (∃ A7 m7 c7, v1 = .slice A7 m7 c7) ∧ x.1 ≤ 18446744073709551615 ∧ (∃ cur, Blk w g 57 cur) ∧
      ∀ (w1 : World) (A5 : Option Addr) (xn c5 : Nat) (xl : List Nat), Below w.heap.size w w1 → rpU64.sl w1 (Tb TD D0 w1) A5 xn c5 xl → TB D0 (w1.setCell ⟨g, k * 2 + 1, none⟩ (.slice A5 xn c5)) base A n c (es.set i (L.set k (x.1, xl), d)) := by
  obtain ⟨vals, rv, hv⟩ := h
  obtain ⟨gE, c', B, dd, g, v1, a1, a2, a3, a4, a5, a6, a7, a8, a9, b1, b2, bs, b3, b4, _, b5⟩ := TBv.turn hv h0 hi hk
  exact ⟨gE, c', B, dd, g, v1, a1, a2, a3, a4, a5, a6, a7, a8, a9, b1, b2, bs, b3, b4, fun w1 A5 xn c5 xl h1 h2 => by
    obtain ⟨rv', h⟩ := b5 w1 A5 xn c5 xl h1 h2
    exact ⟨vals, rv', h⟩⟩
/-- The same, and the rows of links lie below a block number. -/
def TBb (hi : Nat) (D0 : Dom) (w : World) (base : Nat) (A : Option Addr) (n c : Nat) (es : List Ent) : Prop :=
  ∃ vals rv, TBv vals rv D0 w base A n c es ∧ ∀ (i : Nat) u g, i < n → vals[i * 2]? = some u → u.ownBlock = some g → g < hi
theorem TBb.tb {hi : Nat} (h : TBb hi D0 w base A n c es) : TB D0 w base A n c es := by obtain ⟨vals, rv, h, _⟩ := h; exact ⟨vals, rv, h⟩
theorem TB.toB (h : TB D0 w base A n c es) : TBb w.heap.size D0 w base A n c es := by
  obtain ⟨vals, rv, h⟩ := h
  refine ⟨vals, rv, h, fun i u g hin hu hug => ?_⟩
  obtain ⟨ho, hn, hes, ha⟩ := h
  obtain ⟨A', c', B, dd, h1, h2, h3, h4, h5⟩ := hes i es[i] (List.getElem?_eq_getElem (by omega))
  rw [h1] at hu
  injection hu with hu
  subst hu
  exact (h3.lt g hug).2
theorem TBb.below {hi : Nat} (h : TBb hi D0 w base A n c es) (hb : Below w.heap.size w w') : TBb hi D0 w' base A n c es := by
  obtain ⟨vals, rv, h, h2⟩ := h
  exact ⟨vals, rv, h.below hb, h2⟩
/-- Blocks of other types, or rows of links from the number on, have turned. -/
theorem TBb.chg {hi : Nat} {F : Dom} (h : TBb hi D0 w base A n c es) (hc : Chg F w w') (hF : ∀ k, F k → k < w.heap.size → ¬ D0 k ∧ ∀ cs t, w.heap[k]? = some (.cells cs t (0, 0)) → ¬ TD t ∧ t ≠ 45 ∧ (t ≠ 57 ∨ hi ≤ k)) : TBb hi D0 w' base A n c es := by
  obtain ⟨vals, rv, ⟨ho, hn, hes, ha⟩, hb⟩ := h
  have hT : ∀ k, Tb TD D0 w k → w'.heap[k]? = w.heap[k]? := fun k hk => hc.block k hk.1 (fun hf => by
    obtain ⟨h1, h2⟩ := hF k hf hk.1
    rcases hk.2 with h | ⟨cs, t, h, ht⟩
    · exact h1 h
    · exact (h2 cs t h).1 ht)
  refine ⟨vals, rv, ⟨own_sameT ho fun k cs hk _ _ => hc.block k (Array.getElem?_eq_some_iff.1 hk).1 (fun hf => ((hF k hf (Array.getElem?_eq_some_iff.1 hk).1).2 _ _ hk).2.1 rfl), hn, fun i e he => ?_, ha⟩, hb⟩
  obtain ⟨A', c', B, dd, h1, h2, h3, h4, h5⟩ := hes i e he
  have hin : i < n := by rw [← hn]; exact (List.getElem?_eq_some_iff.1 he).1
  refine ⟨A', c', B, dd, h1, h2, own_sameT h3 fun k cs hk _ hob => hc.block k (Array.getElem?_eq_some_iff.1 hk).1 (fun hf => ?_), Rp.sl_more (Rp.sl_keep h4 (fun k hk => hT k hk)) (fun k hk => Tb.keep hT hc.size hk), fun k x hx => ?_⟩
  · obtain ⟨_, _, h6⟩ := (hF k hf (Array.getElem?_eq_some_iff.1 hk).1).2 _ _ hk
    rcases h6 with h6 | h6
    · exact h6 rfl
    · have := hb i _ k hin h1 hob
      omega
  · obtain ⟨cs, hok, hcc⟩ := h5 k x hx
    exact ⟨cs, ok_same hok hT hc.size, hcc⟩
theorem TBb.turn {hi : Nat} {L : List Lnk} {d : List UInt8} {x : Lnk} (h : TBb hi D0 w base A n c es) (h0 : ∀ k, D0 k → k < base) (hes : es[i]? = some (L, d)) (hk : L[k]? = some x) :
    ∃ gE c' g v1, A = some ⟨gE, 0, none⟩ ∧ gE < w.heap.size ∧ w.cell? ⟨gE, i * 2, none⟩ = some (.slice (some ⟨g, 0, none⟩) L.length c') ∧
      base ≤ g ∧ g < w.heap.size ∧ g < hi ∧ g ≠ gE ∧ (∀ q, w.frozen? ⟨g, q, none⟩ = false) ∧ w.cell? ⟨g, k * 2, none⟩ = some (.int .u64 (x.1 : Int)) ∧ w.cell? ⟨g, k * 2 + 1, none⟩ = some v1 ∧ (∃ A7 m7 c7, v1 = .slice A7 m7 c7) ∧ x.1 ≤ 18446744073709551615 ∧ (∃ cur, Blk w g 57 cur) ∧
      ∀ (w1 : World) (A5 : Option Addr) (xn c5 : Nat) (xl : List Nat), Below w.heap.size w w1 → rpU64.sl w1 (Tb TD D0 w1) A5 xn c5 xl → TBb hi D0 (w1.setCell ⟨g, k * 2 + 1, none⟩ (.slice A5 xn c5)) base A n c (es.set i (L.set k (x.1, xl), d)) := by
  obtain ⟨vals, rv, hv, hb⟩ := h
  obtain ⟨gE, c', B, dd, g, v1, a1, a2, a3, a4, a5, a6, a7, a8, a9, b1, b2, bs, b3, b4, b6, b5⟩ := TBv.turn hv h0 hes hk
  have hin : i < n := by rw [← hv.2.1]; exact (List.getElem?_eq_some_iff.1 hes).1
  exact ⟨gE, c', g, v1, a1, a2, a4, a6, a7, hb i _ g hin b6 rfl, a8, a9, b1, b2, bs, b3, b4, fun w1 A5 xn c5 xl h1 h2 => by
    obtain ⟨rv', h⟩ := b5 w1 A5 xn c5 xl h1 h2
    exact ⟨vals, rv', h, hb⟩⟩
theorem OLk.lt {l : List Lnk} (h : OLk w base A n c l) {k : Nat} (hk : (Value.slice A n c).ownBlock = some k) : base ≤ k ∧ k < w.heap.size := by
  obtain ⟨vals, ho, _⟩ := h
  exact ho.lt k hk
/-- Another block than the row's has turned. -/
theorem OLk.other {l : List Lnk} {b0 : Nat} {t : TypeId} {cs : Array Value} (h : OLk w base A n c l) (hb : Blk w b0 t cs) (ht : t ≠ 22) (hne : (Value.slice A n c).ownBlock ≠ some b0) (hg : w.grownBy w' (some b0)) : OLk w' base A n c l := by
  obtain ⟨vals, ho, hn, hi⟩ := h
  have hT : ∀ k, Tb T64 (fun _ => False) w k → w'.heap[k]? = w.heap[k]? := fun k hk => hg.block k hk.1 (fun e => by
    have e' : k = b0 := Option.some.inj e
    subst e'
    rcases hk.2 with h | ⟨cs', t', h, ht'⟩
    · exact h
    · have := blk_type hb h
      subst this
      exact ht ht')
  refine ⟨vals, own_sameT ho fun k cs' hk _ hob => hg.block k (Array.getElem?_eq_some_iff.1 hk).1 (fun e => hne (by rw [hob, e])), hn, fun i x hx => ?_⟩
  obtain ⟨cs', hok, hc⟩ := hi i x hx
  exact ⟨cs', ok_same hok hT hg.size, hc⟩
end
end Go.Proofs.Ytcbmnfjbmkpfiaa
