/- Tails: as they were handed over, or as a list of one's own; the document's With. -/
import Derived.Test.YtcbmnfjbmkpfiaaPkCf
import Derived.Test.YtcbmnfjbmkpfiaaPkT
import Derived.BigQuiet
namespace Go.Proofs.Ytcbmnfjbmkpfiaa
open Go.ChangeShapes Go.WideShapes Go.ChangeAt Go.RowKit
set_option linter.unusedVariables false
abbrev OLd (D0 : Dom) (w : World) (base : Nat) (A : Option Addr) (n c : Nat) (l : List Lnk) : Prop := OL rpLnk T64 D0 57 w base A n c l
def TLs (D0 : Dom) (hi : Nat) (w : World) (A : Option Addr) (n c : Nat) (l : List Lnk) : Prop := rpLnk.sl w D0 A n c l ∨ OLd D0 w hi A n c l
section
variable {D0 : Dom} {hi base n c k xn c5 s no co : Nat} {A A5 Ao : Option Addr} {l L : List Lnk} {xl : List Nat} {w w' : World}
theorem tb_below (h : rpU64.sl w (Tb T64 D0 w) A n c xl) (hb : Below w.heap.size w w') : rpU64.sl w' (Tb T64 D0 w') A n c xl :=
  Rp.sl_more (Rp.sl_below h hb (fun k hk => hk.1)) (fun k hk => Tb.keep (fun k hk => hb.block k hk.1) hb.size hk)
theorem TLs.below (h : TLs D0 hi w A n c l) (h0 : ∀ k, D0 k → k < w.heap.size) (hb : Below w.heap.size w w') : TLs D0 hi w' A n c l := by
  rcases h with h | h
  · exact .inl (Rp.sl_below h hb h0)
  · exact .inr (OL.below h hb)
theorem TLs.len (h : TLs D0 hi w A n c l) : l.length = n := by
  rcases h with h | h
  · exact (Rp.sl_len h).1
  · exact h.len
theorem TLs.sl (h : TLs D0 hi w A n c l) (h0 : ∀ k, D0 k → k < w.heap.size) : rpLnk.sl w (fun k => k < w.heap.size) A n c l := by
  rcases h with h | h
  · exact Rp.sl_more h h0
  · exact OL.sl h
theorem TLs.at (h : TLs D0 hi w A n c l) (h0 : ∀ k, D0 k → k < w.heap.size) (hk : k < n) :
    ∃ b off x A' c', A = some ⟨b, off, none⟩ ∧ b < w.heap.size ∧ l[k]? = some x ∧ w.cell? ⟨b, off + k * 2, none⟩ = some (.int .u64 (x.1 : Int)) ∧ w.cell? ⟨b, off + k * 2 + 1, none⟩ = some (.slice A' x.2.length c') ∧ rpU64.sl w (Tb T64 D0 w) A' x.2.length c' x.2 ∧ x.1 ≤ 18446744073709551615 := by
  rcases h with h | h
  · obtain ⟨b, off, x, A', c', h1, h2, h3, h4, h5, h6, h7⟩ := lnk_at h hk
    exact ⟨b, off, x, A', c', h1, h0 b h2, h3, h4, h5, Rp.sl_more h6 (fun k hk => ⟨h0 k hk, .inl hk⟩), h7⟩
  · obtain ⟨vals, ho, hn, hi⟩ := h
    obtain ⟨x, hx⟩ : ∃ x, l[k]? = some x := ⟨_, List.getElem?_eq_getElem (by omega)⟩
    obtain ⟨cs, hok, hc⟩ := hi k x hx
    obtain ⟨xs, ys, rfl, ⟨rfl, h64⟩, h2⟩ := hok
    obtain ⟨A', c', rfl, hsl⟩ := Rp.sl_form h2
    obtain ⟨g, cur, rfl, hg, hb, hcell⟩ := own_cellT ho (hc 0 _ rfl)
    obtain ⟨g', cur', e, _, _, hcell2⟩ := own_cellT ho (hc 1 _ rfl)
    injection e with e
    injection e with e
    subst e
    refine ⟨g, 0, x, A', c', rfl, hb.lt, hx, ?_, ?_, hsl, by omega⟩
    · rw [Nat.zero_add]; exact hcell
    · rw [Nat.zero_add]; exact hcell2
/-- One link more at the end of a list of one's own. -/
theorem link_push (hO : OLd D0 w base Ao no co L) (hbz : base ≤ w.heap.size) (h0 : ∀ k, D0 k → k < base) (hR : rpU64.sl w (Tb T64 D0 w) A5 xn c5 xl) (hs : s ≤ 18446744073709551615) :
    ∃ vals, (w.alloc (.cells (lkV s A5 xn c5) 57)).ownsRow base 57 2 (.slice Ao no co) no vals ∧ Src (w.alloc (.cells (lkV s A5 xn c5) 57)) (some ⟨w.heap.size, 0, none⟩) 1 2 (lkV s A5 xn c5).toList ∧ base ≤ (w.alloc (.cells (lkV s A5 xn c5) 57)).heap.size ∧
      ∀ A6 c6 w6, w6.ownsRow base 57 2 (.slice A6 (no + 1) c6) (no + 1) (vals ++ (lkV s A5 xn c5).toList) → (w.alloc (.cells (lkV s A5 xn c5) 57)).grownBy w6 (Value.slice Ao no co).ownBlock →
        OLd D0 w6 base A6 (no + 1) c6 (L ++ [(s, xl)]) ∧ Below base w w6 ∧ (∀ g t cs, Blk w g t cs → t ≠ 57 → Blk w6 g t cs) := by
  have hba := below1 w (.cells (lkV s A5 xn c5) 57)
  have hO2 := OL.below hO hba
  obtain ⟨vals, ho, hn, hv⟩ := hO2
  have hbz2 := Nat.le_trans hbz hba.size
  have hR2 := tb_below hR hba
  refine ⟨vals, ho, Src.blk (size := 2) (blk11 w 57 (lkV s A5 xn c5)) rfl (by
      intro u hu
      simp only [List.mem_cons, List.not_mem_nil, or_false] at hu
      rcases hu with rfl | rfl <;> rfl), hbz2, fun A6 c6 w6 ho6 hg => ⟨?_, ?_, fun g t cs hb ht => ?_⟩⟩
  · have e := (Rp.sl_len hR2).1
    subst e
    exact OL.push ⟨vals, ho, hn, hv⟩ (vals := vals) ho hv t64_link h0 ho6 hg ⟨[.int .u64 (s : Int)], [.slice A5 xl.length c5], rfl, ⟨rfl, by show s < _; omega⟩, hR2⟩
  · exact (hba.mono hbz).grown hg hbz2 (fun q hq => (ho.lt q hq).1)
  · refine (keepB hb hba).grown hg (fun e => ?_)
    obtain ⟨cs', hcs⟩ := own_type ho e.symm
    exact ht (blk_type (keepB hb hba) hcs).symm
/-- What stands in the new list behind i links. -/
def wPart (l : List Lnk) (x : Lnk) (i : Nat) : List Lnk := if idxOf l x.1 < l.length then (l.set (idxOf l x.1) x).take i else if i ≤ gtOf l x.1 then l.take i else l.take (gtOf l x.1) ++ [x] ++ (l.take i).drop (gtOf l x.1)
/-- Has the link been put? -/
def wDone (l : List Lnk) (x : Lnk) (i : Nat) : Bool := if idxOf l x.1 < l.length then decide (idxOf l x.1 < i) else decide (gtOf l x.1 < i)
theorem wPart_zero (l : List Lnk) (x : Lnk) : wPart l x 0 = [] := by
  unfold wPart
  split
  · rfl
  · simp
theorem wPart_len (l : List Lnk) (x : Lnk) (i : Nat) : (wPart l x i).length ≤ i + 1 := by
  unfold wPart
  split
  · rw [List.length_take]; omega
  · split
    · rw [List.length_take]; omega
    · simp only [List.length_append, List.length_take, List.length_drop, List.length_cons, List.length_nil]; omega
theorem wPart_found {x y : Lnk} {i : Nat} (h : idxOf l x.1 < l.length) (hy : l[i]? = some y) : wPart l x (i + 1) = wPart l x i ++ [if i = idxOf l x.1 then x else y] := by
  unfold wPart
  rw [if_pos h, if_pos h, List.take_add_one, List.getElem?_set]
  congr 1
  have hi : i < l.length := (List.getElem?_eq_some_iff.1 hy).1
  by_cases e : idxOf l x.1 = i
  · rw [if_pos e, if_pos e.symm]; simp [h]
  · rw [if_neg e, if_neg (fun h => e h.symm), hy]; rfl
theorem wPart_put {x y : Lnk} {i : Nat} (h : ¬ idxOf l x.1 < l.length) (hy : l[i]? = some y) (hi : i = gtOf l x.1) : wPart l x (i + 1) = wPart l x i ++ [x] ++ [y] := by
  unfold wPart
  rw [if_neg h, if_neg h, if_neg (by omega), if_pos (by omega), ← hi, List.take_add_one, hy]
  have hil : i < l.length := (List.getElem?_eq_some_iff.1 hy).1
  rw [List.drop_append, List.length_take, Nat.min_eq_left (by omega)]
  simp
theorem wPart_go {x y : Lnk} {i : Nat} (h : ¬ idxOf l x.1 < l.length) (hy : l[i]? = some y) (hi : i ≠ gtOf l x.1) : wPart l x (i + 1) = wPart l x i ++ [y] := by
  have hil : i < l.length := (List.getElem?_eq_some_iff.1 hy).1
  unfold wPart
  rw [if_neg h, if_neg h]
  by_cases h2 : i ≤ gtOf l x.1
  · rw [if_pos (by omega), if_pos h2, List.take_add_one, hy]; rfl
  · rw [if_neg (by omega), if_neg h2, List.take_add_one, hy]
    rw [List.drop_append_of_le_length (by rw [List.length_take]; omega)]
    simp
theorem wPart_end (l : List Lnk) (x : Lnk) : withL l x = if wDone l x l.length then wPart l x l.length else wPart l x l.length ++ [x] := by
  unfold withL wDone wPart
  by_cases h : idxOf l x.1 < l.length
  · rw [if_pos h, if_pos h, if_pos h, decide_eq_true h, if_pos rfl, List.take_of_length_le (by rw [List.length_set]; exact Nat.le_refl _)]
  · rw [if_neg h, if_neg h, if_neg h]
    have hg := gt_le l x.1
    by_cases h2 : gtOf l x.1 < l.length
    · rw [decide_eq_true h2, if_pos rfl, if_neg (by omega), List.take_of_length_le (Nat.le_refl l.length)]
    · have e : gtOf l x.1 = l.length := by omega
      rw [decide_eq_false h2, if_neg (by decide), if_pos (by omega), e, List.take_of_length_le (Nat.le_refl l.length), List.drop_of_length_le (Nat.le_refl l.length), List.append_nil]
theorem gt_at {id i : Nat} {y : Lnk} (hy : l[i]? = some y) (hi : i = gtOf l id) : id < y.1 := by
  have h1 : gtOf l id < l.length := by rw [← hi]; exact (List.getElem?_eq_some_iff.1 hy).1
  have h2 := List.findIdx_getElem (p := fun y : Lnk => decide (id < y.1)) (xs := l) (w := h1)
  have h3 : l[gtOf l id] = y := by
    rw [hi, List.getElem?_eq_getElem h1] at hy
    exact Option.some.inj hy
  have h5 : decide (id < (l[gtOf l id]).1) = true := h2
  rw [h3] at h5
  exact of_decide_eq_true h5
theorem gt_not {id i : Nat} {y : Lnk} (hy : l[i]? = some y) (hi : i < gtOf l id) : ¬ id < y.1 := by
  have h1 : i < l.length := (List.getElem?_eq_some_iff.1 hy).1
  have h2 := List.not_of_lt_findIdx (p := fun y : Lnk => decide (id < y.1)) (xs := l) (i := i) hi
  have h3 : l[i] = y := by
    rw [List.getElem?_eq_getElem h1] at hy
    exact Option.some.inj hy
  rw [h3] at h2
  simpa using h2
end
end Go.Proofs.Ytcbmnfjbmkpfiaa
