/- link.With. -/
import Derived.Test.YtnihaaifkogpbaaLkC
import Derived.Deep.RegionHeld3
namespace Go.Proofs.Ytnihaaifkogpbaa
open Go.ChangeShapes Go.WideShapes Go.ChangeAt Go.RowKit
set_option linter.unusedVariables false
def gtOf (l : List Lnk) (id : Nat) : Nat := l.findIdx (fun y => decide (id < y.1))
theorem gt_le (l : List Lnk) (id : Nat) : gtOf l id ≤ l.length := List.findIdx_le_length
/-- Links with one more, or another one. -/
def withL (l : List Lnk) (x : Lnk) : List Lnk := if idxOf l x.1 < l.length then l.set (idxOf l x.1) x else l.take (gtOf l x.1) ++ [x] ++ l.drop (gtOf l x.1)
section
variable {w w3 : World} {base n c c3 r s xn c5 b5 : Nat} {A A3 A5 : Option Addr} {l : List Lnk} {xl : List Nat} {vals : List Value}
theorem OLk.ins (h : OLk w base A n c l) (ho : w.ownsRow base 44 2 (.slice A n c) n vals)
    (hv : ∀ (i : Nat) x, l[i]? = some x → ∃ cs, rpLnk.ok w (Tb T64 (fun _ => False) w) x cs ∧ ∀ (j : Nat) u, cs[j]? = some u → vals[i * 2 + j]? = some u) (hrn : r ≤ n)
    (ho3 : w3.ownsRow base 44 2 (.slice A3 (n + 1) c3) (n + 1) (vals.take (r * 2) ++ [.int .u64 (s : Int), .slice A5 xn c5] ++ vals.drop (r * 2))) (hg : w.grownBy w3 (Value.slice A n c).ownBlock) (hr : Row64 w b5 A5 xn c5 xl) (hs : s ≤ 18446744073709551615) :
    OLk w3 base A3 (n + 1) c3 (l.take r ++ [(s, xl)] ++ l.drop r) := by
  have hlen := h.len
  have hvl : vals.length = n * 2 := ho.1
  have hst := tb_grown (TS := T64) (D0 := fun _ => False) ⟨_, _, _, _, rfl, ho⟩ t64_link (fun k hk => hk.elim) hg
  have e := hr.len
  subst e
  have hnew : rpLnk.ok w (Tb T64 (fun _ => False) w) (s, xl) [.int .u64 (s : Int), .slice A5 xl.length c5] := ⟨[.int .u64 (s : Int)], [.slice A5 xl.length c5], rfl, ⟨rfl, by show s < _; omega⟩, hr.sl (TS := T64) rfl _⟩
  have htl : (vals.take (r * 2)).length = r * 2 := by rw [List.length_take]; omega
  have hlt : (l.take r).length = r := by rw [List.length_take]; omega
  have hsz : rpLnk.size = 2 := by kernel_rfl
  refine ⟨_, ho3, by simp only [List.length_append, hlt, List.length_drop, List.length_cons, List.length_nil]; omega, fun i y hy => ?_⟩
  rw [hsz]
  rcases Nat.lt_trichotomy i r with hi | hi | hi
  · rw [List.append_assoc, List.getElem?_append_left (by omega), List.getElem?_take, if_pos hi] at hy
    obtain ⟨cs, hok, hc⟩ := hv i y hy
    refine ⟨cs, ok_same hok hst hg.size, fun j u hu => ?_⟩
    have hj : j < 2 := by rw [← hsz, ← rpLnk.len hok]; exact (List.getElem?_eq_some_iff.1 hu).1
    rw [List.append_assoc, List.getElem?_append_left (by omega), List.getElem?_take, if_pos (by omega)]
    exact hc j u hu
  · subst hi
    rw [List.append_assoc, List.getElem?_append_right (by omega), hlt, Nat.sub_self] at hy
    simp only [List.cons_append, List.nil_append, List.getElem?_cons_zero, Option.some.injEq] at hy
    subst hy
    refine ⟨_, ok_same hnew hst hg.size, fun j u hu => ?_⟩
    have hj : j < 2 := (List.getElem?_eq_some_iff.1 hu).1
    rw [List.append_assoc, List.getElem?_append_right (by omega), htl, Nat.add_sub_cancel_left, List.getElem?_append_left (by simpa using hj)]
    exact hu
  · rw [List.getElem?_append_right (by simp only [List.length_append, hlt, List.length_cons, List.length_nil]; omega)] at hy
    simp only [List.length_append, hlt, List.length_cons, List.length_nil, List.getElem?_drop] at hy
    rw [show r + (i - (r + (0 + 1))) = i - 1 by omega] at hy
    obtain ⟨cs, hok, hc⟩ := hv (i - 1) y hy
    refine ⟨cs, ok_same hok hst hg.size, fun j u hu => ?_⟩
    have hj : j < 2 := by rw [← hsz, ← rpLnk.len hok]; exact (List.getElem?_eq_some_iff.1 hu).1
    rw [List.getElem?_append_right (by simp only [List.length_append, htl, List.length_cons, List.length_nil]; omega)]
    simp only [List.length_append, htl, List.length_cons, List.length_nil, List.getElem?_drop]
    rw [show r * 2 + (i * 2 + j - (r * 2 + (0 + 1 + 1))) = (i - 1) * 2 + j by omega]
    exact hc j u hu
theorem Row64.put {b g : Nat} {t : TypeId} {cs : Array Value} {l : List Nat} (h : Row64 w b A n c l) (hb : Blk w g t cs) (ht : t ≠ 29) {a : Addr} (ha : a.block = g) (u : Value) : Row64 (w.setCell a u) b A n c l := by
  refine ⟨chO h.1 (F := fun k => k = g) ((Chg.refl _ _).setCell (.inl ha) u) (fun k hk hf => ?_), h.2⟩
  subst hf
  rcases h.1.2 with ⟨hv, _⟩ | ⟨g5, cap, cur, hv, _, hh, _⟩
  · rw [hv] at hk; cases hk
  · rw [hv] at hk
    have e : g5 = k := Option.some.inj hk
    subst e
    exact ht (blk_type hb hh).symm
/-- A link is put in the place of another one. -/
theorem OLk.setAt (h : OLk w base A n c l) (hr : Row64 w b5 A5 xn c5 xl) (hs : s ≤ 18446744073709551615) (hrn : r < n) :
    ∃ g v0 v1, A = some ⟨g, 0, none⟩ ∧ base ≤ g ∧ g < w.heap.size ∧ (∀ q, w.frozen? ⟨g, q, none⟩ = false) ∧ w.cell? ⟨g, r * 2, none⟩ = some v0 ∧ w.cell? ⟨g, r * 2 + 1, none⟩ = some v1 ∧
      OLk ((w.setCell ⟨g, r * 2, none⟩ (.int .u64 (s : Int))).setCell ⟨g, r * 2 + 1, none⟩ (.slice A5 xn c5)) base A n c (l.set r (s, xl)) := by
  have hlen := h.len
  obtain ⟨⟨ys, yl⟩, hy⟩ : ∃ y, l[r]? = some y := ⟨_, List.getElem?_eq_getElem (by omega)⟩
  have hsz : rpLnk.size = 2 := by kernel_rfl
  have e := hr.len
  subst e
  have hcopy := h
  obtain ⟨vals, ho, _, hvals⟩ := hcopy
  rcases ho.2 with ⟨_, h0⟩ | ⟨g', cap, cur, hv', hg', hh, hrest⟩
  · omega
  injection hv' with e1 e2 e3
  subst e1; subst e3
  have hb : Blk w g' 44 cur := hh
  obtain ⟨g, v0, hA, hbg, hgl, hfr, hc0, h1⟩ := OL.set h (x' := (s, yl)) (j := 0) (u := .int .u64 (s : Int)) hy (by rw [hsz]; decide) t64_link (fun k hk => hk.elim) (fun cs hok => by
    obtain ⟨a, b, rfl, ⟨rfl, h3⟩, h2⟩ := hok
    exact ⟨[.int .u64 (s : Int)], b, rfl, ⟨rfl, by show s < _; omega⟩, h2⟩)
  injection hA with hA
  injection hA with hA
  subst hA
  rw [hsz, Nat.add_zero] at hc0 h1
  have hr1 := hr.put hb (by decide) (a := ⟨g', r * 2, none⟩) rfl (.int .u64 (s : Int))
  obtain ⟨g2, v1, hA2, _, _, _, hc1, h2⟩ := OL.set h1 (i := r) (x := (s, yl)) (x' := (s, xl)) (j := 1) (u := .slice A5 xl.length c5) (List.getElem?_set_self (by omega)) (by rw [hsz]; decide) t64_link (fun k hk => hk.elim) (fun cs hok => by
    obtain ⟨a, b, rfl, ⟨rfl, h3⟩, h2⟩ := hok
    obtain ⟨A7, c7, rfl, _⟩ := Rp.sl_form h2
    exact ⟨[.int .u64 (s : Int)], [.slice A5 xl.length c5], rfl, ⟨rfl, by show s < _; omega⟩, hr1.sl (TS := T64) rfl _⟩)
  injection hA2 with hA2
  injection hA2 with hA2
  subst hA2
  rw [hsz] at hc1 h2
  rw [List.set_set] at h2
  have hc1' : ∃ v, w.cell? ⟨g', r * 2 + 1, none⟩ = some v := by
    obtain ⟨cs, hok, hc⟩ := hvals r _ hy
    rw [hsz] at hc
    obtain ⟨a, b, rfl, ⟨rfl, h3⟩, h4⟩ := hok
    obtain ⟨A7, c7, rfl, _⟩ := Rp.sl_form h4
    have hx := hc 1 _ rfl
    rw [← hrest.2.2.2, List.getElem?_take] at hx
    split at hx
    · rw [hb.cell]; exact ⟨_, by simpa using hx⟩
    · cases hx
  obtain ⟨v1', hv1'⟩ := hc1'
  exact ⟨g', v0, v1', rfl, hbg, hgl, hfr, hc0, hv1', h2⟩
theorem OLk.boxed {w' : World} {b0 : Nat} {cs : Array Value} (h : OLk w base A n c l) (hb : Blk w b0 44 cs) (hlt : b0 < base) (hg : w.grownBy w' (some b0)) : OLk w' base A n c l :=
  OL.same h (fun k hk => hg.block k hk.1 (fun e => by
    have e' : k = b0 := Option.some.inj e
    subst e'
    rcases hk.2 with h | ⟨cs', t, h, ht⟩
    · exact h
    · obtain rfl := blk_type hb h
      exact t64_link ht)) (fun k cs' hk hh => hg.block k (Array.getElem?_eq_some_iff.1 hh).1 (fun e => by
    have e' : k = b0 := Option.some.inj e
    omega)) hg.size
theorem Row64.boxed {w' : World} {b b0 : Nat} {t : TypeId} {cs : Array Value} {l : List Nat} (h : Row64 w b A n c l) (hb : Blk w b0 t cs) (ht : t ≠ 29) (hg : w.grownBy w' (some b0)) : Row64 w' b A n c l := by
  refine ⟨chO h.1 (Chg.of_grown hg) (fun k hk hf => ?_), h.2⟩
  have hf' : k = b0 := Option.some.inj hf
  subst hf'
  rcases h.1.2 with ⟨hv, _⟩ | ⟨g5, cap, cur, hv, _, hh, _⟩
  · rw [hv] at hk; cases hk
  · rw [hv] at hk
    have e : g5 = k := Option.some.inj hk
    subst e
    exact ht (blk_type hb hh).symm
end
section
variable {D D' : Dom} {A A5 : Option Addr} {n c s xn c5 : Nat} {l : List Lnk} {xl : List Nat} {w : World}
/-- What link.With gives. -/
def WithIs (w : World) (l : List Lnk) (x : Lnk) (e : Ending) (w' : World) : Prop :=
  ∃ (A' : Option Addr) (n' c' : Nat), e = .returned (.slice A' n' c') ∧ OLk w' w.heap.size A' n' c' (withL l x) ∧ Below w.heap.size w w'
set_option maxRecDepth 100000 in
set_option maxHeartbeats 4000000 in
theorem with_any (hs : rpLnk.sl w D A n c l) (hD : ∀ k, D k → k < w.heap.size) (hn : n ≤ 99999) (hL : ∀ x ∈ l, x.2.length ≤ 1000000)
    (hx : rpU64.sl w D' A5 xn c5 xl) (hD' : ∀ k, D' k → k < w.heap.size) (hxn : xn ≤ 1000000) (hss : s ≤ 18446744073709551615) :
    Calls Try.prog 52 #[.slice A n c, .agg (lkV s A5 xn c5)] w (WithIs w l (s, xl)) := by
  have hb1 := below1 w (.cells (lkV s A5 xn c5) 44)
  have HB1 := Lib.hid hb1
  have K1 := Lib.hid (blk11 w 44 (lkV s A5 xn c5))
  have HS1 := Lib.hid (keepS (show Sl rpLnk w D A n c l from ⟨hs, hD⟩) hb1)
  have HX1 := Lib.hid (keepS (show Sl rpU64 w D' A5 xn c5 xl from ⟨hx, hD'⟩) hb1)
  have HN := Lib.hid (Rp.sl_len hs).1
  have HL := Lib.hid hL
  have HSZ : Hid ((Try.prog.info? 44).map (·.size) = some 2) := by show _ = _; kernel_rfl
  clear hb1 hs hD hL hx hD'
  go_enter Try.func52, Try.ntmps52
  go_upto_region 1 with (fail)
  generalize hgb : w.heap.size = gb at *
  generalize World.alloc w _ = w1 at *
  have HG1 : Hid (gb < w1.heap.size) := (show Blk w1 gb 44 (lkV s A5 xn c5) from K1.out).lt
  have HC := Lib.hid (lcopy_any HS1.out.1 HS1.out.2 (by omega) HL.out)
  go_wp2_with fail
  refine HC.out.mono ?_; rintro e w2 ⟨A2, c2, rfl, ho2, hb2⟩
  have HB2 := Lib.hid (show Below gb w w2 from HB1.out.trans (hb2.mono (Nat.le_of_lt HG1.out)))
  have K2 := Lib.hid (keepB (show Blk w1 gb 44 (lkV s A5 xn c5) from K1.out) hb2)
  have HX2 := Lib.hid (keepS HX1.out hb2)
  have HO2 := Lib.hid ho2
  have HZ2 := Lib.hid hb2.size
  clear hb2 ho2
  have k0 := (show Blk w2 gb 44 (lkV s A5 xn c5) from K2.out).cell 0
  have k1 := (show Blk w2 gb 44 (lkV s A5 xn c5) from K2.out).cell 1
  have HCP := Lib.hid (copied_any (s := s) HX2.out.1 HX2.out.2 hxn)
  go_upto_region 3 with
    (first
     | (go_at_call 57
        refine HCP.out.mono ?_
        rintro e w3 ⟨A6, c6, rfl, hr3, hb3⟩
        have HB3 := Lib.hid (show Below gb w w3 from HB2.out.trans (hb3.mono (Nat.le_trans (Nat.le_of_lt HG1.out) HZ2.out)))
        have K3 := Lib.hid (keepB (show Blk w2 gb 44 (lkV s A5 xn c5) from K2.out) hb3)
        have HO3 := Lib.hid (OL.below HO2.out hb3)
        have HR3 := Lib.hid hr3
        have HZ3 := Lib.hid hb3.size
        clear hb3 hr3 k0 k1)
     | (refine wpList_put_row rfl 44 (.tmp 3) (.tmp 10) rfl gb (lkV s A6 xn c6) rfl rfl 44 _ K3.out HSZ.out rfl (by simp [Value.oneCell']) ?_
        intro w4 hk4 hg4
        have HB4 := Lib.hid (HB3.out.grown hg4 (by have := HG1.out; have := HZ2.out; have := HZ3.out; omega) (fun q hq => by have e' : gb = q := Option.some.inj hq; omega))
        have K4 := Lib.hid hk4
        have HO4 := Lib.hid (OLk.boxed HO3.out K3.out HG1.out hg4)
        have HR4 := Lib.hid (Row64.boxed HR3.out K3.out (by decide) hg4)
        have HZ4 := Lib.hid hg4.size
        clear hg4 hk4))
  obtain ⟨r, hr⟩ : ∃ r, idxOf l s = r := ⟨_, rfl⟩
  have hrn : r ≤ n := by rw [← hr]; have := idx_le l s; have := HN.out; omega
  have HRI := Lib.hid hr
  have HG4 : Hid (gb < w4.heap.size) := (show Blk w4 gb 44 (lkV s A6 xn c6) from K4.out).lt
  have HP : Hid (Calls Try.prog 69 #[.slice A2 n c2, .func (Fn.func 72) #[] #[.pointer (some ⟨gb, 0, none⟩)]] w4 fun e w' => e = .returned (.int .i64 (r : Int)) ∧ Below w4.heap.size w4 w') := by
    have h := lplaceW1_any (P := fun t => t == s) (g := gb) (OL.sl HO4.out) (fun k hk => hk) (by omega) (fun u t A' n' c' hu => with1_any ((hu.cell (p := ⟨gb, 0, none⟩) HG4.out).trans ((show Blk w4 gb 44 (lkV s A6 xn c6) from K4.out).cell 0)) (Nat.lt_of_lt_of_le HG4.out hu.size))
    have e := HRI.out
    unfold idxOf at e
    rw [e] at h
    exact h
  clear hr
  go_wp2_with fail
  refine HP.out.mono ?_; rintro e w5 ⟨rfl, hb5⟩
  have HZ5 := Lib.hid hb5.size
  have HB5 := Lib.hid (show Below gb w w5 from HB4.out.trans (hb5.mono (Nat.le_of_lt HG4.out)))
  have K5 := Lib.hid (keepB (show Blk w4 gb 44 (lkV s A6 xn c6) from K4.out) hb5)
  have HO5 := Lib.hid (OL.below HO4.out hb5)
  have HR5 := Lib.hid (HR4.out.below hb5)
  clear hb5
  have k0 := (show Blk w5 gb 44 (lkV s A6 xn c6) from K5.out).cell 0
  have k1 := (show Blk w5 gb 44 (lkV s A6 xn c6) from K5.out).cell 1
  by_cases hlt : r < n
  case pos =>
    have hd : decide (r < n) = true := by simpa using hlt
    have hrI : (0 : Int) ≤ (r : Int) := by omega
    have hrI2 : (r : Int) < (n : Int) := by omega
    obtain ⟨g, v0, v1, rfl, hbg, hgl, hfr, hc0, hc1, hset⟩ := OLk.setAt HO5.out HR5.out hss hlt
    have HSET := Lib.hid hset
    have HBG := Lib.hid hbg
    have hf0 := hfr (r * 2)
    have hf1 := hfr (r * 2 + 1)
    have hc0' : w5.cell? ⟨g, 0 + r * 2, none⟩ = some v0 := by rw [Nat.zero_add]; exact hc0
    have hc1' : w5.cell? ⟨g, 0 + r * 2 + 1, none⟩ = some v1 := by rw [Nat.zero_add]; exact hc1
    have hf0' : w5.frozen? ⟨g, 0 + r * 2, none⟩ = false := by rw [Nat.zero_add]; exact hf0
    have hf1' : w5.frozen? ⟨g, 0 + r * 2 + 1, none⟩ = false := by rw [Nat.zero_add]; exact hf1
    have HW : Hid (withL l (s, xl) = l.set r (s, xl)) := by
      show _ = _
      unfold withL
      rw [HRI.out, if_pos (by rw [HN.out]; exact hlt)]
    clear hset hbg hgl hfr hlt
    go_wp2_with fail
    go_ret
    refine ⟨_, n, c2, rfl, ?_, ?_⟩
    · rw [HW.out, hgb]
      exact OL.mono HSET.out (Nat.le_of_lt HG1.out)
    · rw [hgb]
      exact (HB5.out.setCell (p := ⟨g, r * 2, none⟩) (by have := HBG.out; have := HG1.out; show gb ≤ g; omega) _).setCell (p := ⟨g, r * 2 + 1, none⟩) (by have := HBG.out; have := HG1.out; show gb ≤ g; omega) _
  case neg =>
    have hd : decide (r < n) = false := by simpa using hlt
    obtain ⟨r2, hr2⟩ : ∃ r2, gtOf l s = r2 := ⟨_, rfl⟩
    have hrn2 : r2 ≤ n := by rw [← hr2]; have := gt_le l s; have := HN.out; omega
    have HW : Hid (withL l (s, xl) = l.take r2 ++ [(s, xl)] ++ l.drop r2) := by
      show _ = _
      unfold withL
      rw [HRI.out, if_neg (by rw [HN.out]; exact hlt), hr2]
    have HG5 : Hid (gb < w5.heap.size) := by show gb < w5.heap.size; exact (show Blk w5 gb 44 (lkV s A6 xn c6) from K5.out).lt
    have HPL : Hid (∀ u : World, Below w5.heap.size w5 u → Calls Try.prog 69 #[.slice A2 n c2, .func (Fn.func 74) #[] #[.pointer (some ⟨gb, 0, none⟩)]] u fun e w' => e = .returned (.int .i64 (r2 : Int)) ∧ Below u.heap.size u w') := fun u hu => by
      have h := lplaceW2_any (P := fun t => decide (s < t)) (g := gb) (OL.sl (OL.below HO5.out hu)) (fun k hk => hk) (by omega) (fun v t A' n' c' hv => with2_any ((hv.cell (p := ⟨gb, 0, none⟩) (Nat.lt_of_lt_of_le HG5.out hu.size)).trans ((hu.cell (p := ⟨gb, 0, none⟩) HG5.out).trans ((show Blk w5 gb 44 (lkV s A6 xn c6) from K5.out).cell 0))) (Nat.lt_of_lt_of_le HG5.out (Nat.le_trans hu.size hv.size)))
      have e := hr2
      unfold gtOf at e
      rw [e] at h
      exact h
    have HZ12 : Hid (w1.heap.size ≤ w5.heap.size) := by have := HZ2.out; have := HZ3.out; have := HZ4.out; have := HZ5.out; show _ ≤ _; omega
    have HINS : Hid (∀ (u : World) (vb : Nat), Below w5.heap.size w5 u → Blk u vb 44 (lkV s A6 xn c6) → w5.heap.size ≤ vb → Calls Try.prog 73 #[.slice A2 n c2, .int .i64 (r2 : Int), .slice (some ⟨vb, 0, none⟩) 1 1] u fun e w' => ∃ A7 c7, e = .returned (.slice A7 (n + 1) c7) ∧ OLk w' w1.heap.size A7 (n + 1) c7 (l.take r2 ++ [(s, xl)] ++ l.drop r2) ∧ Below gb w w' ∧ Blk w' gb 44 (lkV s A6 xn c6)) := fun u vb hu hvb hlv => by
      have hol := OL.below HO5.out hu
      obtain ⟨vals, ho, hon, hv⟩ := hol
      have hol := OL.below HO5.out hu
      have hrow := HR5.out.below hu
      have hk := keepB (show Blk w5 gb 44 (lkV s A6 xn c6) from K5.out) hu
      have hob : ∀ k, (Value.slice A2 n c2).ownBlock = some k → w1.heap.size ≤ k ∧ k < w5.heap.size := fun k hk => by
        obtain ⟨vals5, ho5, _, _⟩ := HO5.out
        exact ho5.lt k hk
      refine (insert_any (v1 := .int .u64 (s : Int)) (v2 := .slice A6 xn c6) (i := r2) ho hvb (fun e => by have := (hob vb e).2; omega) rfl rfl (fun w hw => ?_) (by omega) (Nat.le_trans HZ12.out hu.size) hrn2).mono fun e w' h => ?_
      · obtain ⟨i, hi⟩ := List.getElem?_of_mem hw
        have hil := (List.getElem?_eq_some_iff.1 hi).1
        have hvl : vals.length = n * 2 := ho.1
        have hl2 : i / 2 < l.length := by omega
        obtain ⟨cs, hok, hc⟩ := hv (i / 2) l[i / 2] (List.getElem?_eq_getElem hl2)
        have h1 := rpLnk.one hok
        have hcl : cs.length = 2 := rpLnk.len hok
        have h2 := hc (i % 2) cs[i % 2] (List.getElem?_eq_getElem (by omega))
        have hsz : rpLnk.size = 2 := by kernel_rfl
        rw [hsz, show i / 2 * 2 + i % 2 = i by omega, hi] at h2
        injection h2 with h2
        rw [h2]
        exact h1 _ (List.getElem_mem _)
      · obtain ⟨A7, c7, rfl, ho7, hg7⟩ := h
        refine ⟨A7, c7, rfl, OLk.ins hol ho (fun i x hx => hv i x hx) hrn2 ho7 hg7 hrow hss, ?_, hk.grown hg7 (fun e => ?_)⟩
        · refine (HB5.out.trans (hu.mono (Nat.le_of_lt HG5.out))).grown hg7 (Nat.le_trans (Nat.le_of_lt HG5.out) hu.size) (fun q hq => ?_)
          have := (hob q hq).1
          have := HG1.out
          omega
        · have := (hob gb e.symm).1
          have := HG1.out
          omega
    have HBD1 : Hid (Below w5.heap.size w5 w5.drew) := (Below.refl _ w5).drew
    have HBD2 : Hid (Below w5.heap.size w5 ((w5.alloc (.cells (lkV s A6 xn c6) 44)).drew)) := ((Below.refl _ w5).alloc (Nat.le_refl _) _).drew
    have HX2 : Hid (Blk ((w5.alloc (.cells (lkV s A6 xn c6) 44)).drew) w5.heap.size 44 (lkV s A6 xn c6)) := blk11 w5 _ _
    clear hr2 hlt
    go_upto_region 7 with (fail)
    go_cut [4] (fun s4 wx => ∃ (A7 : Option Addr) (c7 : Nat), s4 = .slice A7 (n + 1) c7 ∧ Hid (OLk wx w1.heap.size A7 (n + 1) c7 (l.take r2 ++ [(s, xl)] ++ l.drop r2)) ∧ Hid (Below gb w wx))
    case first =>
      go_region_held3 (fun w' => w'.cell? ⟨gb, 0, none⟩ = some (.int .u64 (s : Int)) ∧ w'.cell? ⟨gb, 1, none⟩ = some (.slice A6 xn c6))
          (first | with_reducible exact ⟨k0, k1⟩ | go_keep)
          (first
           | (go_at_call 69
              with_reducible refine (HPL.out _ HBD1.out).mono ?_
              rintro e w6 ⟨rfl, hb6⟩
              have hb56 : Below w5.heap.size w5 w6 := stepB HBD1.out hb6
              have HB56 := Lib.hid hb56
              have hk6 := keepB (show Blk w5 gb 44 (lkV s A6 xn c6) from K5.out) hb56
              have k0 := hk6.cell 0
              have k1 := hk6.cell 1
              clear hb56 hb6 hk6)
           | (go_at_call 69
              with_reducible refine (HPL.out _ HBD2.out).mono ?_
              rintro e w6 ⟨rfl, hb6⟩
              have hb56 : Below w5.heap.size w5 w6 := stepB HBD2.out hb6
              have HB56 := Lib.hid hb56
              have hk6 := keepB (show Blk w5 gb 44 (lkV s A6 xn c6) from K5.out) hb56
              have k0 := hk6.cell 0
              have k1 := hk6.cell 1
              have HX6 := Lib.hid (keepB (show Blk ((w5.alloc (.cells (lkV s A6 xn c6) 44)).drew) w5.heap.size 44 (lkV s A6 xn c6) from HX2.out) hb6)
              clear hb56 hb6 hk6)
           | (go_at_call 73
              with_reducible refine (HINS.out _ w6.heap.size (stepB HB56.out (below1 w6 _)) (blk11 w6 _ _) HB56.out.size).mono ?_
              rintro e w7 ⟨A7, c7, rfl, ho7, hb7, hk7⟩
              have HO7 := Lib.hid ho7
              have HB7 := Lib.hid hb7
              have k0 := hk7.cell 0
              have k1 := hk7.cell 1
              clear ho7 hb7 hk7)
           | (go_at_call 73
              with_reducible refine (HINS.out _ w5.heap.size HB56.out HX6.out (Nat.le_refl _)).mono ?_
              rintro e w7 ⟨A7, c7, rfl, ho7, hb7, hk7⟩
              have HO7 := Lib.hid ho7
              have HB7 := Lib.hid hb7
              have k0 := hk7.cell 0
              have k1 := hk7.cell 1
              clear ho7 hb7 hk7))
      all_goals
        go_wp2_with fail
        go_meet
        exact ⟨A7, c7, rfl, HO7, HB7⟩
    case rest =>
      obtain ⟨A7, c7, rfl, HO7, HB7⟩ := hcut
      obtain ⟨wz, hwz⟩ : ∃ wz, wz = wc := ⟨_, rfl⟩
      subst hwz
      clear HBD1 HBD2 HX2 HPL HINS
      go_wp2_with fail
      go_ret
      refine ⟨A7, n + 1, c7, rfl, ?_, ?_⟩
      · rw [HW.out, hgb]
        exact OL.mono HO7.out (Nat.le_of_lt HG1.out)
      · rw [hgb]; exact HB7.out
end
end Go.Proofs.Ytnihaaifkogpbaa
