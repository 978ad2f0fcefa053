/- seal.Nodes, seal.Tail, the reference's Nodes. -/
import Derived.Test.YtkhomkklamegmaaSnW
namespace Go.Proofs.Ytkhomkklamegmaa
open Go.ChangeShapes Go.WideShapes Go.ChangeAt Go.RowKit
set_option linter.unusedVariables false
theorem sea_lt {w : World} {D : Dom} {A : Option Addr} {n c : Nat} {l : List Sea} (h : rpSeaN.sl w D A n c l) : ∀ s ∈ l, s.1 < 18446744073709551616 ∧ s.2.1 < 18446744073709551616 ∧ s.2.2 < 18446744073709551616 := fun s hs => by
  obtain ⟨i, hi⟩ := List.getElem?_of_mem hs
  obtain ⟨_, _, t, _, _, ht, _, _, _, h1, h2, h3⟩ := sea_at h (k := i) (by have := (List.getElem?_eq_some_iff.1 hi).1; have := (Rp.sl_len h).1; omega)
  rw [hi] at ht
  injection ht with ht
  subst ht
  exact ⟨h1, h2, h3⟩
theorem nodesOf_lt {l : List Sea} {e : Nat} (h : ∀ s ∈ l, s.1 < 18446744073709551616 ∧ s.2.1 < 18446744073709551616 ∧ s.2.2 < 18446744073709551616) : ∀ x ∈ nodesOf l e, x < 18446744073709551616 := fun x hx => by
  obtain ⟨s, hs, rfl⟩ := List.mem_map.1 hx
  exact (h s (List.mem_filter.1 hs).1).2.1
/-- All nodes, rising, in a row of one's own. -/
def NodesIs (l : List Sea) (ep : Nat) (w : World) (e : Ending) (w' : World) : Prop :=
  ∃ (A : Option Addr) (c : Nat) (r : List Nat), e = .returned (.slice A r.length c) ∧ w'.ownsRow w.heap.size 22 1 (.slice A r.length c) r.length (r.map uv) ∧ r.Pairwise (· < ·) ∧ (∀ x, x ∈ r ↔ x ∈ nodesOf l ep) ∧ Below w.heap.size w w'
section
variable {w : World} {D : Dom} {A : Option Addr} {n c : Nat} {l : List Sea} {ep : Nat}
set_option maxHeartbeats 1000000 in
theorem snodes_any (hs : rpSeaN.sl w D A n c l) (hD : ∀ k, D k → k < w.heap.size) (hn : n ≤ 1000) (hep : ep < 18446744073709551616) :
    Calls Try.prog 23 #[.slice A n c, .int .u64 (ep : Int)] w (NodesIs l ep w) := by
  have hb0 := below1 w (.cells #[.slice none 0 0] 55)
  have hlen := (Rp.sl_len hs).1
  have HJ : Hid (JN w.heap.size w.heap.size (w.alloc (.cells #[.slice none 0 0] 55)) []) := ⟨none, 0, blk11 _ _ _, World.ownsRow_nil _ _ _ _, hb0.size, Nat.le_refl _⟩
  have HS := Lib.hid (keepS (show Sl rpSeaN w D A n c l from ⟨hs, hD⟩) hb0)
  have HD := Lib.hid hD
  have HB := Lib.hid hb0
  have HN := Lib.hid hlen
  clear hs hD hb0 hlen
  go_enter Try.func23, Try.ntmps23
  go_upto_region 2 with (fail)
  obtain ⟨g, hg⟩ : ∃ g, g = w.heap.size := ⟨_, rfl⟩
  generalize World.alloc w _ = w0 at *
  have hj0 := HJ.out
  go_wp2_with fail
  refine (each_nodes (base := w.heap.size) (gv := w.heap.size) HS.out.1 HD.out hn HJ.out hep).mono ?_; rintro e w1 ⟨rfl, hj1, hb1⟩
  obtain ⟨A1, c1, hk1, ho1, hz1, _⟩ := hj1
  have HB1 := Lib.hid (HB.out.trans hb1)
  have hlo : (oks l ep).length < 65536 := by
    have a1 := List.length_filter_le (sok ep) l
    have := HN.out
    unfold oks; omega
  have HNE : Hid (∀ (w : World) A c n (v : List Value), Blk w g 55 #[.slice A n c] → True) := fun _ _ _ _ _ _ => trivial
  have hne : some w.heap.size ≠ (Value.slice A1 (oks l ep).length c1).ownBlock := Pen.ne' hk1 ho1 (by decide)
  have HK1 := Lib.hid hk1
  have HO1 := Lib.hid ho1
  have HZ1 := Lib.hid hz1
  have k0 := hk1.cell 0
  clear hk1 ho1 hz1 hb1 hj0 HNE hg
  go_wp2_with fail
  refine (sort_own (l := (oks l ep).map (fun s => s.2.1)) HO1.out hlo).mono ?_; rintro e w2 ⟨r1, rfl, hp, hsr, ho2, hc2⟩
  have hk2 := chB (show Blk w1 w.heap.size 55 _ from HK1.out) hc2 (fun e => hne e)
  have hr1 : r1.length = (oks l ep).length := by have := ho2.1; simpa using this
  have HB2 := Lib.hid (HB1.out.trans (hc2.below HZ1.out (fun k hk => (HO1.out.lt k hk.symm).1)))
  have HZ2 := Lib.hid (Nat.le_trans HZ1.out hc2.size)
  have HO2 := Lib.hid ho2
  have HP := Lib.hid hp
  have HSR := Lib.hid hsr
  clear k0
  have k0 := hk2.cell 0
  clear hk2 hc2 ho2 hp hsr hr1
  go_wp2_with fail
  refine (compact_own (l := r1) HO2.out hlo).mono ?_; rintro e w3 ⟨rfl, ho3, hc3⟩
  have HB3 := Lib.hid (HB2.out.trans (hc3.below HZ2.out (fun k hk => (HO2.out.lt k hk.symm).1)))
  have HO3 := Lib.hid ho3
  clear k0 hc3 ho3
  go_wp2_with fail
  go_ret
  obtain ⟨h1, h2⟩ := cpl_sorted HSR.out
  exact ⟨A1, c1, cpl r1, rfl, HO3.out, h1, fun x => (h2 x).trans HP.out.mem_iff, HB3.out⟩
def TailIs (l : List Sea) (ep : Nat) (q : Int) (w : World) (e : Ending) (w' : World) : Prop :=
  e = .returned (.tuple #[.int .u64 ((tailQ l ep q).1 : Int), .bool (tailQ l ep q).2]) ∧ Below w.heap.size w w'
theorem tailQ_no {q : Int} (h : known l ep q = false) : tailQ l ep q = (0, false) := by unfold tailQ; rw [h]; rfl
theorem tailQ_yes {q : Int} (h : known l ep q = true) : tailQ l ep q = (tailOf l ep, true) := by unfold tailQ; rw [if_pos h]
set_option maxHeartbeats 1000000 in
theorem stail_any {q : Int} (hs : rpSeaN.sl w D A n c l) (hD : ∀ k, D k → k < w.heap.size) (hn : n ≤ 1000) (hep : ep < 18446744073709551616) :
    Calls Try.prog 25 #[.slice A n c, .int .u64 (ep : Int), .int .i64 q] w (TailIs l ep q w) := by
  unfold TailIs
  by_cases hq : q < 1
  · have hk : known l ep q = false := by unfold known; simp; omega
    rw [tailQ_no hk]
    have hd : decide (q < 1) = true := by simpa using hq
    clear hs hD hk
    go_enter Try.func25, Try.ntmps25
    go_wp2_with fail
    go_ret2
    exact ⟨rfl, Below.refl _ _⟩
  · have hd : decide (q < 1) = false := by simpa using hq
    have hno := snodes_any (ep := ep) hs hD hn hep
    have HNO := Lib.hid hno
    have HS := Lib.hid (show Sl rpSeaN w D A n c l from ⟨hs, hD⟩)
    have HD := Lib.hid hD
    clear hno hs hD
    cases hk : known l ep q
    case false =>
      rw [tailQ_no hk]
      have HK : Hid (((fresh l ep).length : Int) < q) := by
        show ((fresh l ep).length : Int) < q
        unfold known at hk
        simp only [decide_eq_false_iff_not] at hk
        omega
      clear hk
      go_enter Try.func25, Try.ntmps25
      go_wp2_with fail
      refine HNO.out.mono ?_; rintro e w1 ⟨A1, c1, r, rfl, ho, hr, hm, hb⟩
      have hrl := rising_len hr hm
      have hd2 : decide ((r.length : Int) < q) = true := by rw [hrl]; simpa using HK.out
      have HB := Lib.hid hb
      clear ho hr hm hb hrl
      go_wp2_with fail
      go_ret2
      exact ⟨rfl, HB.out⟩
    case true =>
      rw [tailQ_yes hk]
      have HK : Hid (q ≤ ((fresh l ep).length : Int)) := by
        show q ≤ ((fresh l ep).length : Int)
        unfold known at hk
        simp only [decide_eq_true_eq] at hk
        omega
      clear hk
      go_enter Try.func25, Try.ntmps25
      go_wp2_with fail
      refine HNO.out.mono ?_; rintro e w1 ⟨A1, c1, r, rfl, ho, hr, hm, hb⟩
      have hrl := rising_len hr hm
      have hd2 : decide ((r.length : Int) < q) = false := by have := HK.out; rw [hrl]; simp; omega
      have hba := below1 w1 (.cells #[.int .u64 0] 22)
      have HB := Lib.hid (stepB hb hba)
      have HS1 := Lib.hid (keepS (keepS HS.out hb) hba)
      have HJ : Hid (JT w1.heap.size w1.heap.size (w1.alloc (.cells #[.int .u64 0] 22)) []) := ⟨blk11 _ _ _, hba.size, Nat.le_refl _, by decide⟩
      have HD1 : Hid (∀ k, D k → k < w1.heap.size) := fun k hk => Nat.lt_of_lt_of_le (HD.out k hk) hb.size
      have HZ := Lib.hid hb.size
      clear ho hr hm hb hba hrl
      go_upto_region 4 with (fail)
      generalize World.alloc w1 _ = w2 at *
      go_wp2_with fail
      refine (each_tail (base := w1.heap.size) (gv := w1.heap.size) HS1.out.1 HD1.out hn HJ.out hep).mono ?_; rintro e w3 ⟨rfl, hj, hb3⟩
      have k0 := hj.1.cell 0
      have HB3 := Lib.hid (HB.out.trans (hb3.mono HZ.out))
      clear hj hb3
      go_wp2_with fail
      go_ret2
      exact ⟨rfl, HB3.out⟩
end
end Go.Proofs.Ytkhomkklamegmaa
