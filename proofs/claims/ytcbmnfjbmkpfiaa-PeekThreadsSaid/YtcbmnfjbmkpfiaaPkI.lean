/- peek.rise, batch.End. -/
import Derived.Test.YtcbmnfjbmkpfiaaPkM
import Derived.Test.YtcbmnfjbmkpfiaaTkL
import Derived.IntWalk
namespace Go.Proofs.Ytcbmnfjbmkpfiaa
open Go.ChangeShapes Go.WideShapes Go.ChangeAt Go.RowKit
set_option linter.unusedVariables false
theorem rise1_any {s t n c n' c' : Nat} {A A' : Option Addr} (w : World) : Calls Try.prog 67 #[.agg (lkV s A n c), .agg (lkV t A' n' c')] w fun e w' => e = .returned (.int .i64 (if s ≤ t then -1 else 1)) ∧ Below w.heap.size w w' := by
  have HB := Lib.hid (below2 w (.cells (lkV s A n c) 57) (.cells (lkV t A' n' c') 57))
  have K1 := Lib.hid (blk21 w 57 57 (lkV s A n c) (lkV t A' n' c'))
  have K2 := Lib.hid (blk22 w 57 57 (lkV s A n c) (lkV t A' n' c'))
  obtain ⟨r, hr⟩ : ∃ r : Int, (if s ≤ t then (-1 : Int) else 1) = r := ⟨_, rfl⟩
  rw [hr]
  have HR := Lib.hid hr
  clear hr
  go_enter Try.func67, Try.ntmps67
  go_upto_region 1 with (fail)
  generalize World.alloc (World.alloc w _) _ = w0 at *
  have k0 := (show Blk w0 w.heap.size 57 (lkV s A n c) from K1.out).cell 0
  have k1 := (show Blk w0 (w.heap.size + 1) 57 (lkV t A' n' c') from K2.out).cell 0
  by_cases h : s ≤ t
  · have HRE : Hid (r = -1) := by show _ = _; rw [← HR.out, if_pos h]
    have hd : decide ((s : Int) ≤ (t : Int)) = true := by simp; omega
    have hd2 : decide (s ≤ t) = true := by simpa using h
    clear h
    go_wp2_with fail
    go_ret
    exact ⟨by rw [HRE.out]; rfl, HB.out⟩
  · have HRE : Hid (r = 1) := by show _ = _; rw [← HR.out, if_neg h]
    have hd : decide ((s : Int) ≤ (t : Int)) = false := by simp; omega
    have hd2 : decide (s ≤ t) = false := by simpa using h
    clear h
    go_wp2_with fail
    go_ret
    exact ⟨by rw [HRE.out]; rfl, HB.out⟩
/-- The pairs from the m-th link on rise. -/
def DownTo (l : List Lnk) (m : Nat) : Prop := ∀ (j : Nat) (a b : Lnk), m ≤ j + 1 → l[j]? = some a → l[j + 1]? = some b → a.1 < b.1
section
variable {D : Dom} {A : Option Addr} {n c : Nat} {l : List Lnk} {w : World}
set_option maxRecDepth 100000 in
set_option maxHeartbeats 4000000 in
theorem sorted_any (hs : rpLnk.sl w D A n c l) (hD : ∀ k, D k → k < w.heap.size) (hn : n ≤ 100000) :
    Calls Try.prog 66 #[.slice A n c, .func (Fn.func 67) #[] #[]] w fun e w' => e = .returned (.bool (dec (StrUp l))) ∧ Below w.heap.size w w' := by
  have HS := Lib.hid (show Sl rpLnk w D A n c l from ⟨hs, hD⟩)
  have HN := Lib.hid (Rp.sl_len hs).1
  obtain ⟨q, hq⟩ : ∃ q, dec (StrUp l) = q := ⟨_, rfl⟩
  rw [hq]
  have HQ := Lib.hid hq
  have hsub : IntKind.i64.wrap ((n : Int) - 1) = (n : Int) - 1 := IntWalk.i64_in _ (by omega)
  clear hs hD hq
  go_enter Try.func66, Try.ntmps66
  go_wp2_with fail
  go_loopw [5] (fun v5 wr => ∃ m : Nat, m ≤ n ∧ v5 = .int .i64 ((m : Int) - 1) ∧ Hid (DownTo l m) ∧ Hid (Below w.heap.size w wr)) (fun v5 _ => (intOf v5 + 1).toNat)
  case atStart =>
    refine ⟨n, Nat.le_refl _, rfl, fun j a b h ha hb => ?_, Below.refl _ _⟩
    have := (List.getElem?_eq_some_iff.1 hb).1
    have := HN.out
    omega
  case round =>
    clear hsub
    obtain ⟨m, hm, rfl, hdn, hbel⟩ := hrel
    by_cases hm2 : 2 ≤ m
    case neg =>
      have hd : decide ((0 : Int) < (m : Int) - 1) = false := by simp; omega
      have HQT : Hid (q = true) := by
        show q = true
        rw [← HQ.out]
        exact dec_true (fun i a b hi ha hb => hdn.out i a b (by omega) ha hb)
      go_wp2_with fail
      go_ret
      exact ⟨by rw [HQT.out]; rfl, hbel.out⟩
    case pos =>
      obtain ⟨i, hi⟩ : ∃ i, m = i + 2 := ⟨m - 2, by omega⟩
      have hd : decide ((0 : Int) < (m : Int) - 1) = true := by simp; omega
      have hsr := keepS HS.out hbel.out
      obtain ⟨bo, off, x, A3, c3, rfl, hbD, hx, g0, g1, _, hx64⟩ := lnk_at hsr.1 (show i + 1 < n by omega)
      obtain ⟨bo2, off2, y, A4, c4, hA2, hbD2, hy, q0, q1, _, hy64⟩ := lnk_at hsr.1 (show i < n by omega)
      injection hA2 with hA2
      injection hA2 with e1 e2
      subst e1; subst e2
      have hbl := hsr.2 bo hbD
      obtain ⟨xs, xl⟩ := x
      obtain ⟨ys, yl⟩ := y
      simp only at g0 g1 q0 q1
      obtain ⟨xn, hxn⟩ : ∃ xn, xn = xl.length := ⟨_, rfl⟩
      obtain ⟨yn, hyn⟩ : ∃ yn, yn = yl.length := ⟨_, rfl⟩
      rw [← hxn] at g1
      rw [← hyn] at q1
      have e1 : (m : Int) - 1 = ((i + 1 : Nat) : Int) := by omega
      have e2 : IntKind.i64.wrap (((i + 1 : Nat) : Int) - 1) = (i : Int) := by rw [IntWalk.i64_in _ (by omega)]; omega
      have e2' : IntKind.i64.wrap ((i : Int) + 1 - 1) = (i : Int) := by rw [IntWalk.i64_in _ (by omega)]; omega
      have hI0 : (0 : Int) ≤ (i : Int) := by omega
      have hI1 : (i : Int) < (n : Int) := by omega
      have hJ0 : (0 : Int) ≤ ((i + 1 : Nat) : Int) := by omega
      have hJ1 : ((i + 1 : Nat) : Int) < (n : Int) := by omega
      have HDN : Hid (DownTo l (i + 1) ↔ DownTo l m ∧ ys < xs) := by
        show _ ↔ _
        constructor
        · intro h
          exact ⟨fun j a b hj ha hb => h j a b (by omega) ha hb, h i (ys, yl) (xs, xl) (by omega) hy hx⟩
        · rintro ⟨h1, h2⟩ j a b hj ha hb
          rcases Nat.lt_or_ge j (i + 1) with h | h
          · obtain rfl : j = i := by omega
            rw [hy] at ha
            rw [hx] at hb
            injection ha with ha
            injection hb with hb
            subst ha; subst hb
            exact h2
          · exact h1 j a b (by omega) ha hb
      have HC : Hid (∀ u : Gr wr.heap.size wr, Calls Try.prog 67 #[.agg (lkV xs A3 xn c3), .agg (lkV ys A4 yn c4)] u.val fun e w' => e = .returned (.int .i64 (if xs ≤ ys then -1 else 1)) ∧ Below u.val.heap.size u.val w') := fun u => rise1_any u.val
      have k0 : ∀ u : Gr wr.heap.size wr, u.val.cell? ⟨bo, off + (i + 1) * 2, none⟩ = some (.int .u64 (xs : Int)) := fun u => (u.is.cell (p := ⟨bo, off + (i + 1) * 2, none⟩) hbl).trans g0
      have k1 : ∀ u : Gr wr.heap.size wr, u.val.cell? ⟨bo, off + (i + 1) * 2 + 1, none⟩ = some (.slice A3 xn c3) := fun u => (u.is.cell (p := ⟨bo, off + (i + 1) * 2 + 1, none⟩) hbl).trans g1
      have k2 : ∀ u : Gr wr.heap.size wr, u.val.cell? ⟨bo, off + i * 2, none⟩ = some (.int .u64 (ys : Int)) := fun u => (u.is.cell (p := ⟨bo, off + i * 2, none⟩) hbl).trans q0
      have k3 : ∀ u : Gr wr.heap.size wr, u.val.cell? ⟨bo, off + i * 2 + 1, none⟩ = some (.slice A4 yn c4) := fun u => (u.is.cell (p := ⟨bo, off + i * 2 + 1, none⟩) hbl).trans q1
      obtain ⟨wn, hwn⟩ : ∃ wn : Int, wn = (i : Int) := ⟨_, rfl⟩
      rw [e1] at hd ⊢
      have HI := Lib.hid hi
      clear hx hy hsr hbD hbD2 hxn hyn g0 g1 q0 q1 hi e1 hwn
      by_cases hlt : xs ≤ ys
      · have HNO : Hid (q = false) := by
          show q = false
          rw [← HQ.out]
          refine dec_false (fun h => ?_)
          have h2 : DownTo l (i + 1) := fun j a b _ ha hb => h j a b (by have := (List.getElem?_eq_some_iff.1 hb).1; omega) ha hb
          have := (HDN.out.1 h2).2
          omega
        have HC2 := HC.out
        rw [if_pos hlt] at HC2
        have HC3 := Lib.hid HC2
        clear HC2 hlt
        go_upto_region 4 with (fail)
        refine wp_region_grow (by kernel_rfl) (by kernel_rfl) wr.heap.size ?_
        repeat (first | go_big_quiet_step ((go_at_call 67; exact Gr.call _ (Nat.le_refl _) (HC3.out _))) | quiet_step ((go_at_call 67; exact Gr.call _ (Nat.le_refl _) (HC3.out _))))
        refine wpQuiet_nil ?_
        rintro w5 ⟨⟨_, hb5⟩, rfl⟩
        have HB5 := Lib.hid (stepB hbel.out hb5)
        clear hb5 k0 k1 k2 k3
        go_wp2_with fail
        go_ret
        exact ⟨by rw [HNO.out]; rfl, HB5.out⟩
      · have HYES : Hid (DownTo l (i + 1)) := HDN.out.2 ⟨hdn.out, by omega⟩
        have HC2 := HC.out
        rw [if_neg hlt] at HC2
        have HC3 := Lib.hid HC2
        clear HC2 hlt
        go_upto_region 4 with (fail)
        refine wp_region_grow (by kernel_rfl) (by kernel_rfl) wr.heap.size ?_
        repeat (first | go_big_quiet_step ((go_at_call 67; exact Gr.call _ (Nat.le_refl _) (HC3.out _))) | quiet_step ((go_at_call 67; exact Gr.call _ (Nat.le_refl _) (HC3.out _))))
        refine wpQuiet_nil ?_
        rintro w5 ⟨⟨_, hb5⟩, rfl⟩
        have HB5 := Lib.hid (stepB hbel.out hb5)
        clear hb5 k0 k1 k2 k3
        go_wp2_with fail
        go_roundw
        case rel => exact ⟨i + 1, by omega, by first | rfl | go_num | (congr 1; omega), HYES, HB5⟩
        case measure => clear e2 e2'; simp [intOf]; omega
theorem rise_any (hs : rpLnk.sl w D A n c l) (hD : ∀ k, D k → k < w.heap.size) (hn : n ≤ 100000) :
    Calls Try.prog 37 #[.slice A n c] w fun e w' => e = .returned (.bool (dec (StrUp l))) ∧ Below w.heap.size w w' := by
  have HS := Lib.hid (sorted_any hs hD hn)
  clear hs hD
  go_enter Try.func37, Try.ntmps37
  go_wp2_with fail
  refine HS.out.mono ?_; rintro e w1 ⟨rfl, hb⟩
  have HB := Lib.hid hb
  clear hb
  go_wp2_with fail
  go_ret
  exact ⟨rfl, HB.out⟩
end
def endN (b n : Nat) : Nat := (b + n) % 18446744073709551616
theorem end_any {ep b n c : Nat} {A : Option Addr} (w : World) (hn : n ≤ 1000000) (hb : b ≤ 18446744073709551615) : Calls Try.prog 30 #[.agg #[.int .u64 (ep : Int), .int .u64 (b : Int), .slice A n c]] w fun e w' => e = .returned (.int .u64 (endN b n : Int)) ∧ Below w.heap.size w w' := by
  have HB := Lib.hid (below1 w (.cells #[.int .u64 (ep : Int), .int .u64 (b : Int), .slice A n c] 25))
  have HK := Lib.hid (blk11 w 25 #[.int .u64 (ep : Int), .int .u64 (b : Int), .slice A n c])
  have hw : IntKind.u64.wrap (n : Int) = (n : Int) := IntWalk.u64_in _ (by omega)
  have hw2 : IntKind.u64.wrap ((b : Int) + (n : Int)) = (endN b n : Int) := by
    unfold endN
    rcases Nat.lt_or_ge (b + n) 18446744073709551616 with h | h
    · rw [IntWalk.u64_in _ (by omega), Nat.mod_eq_of_lt h]; omega
    · have e : (b + n) % 18446744073709551616 = b + n - 18446744073709551616 := by omega
      rw [e, IntKind.wrap_u64]; omega
  go_enter Try.func30, Try.ntmps30
  go_upto_region 1 with (fail)
  generalize World.alloc w _ = w0 at *
  have k1 := (show Blk w0 w.heap.size 25 #[.int .u64 (ep : Int), .int .u64 (b : Int), .slice A n c] from HK.out).cell 1
  have k2 := (show Blk w0 w.heap.size 25 #[.int .u64 (ep : Int), .int .u64 (b : Int), .slice A n c] from HK.out).cell 2
  go_wp2_with fail
  go_ret
  exact ⟨rfl, HB.out⟩
end Go.Proofs.Ytcbmnfjbmkpfiaa
