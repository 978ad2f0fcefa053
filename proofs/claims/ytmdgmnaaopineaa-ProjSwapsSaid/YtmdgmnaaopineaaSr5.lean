/- The choice of a pivot; a row turned round. -/
import Derived.Test.YtmdgmnaaopineaaSr3
import Derived.Test.YtmdgmnaaopineaaSr4
namespace Go.Proofs.Ytmdgmnaaopineaa
open Go.ChangeShapes Go.WideShapes Go.ChangeAt Go.RowKit
set_option linter.unusedVariables false
set_option maxRecDepth 100000 in
set_option maxHeartbeats 4000000 in
theorem pivot_any {blk off cap n a b : Nat} {w : World} (hr : Rw w blk off n) (hl : blk < w.heap.size) (hn : n < 1152921504606846976) (hab : a + 13 ≤ b) (hb : b ≤ n) :
    Calls Try.prog 151 #[.slice (some ⟨blk, off, none⟩) n cap, .int .i64 a, .int .i64 b] w (Piv w a b) := by
  obtain ⟨l, hl0⟩ : ∃ l, l = b - a := ⟨_, rfl⟩
  obtain ⟨q, hq⟩ : ∃ q, q = l / 4 := ⟨_, rfl⟩
  obtain ⟨i, hi⟩ : ∃ i, i = a + q := ⟨_, rfl⟩
  obtain ⟨j, hj⟩ : ∃ j, j = a + q * 2 := ⟨_, rfl⟩
  obtain ⟨k, hk⟩ : ∃ k, k = a + q * 3 := ⟨_, rfl⟩
  have y0 : (b : Int) - (a : Int) = (l : Int) := by omega
  have y1 : (l : Int) / 4 = (q : Int) := by omega
  have y2 : (a : Int) + (q : Int) = (i : Int) := by omega
  have y3 : (a : Int) + (q : Int) * 2 = (j : Int) := by omega
  have y4 : (a : Int) + (q : Int) * 3 = (k : Int) := by omega
  have hl13 : 13 ≤ l := by omega
  have hln : l ≤ n := by omega
  have hqn : q ≤ n := by omega
  have hi1 : a ≤ i ∧ i < b := by omega
  have hj1 : a ≤ j ∧ j < b := by omega
  have hk1 : a ≤ k ∧ k < b := by omega
  have d8 : decide (8 ≤ l) = true := by simp; omega
  have HR0 := Lib.hid (hr.keep hl (Chg.of_pure (below1' w (.cells #[.int .i64 0] 3)) (fun _ => False)) id)
  have hg0 := Lib.hid (Blk.new w 3 #[.int .i64 0])
  have HBL := Lib.hid (below1' w (.cells #[.int .i64 0] 3))
  obtain ⟨g, hg⟩ : ∃ g, g = w.heap.size := ⟨_, rfl⟩
  rw [← hg] at hg0
  have hgb : g ≠ blk := by omega
  have hl1 : blk < (w.alloc (.cells #[.int .i64 0] 3)).heap.size := by simp; omega
  have HG := Lib.hid hg
  have HQ := Lib.hid hq
  have HL0 := Lib.hid hl0
  have HI := Lib.hid hi
  have HJ := Lib.hid hj
  have HK := Lib.hid hk
  clear hr hl hq hl0 hi hj hk
  by_cases h50 : 50 ≤ l
  case neg =>
    have d50 : decide (50 ≤ l) = false := by simpa using h50
    go_enter Try.func151, Try.ntmps151
    go_wp2_with fail
    rw [← hg]
    clear hg
    generalize World.alloc w _ = w0 at *
    refine (median_any (w := w0) HR0.out hl1 hn hgb ⟨_, hg0.out⟩ (p := i) (q := j) (r := k) (by omega) (by omega) (by omega)).mono ?_; rintro e w1 ⟨u, rfl, hu, hc⟩
    have hu1 : a ≤ u ∧ u < b := by rcases hu with rfl | rfl | rfl <;> assumption
    obtain ⟨s, hs⟩ := hc.blk
    have HC := Lib.hid hc
    have g0 := hs.cell 0
    have HBZ := Lib.hid (Cnt.below HBL.out (Nat.le_of_eq HG.out.symm) hc)
    clear hc hs hu
    by_cases h0 : s = 0
    case pos =>
      have e0 : (s == 0) = true := by simpa using h0
      clear h0
      go_wp2_with fail
      go_ret2
      exact ⟨u, 1, rfl, hu1.1, hu1.2, HBZ.out⟩
    case neg =>
      have e0 : (s == 0) = false := by simpa using h0
      by_cases h12 : s = 12
      case pos =>
        have e12 : (s == 12) = true := by simpa using h12
        clear h0 h12
        go_wp2_with fail
        go_ret2
        exact ⟨u, 2, rfl, hu1.1, hu1.2, HBZ.out⟩
      case neg =>
        have e12 : (s == 12) = false := by simpa using h12
        clear h0 h12
        go_wp2_with fail
        go_ret2
        exact ⟨u, 0, rfl, hu1.1, hu1.2, HBZ.out⟩
  case pos =>
    have d50 : decide (50 ≤ l) = true := by simpa using h50
    have hq12 : 12 ≤ q := by have := HQ.out; omega
    have hib : i + 1 < b ∧ a + 1 ≤ i := by have := HI.out; have := HQ.out; have := HL0.out; omega
    have hjb : j + 1 < b ∧ a + 1 ≤ j := by have := HJ.out; have := HQ.out; have := HL0.out; omega
    have hkb : k + 1 < b ∧ a + 1 ≤ k := by have := HK.out; have := HQ.out; have := HL0.out; omega
    go_enter Try.func151, Try.ntmps151
    go_wp2_with fail
    rw [← hg]
    clear hg
    generalize World.alloc w _ = w0 at *
    refine (medadj_any (w := w0) HR0.out hl1 hn hgb ⟨_, hg0.out⟩ (p := i) (by omega) (by omega)).mono ?_; rintro e wa ⟨ui, rfl, hui, hca⟩
    have hui1 : a ≤ ui ∧ ui < b := by omega
    have HRA := Lib.hid (HR0.out.keep hl1 hca.ch (fun e => hgb e.symm))
    have hla : blk < wa.heap.size := Nat.lt_of_lt_of_le hl1 hca.ch.size
    have HCA := Lib.hid hca
    clear hui hca
    go_wp2_with fail
    refine (medadj_any (w := wa) HRA.out hla hn hgb HCA.out.blk (p := j) (by omega) (by omega)).mono ?_; rintro e wb ⟨uj, rfl, huj, hcb⟩
    have huj1 : a ≤ uj ∧ uj < b := by omega
    have HRB := Lib.hid (HRA.out.keep hla hcb.ch (fun e => hgb e.symm))
    have hlb : blk < wb.heap.size := Nat.lt_of_lt_of_le hla hcb.ch.size
    have HCB := Lib.hid (HCA.out.trans hcb)
    clear huj hcb
    go_wp2_with fail
    refine (medadj_any (w := wb) HRB.out hlb hn hgb HCB.out.blk (p := k) (by omega) (by omega)).mono ?_; rintro e wc ⟨uk, rfl, huk, hcc⟩
    have huk1 : a ≤ uk ∧ uk < b := by omega
    have HRC := Lib.hid (HRB.out.keep hlb hcc.ch (fun e => hgb e.symm))
    have hlc : blk < wc.heap.size := Nat.lt_of_lt_of_le hlb hcc.ch.size
    have HCC := Lib.hid (HCB.out.trans hcc)
    clear huk hcc
    go_wp2_with fail
    refine (median_any (w := wc) HRC.out hlc hn hgb HCC.out.blk (p := ui) (q := uj) (r := uk) (by omega) (by omega) (by omega)).mono ?_; rintro e w1 ⟨u, rfl, hu, hc0⟩
    have hu1 : a ≤ u ∧ u < b := by rcases hu with rfl | rfl | rfl <;> assumption
    have hc := HCC.out.trans hc0
    clear hc0
    obtain ⟨s, hs⟩ := hc.blk
    have HC := Lib.hid hc
    have g0 := hs.cell 0
    have HBZ := Lib.hid (Cnt.below HBL.out (Nat.le_of_eq HG.out.symm) hc)
    clear hc hs hu
    by_cases h0 : s = 0
    case pos =>
      have e0 : (s == 0) = true := by simpa using h0
      clear h0
      go_wp2_with fail
      go_ret2
      exact ⟨u, 1, rfl, hu1.1, hu1.2, HBZ.out⟩
    case neg =>
      have e0 : (s == 0) = false := by simpa using h0
      by_cases h12 : s = 12
      case pos =>
        have e12 : (s == 12) = true := by simpa using h12
        clear h0 h12
        go_wp2_with fail
        go_ret2
        exact ⟨u, 2, rfl, hu1.1, hu1.2, HBZ.out⟩
      case neg =>
        have e12 : (s == 12) = false := by simpa using h12
        clear h0 h12
        go_wp2_with fail
        go_ret2
        exact ⟨u, 0, rfl, hu1.1, hu1.2, HBZ.out⟩
/-- What turns a row round, or deals it out anew. -/
def Perms (w : World) (blk off a b : Nat) (d : Array Int) (e : Ending) (w' : World) : Prop := ∃ d', e = .returned (.tuple #[]) ∧ SW w w' blk off d d' ∧ Sort.PermIn a b d d'
set_option maxHeartbeats 4000000 in
theorem srev_any {blk off cap a b n : Nat} {d : Array Int} {w : World} (hH : Sort.Holds eu w blk off d) (hl : blk < w.heap.size) (hn : d.size = n) (hab : a < b) (hb : b ≤ n) (hsz : n < 1152921504606846976) :
    Calls Try.prog 152 #[.slice (some ⟨blk, off, none⟩) n cap, .int .i64 a, .int .i64 b] w (Perms w blk off a b d) := by
  have HS := Lib.hid (SW.refl hH hl)
  have HN := Lib.hid hn
  obtain ⟨m, hm⟩ : ∃ m, m = b - 1 := ⟨_, rfl⟩
  have y0 : (b : Int) - 1 = (m : Int) := by omega
  have hmb : m < b := by omega
  clear hn hH hl hm
  go_enter Try.func152, Try.ntmps152
  go_wp2_with fail
  try simp only [y0]
  go_loopw [6, 7] (fun vi vj wr => ∃ (i j : Nat) (dk : Array Int), a ≤ i ∧ i ≤ n ∧ j < b ∧ vi = .int .i64 i ∧ vj = .int .i64 j ∧ Hid (SW w wr blk off d dk) ∧ Hid (Sort.PermIn a b d dk)) (fun _ vj _ => (intOf vj).toNat)
  case atStart => exact ⟨a, m, d, Nat.le_refl _, by omega, hmb, rfl, rfl, HS, Sort.permIn_refl _ _ _⟩
  case round =>
    obtain ⟨i, j, dk, hi1, hi2, hj1, rfl, rfl, hsw, hpm⟩ := hrel
    by_cases hij : i < j
    case neg =>
      have hd : decide (i < j) = false := by simpa using hij
      go_wp2_with fail
      go_end0
      exact ⟨dk, rfl, hsw.out, hpm.out⟩
    case pos =>
      have hd : decide (i < j) = true := by simpa using hij
      have hdn : dk.size = n := hsw.out.sz.trans HN.out
      have hin : i < n := by omega
      have hjn : j < n := by omega
      have HPM : Hid (Sort.PermIn a b d (Sort.swp dk i j)) := Sort.permIn_trans _ _ _ _ _ hpm.out (Sort.swp_permIn dk a b i j hi1 (by omega) (by omega) hj1 (by omega))
      obtain ⟨k, hk⟩ : ∃ k, k = j - 1 := ⟨_, rfl⟩
      have hkb : k < b := by omega
      have hkj : k < j := by omega
      have y1 : (j : Int) - 1 = (k : Int) := by omega
      obtain ⟨X, hX⟩ : ∃ X, X = dk[i]! := ⟨_, rfl⟩
      obtain ⟨Y, hY⟩ : ∃ X, X = dk[j]! := ⟨_, rfl⟩
      have c1 := hsw.out.cell (t := i) (by omega)
      have c2 := hsw.out.cell (t := j) (by omega)
      have z1 := hsw.out.frozen (t := i) (by omega)
      have z2 := hsw.out.frozen (t := j) (by omega)
      rw [← hX] at c1
      rw [← hY] at c2
      have HX := Lib.hid hX
      have HY := Lib.hid hY
      have HDN := Lib.hid hdn
      clear hX hY hdn hk
      go_wp2_with fail
      go_region
      all_goals go_wp2_with fail
      all_goals go_roundw
      case rel => exact ⟨i + 1, k, Sort.swp dk i j, by omega, by omega, hkb, by go_num, rfl, SW.same (hsw.out.swpv (w := wr) (by rw [HDN.out]; exact hin) (by rw [HDN.out]; exact hjn) HX.out HY.out rfl rfl rfl rfl) rfl rfl rfl rfl, HPM⟩
      case measure => clear y1; simp [intOf]; omega
end Go.Proofs.Ytmdgmnaaopineaa
