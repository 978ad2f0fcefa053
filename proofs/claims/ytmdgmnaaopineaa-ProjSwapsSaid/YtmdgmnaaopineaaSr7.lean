/- The insertion sort of a row that is nearly sorted. -/
import Derived.Test.YtmdgmnaaopineaaSr6
import Derived.Deep.DeepCutAuto
import Derived.Deep.CutBlock
namespace Go.Proofs.Ytmdgmnaaopineaa
open Go.ChangeShapes Go.WideShapes Go.ChangeAt Go.RowKit
set_option linter.unusedVariables false
section
variable {a b s i I : Nat} {d : Array Int}
theorem pins_sorted (h : Sort.scanSorted lti d b i = b) : Sort.partialIns lti a b (s + 1) i d = (d, true) := by
  rw [Sort.partialIns]
  simp only [h, if_true]
theorem pins_short (h : Sort.scanSorted lti d b i = I) (hI : I ≠ b) (hs : b - a < 50) : Sort.partialIns lti a b (s + 1) i d = (d, false) := by
  rw [Sort.partialIns]
  simp only [h]
  rw [if_neg hI, if_pos hs]
/-- What is shifted down, and up. -/
def downOf (a I : Nat) (d : Array Int) : Array Int := if 2 ≤ I - a then Sort.shiftDown lti (I - 1) d else d
def upOf (b I : Nat) (d : Array Int) : Array Int := if 2 ≤ b - I then Sort.shiftUp lti b (I + 1) d else d
theorem pins_go (h : Sort.scanSorted lti d b i = I) (hI : I ≠ b) (hs : ¬ b - a < 50) : Sort.partialIns lti a b (s + 1) i d = Sort.partialIns lti a b s I (upOf b I (downOf a I (Sort.swp d I (I - 1)))) := by
  rw [Sort.partialIns]
  simp only [h]
  rw [if_neg hI, if_neg hs]
  rfl
theorem scan_go {j : Nat} (h : i < b) (hj : i = j + 1) (hl : lti d[i]! d[j]! = false) : Sort.scanSorted lti d b i = Sort.scanSorted lti d b (i + 1) := by
  subst hj
  rw [Sort.scanSorted, if_pos (by simp only [Nat.add_sub_cancel, hl]; simp [h])]
theorem scan_end (h : ¬ i < b) : Sort.scanSorted lti d b i = i := by rw [Sort.scanSorted, if_neg (by simp [h])]
theorem scan_less {j : Nat} (hj : i = j + 1) (hl : lti d[i]! d[j]! = true) : Sort.scanSorted lti d b i = i := by
  subst hj
  rw [Sort.scanSorted, if_neg (by simp only [Nat.add_sub_cancel, hl]; simp)]
theorem down_go {j k : Nat} (hj : j = k + 1) (hl : lti d[j]! d[k]! = true) : Sort.shiftDown lti j d = Sort.shiftDown lti k (Sort.swp d j k) := by
  subst hj
  rw [Sort.shiftDown, hl, if_neg (by decide)]
theorem down_end {j k : Nat} (hj : j = k + 1) (hl : lti d[j]! d[k]! = false) : Sort.shiftDown lti j d = d := by
  subst hj
  rw [Sort.shiftDown, hl, if_pos (by decide)]
theorem up_go {j k : Nat} (hj : j = k + 1) (h : j < b) (hl : lti d[j]! d[k]! = true) : Sort.shiftUp lti b j d = Sort.shiftUp lti b (j + 1) (Sort.swp d j k) := by
  subst hj
  rw [Sort.shiftUp, if_pos h]
  simp only [Nat.add_sub_cancel, hl]
  rfl
theorem up_end {j k : Nat} (hj : j = k + 1) (hl : lti d[j]! d[k]! = false) : Sort.shiftUp lti b j d = d := by
  subst hj
  rw [Sort.shiftUp]
  simp only [Nat.add_sub_cancel, hl]
  split <;> rfl
theorem up_out {j : Nat} (h : ¬ j < b) : Sort.shiftUp lti b j d = d := by rw [Sort.shiftUp, if_neg h]
end
/-- A partial sort's end: whether the row is sorted now. -/
def Pins (w : World) (blk off a b : Nat) (d : Array Int) (e : Ending) (w' : World) : Prop := ∃ d' q, e = .returned (.bool q) ∧ SW w w' blk off d d' ∧ Sort.PermIn a b d d' ∧ (q = true → Sort.SortedIn lti a b d')
set_option maxRecDepth 100000 in
set_option maxHeartbeats 8000000 in
theorem spins_any {blk off cap a b n : Nat} {d : Array Int} {w : World} (hH : Sort.Holds eu w blk off d) (hl : blk < w.heap.size) (hn : d.size = n) (hab : a + 13 ≤ b) (hb : b ≤ n) (hsz : n < 65536) (hbel : Sort.Below lti a b d) :
    Calls Try.prog 153 #[.slice (some ⟨blk, off, none⟩) n cap, .int .i64 a, .int .i64 b] w (Pins w blk off a b d) := by
  have HS := Lib.hid (SW.refl hH hl)
  have HP := Lib.hid (Sort.partialInsertionSort_holds (lt := lti) Sort.swo_ltInt d a b (by omega) (by omega) hbel)
  have HN := Lib.hid hn
  clear hn hH hl hbel
  go_enter Try.func153, Try.ntmps153
  go_wp2_with fail
  go_loopw [7, 8] (fun vi vj wr => ∃ (i s j : Nat) (dk : Array Int), a < i ∧ i ≤ b ∧ s + j = 5 ∧ vi = .int .i64 i ∧ vj = .int .i64 j ∧ Hid (SW w wr blk off d dk) ∧ Hid (Sort.partialIns lti a b s i dk = Sort.partialInsertionSort lti d a b)) (fun _ vj _ => 5 - (intOf vj).toNat)
  case atStart => exact ⟨a + 1, 5, 0, d, by omega, by omega, rfl, by go_num, rfl, HS, rfl⟩
  case round =>
    obtain ⟨i, s, j, dk, hi1, hi2, hsj, rfl, rfl, hsw, hpi⟩ := hrel
    by_cases hj5 : j < 5
    case neg =>
      have hd : decide ((j : Int) < 5) = false := by simp; omega
      obtain rfl : s = 0 := by omega
      have HE : Hid ((dk, false) = Sort.partialInsertionSort lti d a b) := hpi.out
      go_wp2_with fail
      go_ret
      exact ⟨dk, false, rfl, hsw.out, by have h := HP.out.1; rw [← HE.out] at h; exact h, fun h => by cases h⟩
    case pos =>
      have hd : decide ((j : Int) < 5) = true := by simp; omega
      obtain ⟨t, rfl⟩ : ∃ t, s = t + 1 := ⟨s - 1, by omega⟩
      have HJ : Hid (t + (j + 1) = 5) := by show t + (j + 1) = 5; omega
      go_wp2_with fail
      obtain ⟨ws, hws⟩ : ∃ ws, ws = wr := ⟨_, rfl⟩
      subst hws
      go_loopw [7] (fun vi wr => ∃ (i' : Nat), i ≤ i' ∧ i' ≤ b ∧ vi = .int .i64 i' ∧ Hid (SW w wr blk off d dk) ∧ Hid (Sort.scanSorted lti dk b i' = Sort.scanSorted lti dk b i)) (fun vi _ => b - (intOf vi).toNat)
      case atStart => exact ⟨i, Nat.le_refl _, hi2, rfl, hsw, rfl⟩
      case round =>
        obtain ⟨i', hi3, hi4, rfl, hsw', hsc⟩ := hrel
        by_cases hib : i' < b
        case neg =>
          obtain rfl : i' = b := by omega
          have hd2 : decide (i' < i') = false := by simp
          have HE : Hid ((dk, true) = Sort.partialInsertionSort lti d a i') := (pins_sorted (hsc.out.symm.trans (scan_end hib))).symm.trans hpi.out
          go_wp2_with fail
          go_quiet (fail)
          go_wp2_with fail
          go_ret
          exact ⟨dk, true, rfl, hsw'.out.same rfl rfl rfl rfl, by have h := HP.out.1; rw [← HE.out] at h; exact h, fun _ => by have h := HP.out.2; rw [← HE.out] at h; exact h rfl⟩
        case pos =>
          have hd2 : decide (i' < b) = true := by simpa using hib
          obtain ⟨k, hk⟩ : ∃ k, i' = k + 1 := ⟨i' - 1, by omega⟩
          have hdn : dk.size = n := hsw'.out.sz.trans HN.out
          have hin : i' < n := by omega
          have hkn : k < n := by omega
          obtain ⟨X, hX⟩ : ∃ X, X = dk[i']! := ⟨_, rfl⟩
          obtain ⟨Y, hY⟩ : ∃ X, X = dk[k]! := ⟨_, rfl⟩
          have c1 := hsw'.out.cell (t := i') (by omega)
          have c2 := hsw'.out.cell (t := k) (by omega)
          rw [← hX] at c1
          rw [← hY] at c2
          have hki : k < i' := by omega
          have hak : a ≤ k := by omega
          have hai' : a < i' := by omega
          have y1 : IntKind.i64.wrap ((i' : Int) - 1) = (k : Int) := by rw [IntWalk.i64_in _ (by omega)]; omega
          have y1' : (i' : Int) - 1 = (k : Int) := by omega
          have HX := Lib.hid hX
          have HY := Lib.hid hY
          have HDN := Lib.hid hdn
          have HK := Lib.hid hk
          clear hX hY hdn hk
          cases hless : lti X Y
          case false =>
            have HL : Hid (∀ w, Calls Try.prog 154 #[.int .u64 X, .int .u64 Y] w fun e w' => e = .returned (.bool false) ∧ w' = w) := fun w => less_is hless w
            have HE : Hid (Sort.scanSorted lti dk b (i' + 1) = Sort.scanSorted lti dk b i) := (scan_go hib HK.out (by rw [← HX.out, ← HY.out]; exact hless)).symm.trans hsc.out
            clear hless
            go_wp2_with fail
            go_quiet ((go_at_call 154; exact Calls.quiet_of_same (HL.out _)))
            go_wp2_with fail
            go_roundw
            case rel => exact ⟨i' + 1, Nat.le_succ_of_le hi3, hib, by go_num, hsw'.out.same rfl rfl rfl rfl, HE⟩
            case measure => clear y1 y1'; simp [intOf]; omega
          case true =>
            have HL : Hid (∀ w, Calls Try.prog 154 #[.int .u64 X, .int .u64 Y] w fun e w' => e = .returned (.bool true) ∧ w' = w) := fun w => less_is hless w
            have HI : Hid (Sort.scanSorted lti dk b i = i') := hsc.out.symm.trans (scan_less HK.out (by rw [← HX.out, ← HY.out]; exact hless))
            clear hless
            have hne : ((i' : Int) == (b : Int)) = false := by simp; omega
            obtain ⟨L, hL⟩ : ∃ L, L = b - a := ⟨_, rfl⟩
            have y2 : (b : Int) - (a : Int) = (L : Int) := by clear y1 y1'; omega
            by_cases h50 : L < 50
            case pos =>
              have hd3 : decide ((L : Int) < 50) = true := by clear y1; simp; omega
              have HE : Hid ((dk, false) = Sort.partialInsertionSort lti d a b) := (pins_short HI.out (by omega) (by omega)).symm.trans hpi.out
              clear hL
              go_wp2_with fail
              go_quiet ((go_at_call 154; exact Calls.quiet_of_same (HL.out _)))
              go_wp2_with fail
              go_ret
              exact ⟨dk, false, rfl, hsw'.out.same rfl rfl rfl rfl, by have h := HP.out.1; rw [← HE.out] at h; exact h, fun h => by cases h⟩
            case neg =>
              have hd3 : decide ((L : Int) < 50) = false := by clear y1; simp; omega
              have HE : Hid (Sort.partialIns lti a b t i' (upOf b i' (downOf a i' (Sort.swp dk i' k))) = Sort.partialInsertionSort lti d a b) := by
                have h := pins_go (a := a) (s := t) HI.out (by omega) (by omega)
                rw [show i' - 1 = k by omega] at h
                exact h.symm.trans hpi.out
              obtain ⟨P, hP⟩ : ∃ P, P = i' - a := ⟨_, rfl⟩
              obtain ⟨Q, hQ⟩ : ∃ Q, Q = b - i' := ⟨_, rfl⟩
              have y3 : (i' : Int) - (a : Int) = (P : Int) := by clear y1 y1' y2; omega
              have y4 : (b : Int) - (i' : Int) = (Q : Int) := by clear y1 y1' y2; omega
              have HPP := Lib.hid hP
              have HQQ := Lib.hid hQ
              clear hL hP hQ
              go_wp2_with fail
              go_quiet ((go_at_call 154; exact Calls.quiet_of_same (HL.out _)))
              have HSW1 := Lib.hid (hsw'.out.same (w := wr.drewN nq) rfl rfl rfl rfl)
              clear c1 c2
              generalize World.drewN wr nq = w1 at *
              have c1 := HSW1.out.cell (t := i') (by rw [HDN.out]; exact hin)
              have c2 := HSW1.out.cell (t := k) (by rw [HDN.out]; exact hkn)
              have z1 := HSW1.out.frozen (t := i') (by rw [HDN.out]; exact hin)
              have z2 := HSW1.out.frozen (t := k) (by rw [HDN.out]; exact hkn)
              rw [← HX.out] at c1
              rw [← HY.out] at c2
              go_wp2_with fail
              go_region
              have HSW2 : Hid (SW w (World.drew ((w1.setCell ⟨blk, off + i', none⟩ (.int .u64 Y)).setCell ⟨blk, off + k, none⟩ (.int .u64 X))) blk off d (Sort.swp dk i' k)) :=
                SW.same (HSW1.out.swpv (w := w1) (by rw [HDN.out]; exact hin) (by rw [HDN.out]; exact hkn) HX.out HY.out rfl rfl rfl rfl) rfl rfl rfl rfl
              clear c1 c2 z1 z2
              try change Code.wp _ _ _ _ (World.drew ((w1.setCell ⟨blk, off + i', none⟩ (.int .u64 Y)).setCell ⟨blk, off + k, none⟩ (.int .u64 X)))
              generalize World.drew (World.setCell (World.setCell w1 _ _) _ _) = w2 at *
              obtain ⟨d1, hd1⟩ : ∃ d1, d1 = Sort.swp dk i' k := ⟨_, rfl⟩
              rw [← hd1] at HSW2 HE
              clear hd1
              have HJ2 := HJ
              go_upto_if 61 with (fail)
              go_cut [9] from 13 to 132 (fun s9 wx => Hid (SW w wx blk off d (downOf a i' d1)))
              case first =>
                by_cases hP2 : 2 ≤ P
                case neg =>
                  have hd4 : decide ((2 : Int) ≤ (P : Int)) = false := by clear y1 y1' y2 y3 y4; simp; omega
                  go_wp2_with fail
                  go_meet
                  have h : downOf a i' d1 = d1 := by unfold downOf; rw [if_neg (by rw [← HPP.out]; exact hP2)]
                  rw [h]; exact HSW2
                case pos =>
                  have hd4 : decide ((2 : Int) ≤ (P : Int)) = true := by clear y1 y1' y2 y3 y4; simp; omega
                  have HDO : Hid (downOf a i' d1 = Sort.shiftDown lti k d1) := by
                    show downOf a i' d1 = _
                    unfold downOf; rw [if_pos (by rw [← HPP.out]; exact hP2), show i' - 1 = k by have := HK.out; omega]
                  go_wp2_with fail
                  obtain ⟨ws2, hws2⟩ : ∃ ws, ws = w2 := ⟨_, rfl⟩
                  go_loopw [9] (fun vj wr => ∃ (q : Nat) (dq : Array Int), q < n ∧ vj = .int .i64 q ∧ Hid (SW w wr blk off d dq) ∧ Hid (Sort.shiftDown lti q dq = Sort.shiftDown lti k d1)) (fun vj _ => (intOf vj).toNat)
                  case atStart => exact ⟨k, d1, hkn, rfl, HSW2, rfl⟩
                  case round =>
                    obtain ⟨q, dq, hqn, rfl, hsq, hsd⟩ := hrel
                    clear y1 y1' y2 y3 y4
                    by_cases hq0 : q = 0
                    · subst hq0
                      go_wp2_with fail
                      go_meet
                      rw [HDO.out, ← hsd.out]
                      exact hsq
                    · obtain ⟨r, hr⟩ : ∃ r, q = r + 1 := ⟨q - 1, by omega⟩
                      have h1q : (1 : Int) ≤ (q : Int) := by omega
                      have hdq : dq.size = n := hsq.out.sz.trans HN.out
                      have hQn : q < n := by omega
                      have hrn : r < n := by omega
                      have hrq : r < q := by omega
                      obtain ⟨X2, hX2⟩ : ∃ X, X = dq[q]! := ⟨_, rfl⟩
                      obtain ⟨Y2, hY2⟩ : ∃ X, X = dq[r]! := ⟨_, rfl⟩
                      have c1 := hsq.out.cell (t := q) (by omega)
                      have c2 := hsq.out.cell (t := r) (by omega)
                      rw [← hX2] at c1
                      rw [← hY2] at c2
                      have x1 : IntKind.i64.wrap ((q : Nat) - 1 : Int) = (r : Int) := by rw [IntWalk.i64_in _ (by omega)]; omega
                      have x1' : ((q : Nat) : Int) - 1 = (r : Int) := by omega
                      have HX2 := Lib.hid hX2
                      have HY2 := Lib.hid hY2
                      have HDQ := Lib.hid hdq
                      have HRQ : Hid (q = r + 1) := hr
                      clear hX2 hY2 hdq hr
                      cases hless : lti X2 Y2
                      case false =>
                        have HL2 : Hid (∀ w, Calls Try.prog 154 #[.int .u64 X2, .int .u64 Y2] w fun e w' => e = .returned (.bool false) ∧ w' = w) := fun w => less_is hless w
                        have HE2 : Hid (downOf a i' d1 = dq) := by
                          show downOf a i' d1 = dq
                          rw [HDO.out, ← hsd.out]
                          exact down_end HRQ.out (by rw [← HX2.out, ← HY2.out]; exact hless)
                        clear hless
                        go_wp2_with fail
                        go_quiet ((go_at_call 154; exact Calls.quiet_of_same (HL2.out _)))
                        go_wp2_with fail
                        go_meet
                        rw [HE2.out]
                        exact hsq.out.same rfl rfl rfl rfl
                      case true =>
                        have HL2 : Hid (∀ w, Calls Try.prog 154 #[.int .u64 X2, .int .u64 Y2] w fun e w' => e = .returned (.bool true) ∧ w' = w) := fun w => less_is hless w
                        have HE2 : Hid (Sort.shiftDown lti r (Sort.swp dq q r) = Sort.shiftDown lti k d1) := by
                          show Sort.shiftDown lti r (Sort.swp dq q r) = _
                          rw [← hsd.out]
                          exact (down_go HRQ.out (by rw [← HX2.out, ← HY2.out]; exact hless)).symm
                        clear hless
                        go_wp2_with fail
                        go_quiet ((go_at_call 154; exact Calls.quiet_of_same (HL2.out _)))
                        have HSW3 := Lib.hid (hsq.out.same (w := wr.drewN nq) rfl rfl rfl rfl)
                        clear c1 c2
                        generalize World.drewN wr nq = w3 at *
                        have c1 := HSW3.out.cell (t := q) (by rw [HDQ.out]; exact hQn)
                        have c2 := HSW3.out.cell (t := r) (by rw [HDQ.out]; exact hrn)
                        have z1 := HSW3.out.frozen (t := q) (by rw [HDQ.out]; exact hQn)
                        have z2 := HSW3.out.frozen (t := r) (by rw [HDQ.out]; exact hrn)
                        rw [← HX2.out] at c1
                        rw [← HY2.out] at c2
                        go_wp2_with fail
                        go_region
                        all_goals go_wp2_with fail
                        all_goals go_roundw
                        case rel => exact ⟨r, _, hrn, rfl, SW.same (HSW3.out.swpv (w := w3) (by rw [HDQ.out]; exact hQn) (by rw [HDQ.out]; exact hrn) HX2.out HY2.out rfl rfl rfl rfl) rfl rfl rfl rfl, HE2⟩
                        case measure => clear x1 x1'; simp [intOf]; omega
              case rest =>
                obtain ⟨d2, hd2'⟩ : ∃ d2, d2 = downOf a i' d1 := ⟨_, rfl⟩
                rw [← hd2'] at hcut HE
                clear hd2'
                by_cases hQ2 : 2 ≤ Q
                case neg =>
                  have hd4 : decide ((2 : Int) ≤ (Q : Int)) = false := by clear y1 y1' y2 y3 y4; simp; omega
                  go_wp2_with fail
                  have h : upOf b i' d2 = d2 := by unfold upOf; rw [if_neg (by rw [← HQQ.out]; exact hQ2)]
                  rw [h] at HE
                  go_roundw
                  case rel => exact ⟨i', t, j + 1, _, hai', hi4, HJ.out, rfl, by go_num, hcut, HE⟩
                  case measure => clear y1 y1' y2 y3 y4; simp [intOf]; omega
                case pos =>
                  have hd4 : decide ((2 : Int) ≤ (Q : Int)) = true := by clear y1 y1' y2 y3 y4; simp; omega
                  have HUO : Hid (upOf b i' d2 = Sort.shiftUp lti b (i' + 1) d2) := by
                    show upOf b i' d2 = _
                    unfold upOf; rw [if_pos (by rw [← HQQ.out]; exact hQ2)]
                  go_wp2_with fail
                  go_loopw [10] (fun vj wr => ∃ (q : Nat) (dq : Array Int), i' < q ∧ q ≤ b ∧ vj = .int .i64 q ∧ Hid (SW w wr blk off d dq) ∧ Hid (Sort.shiftUp lti b q dq = Sort.shiftUp lti b (i' + 1) d2)) (fun vj _ => b - (intOf vj).toNat)
                  case atStart => exact ⟨i' + 1, d2, Nat.lt_succ_self _, hib, by go_num, hcut, rfl⟩
                  case round =>
                    clear y1 y1' y2 y3 y4
                    obtain ⟨q, dq, hq1, hq2, rfl, hsq, hsd⟩ := hrel
                    by_cases hqb : q < b
                    case neg =>
                      have hd5 : decide (q < b) = false := by simpa using hqb
                      go_wp2_with fail
                      rw [HUO.out, ← hsd.out, up_out hqb] at HE
                      go_roundw
                      case rel => exact ⟨i', t, j + 1, _, hai', hi4, HJ.out, rfl, by go_num, hsq, HE⟩
                      case measure => clear hd5; simp [intOf]; omega
                    case pos =>
                      have hd5 : decide (q < b) = true := by simpa using hqb
                      obtain ⟨r, hr⟩ : ∃ r, q = r + 1 := ⟨q - 1, by omega⟩
                      have hdq : dq.size = n := hsq.out.sz.trans HN.out
                      have hQn : q < n := by omega
                      have hrn : r < n := by omega
                      have hrq : r < q := by omega
                      obtain ⟨X2, hX2⟩ : ∃ X, X = dq[q]! := ⟨_, rfl⟩
                      obtain ⟨Y2, hY2⟩ : ∃ X, X = dq[r]! := ⟨_, rfl⟩
                      have c1 := hsq.out.cell (t := q) (by omega)
                      have c2 := hsq.out.cell (t := r) (by omega)
                      rw [← hX2] at c1
                      rw [← hY2] at c2
                      have x1 : IntKind.i64.wrap ((q : Nat) - 1 : Int) = (r : Int) := by rw [IntWalk.i64_in _ (by omega)]; omega
                      have x1' : ((q : Nat) : Int) - 1 = (r : Int) := by omega
                      have HX2 := Lib.hid hX2
                      have HY2 := Lib.hid hY2
                      have HDQ := Lib.hid hdq
                      have HRQ : Hid (q = r + 1) := hr
                      clear hX2 hY2 hdq hr
                      cases hless : lti X2 Y2
                      case false =>
                        have HL2 : Hid (∀ w, Calls Try.prog 154 #[.int .u64 X2, .int .u64 Y2] w fun e w' => e = .returned (.bool false) ∧ w' = w) := fun w => less_is hless w
                        have HE2 : Hid (upOf b i' d2 = dq) := by
                          show upOf b i' d2 = dq
                          rw [HUO.out, ← hsd.out]
                          exact up_end HRQ.out (by rw [← HX2.out, ← HY2.out]; exact hless)
                        clear hless
                        go_wp2_with fail
                        go_quiet ((go_at_call 154; exact Calls.quiet_of_same (HL2.out _)))
                        go_wp2_with fail
                        rw [HE2.out] at HE
                        go_roundw
                        case rel => exact ⟨i', t, j + 1, _, hai', hi4, HJ.out, rfl, by go_num, hsq.out.same rfl rfl rfl rfl, HE⟩
                        case measure => clear x1 x1'; simp [intOf]; omega
                      case true =>
                        have HL2 : Hid (∀ w, Calls Try.prog 154 #[.int .u64 X2, .int .u64 Y2] w fun e w' => e = .returned (.bool true) ∧ w' = w) := fun w => less_is hless w
                        have HE2 : Hid (Sort.shiftUp lti b (q + 1) (Sort.swp dq q r) = Sort.shiftUp lti b (i' + 1) d2) := by
                          show Sort.shiftUp lti b (q + 1) (Sort.swp dq q r) = _
                          rw [← hsd.out]
                          exact (up_go HRQ.out hqb (by rw [← HX2.out, ← HY2.out]; exact hless)).symm
                        clear hless
                        go_wp2_with fail
                        go_quiet ((go_at_call 154; exact Calls.quiet_of_same (HL2.out _)))
                        have HSW3 := Lib.hid (hsq.out.same (w := wr.drewN nq) rfl rfl rfl rfl)
                        clear c1 c2
                        generalize World.drewN wr nq = w3 at *
                        have c1 := HSW3.out.cell (t := q) (by rw [HDQ.out]; exact hQn)
                        have c2 := HSW3.out.cell (t := r) (by rw [HDQ.out]; exact hrn)
                        have z1 := HSW3.out.frozen (t := q) (by rw [HDQ.out]; exact hQn)
                        have z2 := HSW3.out.frozen (t := r) (by rw [HDQ.out]; exact hrn)
                        rw [← HX2.out] at c1
                        rw [← HY2.out] at c2
                        go_wp2_with fail
                        go_region
                        all_goals go_wp2_with fail
                        all_goals go_roundw
                        case rel => exact ⟨q + 1, _, Nat.lt_succ_of_lt hq1, hqb, by go_num, SW.same (HSW3.out.swpv (w := w3) (by rw [HDQ.out]; exact hQn) (by rw [HDQ.out]; exact hrn) HX2.out HY2.out rfl rfl rfl rfl) rfl rfl rfl rfl, HE2⟩
                        case measure => clear x1 x1'; simp [intOf]; omega
end Go.Proofs.Ytmdgmnaaopineaa
