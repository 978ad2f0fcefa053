/- The insertion sort of a row. -/
import Derived.Test.YtcbmnfjbmkpfiaaSr0
namespace Go.Proofs.Ytcbmnfjbmkpfiaa
open Go.ChangeShapes Go.WideShapes Go.ChangeAt Go.RowKit
set_option linter.unusedVariables false
theorem insInner_at {a j k : Nat} {d : Array Int} (hk : j = k + 1) (ha : a < j) (hl : lti d[j]! d[k]! = true) : Sort.insInner lti a j d = Sort.insInner lti a k (Sort.swp d j k) := by
  subst hk
  rw [Sort.insInner, if_pos]
  simp only [Bool.and_eq_true]
  exact ⟨by simpa using ha, hl⟩
theorem insInner_out {a j k : Nat} {d : Array Int} (h : ¬ a < j ∨ (j = k + 1 ∧ lti d[j]! d[k]! = false)) : Sort.insInner lti a j d = d := by
  cases j with
  | zero => rw [Sort.insInner]
  | succ i =>
    rw [Sort.insInner, if_neg]
    simp only [Bool.and_eq_true, not_and]
    intro h1
    rcases h with h | ⟨hk, h⟩
    · exact absurd (by simpa using h1) h
    · obtain rfl : i = k := by omega
      rw [h]; decide
set_option maxHeartbeats 2000000 in
theorem sins_any {blk off cap a b : Nat} {d : Array Int} {w : World} (hH : Sort.Holds eu w blk off d) (hl : blk < w.heap.size) (hab : a ≤ b) (hb : b ≤ d.size) (hsz : d.size < 4611686018427387904) :
    Calls Try.prog 81 #[.slice (some ⟨blk, off, none⟩) d.size cap, .int .i64 a, .int .i64 b] w (SortsIn w blk off a b d) := by
  have HS := Lib.hid (SW.refl hH hl)
  have HP := Lib.hid (Sort.insertionSort_holds (lt := lti) Sort.swo_ltInt d a b hab hb)
  obtain ⟨n, hn⟩ : ∃ n, n = d.size := ⟨_, rfl⟩
  rw [← hn] at hb hsz ⊢
  have HN := Lib.hid hn
  clear hn hH hl
  go_enter Try.func81, Try.ntmps81
  go_wp2_with fail
  go_loopw [6] (fun vi wr => ∃ (i : Nat) (dk : Array Int), a < i ∧ i ≤ b + 1 ∧ vi = .int .i64 i ∧ Hid (SW w wr blk off d dk) ∧ Hid (Sort.insOuter lti a b i dk = Sort.insertionSort lti d a b)) (fun vi _ => b + 1 - (intOf vi).toNat)
  case atStart => exact ⟨a + 1, d, by omega, by omega, by go_num, HS, rfl⟩
  case round =>
    obtain ⟨i, dk, hi1, hi2, rfl, hsw, hio⟩ := hrel
    by_cases hib : i < b
    case neg =>
      have hd : decide (i < b) = false := by simpa using hib
      have hz : Sort.insOuter lti a b i dk = dk := by rw [Sort.insOuter, if_neg hib]
      have hfin : dk = Sort.insertionSort lti d a b := hz.symm.trans hio.out
      have HFIN := Lib.hid hfin
      clear hz hfin
      go_wp2_with fail
      go_end0
      exact ⟨dk, rfl, hsw.out, by rw [HFIN.out]; exact HP.out.1, by rw [HFIN.out]; exact HP.out.2⟩
    case pos =>
      have HZ : Hid (Sort.insOuter lti a b i dk = Sort.insOuter lti a b (i + 1) (Sort.insInner lti a i dk)) := by
        show Sort.insOuter lti a b i dk = _
        rw [Sort.insOuter, if_pos hib]
      go_wp2_with fail
      obtain ⟨ws, hws⟩ : ∃ ws, ws = wr := ⟨_, rfl⟩
      subst hws
      go_loopw [7] (fun vj wr => ∃ (j : Nat) (dj : Array Int), a ≤ j ∧ j ≤ i ∧ vj = .int .i64 j ∧ Hid (SW w wr blk off d dj) ∧ Hid (Sort.insInner lti a j dj = Sort.insInner lti a i dk)) (fun vj _ => (intOf vj).toNat)
      case atStart => exact ⟨i, dk, by omega, by omega, rfl, hsw, rfl⟩
      case round =>
        obtain ⟨j, dj, hj1, hj2, rfl, hsj, hij⟩ := hrel
        by_cases hja : a < j
        case neg =>
          have hd : decide (a < j) = false := by simpa using hja
          have HE : Hid (Sort.insInner lti a i dk = dj) := hij.out.symm.trans (insInner_out (k := 0) (.inl hja))
          go_wp2_with fail
          go_quiet (fail)
          go_wp2_with fail
          go_roundw
          case rel => exact ⟨i + 1, dj, by omega, by omega, by go_num, hsj.out.same rfl rfl rfl rfl, by show Sort.insOuter lti a b (i + 1) dj = _; rw [← hio.out, HZ.out, HE.out]⟩
          case measure => simp [intOf]; omega
        case pos =>
          obtain ⟨k, hk⟩ : ∃ k, j = k + 1 := ⟨j - 1, by omega⟩
          have hsd := hsj.out.sz
          have hjn : j < n := by omega
          have hkn : k < n := by omega
          have hw1 : IntKind.i64.wrap ((j : Int) - 1) = (k : Int) := by rw [IntWalk.i64_in _ (by omega)]; omega
          obtain ⟨X, hX⟩ : ∃ X, X = dj[j]! := ⟨_, rfl⟩
          obtain ⟨Y, hY⟩ : ∃ Y, Y = dj[k]! := ⟨_, rfl⟩
          have hsd' : dj.size = n := hsd.trans HN.out.symm
          have c1 := hsj.out.cell (t := j) (by omega)
          have c2 := hsj.out.cell (t := k) (by omega)
          have f1 := hsj.out.frozen (t := j) (by omega)
          have f2 := hsj.out.frozen (t := k) (by omega)
          rw [← hX] at c1
          rw [← hY] at c2
          have HK := Lib.hid hk
          have HX := Lib.hid hX
          have HY := Lib.hid hY
          have HSD := Lib.hid hsd'
          have hki : k ≤ i := by omega
          have hak : a ≤ k := by omega
          have hw2 : (j : Int) - 1 = (k : Int) := by omega
          clear hk hX hY hsd hsd'
          cases hl : lti X Y
          case false =>
            have HL : Hid (∀ w, Calls Try.prog 87 #[.int .u64 X, .int .u64 Y] w fun e w' => e = .returned (.bool false) ∧ w' = w) := fun w => less_is hl w
            have HE : Hid (Sort.insInner lti a i dk = dj) := hij.out.symm.trans (insInner_out (k := k) (.inr ⟨HK.out, by rw [← HX.out, ← HY.out]; exact hl⟩))
            clear hl
            go_wp2_with fail
            go_quiet ((go_at_call 87; exact Calls.quiet_of_same (HL.out _)))
            go_wp2_with fail
            go_roundw
            case rel => exact ⟨i + 1, dj, Nat.lt_succ_of_lt hi1, Nat.succ_le_succ (Nat.le_of_lt hib), by go_num, hsj.out.same rfl rfl rfl rfl, by show Sort.insOuter lti a b (i + 1) dj = _; rw [← hio.out, HZ.out, HE.out]⟩
            case measure => clear hw1 hw2; simp [intOf]; omega
          case true =>
            have HL : Hid (∀ w, Calls Try.prog 87 #[.int .u64 X, .int .u64 Y] w fun e w' => e = .returned (.bool true) ∧ w' = w) := fun w => less_is hl w
            have HE : Hid (Sort.insInner lti a j dj = Sort.insInner lti a k (Sort.swp dj j k)) := insInner_at HK.out hja (by rw [← HX.out, ← HY.out]; exact hl)
            clear hl
            go_wp2_with fail
            go_quiet ((go_at_call 87; exact Calls.quiet_of_same (HL.out _)))
            go_wp2_with fail
            go_region
            all_goals go_wp2_with fail
            all_goals go_roundw
            case rel =>
              refine ⟨k, Sort.swp dj j k, hak, hki, by first | rfl | rw [hw1], ?_, ?_⟩
              · exact hsj.out.swpv (i := j) (j := k) (by rw [HSD.out]; exact hjn) (by rw [HSD.out]; exact hkn) HX.out HY.out rfl rfl rfl rfl
              · exact HE.out.symm.trans hij.out
            case measure => clear hw1 hw2; have := HK.out; simp [intOf]; omega
end Go.Proofs.Ytcbmnfjbmkpfiaa
