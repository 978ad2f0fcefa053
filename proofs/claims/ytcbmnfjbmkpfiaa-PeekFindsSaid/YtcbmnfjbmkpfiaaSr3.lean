/- The sort of a row by a heap. -/
import Derived.Test.YtcbmnfjbmkpfiaaSr2
namespace Go.Proofs.Ytcbmnfjbmkpfiaa
open Go.ChangeShapes Go.WideShapes Go.ChangeAt Go.RowKit
set_option linter.unusedVariables false
set_option maxHeartbeats 4000000 in
theorem sheap_any {blk off cap a b n : Nat} {d : Array Int} {w : World} (hH : Sort.Holds eu w blk off d) (hl : blk < w.heap.size) (hn : d.size = n) (hab : a < b) (hb : b ≤ n) (hsz : n < 1152921504606846976) :
    Calls Try.prog 82 #[.slice (some ⟨blk, off, none⟩) n cap, .int .i64 a, .int .i64 b] w (SortsIn w blk off a b d) := by
  have HS := Lib.hid (SW.refl hH hl)
  have HP := Lib.hid (Sort.heapSort_holds (lt := lti) Sort.swo_ltInt d a b (by omega) (by omega))
  have HN := Lib.hid hn
  obtain ⟨hi, hhi⟩ : ∃ hi, hi = b - a := ⟨_, rfl⟩
  obtain ⟨m, hm⟩ : ∃ m, m = (hi - 1) / 2 := ⟨_, rfl⟩
  have y0 : (b : Int) - (a : Int) = (hi : Int) := by omega
  have y1 : ((hi : Int) - 1) / 2 = (m : Int) := by omega
  have hi1 : 1 ≤ hi := by omega
  have hi1' : (1 : Int) ≤ (hi : Int) := by omega
  have hin : hi ≤ n := by omega
  have hain : a + hi ≤ n := by omega
  have hmi : m + 1 ≤ hi := by omega
  have HQ : Hid (Sort.heapSort lti d a b = Sort.heapPop lti a hi (Sort.heapBuild lti hi a (m + 1) d)) := by
    show Sort.heapSort lti d a b = _
    unfold Sort.heapSort
    rw [hm, hhi]
  clear hn hH hl hhi hm
  go_enter Try.func82, Try.ntmps82
  go_wp2_with fail
  simp only [y1]
  go_loopw [9] (fun vi wr => ∃ (k : Nat) (iv : Int) (dk : Array Int), iv = (k : Int) - 1 ∧ k ≤ hi ∧ vi = .int .i64 iv ∧ Hid (SW w wr blk off d dk) ∧ Hid (Sort.heapBuild lti hi a k dk = Sort.heapBuild lti hi a (m + 1) d)) (fun vi _ => (intOf vi + 1).toNat)
  case atStart => exact ⟨m + 1, m, d, by clear y0 y1; omega, hmi, rfl, HS, rfl⟩
  case round =>
    obtain ⟨k, iv, dk, hiv, hk, rfl, hsw, hbd⟩ := hrel
    rcases k with _ | j
    · obtain rfl : iv = -1 := by omega
      have HB : Hid (dk = Sort.heapBuild lti hi a (m + 1) d) := hbd.out
      clear hiv y1
      go_wp2_with fail
      obtain ⟨ws, hws⟩ : ∃ ws, ws = wr := ⟨_, rfl⟩
      subst hws
      go_loopw [10] (fun vi wr => ∃ (k : Nat) (iv : Int) (dj : Array Int), iv = (k : Int) - 1 ∧ k ≤ hi ∧ vi = .int .i64 iv ∧ Hid (SW w wr blk off d dj) ∧ Hid (Sort.heapPop lti a k dj = Sort.heapPop lti a hi dk)) (fun vi _ => (intOf vi + 1).toNat)
      case atStart => exact ⟨hi, _, dk, rfl, Nat.le_refl _, rfl, hsw, rfl⟩
      case round =>
        obtain ⟨k, iv, dj, hiv, hk, rfl, hsj, hpp⟩ := hrel
        rcases k with _ | j
        · obtain rfl : iv = -1 := by omega
          have HE : Hid (dj = Sort.heapSort lti d a b) := by
            show dj = _
            rw [HQ.out, ← HB.out, ← hpp.out]
            rfl
          clear hiv
          go_wp2_with fail
          go_end0
          exact ⟨dj, rfl, hsj.out, by rw [HE.out]; exact HP.out.1, by rw [HE.out]; exact HP.out.2⟩
        · obtain rfl : iv = (j : Int) := by omega
          obtain ⟨f, hf⟩ : ∃ f, f = a + j := ⟨_, rfl⟩
          have hfn : f < n := by omega
          have han : a < n := by omega
          have hjn : a + j ≤ n := by omega
          have hjh : j ≤ hi := by omega
          have hdn : dj.size = n := hsj.out.sz.trans HN.out
          have c1 := hsj.out.cell (t := a) (by omega)
          have c2 := hsj.out.cell (t := f) (by omega)
          have z1 := hsj.out.frozen (t := a) (by omega)
          have z2 := hsj.out.frozen (t := f) (by omega)
          obtain ⟨X, hX⟩ : ∃ X, X = dj[a]! := ⟨_, rfl⟩
          obtain ⟨Y, hY⟩ : ∃ X, X = dj[f]! := ⟨_, rfl⟩
          rw [← hX] at c1
          rw [← hY] at c2
          obtain ⟨Z, hZ⟩ := cell?_setCell_some (p := ⟨blk, off + a, none⟩) (x := .int .u64 Y) c2
          have HX := Lib.hid hX
          have HY := Lib.hid hY
          have HDN := Lib.hid hdn
          have HE : Hid (Sort.heapPop lti a (j + 1) dj = Sort.heapPop lti a j (Sort.siftDown lti j a 0 (Sort.swp dj a f))) := by
            show Sort.heapPop lti a (j + 1) dj = _
            rw [hf]; rfl
          have y4 : IntKind.i64.wrap ((a : Int) + (j : Int)) = (f : Int) := by rw [IntWalk.i64_in _ (by omega)]; omega
          clear hiv hX hY hdn hf
          go_wp2_with fail
          go_region
          all_goals go_wp2_with fail
          have h := hsj.out.swp (i := a) (j := f) (by rw [HDN.out]; exact han) (by rw [HDN.out]; exact hfn) (w := wr.drew) rfl rfl rfl rfl
          rw [← HX.out, ← HY.out] at h
          have HH := Lib.hid h
          clear h y4
          refine (sift_any HH.out.holds HH.out.lt' (by rw [Sort.size_swp]; exact HDN.out) (lo := 0) (hi := j) (F := a) (Nat.zero_le _) hjn hsz).mono ?_; rintro e w1 ⟨rfl, hs1⟩
          have HS1 := Lib.hid (HH.out.trans hs1)
          clear hs1
          go_wp2_with fail
          go_roundw
          case rel => exact ⟨j, _, _, rfl, hjh, rfl, HS1, HE.out.symm.trans hpp.out⟩
          case measure => simp [intOf]
    · obtain rfl : iv = (j : Int) := by omega
      have hjh : j ≤ hi := by omega
      have hjn : j ≤ n := by omega
      have HDN : Hid (dk.size = n) := hsw.out.sz.trans HN.out
      clear hiv
      go_wp2_with fail
      refine (sift_any hsw.out.holds hsw.out.lt' HDN.out (lo := j) (hi := hi) (F := a) hjn hain hsz).mono ?_; rintro e w1 ⟨rfl, hs1⟩
      have HS1 := Lib.hid (hsw.out.trans hs1)
      clear hs1
      go_wp2_with fail
      go_roundw
      case rel => exact ⟨j, _, _, rfl, hjh, rfl, HS1, hbd⟩
      case measure => simp [intOf]
end Go.Proofs.Ytcbmnfjbmkpfiaa
