/- link.Right, and the reference's Falls and Right. -/
import Derived.Test.YtnihaaifkogpbaaTkL
namespace Go.Proofs.Ytnihaaifkogpbaa
open Go.ChangeShapes Go.WideShapes Go.ChangeAt Go.RowKit
set_option linter.unusedVariables false
section
variable {D : Dom} {A : Option Addr} {n c pos : Nat} {l : List Lnk} {w : World}
set_option maxRecDepth 100000 in
set_option maxHeartbeats 2000000 in
theorem lright_any (hs : rpLnk.sl w D A n c l) (hD : ∀ k, D k → k < w.heap.size) (hp : pos ≤ 18446744073709551615) :
    Calls Try.prog 45 #[.int .u64 (pos : Int), .slice A n c] w fun e w' => e = .returned (.bool (dec (LOk pos l))) ∧ Below w.heap.size w w' := by
  have hb0 := below1 w (.cells #[.int .u64 (pos : Int)] 29)
  have HN := Lib.hid (Rp.sl_len hs).1
  have HS := Lib.hid (keepS (show Sl rpLnk w D A n c l from ⟨hs, hD⟩) hb0)
  have HB := Lib.hid hb0
  have HK := Lib.hid (blk11 w 29 #[.int .u64 (pos : Int)])
  clear hs hD hb0
  by_cases hn : n ≤ 16
  case neg =>
    have hd : decide ((16 : Int) < (n : Int)) = true := by simp; omega
    have HG : Hid (¬ LOk pos l) := fun h => by have h1 := h.1; have h2 := HN.out; omega
    clear hn
    go_enter Try.func45, Try.ntmps45
    go_upto_region 1 with (fail)
    generalize World.alloc w _ = w0 at *
    go_wp2_with fail
    go_ret
    exact ⟨by rw [dec_false HG.out]; rfl, HB.out⟩
  case pos =>
    have hd : decide ((16 : Int) < (n : Int)) = false := by simp; omega
    have HR := Lib.hid (lrises_any HS.out.1 HS.out.2 (by omega))
    go_enter Try.func45, Try.ntmps45
    go_upto_region 1 with (fail)
    generalize World.alloc w _ = w0 at *
    by_cases hu : UpTo l l.length
    case neg =>
      have hr := HR.out
      rw [dec_false hu] at hr
      have HRR := Lib.hid hr
      have HG : Hid (¬ LOk pos l) := fun h => hu h.2.1
      clear hr hu
      go_wp2_with fail
      refine HRR.out.mono ?_; rintro e w1 ⟨rfl, hb1⟩
      have HB1 := Lib.hid (stepB HB.out hb1)
      clear hb1
      go_wp2_with fail
      go_ret
      exact ⟨by rw [dec_false HG.out]; rfl, HB1.out⟩
    case pos =>
      have hr := HR.out
      rw [dec_true hu] at hr
      have HRR := Lib.hid hr
      have HU := Lib.hid hu
      clear hr hu
      go_wp2_with fail
      refine HRR.out.mono ?_; rintro e w1 ⟨rfl, hb1⟩
      have HB1 := Lib.hid (stepB HB.out hb1)
      have hk1 := keepB (show Blk w0 w.heap.size 29 #[.int .u64 (pos : Int)] from HK.out) hb1
      have HP := Lib.hid (lplace_any (g := w.heap.size) (keepS HS.out hb1).1 (keepS HS.out hb1).2 (by omega) hp (hk1.cell 0) hk1.lt)
      clear hb1 hk1
      go_wp2_with fail
      refine HP.out.mono ?_; rintro e w2 ⟨r, rfl, hrn, hall, hlt, hb2⟩
      have HB2 := Lib.hid (stepB HB1.out hb2)
      have HALL := Lib.hid hall
      have HLT := Lib.hid hlt
      clear hall hlt hb2
      by_cases hrr : r = n
      · have hd5 : ((r : Int) == (n : Int)) = true := by simp; omega
        have HG : Hid (LOk pos l) := ⟨by have := HN.out; omega, HU.out, by have h := HALL.out; rw [hrr, ← HN.out] at h; exact h⟩
        clear hrr
        go_wp2_with fail
        go_ret
        exact ⟨by rw [dec_true HG.out]; rfl, HB2.out⟩
      · have hd5 : ((r : Int) == (n : Int)) = false := by simp; omega
        have HG : Hid (¬ LOk pos l) := fun h => by
          obtain ⟨x, hx, hg⟩ := HLT.out (by omega)
          exact hg (h.2.2 r x (List.getElem?_eq_some_iff.1 hx).1 hx)
        clear hrr
        go_wp2_with fail
        go_ret
        exact ⟨by rw [dec_false HG.out]; rfl, HB2.out⟩
end
section
variable {D : Dom} {A : Option Addr} {n c below : Nat} {l : List Nat} {w : World}
end
end Go.Proofs.Ytnihaaifkogpbaa
