/- link.Right, and the reference's Falls and Right. -/
import Derived.Test.YtcbmnfjbmkpfiaaTkL
namespace Go.Proofs.Ytcbmnfjbmkpfiaa
open Go.ChangeShapes Go.WideShapes Go.ChangeAt Go.RowKit
set_option linter.unusedVariables false
section
variable {D : Dom} {A : Option Addr} {n c pos : Nat} {l : List Lnk} {w : World}
set_option maxRecDepth 100000 in
set_option maxHeartbeats 2000000 in
theorem lright_any (hs : rpLnk.sl w D A n c l) (hD : ∀ k, D k → k < w.heap.size) (hp : pos ≤ 18446744073709551615) :
    Calls Try.prog 77 #[.int .u64 (pos : Int), .slice A n c] w fun e w' => e = .returned (.bool (dec (LOk pos l))) ∧ Below w.heap.size w w' := by
  have hb0 := below1 w (.cells #[.int .u64 (pos : Int)] 22)
  have HN := Lib.hid (Rp.sl_len hs).1
  have HS := Lib.hid (keepS (show Sl rpLnk w D A n c l from ⟨hs, hD⟩) hb0)
  have HB := Lib.hid hb0
  have HK := Lib.hid (blk11 w 22 #[.int .u64 (pos : Int)])
  clear hs hD hb0
  by_cases hn : n ≤ 16
  case neg =>
    have hd : decide ((16 : Int) < (n : Int)) = true := by simp; omega
    have HG : Hid (¬ LOk pos l) := fun h => by have h1 := h.1; have h2 := HN.out; omega
    clear hn
    go_enter Try.func77, Try.ntmps77
    go_upto_region 1 with (fail)
    generalize World.alloc w _ = w0 at *
    go_wp2_with fail
    go_ret
    exact ⟨by rw [dec_false HG.out]; rfl, HB.out⟩
  case pos =>
    have hd : decide ((16 : Int) < (n : Int)) = false := by simp; omega
    have HR := Lib.hid (lrises_any HS.out.1 HS.out.2 (by omega))
    go_enter Try.func77, Try.ntmps77
    go_upto_region 1 with (fail)
    generalize World.alloc w _ = w0 at *
    by_cases hu : UpTo l l.length
    case neg =>
      have hr := HR.out
      rw [dec_false hu] at hr
      have HRR := Lib.hid hr
      have HG : Hid (¬ LOk pos l) := fun h => hu h.2.1
      clear hr hu
      go_wp2_with fail
      refine HRR.out.mono ?_; rintro e w1 ⟨rfl, hb1⟩
      have HB1 := Lib.hid (stepB HB.out hb1)
      clear hb1
      go_wp2_with fail
      go_ret
      exact ⟨by rw [dec_false HG.out]; rfl, HB1.out⟩
    case pos =>
      have hr := HR.out
      rw [dec_true hu] at hr
      have HRR := Lib.hid hr
      have HU := Lib.hid hu
      clear hr hu
      go_wp2_with fail
      refine HRR.out.mono ?_; rintro e w1 ⟨rfl, hb1⟩
      have HB1 := Lib.hid (stepB HB.out hb1)
      have hk1 := keepB (show Blk w0 w.heap.size 22 #[.int .u64 (pos : Int)] from HK.out) hb1
      have HP := Lib.hid (lplace_any (g := w.heap.size) (keepS HS.out hb1).1 (keepS HS.out hb1).2 (by omega) hp (hk1.cell 0) hk1.lt)
      clear hb1 hk1
      go_wp2_with fail
      refine HP.out.mono ?_; rintro e w2 ⟨r, rfl, hrn, hall, hlt, hb2⟩
      have HB2 := Lib.hid (stepB HB1.out hb2)
      have HALL := Lib.hid hall
      have HLT := Lib.hid hlt
      clear hall hlt hb2
      by_cases hrr : r = n
      · have hd5 : ((r : Int) == (n : Int)) = true := by simp; omega
        have HG : Hid (LOk pos l) := ⟨by have := HN.out; omega, HU.out, by have h := HALL.out; rw [hrr, ← HN.out] at h; exact h⟩
        clear hrr
        go_wp2_with fail
        go_ret
        exact ⟨by rw [dec_true HG.out]; rfl, HB2.out⟩
      · have hd5 : ((r : Int) == (n : Int)) = false := by simp; omega
        have HG : Hid (¬ LOk pos l) := fun h => by
          obtain ⟨x, hx, hg⟩ := HLT.out (by omega)
          exact hg (h.2.2 r x (List.getElem?_eq_some_iff.1 hx).1 hx)
        clear hrr
        go_wp2_with fail
        go_ret
        exact ⟨by rw [dec_false HG.out]; rfl, HB2.out⟩
end
section
variable {D : Dom} {A : Option Addr} {n c below : Nat} {l : List Nat} {w : World}
set_option maxRecDepth 100000 in
set_option maxHeartbeats 2000000 in
theorem rfalls_any (hs : rpU64.sl w D A n c l) (hD : ∀ k, D k → k < w.heap.size) (hn : n ≤ 1000) :
    Calls Try.prog 78 #[.int .u64 (below : Int), .slice A n c] w fun e w' => e = .returned (.bool (dec (Fall below l))) ∧ Below w.heap.size w w' := by
  have HN := Lib.hid (Rp.sl_len hs).1
  have HS := Lib.hid (show Sl rpU64 w D A n c l from ⟨hs, hD⟩)
  clear hs hD
  go_enter Try.func78, Try.ntmps78
  go_wp2_with fail
  go_loopw [5] (fun vi wr => ∃ k : Nat, k ≤ n ∧ vi = .int .i64 k ∧ Hid (FallTo below l k) ∧ Hid (Below w.heap.size w wr)) (fun vi _ => n - (intOf vi).toNat)
  case atStart => exact ⟨0, Nat.zero_le _, rfl, fallTo_zero _ _, Below.refl _ _⟩
  case round =>
    obtain ⟨k, hkn', rfl, hfa, hbel⟩ := hrel
    have hzr := hbel.out.size
    by_cases hkn : k < n
    case neg =>
      have hd : decide ((k : Int) < (n : Int)) = false := by simp; omega
      obtain rfl : k = n := by omega
      have HF : Hid (Fall below l) := by
        have h := hfa.out
        rw [← HN.out] at h
        exact h
      go_wp2_with fail
      go_ret
      exact ⟨by rw [dec_true HF.out]; rfl, hbel.out⟩
    case pos =>
      have hd : decide ((k : Int) < (n : Int)) = true := by simp; omega
      have hkI : (0 : Int) ≤ (k : Int) := by omega
      have hkI2 : (k : Int) < (n : Int) := by omega
      have hsr := keepS HS.out hbel.out
      obtain ⟨b, off, x, rfl, hbD, hx, gx, hx64⟩ := u64_at hsr.1 hkn
      have hbl := hsr.2 b hbD
      have HX := Lib.hid hx
      have HFS := Lib.hid (fallTo_succ (below := below) hx)
      obtain ⟨p, hp⟩ : ∃ p, p = prevOf below l k := ⟨_, rfl⟩
      rw [← hp] at HFS
      have q0 : ∀ q : Gr wr.heap.size wr, q.val.cell? ⟨b, off + k, none⟩ = some (.int .u64 (x : Int)) := fun q => (q.is.cell (p := ⟨b, off + k, none⟩) hbl).trans gx
      rcases Nat.eq_zero_or_pos k with hk0 | hk0
      · subst hk0
        obtain rfl : p = below := hp
        have h00 : (((0 : Nat) : Int) == 0) = true := by simp
        have h01 : decide ((0 : Int) < ((0 : Nat) : Int)) = false := by simp
        have q00 : ∀ q : Gr wr.heap.size wr, q.val.cell? ⟨b, off, none⟩ = some (.int .u64 (x : Int)) := fun q => by have := q0 q; simpa using this
        clear hx hsr hbD gx q0
        by_cases hlt : x < p
        · have hd5 : decide (p ≤ x) = false := by simp; omega
          have HF := Lib.hid (HFS.out.2 ⟨hfa.out, hlt⟩)
          go_upto_region 4 with (fail)
          refine wp_region_grow (by kernel_rfl) (by kernel_rfl) wr.heap.size ?_
          repeat (first | go_big_quiet_step (fail) | quiet_step (fail))
          refine wpQuiet_nil ?_
          rintro w5 ⟨⟨_, hb5⟩, rfl⟩
          have HB5 := Lib.hid (stepB hbel.out hb5)
          clear hb5 q00
          go_wp2_with fail
          go_roundw
          case rel => exact ⟨1, hkn, by go_num, HF, HB5⟩
          case measure => simp [intOf]; omega
        · have hd5 : decide (p ≤ x) = true := by simp; omega
          have HF : Hid (¬ Fall p l) := fun h => hlt (HFS.out.1 (fall_of h)).2
          go_upto_region 4 with (fail)
          refine wp_region_grow (by kernel_rfl) (by kernel_rfl) wr.heap.size ?_
          repeat (first | go_big_quiet_step (fail) | quiet_step (fail))
          refine wpQuiet_nil ?_
          rintro w5 ⟨⟨_, hb5⟩, rfl⟩
          have HB5 := Lib.hid (stepB hbel.out hb5)
          clear hb5 q00
          go_wp2_with fail
          go_ret
          exact ⟨by rw [dec_false HF.out]; rfl, HB5.out⟩
      · obtain ⟨j, hj⟩ : ∃ j, k = j + 1 := ⟨k - 1, by omega⟩
        obtain ⟨b2, off2, y, hA2, hbD2, hy, gy, hy64⟩ := u64_at hsr.1 (show j < n by omega)
        injection hA2 with hA2
        injection hA2 with e1 e2
        subst e1; subst e2
        have hpy : p = y := by rw [hp, hj]; exact prevOf_succ hy
        have hjI : (0 : Int) ≤ (j : Int) := by omega
        have hjI2 : (j : Int) < (n : Int) := by omega
        have hsub : IntKind.i64.wrap ((k : Int) - 1) = (j : Int) := by rw [IntWalk.i64_in _ (by omega)]; omega
        have h00 : ((k : Int) == 0) = false := by simp; omega
        have h01 : decide ((0 : Int) < (k : Int)) = true := by simp; omega
        subst hpy
        have q1 : ∀ q : Gr wr.heap.size wr, q.val.cell? ⟨b, off + j, none⟩ = some (.int .u64 (p : Int)) := fun q => (q.is.cell (p := ⟨b, off + j, none⟩) hbl).trans gy
        clear hx hy hsr hbD hbD2 gx gy hp hj
        by_cases hlt : x < p
        · have hd5 : decide (p ≤ x) = false := by simp; omega
          have HF := Lib.hid (HFS.out.2 ⟨hfa.out, hlt⟩)
          go_upto_region 4 with (fail)
          refine wp_region_grow (by kernel_rfl) (by kernel_rfl) wr.heap.size ?_
          repeat (first | go_big_quiet_step (fail) | quiet_step (fail))
          refine wpQuiet_nil ?_
          rintro w5 ⟨⟨_, hb5⟩, rfl⟩
          have HB5 := Lib.hid (stepB hbel.out hb5)
          clear hb5 q0 q1
          go_wp2_with fail
          go_roundw
          case rel => exact ⟨k + 1, hkn, by go_num, HF, HB5⟩
          case measure => clear hsub; simp [intOf]; omega
        · have hd5 : decide (p ≤ x) = true := by simp; omega
          have HF : Hid (¬ Fall below l) := fun h => hlt (HFS.out.1 (fall_of h)).2
          go_upto_region 4 with (fail)
          refine wp_region_grow (by kernel_rfl) (by kernel_rfl) wr.heap.size ?_
          repeat (first | go_big_quiet_step (fail) | quiet_step (fail))
          refine wpQuiet_nil ?_
          rintro w5 ⟨⟨_, hb5⟩, rfl⟩
          have HB5 := Lib.hid (stepB hbel.out hb5)
          clear hb5 q0 q1
          go_wp2_with fail
          go_ret
          exact ⟨by rw [dec_false HF.out]; rfl, HB5.out⟩
end
end Go.Proofs.Ytcbmnfjbmkpfiaa
