/- The reference's Right of links. -/
import Derived.Test.YtcbmnfjbmkpfiaaTkS
namespace Go.Proofs.Ytcbmnfjbmkpfiaa
open Go.ChangeShapes Go.WideShapes Go.ChangeAt Go.RowKit
set_option linter.unusedVariables false
section
variable {D : Dom} {A : Option Addr} {n c pos : Nat} {l : List Lnk} {w : World}
set_option maxRecDepth 100000 in
set_option maxHeartbeats 4000000 in
theorem rlright_any (hs : rpLnk.sl w D A n c l) (hD : ∀ k, D k → k < w.heap.size) (hp : pos ≤ 18446744073709551615) :
    Calls Try.prog 65 #[.int .u64 (pos : Int), .slice A n c] w fun e w' => e = .returned (.bool (dec (LOk pos l))) ∧ Below w.heap.size w w' := by
  have HN := Lib.hid (Rp.sl_len hs).1
  have HS := Lib.hid (show Sl rpLnk w D A n c l from ⟨hs, hD⟩)
  clear hs hD
  by_cases hn : n ≤ 16
  case neg =>
    have hd : decide ((16 : Int) < (n : Int)) = true := by simp; omega
    have HG : Hid (¬ LOk pos l) := fun h => by have h1 := h.1; have h2 := HN.out; omega
    clear hn
    go_enter Try.func65, Try.ntmps65
    go_wp2_with fail
    go_ret
    exact ⟨by rw [dec_false HG.out]; rfl, Below.refl _ _⟩
  case pos =>
  have hd16 : decide ((16 : Int) < (n : Int)) = false := by simp; omega
  go_enter Try.func65, Try.ntmps65
  go_wp2_with fail
  clear hd16
  go_loopw [5] (fun vi wr => ∃ k : Nat, k ≤ n ∧ vi = .int .i64 k ∧ Hid (UpTo l k) ∧ Hid (AllTo (LnkGood pos) l k) ∧ Hid (Below w.heap.size w wr)) (fun vi _ => n - (intOf vi).toNat)
  case atStart => exact ⟨0, Nat.zero_le _, rfl, upTo_one _ (by decide), allTo_zero _ _, Below.refl _ _⟩
  case round =>
    obtain ⟨k, hkn', rfl, hup, hall, hbel⟩ := hrel
    have hzr := hbel.out.size
    by_cases hkn : k < n
    case neg =>
      have hd : decide ((k : Int) < (n : Int)) = false := by simp; omega
      obtain rfl : k = n := by omega
      have HG : Hid (LOk pos l) := by
        have h1 := hup.out
        have h2 := hall.out
        rw [← HN.out] at h1 h2
        exact ⟨by have := HN.out; omega, h1, h2⟩
      go_wp2_with fail
      go_ret
      exact ⟨by rw [dec_true HG.out]; rfl, hbel.out⟩
    case pos =>
      have hd : decide ((k : Int) < (n : Int)) = true := by simp; omega
      have hkI : (0 : Int) ≤ (k : Int) := by omega
      have hkI2 : (k : Int) < (n : Int) := by omega
      have hsr := keepS HS.out hbel.out
      obtain ⟨bo, off, x, A3, c3, rfl, hbD, hx, g0, g1, hrow, hx64⟩ := lnk_at hsr.1 hkn
      have hbl := hsr.2 bo hbD
      obtain ⟨xs, xl⟩ := x
      simp only at g0 g1 hrow
      have HX := Lib.hid hx
      obtain ⟨xn, hxn⟩ : ∃ xn, xn = xl.length := ⟨_, rfl⟩
      rw [← hxn] at g1 hrow
      have HXN := Lib.hid hxn
      have HRO := Lib.hid (show Sl rpU64 wr _ A3 xn c3 xl from ⟨hrow, hsr.2⟩)
      have HKL : Hid (k < l.length) := (List.getElem?_eq_some_iff.1 hx).1
      have k0 : ∀ q : Gr wr.heap.size wr, q.val.cell? ⟨bo, off + k * 2, none⟩ = some (.int .u64 (xs : Int)) := fun q => (q.is.cell (p := ⟨bo, off + k * 2, none⟩) hbl).trans g0
      have k1 : ∀ q : Gr wr.heap.size wr, q.val.cell? ⟨bo, off + k * 2 + 1, none⟩ = some (.slice A3 xn c3) := fun q => (q.is.cell (p := ⟨bo, off + k * 2 + 1, none⟩) hbl).trans g1
      rcases Nat.eq_zero_or_pos k with hk0 | hk0
      · subst hk0
        have h01 : decide ((0 : Int) < ((0 : Nat) : Int)) = false := by simp
        have HU : Hid (UpTo l 1) := upTo_one _ (by decide)
        have k1' : ∀ q : Gr wr.heap.size wr, q.val.cell? ⟨bo, off + 1, none⟩ = some (.slice A3 xn c3) := fun q => by have := k1 q; simpa using this
        clear hx hrow hbD g0 g1 hxn hsr k0 k1
        by_cases h4 : xn ≤ 4
        case neg =>
          have hd4 : decide ((4 : Int) < (xn : Int)) = true := by simp; omega
          have HNO : Hid (¬ LOk pos l) := fun h => by have h1 := (h.2.2 _ _ HKL.out HX.out).1; have h2 := HXN.out; simp only at h1; omega
          go_upto_region 6 with (fail)
          refine wp_region_grow (by kernel_rfl) (by kernel_rfl) wr.heap.size ?_
          repeat (first | go_big_quiet_step (fail) | quiet_step (fail))
          refine wpQuiet_nil ?_
          rintro w5 ⟨⟨_, hb5⟩, rfl⟩
          have HB5 := Lib.hid (stepB hbel.out hb5)
          clear hb5
          go_wp2_with fail
          go_ret
          exact ⟨by rw [dec_false HNO.out]; rfl, HB5.out⟩
        case pos =>
          have hd4 : decide ((4 : Int) < (xn : Int)) = false := by simp; omega
          have HFA := Lib.hid (fun (u : World) (h : Below wr.heap.size wr u) => rfalls_any (below := pos) (keepS HRO.out h).1 (keepS HRO.out h).2 (by omega))
          by_cases hf : Fall pos xl
          case neg =>
            have hfa := HFA.out
            rw [dec_false hf] at hfa
            have HFL := Lib.hid hfa
            have HNO : Hid (¬ LOk pos l) := fun h => hf (h.2.2 _ _ HKL.out HX.out).2
            clear hfa hf
            go_upto_region 6 with (fail)
            refine wp_region_grow (by kernel_rfl) (by kernel_rfl) wr.heap.size ?_
            repeat (first | go_big_quiet_step ((go_at_call 78; exact Gr.call _ (Nat.le_refl _) (HFL.out _ (Gr.is _)))) | quiet_step ((go_at_call 78; exact Gr.call _ (Nat.le_refl _) (HFL.out _ (Gr.is _)))))
            refine wpQuiet_nil ?_
            rintro w5 ⟨⟨_, hb5⟩, rfl⟩
            have HB5 := Lib.hid (stepB hbel.out hb5)
            clear hb5
            go_wp2_with fail
            go_ret
            exact ⟨by rw [dec_false HNO.out]; rfl, HB5.out⟩
          case pos =>
            have hfa := HFA.out
            rw [dec_true hf] at hfa
            have HFL := Lib.hid hfa
            have HA := Lib.hid ((allTo_succ HX.out).2 ⟨hall.out, ⟨by have := HXN.out; show xl.length ≤ 4; omega, hf⟩⟩)
            clear hfa hf
            go_upto_region 6 with (fail)
            refine wp_region_grow (by kernel_rfl) (by kernel_rfl) wr.heap.size ?_
            repeat (first | go_big_quiet_step ((go_at_call 78; exact Gr.call _ (Nat.le_refl _) (HFL.out _ (Gr.is _)))) | quiet_step ((go_at_call 78; exact Gr.call _ (Nat.le_refl _) (HFL.out _ (Gr.is _)))))
            refine wpQuiet_nil ?_
            rintro w5 ⟨⟨_, hb5⟩, rfl⟩
            have HB5 := Lib.hid (stepB hbel.out hb5)
            clear hb5
            go_wp2_with fail
            go_roundw
            case rel => exact ⟨1, hkn, by go_num, HU, HA, HB5⟩
            case measure => simp [intOf]; omega
      · obtain ⟨j, hj⟩ : ∃ j, k = j + 1 := ⟨k - 1, by omega⟩
        obtain ⟨bo2, off2, y, A4, c4, hA2, hbD2, hy, q0, q1, hrow2, hy64⟩ := lnk_at hsr.1 (show j < n by omega)
        injection hA2 with hA2
        injection hA2 with e1 e2
        subst e1; subst e2
        obtain ⟨ys, yl⟩ := y
        simp only at q0 q1
        have hjI : (0 : Int) ≤ (j : Int) := by omega
        have hjI2 : (j : Int) < (n : Int) := by omega
        have hsub : IntKind.i64.wrap ((k : Int) - 1) = (j : Int) := by rw [IntWalk.i64_in _ (by omega)]; omega
        have h01 : decide ((0 : Int) < (k : Int)) = true := by simp; omega
        have k2 : ∀ q : Gr wr.heap.size wr, q.val.cell? ⟨bo, off + j * 2, none⟩ = some (.int .u64 (ys : Int)) := fun q => (q.is.cell (p := ⟨bo, off + j * 2, none⟩) hbl).trans q0
        have hus : UpTo l (k + 1) ↔ UpTo l k ∧ ys < xs := by
          subst hj
          exact upTo_succ hy hx
        have HUS := Lib.hid hus
        clear hx hrow hbD g0 g1 hxn hsr hy hrow2 hbD2 q0 q1 hus hj
        by_cases hlt : ys < xs
        case neg =>
          have hd5 : decide (xs ≤ ys) = true := by simp; omega
          have HNO : Hid (¬ LOk pos l) := fun h => hlt (HUS.out.1 (fun i a b hi => h.2.1 i a b (by have := HKL.out; omega))).2
          go_upto_region 6 with (fail)
          refine wp_region_grow (by kernel_rfl) (by kernel_rfl) wr.heap.size ?_
          repeat (first | go_big_quiet_step (fail) | quiet_step (fail))
          refine wpQuiet_nil ?_
          rintro w5 ⟨⟨_, hb5⟩, rfl⟩
          have HB5 := Lib.hid (stepB hbel.out hb5)
          clear hb5
          go_wp2_with fail
          go_ret
          exact ⟨by rw [dec_false HNO.out]; rfl, HB5.out⟩
        case pos =>
          have hd5 : decide (xs ≤ ys) = false := by simp; omega
          have HU := Lib.hid (HUS.out.2 ⟨hup.out, hlt⟩)
          by_cases h4 : xn ≤ 4
          case neg =>
            have hd4 : decide ((4 : Int) < (xn : Int)) = true := by simp; omega
            have HNO : Hid (¬ LOk pos l) := fun h => by have h1 := (h.2.2 _ _ HKL.out HX.out).1; have h2 := HXN.out; simp only at h1; omega
            go_upto_region 6 with (fail)
            refine wp_region_grow (by kernel_rfl) (by kernel_rfl) wr.heap.size ?_
            repeat (first | go_big_quiet_step (fail) | quiet_step (fail))
            refine wpQuiet_nil ?_
            rintro w5 ⟨⟨_, hb5⟩, rfl⟩
            have HB5 := Lib.hid (stepB hbel.out hb5)
            clear hb5
            go_wp2_with fail
            go_ret
            exact ⟨by rw [dec_false HNO.out]; rfl, HB5.out⟩
          case pos =>
            have hd4 : decide ((4 : Int) < (xn : Int)) = false := by simp; omega
            have HFA := Lib.hid (fun (u : World) (h : Below wr.heap.size wr u) => rfalls_any (below := pos) (keepS HRO.out h).1 (keepS HRO.out h).2 (by omega))
            by_cases hf : Fall pos xl
            case neg =>
              have hfa := HFA.out
              rw [dec_false hf] at hfa
              have HFL := Lib.hid hfa
              have HNO : Hid (¬ LOk pos l) := fun h => hf (h.2.2 _ _ HKL.out HX.out).2
              clear hfa hf
              go_upto_region 6 with (fail)
              refine wp_region_grow (by kernel_rfl) (by kernel_rfl) wr.heap.size ?_
              repeat (first | go_big_quiet_step ((go_at_call 78; exact Gr.call _ (Nat.le_refl _) (HFL.out _ (Gr.is _)))) | quiet_step ((go_at_call 78; exact Gr.call _ (Nat.le_refl _) (HFL.out _ (Gr.is _)))))
              refine wpQuiet_nil ?_
              rintro w5 ⟨⟨_, hb5⟩, rfl⟩
              have HB5 := Lib.hid (stepB hbel.out hb5)
              clear hb5
              go_wp2_with fail
              go_ret
              exact ⟨by rw [dec_false HNO.out]; rfl, HB5.out⟩
            case pos =>
              have hfa := HFA.out
              rw [dec_true hf] at hfa
              have HFL := Lib.hid hfa
              have HA := Lib.hid ((allTo_succ HX.out).2 ⟨hall.out, ⟨by have := HXN.out; show xl.length ≤ 4; omega, hf⟩⟩)
              clear hfa hf
              go_upto_region 6 with (fail)
              refine wp_region_grow (by kernel_rfl) (by kernel_rfl) wr.heap.size ?_
              repeat (first | go_big_quiet_step ((go_at_call 78; exact Gr.call _ (Nat.le_refl _) (HFL.out _ (Gr.is _)))) | quiet_step ((go_at_call 78; exact Gr.call _ (Nat.le_refl _) (HFL.out _ (Gr.is _)))))
              refine wpQuiet_nil ?_
              rintro w5 ⟨⟨_, hb5⟩, rfl⟩
              have HB5 := Lib.hid (stepB hbel.out hb5)
              clear hb5
              go_wp2_with fail
              go_roundw
              case rel => exact ⟨k + 1, hkn, by go_num, HU, HA, HB5⟩
              case measure => clear hsub; simp [intOf]; omega
end
end Go.Proofs.Ytcbmnfjbmkpfiaa
