/- (*Chain).AddTo. -/
import Derived.Test.YtkffgmpkpafkmaaChA
namespace Go.Proofs.Ytkffgmpkpafkmaa
open Go.ChangeShapes Go.WideShapes Go.ChangeAt Go.RowKit Go.Maps
set_option linter.unusedVariables false
section
variable {U : Dom} {w : World} {B g m : Nat} {l : List UInt8}
set_option maxRecDepth 100000 in
theorem addTo_none (a : Int) (a0 : -9223372036854775808 ≤ a) (a1 : a ≤ 9223372036854775807) : Calls Try.prog 14 #[.pointer none, .int .i64 a] w fun e w' => e = .returned (.int .i64 0) ∧ w = w' := by
  by_cases ha : 0 < a
  all_goals
    go_enter Try.func14, Try.ntmps14
    go_wp2_with fail
    go_loop [5] (fun n => n = .int .i64 0) (fun n => 0)
    case atStart => rfl
    case round =>
      subst hrel
      go_wp2_with fail
      refine added_none.mono ?_; rintro e w1 ⟨rfl, rfl⟩
      go_wp2_with fail
      try
        refine add_none.mono ?_; rintro e w1 ⟨rfl, rfl⟩
        go_wp2_with fail
      go_ret
      exact ⟨rfl, rfl⟩
/-- How many places there are behind AddTo. -/
def upTo (n m : Nat) (a : Int) : Nat := max m (min a.toNat n)
set_option maxRecDepth 100000 in
set_option maxHeartbeats 4000000 in
theorem addTo_any (a : Int) (hU : ∀ k, w.heap.size ≤ k → U k) (h : Chn U w B g l m) (hl : l.length ≤ 1000000) (a0 : -9223372036854775808 ≤ a) (a1 : a ≤ 9223372036854775807) : Calls Try.prog 14 #[.pointer (some ⟨g, 0, none⟩), .int .i64 a] w fun e w' => e = .returned (.int .i64 ((upTo l.length m a - m : Nat) : Int)) ∧ Chn U w' B g l (upTo l.length m a) ∧ Below B w w' ∧ Off U w w' := by
  have hm := h.le
  have HH := Lib.hid h
  have HU := Lib.hid hU
  clear hU
  obtain ⟨N, hN⟩ : ∃ N, N = l.length := ⟨_, rfl⟩
  have HN := Lib.hid hN
  rw [← hN] at hl hm ⊢
  clear h hN
  go_enter Try.func14, Try.ntmps14
  go_wp2_with fail
  go_loopw [5] (fun n wr => ∃ k s : Nat, n = .int .i64 (k : Int) ∧ Hid (s = m + k) ∧ s ≤ N ∧ Hid (s ≤ upTo N m a) ∧ Hid (Chn U wr B g l s) ∧ Hid (Below B w wr) ∧ Hid (Off U w wr)) (fun n _ => N - (intOf n).toNat)
  case atStart => exact ⟨0, m, rfl, rfl, hm, Nat.le_max_left _ _, HH.out, Below.refl _ _, Off.refl _ _⟩
  case round =>
    obtain ⟨k, s, rfl, hs, hsN, hle, hch, hbe, hof⟩ := hrel
    have hkN : k ≤ N := by have := hs.out; omega
    by_cases hc : (s : Int) < a
    · by_cases hc2 : s < N
      · have hkN2 : k < N := by have := hs.out; omega
        have HC := Lib.hid (added_any hch.out)
        have hadd := add_any (fun k hk => HU.out k (Nat.le_trans hbe.out.size hk)) hch.out (by rw [← HN.out]; exact hl)
        rw [← HN.out, decide_eq_true hc2, show min (s + 1) N = s + 1 by omega] at hadd
        have HA := Lib.hid hadd
        have hd : decide ((s : Int) < a) = true := by simpa using hc
        clear hadd
        go_wp2_with fail
        refine HC.out.mono ?_; rintro e w1 ⟨rfl, rfl⟩
        go_wp2_with fail
        refine HA.out.mono ?_; rintro e w1 ⟨rfl, hch1, hb1, ho1⟩
        have HCH1 := Lib.hid hch1
        have HB1 := Lib.hid hb1
        have HO1 := Lib.hid (hof.out.trans hbe.out.size ho1)
        clear hch1 hb1 ho1
        go_wp2_with fail
        go_roundw
        case rel => exact ⟨k + 1, s + 1, by go_num, by have := hs.out; show s + 1 = m + (k + 1); omega, hc2, by show s + 1 ≤ max m (min a.toNat N); omega, HCH1.out, hbe.out.trans HB1.out, HO1.out⟩
        case measure => simp [intOf]; omega
      · obtain rfl : s = N := by omega
        have HC := Lib.hid (added_any hch.out)
        have hadd := add_any (fun k hk => HU.out k (Nat.le_trans hbe.out.size hk)) hch.out (by rw [← HN.out]; exact hl)
        rw [← HN.out, decide_eq_false hc2, show min (s + 1) s = s by omega] at hadd
        have HA := Lib.hid hadd
        have hd : decide ((s : Int) < a) = true := by simpa using hc
        clear hadd
        go_wp2_with fail
        refine HC.out.mono ?_; rintro e w1 ⟨rfl, rfl⟩
        go_wp2_with fail
        refine HA.out.mono ?_; rintro e w1 ⟨rfl, hch1, hb1, ho1⟩
        have HCH1 := Lib.hid hch1
        have HB1 := Lib.hid hb1
        have HO1 := Lib.hid (hof.out.trans hbe.out.size ho1)
        clear hch1 hb1 ho1
        go_wp2_with fail
        go_ret
        have hup : upTo s m a = s := by unfold upTo; have := hs.out; omega
        rw [hup]
        exact ⟨by have := hs.out; rw [show s - m = k by omega]; rfl, HCH1.out, hbe.out.trans HB1.out, HO1.out⟩
    · have HC := Lib.hid (added_any hch.out)
      have hd : decide ((s : Int) < a) = false := by simp; omega
      go_wp2_with fail
      refine HC.out.mono ?_; rintro e w1 ⟨rfl, rfl⟩
      go_wp2_with fail
      go_ret
      have hup : upTo N m a = s := by have h1 := hs.out; have h2 := hle.out; unfold upTo at *; omega
      rw [hup]
      exact ⟨by have := hs.out; rw [show s - m = k by omega]; rfl, hch.out, hbe.out, hof.out⟩
end
end Go.Proofs.Ytkffgmpkpafkmaa
