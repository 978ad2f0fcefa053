/- seek.Best. -/
import Derived.Test.YtkffgmpkpafkmaaSk
namespace Go.Proofs.Ytkffgmpkpafkmaa
open Go.ChangeShapes Go.WideShapes Go.ChangeAt Go.RowKit
set_option linter.unusedVariables false
section
variable {D : Dom} {A : Option Addr} {n c : Nat} {l : List UInt8} {w : World}
set_option maxRecDepth 100000 in
set_option maxHeartbeats 4000000 in
theorem best_out (a : Int) (hl : rpU8.sl w D A n c l) (a0 : -9223372036854775808 ≤ a) (a1 : a ≤ 9223372036854775807) (h : a < 1 ∨ (n : Int) ≤ a) :
    Calls Try.prog 27 #[.slice A n c, .int .i64 a] w fun e w' => e = .returned (.tuple #[.int .i64 0, .int .i64 0]) ∧ w = w' := by
  obtain ⟨hlen, hnc, hcm⟩ := Rp.sl_len hl
  unfold maxLen at hcm
  have HT := Lib.hid (taken_any (w := w) (0, 0))
  obtain ⟨M, hM⟩ : ∃ M : Int, M = if (65536 : Int) < a then 65536 else a := ⟨_, rfl⟩
  have hmn := hM.symm
  rcases (show a < 1 ∨ (1 ≤ a ∧ (n : Int) ≤ a) by omega) with h1 | ⟨h1, h2⟩
  · have hd : decide ((1 : Int) ≤ M) = false := by rw [hM]; simp; split <;> omega
    clear hlen hl hM h
    go_enter Try.func27, Try.ntmps27
    go_wp2_with fail
    go_loop [6, 7, 8] (fun x y o => x = .int .i64 0 ∧ y = .int .i64 0 ∧ o = .int .i64 1) (fun _ _ _ => 0)
    case atStart => exact ⟨rfl, rfl, rfl⟩
    case round =>
      obtain ⟨rfl, rfl, rfl⟩ := hrel
      go_wp2_with fail
      refine HT.out.mono ?_; rintro e w1 ⟨rfl, rfl⟩
      go_wp2_with fail
      go_ret2
      exact ⟨rfl, rfl⟩
  · have hd : decide ((1 : Int) ≤ M) = true := by rw [hM]; simp; split <;> omega
    have hd2 : decide (a < (n : Int)) = false := by simp; omega
    clear hlen hl hM h
    go_enter Try.func27, Try.ntmps27
    go_wp2_with fail
    go_loop [6, 7, 8] (fun x y o => x = .int .i64 0 ∧ y = .int .i64 0 ∧ o = .int .i64 1) (fun _ _ _ => 0)
    case atStart => exact ⟨rfl, rfl, rfl⟩
    case round =>
      obtain ⟨rfl, rfl, rfl⟩ := hrel
      go_wp2_with fail
      refine HT.out.mono ?_; rintro e w1 ⟨rfl, rfl⟩
      go_wp2_with fail
      go_ret2
      exact ⟨rfl, rfl⟩
set_option maxRecDepth 100000 in
set_option maxHeartbeats 4000000 in
theorem best_in (a : Nat) (hl : rpU8.sl w D A n c l) (hD : ∀ k, D k → k < w.heap.size) (hn : n ≤ 1000) (ha : 1 ≤ a) (han : a < n) :
    Calls Try.prog 27 #[.slice A n c, .int .i64 (a : Int)] w fun e w' => e = .returned (.tuple #[.int .i64 ((tk (bst l a a)).1 : Int), .int .i64 ((tk (bst l a a)).2 : Int)]) ∧ Below w.heap.size w w' := by
  obtain ⟨hlen, hnc, hcm⟩ := Rp.sl_len hl
  unfold maxLen at hcm
  have hmn : (if (65536 : Int) < (a : Int) then (65536 : Int) else (a : Int)) = (a : Int) := by split <;> omega
  have hd2 : decide (a < n) = true := by simpa using han
  have hm : Hid (∀ (x : World) (o : Nat), 1 ≤ o → o ≤ a → Below w.heap.size w x → Calls Try.prog 24 #[.slice A n c, .int .i64 (a : Int), .int .i64 (o : Int)] x fun e w' => e = .returned (.int .i64 (mlen l a o : Int)) ∧ Below x.heap.size x w') := fun x o h1 h2 hb => match_in a o (Rp.sl_below hl hb hD) (fun k hk => Nat.lt_of_lt_of_le (hD k hk) hb.size) hn han h1 h2
  have HLEN := Lib.hid hlen
  clear hlen hl hD
  go_enter Try.func27, Try.ntmps27
  go_wp2_with fail
  go_loopw [6, 7, 8] (fun xx yy oo wr => ∃ o x y : Nat, 1 ≤ o ∧ o ≤ a + 1 ∧ xx = .int .i64 (x : Int) ∧ yy = .int .i64 (y : Int) ∧ oo = .int .i64 (o : Int) ∧ Hid ((x, y) = bst l a (o - 1)) ∧ x < o ∧ y ≤ 1000 ∧ Hid (Below w.heap.size w wr)) (fun _ _ oo _ => a + 1 - (intOf oo).toNat)
  case atStart => exact ⟨1, 0, 0, by omega, by omega, rfl, rfl, rfl, rfl, by omega, by omega, Below.refl _ _⟩
  case round =>
    obtain ⟨o, x, y, ho1, ho2, rfl, rfl, rfl, hxy, hxo, hy, hbw⟩ := hrel
    by_cases hoa : o ≤ a
    · have hd3 : decide (o ≤ a) = true := by simpa using hoa
      have HC := Lib.hid (hm.out wr o ho1 hoa hbw.out)
      have hml := mlen_le l a o
      obtain ⟨m, hmm⟩ : ∃ m, m = mlen l a o := ⟨_, rfl⟩
      rw [← hmm] at HC hml
      have HM := Lib.hid hmm
      have hm1000 : m ≤ 1000 := by have := HLEN.out; omega
      clear hmm hml
      by_cases hlt : y < m
      · have hbt : btB (o : Int) (m : Int) (x : Int) (y : Int) = true := by unfold btB; rw [decide_eq_true (by omega)]; rfl
        have HB := Lib.hid (fun w1 => better_any (w := w1) (o : Int) (m : Int) (x : Int) (y : Int))
        simp only [hbt] at HB
        have hd4 : decide (0 < m) = true := by simp; omega
        clear hbt
        go_wp2_with fail
        refine HC.out.mono ?_; rintro e w1 ⟨rfl, hb1⟩
        have HB1 := Lib.hid (hbw.out.trans (hb1.mono hbw.out.size))
        clear hb1
        go_wp2_with fail
        refine (HB.out _).mono ?_; rintro e w2 ⟨rfl, rfl⟩
        go_wp2_with fail
        go_roundw
        case rel =>
          refine ⟨o + 1, o, m, by omega, by omega, rfl, rfl, by go_num, ?_, by omega, hm1000, HB1.out⟩
          show _ = bst l a (o + 1 - 1)
          rw [show o + 1 - 1 = (o - 1) + 1 by omega, bst_succ, ← hxy.out, show o - 1 + 1 = o by omega, ← HM.out, if_pos hlt]
        case measure => simp [intOf]; omega
      · have hbt : btB (o : Int) (m : Int) (x : Int) (y : Int) = false := by unfold btB; rw [decide_eq_false (by omega), decide_eq_false (show ¬ (o : Int) < (x : Int) by omega)]; simp
        have HB := Lib.hid (fun w1 => better_any (w := w1) (o : Int) (m : Int) (x : Int) (y : Int))
        simp only [hbt] at HB
        clear hbt
        go_wp2_with fail
        refine HC.out.mono ?_; rintro e w1 ⟨rfl, hb1⟩
        have HB1 := Lib.hid (hbw.out.trans (hb1.mono hbw.out.size))
        clear hb1
        go_wp2_with fail
        refine (HB.out _).mono ?_; rintro e w2 ⟨rfl, rfl⟩
        go_wp2_with fail
        go_roundw
        case rel =>
          refine ⟨o + 1, x, y, by omega, by omega, rfl, rfl, by go_num, ?_, by omega, hy, HB1.out⟩
          show _ = bst l a (o + 1 - 1)
          rw [show o + 1 - 1 = (o - 1) + 1 by omega, bst_succ, ← hxy.out, show o - 1 + 1 = o by omega, ← HM.out, if_neg hlt]
        case measure => simp [intOf]; omega
    · have hd3 : decide (o ≤ a) = false := by simp; omega
      have hx2 := hxy.out
      rw [show o - 1 = a by omega] at hx2
      have HX := Lib.hid hx2
      have HT := Lib.hid (taken_any (w := wr) (x, y))
      clear hx2
      go_wp2_with fail
      refine HT.out.mono ?_; rintro e w1 ⟨rfl, rfl⟩
      go_wp2_with fail
      go_ret2
      exact ⟨by rw [← HX.out]; rfl, hbw.out⟩
theorem best_any (a : Int) (hl : rpU8.sl w D A n c l) (hD : ∀ k, D k → k < w.heap.size) (hn : n ≤ 1000) (a0 : -9223372036854775808 ≤ a) (a1 : a ≤ 9223372036854775807) :
    Calls Try.prog 27 #[.slice A n c, .int .i64 a] w fun e w' => e = .returned (.tuple #[.int .i64 ((tk (top l a)).1 : Int), .int .i64 ((tk (top l a)).2 : Int)]) ∧ Below w.heap.size w w' := by
  have hlen := (Rp.sl_len hl).1
  by_cases h : a < 1 ∨ (n : Int) ≤ a
  · have ht : top l a = (0, 0) := by
      unfold top
      split
      · rw [show a.toNat = 0 by omega]; rfl
      · rfl
    rw [ht]
    refine (best_out a hl a0 a1 h).mono ?_
    rintro e w' ⟨rfl, rfl⟩
    exact ⟨rfl, Below.refl _ _⟩
  · obtain ⟨a', rfl⟩ : ∃ a' : Nat, a = a' := ⟨a.toNat, by omega⟩
    have ht : top l (a' : Int) = bst l a' a' := by
      unfold top
      rw [if_pos (by omega), Int.toNat_natCast, Nat.min_eq_left (by omega)]
    rw [ht]
    exact best_in a' hl hD hn (by omega) (by omega)
end
end Go.Proofs.Ytkffgmpkpafkmaa
