/- SeekGoes. -/
import Derived.Test.YtkffgmpkpafkmaaSkL
import Derived.BigQuiet
namespace Go.Proofs.Ytkffgmpkpafkmaa
open Go.ChangeShapes Go.WideShapes Go.ChangeAt Go.RowKit Go.Maps
set_option linter.unusedVariables false
section
variable {D : Dom} {A : Option Addr} {n c : Nat} {l : List UInt8} {w : World}
set_option maxRecDepth 100000 in
set_option maxHeartbeats 4000000 in
theorem skg_out (a : Int) (hl : rpU8.sl w D A n c l) (a0 : -9223372036854775808 ≤ a) (a1 : a ≤ 9223372036854775807) (h : 200 < n ∨ a < 0 ∨ (n : Int) ≤ a + 1) :
    Calls Try.prog 8 #[.slice A n c, .int .i64 a] w fun e w' => e = .returned (.bool true) ∧ Below w.heap.size w w' := by
  obtain ⟨_, hnc, hcm⟩ := Rp.sl_len hl
  unfold maxLen at hcm
  rcases (show 200 < n ∨ (n ≤ 200 ∧ a < 0) ∨ (n ≤ 200 ∧ 0 ≤ a ∧ a < 1000 ∧ (n : Int) ≤ a + 1) ∨ (n ≤ 200 ∧ 1000 ≤ a) by omega) with h | ⟨h, h2⟩ | ⟨h, h2, h4, h3⟩ | ⟨h, h2⟩
  · have hd : decide ((200 : Int) < (n : Int)) = true := by simp; omega
    go_enter Try.func8, Try.ntmps8
    go_wp2_with fail
    refine (sklive_any _).mono ?_; rintro e w1 ⟨rfl, hb⟩
    go_wp2_with fail
    go_ret
    exact ⟨rfl, hb⟩
  · have hd : decide ((200 : Int) < (n : Int)) = false := by simp; omega
    have hd2 : decide (a < 0) = true := by simp; omega
    go_enter Try.func8, Try.ntmps8
    go_wp2_with fail
    refine (sklive_any _).mono ?_; rintro e w1 ⟨rfl, hb⟩
    go_wp2_with fail
    go_ret
    exact ⟨rfl, hb⟩
  · have hd : decide ((200 : Int) < (n : Int)) = false := by simp; omega
    have hd2 : decide (a < 0) = false := by simp; omega
    have hd3 : decide ((n : Int) ≤ a + 1) = true := by simp; omega
    go_enter Try.func8, Try.ntmps8
    go_wp2_with fail
    refine (sklive_any _).mono ?_; rintro e w1 ⟨rfl, hb⟩
    go_wp2_with fail
    go_ret
    exact ⟨rfl, hb⟩
  · have hd : decide ((200 : Int) < (n : Int)) = false := by simp; omega
    have hd2 : decide (a < 0) = false := by simp; omega
    by_cases hmax : a = 9223372036854775807
    · obtain ⟨b, hb⟩ : ∃ b : Int, b = wrap64 (a + 1) := ⟨_, rfl⟩
      have hbv : b = -9223372036854775808 := by rw [hb, hmax]; unfold wrap64; first | rfl | decide | simp
      have hw1 : wrap64 (a + 1) = b := hb.symm
      have hd3 : decide ((n : Int) ≤ b) = false := by simp; omega
      have hz : ((0 : Int) == 0) = true := rfl
      have HB1 := Lib.hid (best_out (w := w) a hl a0 a1 (.inr (by omega)))
      have HB2 := Lib.hid (best_out (w := w) b hl (by omega) (by omega) (.inl (by omega)))
      clear hbv hb hmax hl
      go_enter Try.func8, Try.ntmps8
      go_wp2_with fail
      refine HB1.out.mono ?_; rintro e w1 ⟨rfl, rfl⟩
      go_wp2_with fail
      refine HB2.out.mono ?_; rintro e w1 ⟨rfl, rfl⟩
      go_wp2_with fail
      refine (sklive_any _).mono ?_; rintro e w1 ⟨rfl, hb⟩
      go_wp2_with fail
      go_ret
      exact ⟨rfl, hb⟩
    · have hd3 : decide ((n : Int) ≤ a + 1) = true := by simp; omega
      go_enter Try.func8, Try.ntmps8
      go_wp2_with fail
      refine (sklive_any _).mono ?_; rintro e w1 ⟨rfl, hb⟩
      go_wp2_with fail
      go_ret
      exact ⟨rfl, hb⟩
set_option maxRecDepth 100000 in
set_option maxHeartbeats 4000000 in
theorem skg_in (a : Nat) (hl : rpU8.sl w D A n c l) (hD : ∀ k, D k → k < w.heap.size) (hn : n ≤ 200) (ha : a + 1 < n) :
    Calls Try.prog 8 #[.slice A n c, .int .i64 (a : Int)] w fun e w' => e = .returned (.bool true) ∧ Below w.heap.size w w' := by
  obtain ⟨hlen, hnc, hcm⟩ := Rp.sl_len hl
  unfold maxLen at hcm
  have hd : decide ((200 : Int) < (n : Int)) = false := by simp; omega
  have hd2 : decide ((a : Int) < 0) = false := by simp
  have hd3 : decide ((n : Int) ≤ (a : Int) + 1) = false := by simp; omega
  have hbest : ∀ (x : World) (i : Int), -1 ≤ i → i ≤ 1000 → Below w.heap.size w x → Calls Try.prog 27 #[.slice A n c, .int .i64 i] x fun e w' => e = .returned (.tuple #[.int .i64 ((tk (top l i)).1 : Int), .int .i64 ((tk (top l i)).2 : Int)]) ∧ Below x.heap.size x w' := fun x i h1 h2 hb => best_any i (Rp.sl_below hl hb hD) (fun k hk => Nat.lt_of_lt_of_le (hD k hk) hb.size) (by omega) (by omega) (by omega)
  have hmat : ∀ (x : World) (o : Int), -1 ≤ o → o ≤ 1000 → Below w.heap.size w x → Calls Try.prog 24 #[.slice A n c, .int .i64 ((a : Int) + 1), .int .i64 o] x fun e w' => e = .returned (.int .i64 (mat l ((a : Int) + 1) o : Int)) ∧ Below x.heap.size x w' := fun x o h1 h2 hb => match_any _ o (Rp.sl_below hl hb hD) (fun k hk => Nat.lt_of_lt_of_le (hD k hk) hb.size) (by omega) (by omega) (by omega) (by omega) (by omega)
  have hB1 := hbest w (a : Int) (by omega) (by omega) (Below.refl _ _)
  have hB2 := fun x hb => hbest x ((a : Int) + 1) (by omega) (by omega) hb
  have hz := top_zero (l := l) (a := (a : Int)) (by omega)
  have hp := top_pos (l := l) (a := (a : Int)) (by omega)
  have hz2 := top_zero (l := l) (a := (a : Int) + 1) (by omega)
  have hp2 := top_pos (l := l) (a := (a : Int) + 1) (by omega)
  obtain ⟨o, ho⟩ : ∃ o, o = (tk (top l (a : Int))).1 := ⟨_, rfl⟩
  obtain ⟨m, hm⟩ : ∃ m, m = (tk (top l (a : Int))).2 := ⟨_, rfl⟩
  obtain ⟨o2, ho2⟩ : ∃ o, o = (tk (top l ((a : Int) + 1))).1 := ⟨_, rfl⟩
  obtain ⟨m2, hm2⟩ : ∃ m, m = (tk (top l ((a : Int) + 1))).2 := ⟨_, rfl⟩
  rw [← ho, ← hm] at hB1 hz hp
  simp only [← ho2, ← hm2] at hB2 hz2 hp2
  by_cases hm0 : m = 0
  · obtain ⟨rfl, _⟩ := hz hm0
    subst hm0
    have hq : (((0 : Nat) : Int) == 0) = true := rfl
    have HB1 := Lib.hid hB1
    have HB2 := Lib.hid hB2
    clear hB1 hB2 hz hp hz2 hp2 ho hm ho2 hm2 hl hD hlen hbest hmat
    go_enter Try.func8, Try.ntmps8
    go_wp2_with fail
    refine HB1.out.mono ?_; rintro e w1 ⟨rfl, hb1⟩
    have HX1 := Lib.hid hb1
    clear hb1
    go_wp2_with fail
    refine (HB2.out _ HX1.out).mono ?_; rintro e w2 ⟨rfl, hb2⟩
    have HX2 := Lib.hid (HX1.out.trans (hb2.mono HX1.out.size))
    clear hb2
    go_wp2_with fail
    refine (sklive_any _).mono ?_; rintro e w3 ⟨rfl, hb⟩
    go_wp2_with fail
    go_ret
    exact ⟨rfl, HX2.out.trans (hb.mono HX2.out.size)⟩
  · obtain ⟨q, hq, hql, h4, h1, hoq, hmo, _⟩ := hp hm0
    obtain rfl : a = q := by omega
    have hnext := mlen_next (l := l) hoq (by omega)
    rw [← hmo] at hnext
    have hmle := mlen_le l a o
    have hmv : mat l ((a : Int) + 1) (o : Int) = m - 1 := by
      rw [show (a : Int) + 1 = ((a + 1 : Nat) : Int) by omega, mat_nat (by omega) h1 (by omega), hnext]
    have hM := fun x hb => hmat x (o : Int) (by omega) (by omega) hb
    simp only [hmv] at hM
    have hm200 : m ≤ 200 := by omega
    have hfive : m < 5 ∨ m ≤ m2 + 1 := by
      rcases Nat.lt_or_ge m 5 with h | h
      · exact .inl h
      · right
        have hge : mlen l (a + 1) o ≤ m2 := by
          by_cases h0 : m2 = 0
          · have := (hz2 h0).2 o h1 (by omega) (by omega)
            rw [show (a : Int) + 1 = ((a + 1 : Nat) : Int) by omega, mat_nat (by omega) h1 (by omega)] at this
            omega
          · obtain ⟨q2, hq2, _, _, _, _, _, hall⟩ := hp2 h0
            obtain rfl : q2 = a + 1 := by omega
            exact (hall o h1 (by omega)).1
        omega
    have e0 : ((m : Int) == 0) = false := by simp; omega
    have e1 : (((m - 1 : Nat) : Int) == (m : Int) - 1) = true := by simp; omega
    have hc : (((m - 1 : Nat) : Int)) = (m : Int) - 1 := by omega
    have e2 : ((m : Int) - 1 == (m : Int) - 1) = true := by simp
    have hm2n : m2 ≤ 200 := by
      by_cases h0 : m2 = 0
      · omega
      · obtain ⟨q2, hq2, _, _, _, _, hh, _⟩ := hp2 h0
        have := mlen_le l q2 o2
        omega
    rw [hc] at hM
    have HB1 := Lib.hid hB1
    have HB2 := Lib.hid hB2
    have HM := Lib.hid hM
    obtain ⟨f1, hf1⟩ : ∃ f1 : Bool, f1 = decide ((m : Int) < 5) := ⟨_, rfl⟩
    have hf2 : f1 = true ∨ decide ((m : Int) - 1 ≤ (m2 : Int)) = true := by
      rcases hfive with h | h
      · left; rw [hf1]; simp; omega
      · right; simp; omega
    have hf3 := hf1.symm
    clear hB1 hB2 hz hp hz2 hp2 ho hm ho2 hm2 hl hD hlen hbest hmat hM hnext hmo hfive hf1 hq hmv hmle e1 hc
    rcases hf2 with rfl | hf2
    · clear hm0
      go_enter Try.func8, Try.ntmps8
      go_wp2_with fail
      refine HB1.out.mono ?_; rintro e w1 ⟨rfl, hb1⟩
      have HX1 := Lib.hid hb1
      clear hb1
      go_wp2_with fail
      refine (HB2.out _ HX1.out).mono ?_; rintro e w2 ⟨rfl, hb2⟩
      have HX2 := Lib.hid (HX1.out.trans (hb2.mono HX1.out.size))
      clear hb2
      go_wp2_with fail
      refine (HM.out _ HX2.out).mono ?_; rintro e w3 ⟨rfl, hb3⟩
      have HX3 := Lib.hid (HX2.out.trans (hb3.mono HX2.out.size))
      clear hb3
      go_wp2_with fail
      refine (sklive_any _).mono ?_; rintro e w4 ⟨rfl, hb⟩
      go_wp2_with fail
      go_ret
      exact ⟨rfl, HX3.out.trans (hb.mono HX3.out.size)⟩
    · cases f1
      all_goals
        clear hm0
        go_enter Try.func8, Try.ntmps8
        go_wp2_with fail
        refine HB1.out.mono ?_; rintro e w1 ⟨rfl, hb1⟩
        have HX1 := Lib.hid hb1
        clear hb1
        go_wp2_with fail
        refine (HB2.out _ HX1.out).mono ?_; rintro e w2 ⟨rfl, hb2⟩
        have HX2 := Lib.hid (HX1.out.trans (hb2.mono HX1.out.size))
        clear hb2
        go_wp2_with fail
        refine (HM.out _ HX2.out).mono ?_; rintro e w3 ⟨rfl, hb3⟩
        have HX3 := Lib.hid (HX2.out.trans (hb3.mono HX2.out.size))
        clear hb3
        go_wp2_with fail
        refine (sklive_any _).mono ?_; rintro e w4 ⟨rfl, hb⟩
        go_wp2_with fail
        go_ret
        exact ⟨rfl, HX3.out.trans (hb.mono HX3.out.size)⟩
end
theorem seekGoes_sl (A : Option Addr) (n c : Nat) (l : List UInt8) (a : Int) (w : World) (hl : rpU8.sl w (lt w.heap.size) A n c l) (a0 : -9223372036854775808 ≤ a) (a1 : a ≤ 9223372036854775807) :
    Calls Try.prog 8 #[.slice A n c, .int .i64 a] w fun e w' => e = .returned (.bool true) ∧ Below w.heap.size w w' := by
  by_cases h : 200 < n ∨ a < 0 ∨ (n : Int) ≤ a + 1
  · exact skg_out a hl a0 a1 h
  · obtain ⟨q, rfl⟩ : ∃ q : Nat, a = q := ⟨a.toNat, by omega⟩
    exact skg_in q hl (fun k hk => hk) (by omega) (by omega)
end Go.Proofs.Ytkffgmpkpafkmaa
