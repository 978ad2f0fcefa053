/- SeekNone. -/
import Derived.Test.YtkffgmpkpafkmaaSkL
import Derived.BigQuiet
namespace Go.Proofs.Ytkffgmpkpafkmaa
open Go.ChangeShapes Go.WideShapes Go.ChangeAt Go.RowKit Go.Maps
set_option linter.unusedVariables false
section
variable {D : Dom} {A : Option Addr} {n c : Nat} {l : List UInt8} {w : World}
set_option maxRecDepth 100000 in
set_option maxHeartbeats 4000000 in
theorem skn_zero (a : Int) (hl : rpU8.sl w D A n c l) (hD : ∀ k, D k → k < w.heap.size) (hn : n ≤ 200) (a0 : -9223372036854775808 ≤ a) (a1 : a ≤ 9223372036854775807) (h0 : (tk (top l a)).2 = 0) :
    Calls Try.prog 9 #[.slice A n c, .int .i64 a] w fun e w' => e = .returned (.bool true) ∧ Below w.heap.size w w' := by
  obtain ⟨hlen, hnc, hcm⟩ := Rp.sl_len hl
  unfold maxLen at hcm
  have hd : decide ((200 : Int) < (n : Int)) = false := by simp; omega
  have hb := best_any a hl hD (by omega) a0 a1
  obtain ⟨hz1, hz2⟩ := top_zero (by omega) h0
  rw [h0, hz1] at hb
  have HBEST := Lib.hid hb
  have hmat : Hid (∀ (x : World) (A' o : Nat), a = A' → 1 ≤ o → o ≤ A' → A' < n → Below w.heap.size w x → Calls Try.prog 25 #[.slice A n c, .int .i64 (A' : Int), .int .i64 (o : Int)] x fun e w' => ∃ v : Nat, v < 4 ∧ e = .returned (.int .i64 (v : Int)) ∧ Below x.heap.size x w') := fun x A' o ha h1 h2 h3 hb => (rmatch_any (A' : Int) (o : Int) (Rp.sl_below hl hb hD) (fun k hk => Nat.lt_of_lt_of_le (hD k hk) hb.size) (by omega) (by omega) (by omega) (by omega) (by omega)).mono fun e w' ⟨he, hb⟩ => ⟨_, by subst ha; exact hz2 o h1 (by omega) (by omega), he, hb⟩
  clear hb hz1 hz2 hl hD hlen h0
  rcases (show a < 1 ∨ (1 ≤ a ∧ (n : Int) ≤ a) ∨ (1 ≤ a ∧ a < n) by omega) with h1 | ⟨h1, h2⟩ | ⟨h1, h2⟩
  · have hd1 : decide ((1 : Int) ≤ a) = false := by simp; omega
    go_enter Try.func9, Try.ntmps9
    go_wp2_with fail
    refine HBEST.out.mono ?_; rintro e w1 ⟨rfl, hb1⟩
    have HB1 := Lib.hid hb1
    clear hb1
    go_wp2_with fail
    go_loopw [7] (fun oo wr => oo = .int .i64 1 ∧ Hid (Below w.heap.size w wr)) (fun _ _ => 0)
    case atStart => exact ⟨rfl, HB1.out⟩
    case round =>
      obtain ⟨rfl, hbw⟩ := hrel
      have HX := hbw.out
      go_wp2_with fail
      refine (sbest_none a).mono ?_; rintro e w7 ⟨rfl, hb7⟩
      have HX7 := Lib.hid (HX.trans (hb7.mono HX.size))
      clear hb7
      go_wp2_with fail
      refine tried_none.mono ?_; rintro e w8 ⟨rfl, rfl⟩
      go_wp2_with fail
      refine (sklive_any _).mono ?_; rintro e w9 ⟨rfl, hb⟩
      go_wp2_with fail
      go_ret
      exact ⟨rfl, HX7.out.trans (hb.mono HX7.out.size)⟩
  · have hd1 : decide ((1 : Int) ≤ a) = true := by simp; omega
    have hd2 : decide (a < (n : Int)) = false := by simp; omega
    go_enter Try.func9, Try.ntmps9
    go_wp2_with fail
    refine HBEST.out.mono ?_; rintro e w1 ⟨rfl, hb1⟩
    have HB1 := Lib.hid hb1
    clear hb1
    go_wp2_with fail
    go_loopw [7] (fun oo wr => oo = .int .i64 1 ∧ Hid (Below w.heap.size w wr)) (fun _ _ => 0)
    case atStart => exact ⟨rfl, HB1.out⟩
    case round =>
      obtain ⟨rfl, hbw⟩ := hrel
      have HX := hbw.out
      go_wp2_with fail
      refine (sbest_none a).mono ?_; rintro e w7 ⟨rfl, hb7⟩
      have HX7 := Lib.hid (HX.trans (hb7.mono HX.size))
      clear hb7
      go_wp2_with fail
      refine tried_none.mono ?_; rintro e w8 ⟨rfl, rfl⟩
      go_wp2_with fail
      refine (sklive_any _).mono ?_; rintro e w9 ⟨rfl, hb⟩
      go_wp2_with fail
      go_ret
      exact ⟨rfl, HX7.out.trans (hb.mono HX7.out.size)⟩
  · obtain ⟨A', rfl⟩ : ∃ A' : Nat, a = A' := ⟨a.toNat, by omega⟩
    have hd2 : decide (A' < n) = true := by simp; omega
    go_enter Try.func9, Try.ntmps9
    go_wp2_with fail
    refine HBEST.out.mono ?_; rintro e w1 ⟨rfl, hb1⟩
    have HB1 := Lib.hid hb1
    clear hb1
    go_wp2_with fail
    go_loopw [7] (fun oo wr => ∃ q : Nat, 1 ≤ q ∧ q ≤ A' + 1 ∧ oo = .int .i64 (q : Int) ∧ Hid (Below w.heap.size w wr)) (fun oo _ => A' + 1 - (intOf oo).toNat)
    case atStart => exact ⟨1, by omega, by omega, rfl, HB1.out⟩
    case round =>
      obtain ⟨q, hq1, hq2, rfl, hbw⟩ := hrel
      by_cases hqa : q ≤ A'
      · have hd3 : decide (q ≤ A') = true := by simpa using hqa
        go_wp2_with fail
        refine (hmat.out wr A' q rfl hq1 hqa (by omega) hbw.out).mono ?_; rintro e w2 ⟨v, hv, rfl, hb2⟩
        have HB2 := Lib.hid (hbw.out.trans (hb2.mono hbw.out.size))
        have hd4 : decide ((4 : Int) ≤ (v : Int)) = false := by simp; omega
        clear hb2
        go_wp2_with fail
        go_roundw
        case rel => exact ⟨q + 1, by omega, by omega, by go_num, HB2.out⟩
        case measure => simp [intOf]; omega
      · have hd3 : decide (q ≤ A') = false := by simp; omega
        have HX := hbw.out
        go_wp2_with fail
        refine (sbest_none (A' : Int)).mono ?_; rintro e w7 ⟨rfl, hb7⟩
        have HX7 := Lib.hid (HX.trans (hb7.mono HX.size))
        clear hb7
        go_wp2_with fail
        refine tried_none.mono ?_; rintro e w8 ⟨rfl, rfl⟩
        go_wp2_with fail
        refine (sklive_any _).mono ?_; rintro e w9 ⟨rfl, hb⟩
        go_wp2_with fail
        go_ret
        exact ⟨rfl, HX7.out.trans (hb.mono HX7.out.size)⟩
set_option maxRecDepth 100000 in
set_option maxHeartbeats 4000000 in
theorem skn_pos (a : Int) (hl : rpU8.sl w D A n c l) (hD : ∀ k, D k → k < w.heap.size) (hn : n ≤ 200) (a0 : -9223372036854775808 ≤ a) (a1 : a ≤ 9223372036854775807) (h0 : (tk (top l a)).2 ≠ 0) :
    Calls Try.prog 9 #[.slice A n c, .int .i64 a] w fun e w' => e = .returned (.bool true) ∧ Below w.heap.size w w' := by
  obtain ⟨hlen, hnc, hcm⟩ := Rp.sl_len hl
  unfold maxLen at hcm
  have hd : decide ((200 : Int) < (n : Int)) = false := by simp; omega
  have hb := best_any a hl hD (by omega) a0 a1
  obtain ⟨A', rfl, hA, hm4, ho1, hoA, hmo, hall⟩ := top_pos (by omega) h0
  obtain ⟨o, ho⟩ : ∃ o, o = (tk (top l (A' : Int))).1 := ⟨_, rfl⟩
  obtain ⟨m, hm⟩ : ∃ m, m = (tk (top l (A' : Int))).2 := ⟨_, rfl⟩
  rw [← ho, ← hm] at hb hmo
  rw [← hm] at hm4
  rw [← ho] at ho1 hoA
  simp only [← ho, ← hm] at hall
  have hml := mlen_le l A' o
  rw [← hmo] at hml
  have hsame : smB l A' (A' - o) m = true := dec_true fun k hk => by
    rw [mlen_at (l := l) (a := A') (o := o) hoA (by omega)]
    congr 1; omega
  have HBEST := Lib.hid hb
  obtain ⟨f, hf⟩ : ∃ f, f = A' - o := ⟨_, rfl⟩
  rw [← hf] at hsame
  have hf2 : (A' : Int) - (o : Int) = (f : Int) := by omega
  have hsm : ∀ x, Below w.heap.size w x → Calls Try.prog 28 #[.slice A n c, .int .i64 (A' : Int), .int .i64 (f : Int), .int .i64 (m : Int)] x fun e w' => e = .returned (.bool true) ∧ Below x.heap.size x w' := fun x hb => by
    have := same_in A' f m (Rp.sl_below hl hb hD) (fun k hk => Nat.lt_of_lt_of_le (hD k hk) hb.size) (by omega) (by omega) (by omega)
    rw [hsame] at this
    exact this
  have HSM := Lib.hid hsm
  have HF := Lib.hid hf2
  have hmat : Hid (∀ (x : World) (q : Nat), 1 ≤ q → q ≤ A' → Below w.heap.size w x → Calls Try.prog 25 #[.slice A n c, .int .i64 (A' : Int), .int .i64 (q : Int)] x fun e w' => ∃ v : Nat, (v < m ∨ (v = m ∧ o ≤ q)) ∧ e = .returned (.int .i64 (v : Int)) ∧ Below x.heap.size x w') := fun x q h1 h2 hb => (rmatch_any (A' : Int) (q : Int) (Rp.sl_below hl hb hD) (fun k hk => Nat.lt_of_lt_of_le (hD k hk) hb.size) (by omega) (by omega) (by omega) (by omega) (by omega)).mono fun e w' ⟨he, hb⟩ => ⟨_, by
      rw [mat_nat (by omega) h1 h2]
      have := hall q h1 h2
      rcases Nat.lt_or_ge (mlen l A' q) m with h | h
      · exact .inl h
      · exact .inr ⟨by omega, by rcases Nat.lt_or_ge q o with h3 | h3; (have := this.2 h3; omega); exact h3⟩, he, hb⟩
  have hd1 : ((m : Int) != 0) = true := by simp; omega
  have hd2 : decide ((m : Int) < 4) = false := by simp; omega
  have hd3 : decide ((o : Int) < 1) = false := by simp; omega
  have hd4 : decide (A' < o) = false := by simp; omega
  have hd5 : ((m : Int) == 0) = false := by simp; omega
  have hd6 : decide (A' < n) = true := by simp; omega
  have hd7 : decide (0 < m) = true := by simp; omega
  have hm200 : m ≤ 200 := by omega
  have hA200 : A' ≤ 200 := by omega
  clear hb hl hD hlen h0 ho hm hmo hall hml hsame hf hf2 hsm
  go_enter Try.func9, Try.ntmps9
  go_wp2_with fail
  refine HBEST.out.mono ?_; rintro e w1 ⟨rfl, hb1⟩
  have HB1 := Lib.hid hb1
  clear hb1
  go_wp2_with fail
  rw [HF.out]
  refine (HSM.out _ HB1.out).mono ?_; rintro e w2 ⟨rfl, hb2⟩
  have HB2 := Lib.hid (HB1.out.trans (hb2.mono HB1.out.size))
  clear hb2
  go_wp2_with fail
  go_loopw [7] (fun oo wr => ∃ q : Nat, 1 ≤ q ∧ q ≤ A' + 1 ∧ oo = .int .i64 (q : Int) ∧ Hid (Below w.heap.size w wr)) (fun oo _ => A' + 1 - (intOf oo).toNat)
  case atStart => exact ⟨1, by omega, by omega, rfl, HB2.out⟩
  case round =>
    obtain ⟨q, hq1, hq2, rfl, hbw⟩ := hrel
    by_cases hqa : q ≤ A'
    · have hd8 : decide (q ≤ A') = true := by simpa using hqa
      go_wp2_with fail
      refine (hmat.out wr q hq1 hqa hbw.out).mono ?_; rintro e w3 ⟨v, hv, rfl, hb3⟩
      have HB3 := Lib.hid (hbw.out.trans (hb3.mono hbw.out.size))
      have hd9 : decide (m < v) = false := by simp; omega
      clear hb3
      rcases hv with hv | ⟨hv, hoq⟩
      · have hd10 : ((v : Int) == (m : Int)) = false := by simp; omega
        go_wp2_with fail
        go_roundw
        case rel => exact ⟨q + 1, by omega, by omega, by go_num, HB3.out⟩
        case measure => simp [intOf]; omega
      · have hd10 : ((v : Int) == (m : Int)) = true := by simp; omega
        have hd11 : decide (q < o) = false := by simp; omega
        have HV := Lib.hid hv
        clear hv
        go_wp2_with fail
        go_roundw
        case rel => exact ⟨q + 1, by omega, by omega, by go_num, HB3.out⟩
        case measure => simp [intOf]; omega
    · have hd8 : decide (q ≤ A') = false := by simp; omega
      have HX := hbw.out
      go_wp2_with fail
      refine (sbest_none (A' : Int)).mono ?_; rintro e w7 ⟨rfl, hb7⟩
      have HX7 := Lib.hid (HX.trans (hb7.mono HX.size))
      clear hb7
      go_wp2_with fail
      refine tried_none.mono ?_; rintro e w8 ⟨rfl, rfl⟩
      go_wp2_with fail
      refine (sklive_any _).mono ?_; rintro e w9 ⟨rfl, hb⟩
      go_wp2_with fail
      go_ret
      exact ⟨rfl, HX7.out.trans (hb.mono HX7.out.size)⟩
set_option maxRecDepth 100000 in
set_option maxHeartbeats 4000000 in
theorem skn_long (a : Int) (hcm : c ≤ 2 ^ 63 - 1) (hnc : n ≤ c) (hlen : 200 < n) :
    Calls Try.prog 9 #[.slice A n c, .int .i64 a] w fun e w' => e = .returned (.bool true) ∧ Below w.heap.size w w' := by
  have hd : decide ((200 : Int) < (n : Int)) = true := by simp; omega
  go_enter Try.func9, Try.ntmps9
  go_wp2_with fail
  refine (sklive_any _).mono ?_; rintro e w1 ⟨rfl, hb⟩
  go_wp2_with fail
  go_ret
  exact ⟨rfl, hb⟩
end
theorem seekNone_sl (A : Option Addr) (n c : Nat) (l : List UInt8) (a : Int) (w : World) (hl : rpU8.sl w (lt w.heap.size) A n c l) (a0 : -9223372036854775808 ≤ a) (a1 : a ≤ 9223372036854775807) :
    Calls Try.prog 9 #[.slice A n c, .int .i64 a] w fun e w' => e = .returned (.bool true) ∧ Below w.heap.size w w' := by
  obtain ⟨_, hnc, hcm⟩ := Rp.sl_len hl
  unfold maxLen at hcm
  by_cases h : n ≤ 200
  · by_cases h0 : (tk (top l a)).2 = 0
    · exact skn_zero a hl (fun k hk => hk) h a0 a1 h0
    · exact skn_pos a hl (fun k hk => hk) h a0 a1 h0
  · exact skn_long a hcm hnc (by omega)
end Go.Proofs.Ytkffgmpkpafkmaa
