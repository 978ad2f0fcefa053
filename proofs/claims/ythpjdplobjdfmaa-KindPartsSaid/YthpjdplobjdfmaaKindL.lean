/- The walks of the laws KindParts and KindAnswers. -/
import Derived.Test.YthpjdplobjdfmaaKind3
import Derived.Test.YthpjdplobjdfmaaKindR
namespace Go.Proofs.Ythpjdplobjdfmaa
open Go.ChangeShapes Go.WideShapes Go.ChangeAt Go.RowKit
set_option linter.unusedVariables false

theorem parts_walk (k : Int) (w : World) (k0 : -9223372036854775808 ≤ k) (k1 : k ≤ 9223372036854775807) :
    Calls Try.prog 4 #[.int .i64 k] w fun e w' => e = .returned (.bool true) ∧ Below w.heap.size w w' := by
  have hsum := Kd.by_rows (p := fun i => Kd.sumI i 9 = (Kd.rowAt i).2.1) Kd.sum_all k
  have hbd := Kd.by_rows (p := fun i => ∀ n : Fin 10, 0 ≤ Kd.sumI i n.val ∧ Kd.sumI i n.val ≤ 1024) Kd.sum_bd k
  have h30 := Kd.by_rows (p := fun i => Kd.hasI i 3 = false ∧ Kd.hasI i 0 = false) Kd.has30 k
  have hhas : ∀ p : Int, Kd.has k p = Kd.hasI (Kd.idx k) p := fun _ => rfl
  have hpt : Kd.pt k = (Kd.rowAt (Kd.idx k)).2.1 := rfl
  have HS := Lib.hid hsum
  have HB := Lib.hid hbd
  have H30 := Lib.hid h30
  have HH := Lib.hid hhas
  have HPT := Lib.hid hpt
  clear hsum hbd h30 hhas hpt
  go_enter Try.func4, Try.ntmps4
  go_wp2_with fail
  go_loopw [3, 4] (fun s p wr => ∃ (n : Nat), n ≤ 9 ∧ p = .int .i64 ((2 ^ n : Nat) : Int) ∧ s = .int .i64 (Kd.sumI (Kd.idx k) n) ∧ Below w.heap.size w wr) (fun _ p _ => 1024 - (intOf p).toNat)
  case atStart => exact ⟨0, by omega, rfl, rfl, Below.refl _ _⟩
  case round =>
    obtain ⟨n, hn, rfl, rfl, hbel⟩ := hrel
    have hb := HB.out ⟨n, by omega⟩
    by_cases hlt : n < 9
    · have hpow : (2 ^ n : Nat) ≤ 256 := by
        have := Nat.pow_le_pow_right (n := 2) (by omega) (show n ≤ 8 by omega)
        simpa using this
      have hpos : 0 < (2 ^ n : Nat) := Nat.pow_pos (by omega)
      have hnext : ((2 ^ (n + 1) : Nat) : Int) = 2 * ((2 ^ n : Nat) : Int) := by rw [Nat.pow_succ]; omega
      have hstep : Kd.sumI (Kd.idx k) (n + 1) = if Kd.hasI (Kd.idx k) ((2 ^ n : Nat) : Int) then Kd.sumI (Kd.idx k) n + ((2 ^ n : Nat) : Int) else Kd.sumI (Kd.idx k) n := rfl
      rw [← HH.out] at hstep
      dsimp only at hb
      generalize hs1 : Kd.sumI (Kd.idx k) (n + 1) = s1 at *
      generalize Kd.sumI (Kd.idx k) n = s at *
      generalize hq1 : ((2 ^ (n + 1) : Nat) : Int) = q1 at *
      generalize (2 ^ n : Nat) = q at *
      have hhas := fun w => has_any k (q : Int) w (by omega) (by omega)
      have HHA := Lib.hid hhas
      have HN := Lib.hid hnext
      have HS1 := Lib.hid hs1
      have HQ1 := Lib.hid hq1
      clear hs1 hq1 hnext hhas
      by_cases hh : Kd.has k (q : Int) = true
      · rw [if_pos hh] at hstep
        rw [hh] at HHA
        have HST := Lib.hid hstep
        clear hstep hh
        go_wp2_with fail
        refine (HHA.out _).mono ?_; rintro e w1 ⟨rfl, hb1⟩
        have hbel1 := hbel.trans (hb1.mono hbel.size)
        go_wp2_with fail
        go_roundw
        case rel => exact ⟨n + 1, by omega, by rw [HQ1.out, HN.out], by rw [HS1.out, HST.out], hbel1⟩
        case measure => simp [intOf]; omega
      · rw [if_neg hh] at hstep
        have hh' : Kd.has k (q : Int) = false := by simpa using hh
        rw [hh'] at HHA
        have HST := Lib.hid hstep
        clear hstep hh hh'
        go_wp2_with fail
        refine (HHA.out _).mono ?_; rintro e w1 ⟨rfl, hb1⟩
        have hbel1 := hbel.trans (hb1.mono hbel.size)
        go_wp2_with fail
        go_roundw
        case rel => exact ⟨n + 1, by omega, by rw [HQ1.out, HN.out], by rw [HS1.out, HST.out], hbel1⟩
        case measure => simp [intOf]; omega
    · obtain rfl : n = 9 := by omega
      have e9 : ((2 ^ 9 : Nat) : Int) = 512 := rfl
      rw [e9, HS.out, ← HPT.out]
      have hp := parts_any k
      have h3 := fun w => has_any k 3 w (by omega) (by omega)
      have h0 := fun w => has_any k 0 w (by omega) (by omega)
      rw [HH.out, H30.out.1] at h3
      rw [HH.out, H30.out.2] at h0
      generalize Kd.pt k = z at *
      have HP := Lib.hid hp
      have H3 := Lib.hid h3
      have H0 := Lib.hid h0
      clear hp h3 h0 hb
      go_wp2_with fail
      refine (HP.out _).mono ?_; rintro e w1 ⟨rfl, hb1⟩
      have hbel1 := hbel.trans (hb1.mono hbel.size)
      go_wp2_with fail
      refine (H3.out _).mono ?_; rintro e w2 ⟨rfl, hb2⟩
      have hbel2 := hbel1.trans (hb2.mono hbel1.size)
      go_wp2_with fail
      refine (H0.out _).mono ?_; rintro e w3 ⟨rfl, hb3⟩
      have hbel3 := hbel2.trans (hb3.mono hbel2.size)
      go_wp2_with fail
      refine (live_any _).mono ?_; rintro e w4 ⟨rfl, hb4⟩
      go_wp2_with fail
      go_ret
      exact ⟨rfl, hbel3.trans (hb4.mono hbel3.size)⟩
end Go.Proofs.Ythpjdplobjdfmaa
