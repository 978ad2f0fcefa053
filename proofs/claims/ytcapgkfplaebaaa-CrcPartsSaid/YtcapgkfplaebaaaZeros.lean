/- The state behind noughts: the walk of CrcZeros; sums joined. -/
import Derived.Test.YtcapgkfplaebaaaMat
namespace Go.Proofs.Ytcapgkfplaebaaa
open Go.ChangeShapes Go.WideShapes Go.ChangeAt Go.RowKit
open Crc
set_option linter.unusedVariables false

theorem zeros_ex (st : BitVec 32) (n : Int) (w : World) (h0 : -9223372036854775808 ≤ n) (h1 : n ≤ 9223372036854775807) :
    Calls Try.prog 18 #[.int .u32 (st.toNat : Int), .int .i64 n] w fun e w' => ∃ u : BitVec 32, e = .returned (.int .u32 (u.toNat : Int)) ∧ Hid (u = zeros n.toNat st) ∧ Below w.heap.size w w' :=
  (zeros_walk st n w h0 h1).mono fun e w' ⟨he, hb⟩ => ⟨_, he, rfl, hb⟩

theorem ref_zeros_any (st : BitVec 32) (n : Int) (w : World) (h1 : n ≤ 9223372036854775807) :
    Calls Try.prog 19 #[.int .u32 (st.toNat : Int), .int .i64 n] w fun e w' => ∃ u : BitVec 32, e = .returned (.int .u32 (u.toNat : Int)) ∧ Hid (u = zeros n.toNat st) ∧ w = w' := by
  go_enter Try.func19, Try.ntmps19
  go_wp2_with fail
  go_loop [0, 5] (fun s i => ∃ k : Nat, (k ≤ n.toNat) ∧ i = .int .i64 k ∧ s = .int .u32 ((zeros k st).toNat : Int)) (fun _ i => n.toNat - (intOf i).toNat)
  case atStart => exact ⟨0, by omega, rfl, rfl⟩
  case round =>
    obtain ⟨k, hk, rfl, rfl⟩ := hrel
    by_cases hlt : (k : Int) < n
    · have hz := zeros_succ k st
      rw [← into_zero] at hz
      have HZ := Lib.hid hz
      have h00 : ((0 : UInt8).toNat : Int) = 0 := rfl
      have hin := into_any (zeros k st) 0
      rw [h00] at hin
      have HIN := Lib.hid hin
      clear hz hin h00
      go_wp2_with (go_at_call 23; refine (HIN.out _).mono ?_; rintro e w' ⟨rfl, rfl⟩)
      go_round
      case rel => exact ⟨k + 1, by omega, by go_num, by rw [HZ.out]⟩
      case measure => simp [intOf]; omega
    · obtain rfl : n.toNat = k := by omega
      go_wp2_with fail
      go_ret
      exact ⟨_, rfl, rfl, rfl⟩

theorem eq_u32 {a b : BitVec 32} (h : a = b) : (((a.toNat : Nat) : Int) == (b.toNat : Int)) = true ∧ (((a.toNat : Nat) : Int) != (b.toNat : Int)) = false := by subst h; simp
theorem zeroslaw_walk (st : Int) (n m : Int) (w : World) (s0 : 0 ≤ st) (s1 : st ≤ 4294967295) (n0 : -9223372036854775808 ≤ n) (n1 : n ≤ 9223372036854775807) (m0 : -9223372036854775808 ≤ m) (m1 : m ≤ 9223372036854775807) :
    Calls Try.prog 6 #[.int .u32 st, .int .i64 n, .int .i64 m] w fun e w' => e = .returned (.bool true) ∧ Below w.heap.size w w' := by
  obtain ⟨d, rfl⟩ : ∃ d : BitVec 32, st = (d.toNat : Int) := ⟨BitVec.ofInt 32 st, by rw [BitVec.toNat_ofInt]; omega⟩
  go_enter Try.func6, Try.ntmps6
  go_wp2_with fail
  all_goals
    refine (zeros_ex d _ _ (by omega) (by omega)).mono ?_; rintro e w1 ⟨u1, rfl, h1, hb1⟩
    go_wp2_with fail
    refine (ref_zeros_any d _ _ (by omega)).mono ?_; rintro e w' ⟨u2, rfl, h2, rfl⟩
    obtain rfl : u1 = u2 := by rw [h1.out, h2.out]
    go_wp2_with fail
    refine (zeros_ex d _ _ (by omega) (by omega)).mono ?_; rintro e w2 ⟨u3, rfl, h3, hb2⟩
    have hb2 := hb1.trans (hb2.mono hb1.size)
    go_wp2_with fail
    refine (zeros_ex u3 _ _ (by omega) (by omega)).mono ?_; rintro e w3 ⟨u4, rfl, h4, hb3⟩
    have hb3 := hb2.trans (hb3.mono hb2.size)
    go_wp2_with fail
    all_goals
      refine (zeros_ex d _ _ (by omega) (by omega)).mono ?_; rintro e w4 ⟨u5, rfl, h5, hb4⟩
      have hb4 := hb3.trans (hb4.mono hb3.size)
      obtain rfl : u5 = u4 := by
        rw [h5.out, h4.out, h3.out, ← zeros_add]
        congr 1 <;> omega
      clear h5
      go_wp2_with fail
      refine (zeros_ex d _ _ (by omega) (by omega)).mono ?_; rintro e w5 ⟨u6, rfl, h6, hb5⟩
      have hb5 := hb4.trans (hb5.mono hb4.size)
      go_wp2_with fail
      refine (zeros_ex u6 _ _ (by omega) (by omega)).mono ?_; rintro e w6 ⟨u7, rfl, h7, hb6⟩
      have hb6 := hb5.trans (hb6.mono hb5.size)
      go_wp2_with fail
      refine (zeros_ex d _ _ (by omega) (by omega)).mono ?_; rintro e w7 ⟨u8, rfl, h8, hb7⟩
      have hb7 := hb6.trans (hb7.mono hb6.size)
      obtain rfl : u7 = u8 := by
        rw [h7.out, h8.out, h6.out, ← zeros_add]
        congr 1
      clear h8
      go_wp2_with fail
      refine (live_any _).mono ?_; rintro e w8 ⟨rfl, hb8⟩
      have hb8 := hb7.trans (hb8.mono hb7.size)
      go_wp2_with fail
      go_ret
      exact ⟨rfl, hb8⟩
end Go.Proofs.Ytcapgkfplaebaaa
