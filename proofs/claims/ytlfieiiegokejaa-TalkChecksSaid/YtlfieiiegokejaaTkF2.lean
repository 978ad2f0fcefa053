/- The walk of TalkChecks. -/
import Derived.Test.YtlfieiiegokejaaTkOp
import Derived.Test.YtlfieiiegokejaaTkZ
import Derived.Test.YtlfieiiegokejaaTkX
import Derived.Test.YtlfieiiegokejaaTkLv
namespace Go.Proofs.Ytlfieiiegokejaa
open Go.ChangeShapes Go.WideShapes Go.ChangeAt Go.RowKit
set_option linter.unusedVariables false
set_option maxRecDepth 100000 in
set_option maxHeartbeats 4000000 in
theorem talkChecks_any (A : Option Addr) (n c : Nat) (l : List Ms) (k : Int) (w : World) (hs : rpMs.sl w (lt w.heap.size) A n c l) (hk0 : -9223372036854775808 ≤ k) (hk1 : k ≤ 9223372036854775807) :
    Calls Try.prog 4 #[.slice A n c, .int .i64 k] w fun e w' => e = .returned (.bool true) ∧ Below w.heap.size w w' := by
  have HM := Lib.hid (many_any hs (fun _ h => h))
  have HS := Lib.hid (show Sl rpMs w (lt w.heap.size) A n c l from ⟨hs, fun _ h => h⟩)
  have HN := Lib.hid (Rp.sl_len hs).1
  clear hs
  go_enter Try.func4, Try.ntmps4
  go_wp2_with fail
  refine HM.out.mono ?_; rintro e w1 ⟨b1, rfl, hn1, hb1⟩
  have HB1 := Lib.hid hb1
  have HS1 := Lib.hid (keepS HS.out hb1)
  clear hb1
  cases b1
  case true =>
    clear hn1
    go_wp2_with fail
    refine (live30_any _).mono ?_; rintro e wl ⟨rfl, hbl⟩
    have HBL := Lib.hid (stepB HB1.out hbl)
    clear hbl
    go_wp2_with fail
    go_ret
    exact ⟨rfl, HBL.out⟩
  case false =>
  have hn := hn1 rfl
  clear hn1
  obtain ⟨r1, r2, hr⟩ : ∃ (r1 : Nat) (r2 : Int), res l = (r1, r2) := ⟨_, _, rfl⟩
  have HR := Lib.hid hr
  have HC := check_any HS1.out.1 HS1.out.2 (by omega)
  rw [hr] at HC
  have HC1 := Lib.hid HC
  clear HC hr
  go_wp2_with fail
  refine HC1.out.mono ?_; rintro e w2 ⟨rfl, hb2⟩
  have HB2 := Lib.hid (stepB HB1.out hb2)
  have HS2 := Lib.hid (keepS HS1.out hb2)
  clear hb2
  have HC := rcheck_any HS2.out.1 HS2.out.2 (by omega)
  rw [HR.out] at HC
  have HC2 := Lib.hid HC
  clear HC
  go_wp2_with fail
  refine HC2.out.mono ?_; rintro e w3 ⟨rfl, hb3⟩
  have HB3 := Lib.hid (stepB HB2.out hb3)
  have HS3 := Lib.hid (keepS HS2.out hb3)
  clear hb3
  obtain ⟨M, hM⟩ : ∃ M : Nat, M = (max k 0).toNat := ⟨_, rfl⟩
  have hmx : (if k < 0 then (0 : Int) else k) = (M : Int) := by split <;> omega
  by_cases hMn : n < M
  case pos =>
    obtain ⟨A', hcut, hsl⟩ := run_cut_h elemMs HS3.out.1 ms_size (n : Int) (by omega) (by omega)
    rw [Int.toNat_natCast] at hcut hsl
    have HKL : Hid (n ≤ l.length) := by show _ ≤ _; rw [HN.out]; omega
    have HC := check_any hsl HS3.out.2 (by omega)
    obtain ⟨q1, q2, hq⟩ : ∃ (r1 : Nat) (r2 : Int), res (l.take n) = (r1, r2) := ⟨_, _, rfl⟩
    have HQ : Hid ((q1, q2) = if n ≤ r1 then (n, 0) else (r1, r2)) := by
      have h := res_take HKL.out
      rw [hq, HR.out] at h
      exact h
    rw [hq] at HC
    have HC3 := Lib.hid HC
    clear HC hq hsl hM hk0 hk1
    go_wp2_with fail
    refine HC3.out.mono ?_; rintro e w4 ⟨rfl, hb4⟩
    have HB4 := Lib.hid (stepB HB3.out hb4)
    clear hb4 hcut
    by_cases hle : n ≤ r1
    case pos =>
      have hq := HQ.out
      rw [if_pos hle] at hq
      injection hq with e1 e2
      subst q1; subst q2
      have hd : decide ((n : Int) ≤ (r1 : Int)) = true := by simp; omega
      go_wp2_with fail
      refine (live30_any _).mono ?_; rintro e wl ⟨rfl, hbl⟩
      have HBL := Lib.hid (stepB HB4.out hbl)
      clear hbl
      go_wp2_with fail
      go_ret
      exact ⟨rfl, HBL.out⟩
    case neg =>
      have hq := HQ.out
      rw [if_neg hle] at hq
      injection hq with e1 e2
      subst q1; subst q2
      have hd : decide ((n : Int) ≤ (r1 : Int)) = false := by simp; omega
      go_wp2_with fail
      refine (live30_any _).mono ?_; rintro e wl ⟨rfl, hbl⟩
      have HBL := Lib.hid (stepB HB4.out hbl)
      clear hbl
      go_wp2_with fail
      go_ret
      exact ⟨rfl, HBL.out⟩
  case neg =>
    obtain ⟨A', hcut, hsl⟩ := run_cut_h elemMs HS3.out.1 ms_size (M : Int) (by omega) (by omega)
    rw [Int.toNat_natCast] at hcut hsl
    have HKL : Hid (M ≤ l.length) := by show _ ≤ _; rw [HN.out]; omega
    have HC := check_any hsl HS3.out.2 (by omega)
    obtain ⟨q1, q2, hq⟩ : ∃ (r1 : Nat) (r2 : Int), res (l.take M) = (r1, r2) := ⟨_, _, rfl⟩
    have HQ : Hid ((q1, q2) = if M ≤ r1 then (M, 0) else (r1, r2)) := by
      have h := res_take HKL.out
      rw [hq, HR.out] at h
      exact h
    rw [hq] at HC
    have HC3 := Lib.hid HC
    clear HC hq hsl hM hk0 hk1
    go_wp2_with fail
    refine HC3.out.mono ?_; rintro e w4 ⟨rfl, hb4⟩
    have HB4 := Lib.hid (stepB HB3.out hb4)
    clear hb4 hcut
    by_cases hle : M ≤ r1
    case pos =>
      have hq := HQ.out
      rw [if_pos hle] at hq
      injection hq with e1 e2
      subst q1; subst q2
      have hd : decide ((M : Int) ≤ (r1 : Int)) = true := by simp; omega
      go_wp2_with fail
      refine (live30_any _).mono ?_; rintro e wl ⟨rfl, hbl⟩
      have HBL := Lib.hid (stepB HB4.out hbl)
      clear hbl
      go_wp2_with fail
      go_ret
      exact ⟨rfl, HBL.out⟩
    case neg =>
      have hq := HQ.out
      rw [if_neg hle] at hq
      injection hq with e1 e2
      subst q1; subst q2
      have hd : decide ((M : Int) ≤ (r1 : Int)) = false := by simp; omega
      go_wp2_with fail
      refine (live30_any _).mono ?_; rintro e wl ⟨rfl, hbl⟩
      have HBL := Lib.hid (stepB HB4.out hbl)
      clear hbl
      go_wp2_with fail
      go_ret
      exact ⟨rfl, HBL.out⟩
end Go.Proofs.Ytlfieiiegokejaa
