/- The walk of the law PenFixed. -/
import Derived.Test.YtjgcgedjpppfmaaLive
namespace Go.Proofs.Ytjgcgedjpppfmaa
open Go.ChangeShapes Go.WideShapes Go.ChangeAt Go.RowKit
set_option linter.unusedVariables false

theorem low_get (x : Nat) : ∀ m k, k < m → (low m x)[k]? = some (UInt8.ofNat (x / 256 ^ k)) := by
  intro m
  induction m with
  | zero => intro k hk; omega
  | succ m ih =>
    intro k hk
    rw [low]
    by_cases h : k < m
    · rw [List.getElem?_append_left (by rw [low_length]; exact h), ih k h]
    · obtain rfl : k = m := by omega
      rw [List.getElem?_append_right (by rw [low_length]; exact Nat.le_refl _), low_length]
      simp
/-- One round of the reading: from the bytes behind k + 1 to those behind k. -/
theorem up_step (x m k : Nat) (hk : k < m) : x % 256 ^ m / 256 ^ k = 256 * (x % 256 ^ m / 256 ^ (k + 1)) + x / 256 ^ k % 256 := by
  have e1 : x % 256 ^ m / 256 ^ (k + 1) = x % 256 ^ m / 256 ^ k / 256 := by rw [Nat.div_div_eq_div_mul, Nat.pow_succ]
  have e2 : x % 256 ^ m / 256 ^ k % 256 = x / 256 ^ k % 256 := by
    obtain ⟨d, rfl⟩ : ∃ d, m = k + 1 + d := ⟨m - (k + 1), by omega⟩
    have e3 : (256 : Nat) ^ (k + 1 + d) = 256 ^ k * (256 * 256 ^ d) := by rw [Nat.pow_add, Nat.pow_succ, Nat.mul_assoc]
    rw [e3, Nat.mod_mul_right_div_self, Nat.mod_mul_right_mod]
  rw [e1, ← e2]
  omega
theorem up_lt (x m k : Nat) (hm : m ≤ 8) : x % 256 ^ m / 256 ^ k < 18446744073709551616 := by
  have h1 : x % 256 ^ m < 256 ^ m := Nat.mod_lt _ (Nat.pow_pos (by decide))
  have h2 : (256 : Nat) ^ m ≤ 256 ^ 8 := Nat.pow_le_pow_right (by decide) hm
  have h3 : x % 256 ^ m / 256 ^ k ≤ x % 256 ^ m := Nat.div_le_self _ _
  have h4 : (256 : Nat) ^ 8 = 18446744073709551616 := by decide
  omega

theorem penFixed_any (x n : Int) (w : World) (x0 : 0 ≤ x) (x1 : x ≤ 18446744073709551615) (n0 : -9223372036854775808 ≤ n) (n1 : n ≤ 9223372036854775807) :
    Calls Try.prog 3 #[.int .u64 x, .int .i64 n] w fun e w' => e = .returned (.bool true) ∧ Below w.heap.size w w' := by
  obtain ⟨x, rfl⟩ := Int.eq_ofNat_of_zero_le x0
  have hx : x < 18446744073709551616 := by omega
  have h8 := many_le n
  have hn8 : 8 ≤ n → many n = 8 := by unfold many; omega
  go_enter Try.func3, Try.ntmps3
  go_wp2_with fail
  refine (fixed_any x n _ hx).mono ?_; rintro e w1 ⟨A, c, rfl, ho, hb⟩
  have HO := Lib.hid (own_bytes ho)
  have hlt1 := ho.lt
  clear ho
  generalize hm : many n = m at *
  go_wp2_with fail
  go_loop [6, 7] (fun y i => ∃ k : Nat, k ≤ m ∧ y = .int .u64 ((x % 256 ^ m / 256 ^ k : Nat) : Int) ∧ i = .int .i64 ((k : Int) - 1)) (fun _ i => (intOf i + 1).toNat)
  case atStart => exact ⟨m, Nat.le_refl _, by rw [Nat.div_eq_of_lt (Nat.mod_lt _ (Nat.pow_pos (by decide)))]; rfl, rfl⟩
  case round =>
    obtain ⟨k, hk, rfl, rfl⟩ := hrel
    rcases k with _ | k
    · have e0 : x % 256 ^ m / 256 ^ 0 = x % 256 ^ m := by simp
      rw [e0]
      have hq8 : ¬ n < 8 → x % 256 ^ m = x := by
        intro h
        rw [hn8 (by omega)]
        exact Nat.mod_eq_of_lt (Nat.lt_of_lt_of_eq hx (by decide))
      generalize hq : x % 256 ^ m = q at *
      clear hq e0
      go_wp2_with fail
      refine (ref_fixed_any x n _ hx n1).mono ?_; rintro e w2 ⟨A2, c2, rfl, ho2, hb2⟩
      rw [hm] at ho2
      rw [hm]
      have HO2 := Lib.hid (own_bytes ho2)
      clear ho2
      go_wp2_with fail
      refine (same_any _ _ _ _ _ _ _ _ _ _ _ (Rp.sl_below HO.out hb2 (fun k hk => (hlt1 k hk.symm).2)) HO2.out).mono ?_; rintro e w3 ⟨rfl, rfl⟩
      rw [beq_self_eq_true]
      have hbel := hb.trans (hb2.mono hb.size)
      by_cases hlt8 : n < 8
      · go_wp2_with fail
        refine (live_any _).mono ?_; rintro e w4 ⟨rfl, hb4⟩
        go_wp2_with fail
        go_ret
        exact ⟨rfl, hbel.trans (hb4.mono hbel.size)⟩
      · obtain rfl := hq8 (by omega)
        go_wp2_with fail
        refine (live_any _).mono ?_; rintro e w4 ⟨rfl, hb4⟩
        go_wp2_with fail
        go_ret
        exact ⟨rfl, hbel.trans (hb4.mono hbel.size)⟩
    · have hs := Lib.hid (up_step x m k (by omega))
      have hl1 := up_lt x m k h8
      have hl2 := up_lt x m (k + 1) h8
      generalize hq : x % 256 ^ m / 256 ^ (k + 1) = q at *
      generalize hr : x % 256 ^ m / 256 ^ k = r at *
      have hbyte : ∃ u : UInt8, (low m x)[k]? = some u ∧ u.toNat = x / 256 ^ k % 256 := ⟨_, low_get x m k (by omega), by rw [UInt8.toNat_ofNat']⟩
      obtain ⟨u, hu, hue⟩ := hbyte
      have hklt : k < m := by omega
      obtain ⟨b, off, u', rfl, hDb, hu', hc⟩ := bytes_at HO.out hklt
      rw [hu] at hu'
      injection hu' with hu'
      subst hu'
      rw [← hue] at hs
      clear hue
      have hub : u.toNat < 256 := u.toNat_lt
      go_wp2_with fail
      go_round
      case rel =>
        refine ⟨k, by omega, ?_, rfl⟩
        rw [hr]
        have h1 := hs.out
        rw [Go.IntWalk.u64_in (256 * (q : Int)) (by omega), Go.IntWalk.u64_in _ (by omega), h1]
        simp
      case measure => simp [intOf]
end Go.Proofs.Ytjgcgedjpppfmaa
