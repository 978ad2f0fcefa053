/- The calls of PenPlays as plain data; whether they are too long. -/
import Derived.Test.YtjgcgedjpppfmaaPlays2
namespace Go.Proofs.Ytjgcgedjpppfmaa
open Go.ChangeShapes Go.WideShapes Go.ChangeAt Go.RowKit
set_option linter.unusedVariables false

abbrev Do := Int × Int × Nat × List UInt8
abbrev rpDo : Rp Do := rpPair rpInt (rpPair rpInt (rpPair rpU64 (rpSlice rpU8)))
theorem do_at {w : World} {D : Dom} {A : Option Addr} {n c : Nat} {l : List Do} (h : rpDo.sl w D A n c l) {k : Nat} (hk : k < n) :
    ∃ b off kd m x bb A' c', A = some ⟨b, off, none⟩ ∧ D b ∧ l[k]? = some (kd, m, x, bb) ∧ w.cell? ⟨b, off + k * 4, none⟩ = some (.int .i64 kd) ∧ w.cell? ⟨b, off + k * 4 + 1, none⟩ = some (.int .i64 m) ∧ w.cell? ⟨b, off + k * 4 + 2, none⟩ = some (.int .u64 (x : Int)) ∧
      w.cell? ⟨b, off + k * 4 + 3, none⟩ = some (.slice A' bb.length c') ∧ rpU8.sl w D A' bb.length c' bb ∧ x < 18446744073709551616 ∧ (-9223372036854775808 ≤ m ∧ m < 9223372036854775808) ∧ (-9223372036854775808 ≤ kd ∧ kd < 9223372036854775808) := by
  obtain ⟨b, off, ⟨kd, m, x, bb⟩, cs, hA, hb, hx, hc, hg⟩ := Rp.sl_at h hk
  obtain ⟨cs1, cs2, rfl, ⟨rfl, q1⟩, cs3, cs4, rfl, ⟨rfl, q2⟩, cs5, cs6, rfl, ⟨rfl, q3⟩, h4⟩ := hc
  obtain ⟨A', c', rfl, hs⟩ := Rp.sl_form h4
  have e : rpDo.size = 4 := by kernel_rfl
  rw [e] at hg
  exact ⟨b, off, kd, m, x, bb, A', c', hA, hb, hx, by simpa using hg 0 _ rfl, hg 1 _ rfl, hg 2 _ rfl, hg 3 _ rfl, hs, q3, q2, q1⟩

theorem long_any (A : Option Addr) (n c : Nat) (l : List Do) (D : Dom) (w : World) (hl : rpDo.sl w D A n c l) :
    Calls Try.prog 20 #[.slice A n c] w fun e w' => ∃ t, e = .returned (.bool t) ∧ (t = false → n ≤ 100 ∧ ∀ (j : Nat) x, l[j]? = some x → x.2.2.2.length ≤ 200) ∧ w = w' := by
  obtain ⟨hlen, hnc, hcm⟩ := Rp.sl_len hl
  unfold maxLen at hcm
  have HL := Lib.hid hl
  have HN := Lib.hid hlen
  clear hl hlen
  go_enter Try.func20, Try.ntmps20
  go_wp2_with fail
  go_loop [3] (fun i => ∃ k : Nat, k ≤ n ∧ k ≤ 100 ∧ i = .int .i64 k ∧ Hid (∀ j x, j < k → l[j]? = some x → x.2.2.2.length ≤ 200)) (fun i => n - (intOf i).toNat)
  case atStart => exact ⟨0, by omega, by omega, rfl, fun j x h => by omega⟩
  case round =>
    obtain ⟨k, hk, hk100, rfl, hsh⟩ := hrel
    by_cases hin : k < n ∧ k < 100
    · obtain ⟨b, off, kd, m, x, bb, A', c', rfl, hb, hx, g0, g1, g2, g3, hrow, _, _, _⟩ := do_at HL.out hin.1
      have hin1 := hin.1
      have hin2 := hin.2
      have hd1 : decide ((k : Int) < (n : Int)) = true := by simp; omega
      have hd2 : decide ((k : Int) < 100) = true := by simp; omega
      obtain ⟨_, hxc, hxm⟩ := Rp.sl_len hrow
      clear hrow g0 g1 g2
      by_cases hlong : 200 < bb.length
      · have hd3 : decide ((200 : Int) < (bb.length : Int)) = true := by simp; omega
        go_wp2_with fail
        go_ret
        exact .inr ⟨rfl, rfl⟩
      · have hd3 : decide ((200 : Int) < (bb.length : Int)) = false := by simp; omega
        go_wp2_with fail
        go_round
        case rel =>
          refine ⟨k + 1, by omega, by omega, by go_num, fun j y hj hy => ?_⟩
          rcases Nat.lt_or_ge j k with h | h
          · exact hsh.out j y h hy
          · obtain rfl : j = k := by omega
            rw [hx] at hy
            injection hy with hy
            subst hy
            show bb.length ≤ 200
            omega
        case measure => simp [intOf]; omega
    · by_cases hmany : 100 < n
      · obtain rfl : k = 100 := by omega
        have hd : decide ((100 : Int) < (n : Int)) = true := by simp; omega
        go_wp2_with fail
        go_ret
        exact .inr ⟨rfl, rfl⟩
      · obtain rfl : k = n := by omega
        have hd : decide ((100 : Int) < (k : Int)) = false := by simp; omega
        go_wp2_with fail
        go_ret
        exact .inl ⟨rfl, fun j x1 x2 x3 x4 hx => hsh.out j (x1, x2, x3, x4) (by
          rcases Nat.lt_or_ge j k with h | h
          · exact h
          · have := HN.out
            simp [List.getElem?_eq_none (show l.length ≤ j by omega)] at hx) hx, rfl⟩
end Go.Proofs.Ytjgcgedjpppfmaa
