/- chain.Key, and the reference's. -/
import Derived.Test.YtkffgmpkpafkmaaChM
import Derived.Test.YtkffgmpkpafkmaaStep
import Derived.Test.YtkffgmpkpafkmaaRows
import Derived.IntWalk
import Derived.BigQuiet
namespace Go.Proofs.Ytkffgmpkpafkmaa
open Go.ChangeShapes Go.WideShapes Go.ChangeAt Go.RowKit
set_option linter.unusedVariables false
theorem byt_at {w : World} {D : Dom} {A : Option Addr} {n c : Nat} {l : List UInt8} (h : rpU8.sl w D A n c l) {k : Nat} (hk : k < n) :
    ∃ b off, A = some ⟨b, off, none⟩ ∧ D b ∧ w.cell? ⟨b, off + k, none⟩ = some (.int .u8 (byt l k : Int)) := by
  obtain ⟨b, off, x, cs, hA, hb, hx, hc, hg⟩ := Rp.sl_at h hk
  obtain rfl := hc
  have := hg 0 _ rfl
  refine ⟨b, off, hA, hb, ?_⟩
  unfold byt
  rw [hx]
  simpa [rpU8] using this
/-- The first k bytes of a key. -/
def kpre (l : List UInt8) (q : Nat) : Nat → Nat
  | 0 => 0
  | 1 => byt l q
  | 2 => byt l q + 256 * byt l (q + 1)
  | 3 => byt l q + 256 * byt l (q + 1) + 65536 * byt l (q + 2)
  | _ => keyAt l q
theorem or_key {x y s : Nat} (hx : x < 2 ^ s) (hs : s ≤ 24) (hy : y < 256) : bits .or .u32 (x : Int) ((y * 2 ^ s : Nat) : Int) = ((x + y * 2 ^ s : Nat) : Int) := by
  have h1 : (2 : Nat) ^ s ≤ 2 ^ 24 := Nat.pow_le_pow_right (by omega) hs
  have h2 : y * 2 ^ s ≤ 255 * 2 ^ 24 := Nat.mul_le_mul (by omega) h1
  rw [u32_or_nat x (y * 2 ^ s) (by omega) (by omega), or_apart x y s hx]
theorem or_key0 {y z : Nat} (hy : y < 256) (hz : y = z) : bits .or .u32 0 (y : Int) = (z : Int) := by
  have := or_key (x := 0) (s := 0) (by decide) (by decide) hy
  simpa [hz] using this
theorem or_key1 {x y z : Nat} (hx : x < 256) (hy : y < 256) (hz : x + y * 256 = z) : bits .or .u32 (x : Int) ((y : Int) * 256) = (z : Int) := by
  rw [show (y : Int) * 256 = ((y * 256 : Nat) : Int) by simp, ← hz]; exact or_key (s := 8) hx (by decide) hy
theorem or_key2 {x y z : Nat} (hx : x < 65536) (hy : y < 256) (hz : x + y * 65536 = z) : bits .or .u32 (x : Int) ((y : Int) * 65536) = (z : Int) := by
  rw [show (y : Int) * 65536 = ((y * 65536 : Nat) : Int) by simp, ← hz]; exact or_key (s := 16) hx (by decide) hy
theorem or_key3 {x y z : Nat} (hx : x < 16777216) (hy : y < 256) (hz : x + y * 16777216 = z) : bits .or .u32 (x : Int) ((y : Int) * 16777216) = (z : Int) := by
  rw [show (y : Int) * 16777216 = ((y * 16777216 : Nat) : Int) by simp, ← hz]; exact or_key (s := 24) hx (by decide) hy
section
variable {D : Dom} {A : Option Addr} {n c : Nat} {l : List UInt8} {w : World}
theorem key_bad (at_ : Int) (hl : rpU8.sl w D A n c l) (h0 : -9223372036854775808 ≤ at_) (h1 : at_ ≤ 9223372036854775807) (hno : at_ < 0 ∨ (n : Int) < at_ + 4) :
    Calls Try.prog 11 #[.slice A n c, .int .i64 at_] w fun e w' => e = .returned (.tuple #[.int .u32 0, .bool false]) ∧ w = w' := by
  obtain ⟨hlen, hnc, hcm⟩ := Rp.sl_len hl
  unfold maxLen at hcm
  rcases (show at_ < 0 ∨ (0 ≤ at_ ∧ (n : Int) - 4 < at_) by omega) with hc | ⟨hc, hc2⟩
  all_goals
    clear hno hlen
    go_enter Try.func11, Try.ntmps11
    go_wp2_with fail
    go_ret2
    exact ⟨rfl, rfl⟩
theorem key_ok (q : Nat) (hl : rpU8.sl w D A n c l) (hq : q + 4 ≤ n) :
    Calls Try.prog 11 #[.slice A n c, .int .i64 (q : Int)] w fun e w' => e = .returned (.tuple #[.int .u32 (keyAt l q : Int), .bool true]) ∧ w = w' := by
  obtain ⟨hlen, hnc, hcm⟩ := Rp.sl_len hl
  unfold maxLen at hcm
  obtain ⟨b, off, rfl, hb, g0⟩ := byt_at hl (k := q) (by omega)
  obtain ⟨_, _, he, _, g1⟩ := byt_at hl (k := q + 1) (by omega)
  cases he
  obtain ⟨_, _, he, _, g2⟩ := byt_at hl (k := q + 2) (by omega)
  cases he
  obtain ⟨_, _, he, _, g3⟩ := byt_at hl (k := q + 3) (by omega)
  cases he
  have hq0 : (0 : Int) ≤ (q : Int) := by omega
  have hq1 : (q : Int) ≤ (n : Int) - 4 := by omega
  clear hlen hl
  go_enter Try.func11, Try.ntmps11
  go_wp2_with fail
  go_loop [6, 17] (fun x i => ∃ k : Nat, k ≤ 4 ∧ i = .int .i64 k ∧ x = .int .u32 (kpre l q k : Int)) (fun _ i => 4 - (intOf i).toNat)
  case atStart => exact ⟨0, by omega, rfl, rfl⟩
  case round =>
    obtain ⟨k, hk, rfl, rfl⟩ := hrel
    have y0 := byt_lt l q
    have y1 := byt_lt l (q + 1)
    have y2 := byt_lt l (q + 2)
    have y3 := byt_lt l (q + 3)
    rcases (show k = 0 ∨ k = 1 ∨ k = 2 ∨ k = 3 ∨ k = 4 by omega) with rfl | rfl | rfl | rfl | rfl
    all_goals go_wp2_with fail
    · exact ⟨⟨1, by omega, rfl, congrArg (Value.int .u32) (or_key0 y0 rfl)⟩, by simp [intOf]⟩
    · exact ⟨⟨2, by omega, rfl, congrArg (Value.int .u32) (or_key1 y0 y1 (by simp only [kpre]; omega))⟩, by simp [intOf]⟩
    · exact ⟨⟨3, by omega, rfl, congrArg (Value.int .u32) (or_key2 (by simp only [kpre]; omega) y2 (by simp only [kpre]; omega))⟩, by simp [intOf]⟩
    · exact ⟨⟨4, by omega, rfl, congrArg (Value.int .u32) (or_key3 (by simp only [kpre]; omega) y3 (by simp only [kpre, keyAt]; omega))⟩, by simp [intOf]⟩
    · go_ret2
      exact ⟨rfl, rfl⟩
theorem rkey_out (i k : Int) (hl : rpU8.sl w D A n c l) (hi0 : -9223372036854775808 ≤ i) (hi1 : i ≤ 9223372036854775807) (hk0 : -9223372036854775808 ≤ k) (hk1 : k ≤ 9223372036854775807) (hno : i < 0 ∨ k < 0 ∨ (n : Int) < i + 4 ∨ (n : Int) < k + 4) :
    Calls Try.prog 12 #[.slice A n c, .int .i64 i, .int .i64 k] w fun e w' => e = .returned (.bool false) ∧ Below w.heap.size w w' := by
  obtain ⟨hlen, hnc, hcm⟩ := Rp.sl_len hl
  unfold maxLen at hcm
  rcases (show i < 0 ∨ (0 ≤ i ∧ k < 0) ∨ (0 ≤ i ∧ 0 ≤ k ∧ (n : Int) - 4 < i) ∨ (0 ≤ i ∧ 0 ≤ k ∧ i ≤ (n : Int) - 4 ∧ (n : Int) - 4 < k) by omega) with h1 | ⟨h1, h2⟩ | ⟨h1, h2, h3⟩ | ⟨h1, h2, h3, h4⟩
  all_goals
    clear hno hlen hl
    go_enter Try.func12, Try.ntmps12
    go_wp2_with fail
    go_ret
    exact ⟨rfl, ⟨rfl, rfl, rfl, Nat.le_refl _, fun _ _ => rfl⟩⟩
set_option maxRecDepth 100000 in
set_option maxHeartbeats 4000000 in
theorem rkey_in (i k : Nat) (hl : rpU8.sl w D A n c l) (hi : i + 4 ≤ n) (hk : k + 4 ≤ n) :
    Calls Try.prog 12 #[.slice A n c, .int .i64 (i : Int), .int .i64 (k : Int)] w fun e w' => e = .returned (.bool (decide (keyAt l i = keyAt l k))) ∧ Below w.heap.size w w' := by
  obtain ⟨hlen, hnc, hcm⟩ := Rp.sl_len hl
  unfold maxLen at hcm
  obtain ⟨b, off, rfl, hb, g0⟩ := byt_at hl (k := i) (by omega)
  obtain ⟨_, _, he, _, g1⟩ := byt_at hl (k := i + 1) (by omega)
  cases he
  obtain ⟨_, _, he, _, g2⟩ := byt_at hl (k := i + 2) (by omega)
  cases he
  obtain ⟨_, _, he, _, g3⟩ := byt_at hl (k := i + 3) (by omega)
  cases he
  obtain ⟨_, _, he, _, k0⟩ := byt_at hl (k := k) (by omega)
  cases he
  obtain ⟨_, _, he, _, k1⟩ := byt_at hl (k := k + 1) (by omega)
  cases he
  obtain ⟨_, _, he, _, k2⟩ := byt_at hl (k := k + 2) (by omega)
  cases he
  obtain ⟨_, _, he, _, k3⟩ := byt_at hl (k := k + 3) (by omega)
  cases he
  have a0 : (0 : Int) ≤ (i : Int) := by omega
  have a1 : (0 : Int) ≤ (k : Int) := by omega
  have a2 : (i : Int) ≤ (n : Int) - 4 := by omega
  have a3 : (k : Int) ≤ (n : Int) - 4 := by omega
  have hke := keyAt_eq l i k
  obtain ⟨x0, hx0⟩ : ∃ x0, x0 = byt l i := ⟨_, rfl⟩
  obtain ⟨x1, hx1⟩ : ∃ x1, x1 = byt l (i + 1) := ⟨_, rfl⟩
  obtain ⟨x2, hx2⟩ : ∃ x2, x2 = byt l (i + 2) := ⟨_, rfl⟩
  obtain ⟨x3, hx3⟩ : ∃ x3, x3 = byt l (i + 3) := ⟨_, rfl⟩
  obtain ⟨z0, hz0⟩ : ∃ z0, z0 = byt l k := ⟨_, rfl⟩
  obtain ⟨z1, hz1⟩ : ∃ z1, z1 = byt l (k + 1) := ⟨_, rfl⟩
  obtain ⟨z2, hz2⟩ : ∃ z2, z2 = byt l (k + 2) := ⟨_, rfl⟩
  obtain ⟨z3, hz3⟩ : ∃ z3, z3 = byt l (k + 3) := ⟨_, rfl⟩
  rw [← hx0] at g0 hke; rw [← hx1] at g1 hke; rw [← hx2] at g2 hke; rw [← hx3] at g3 hke
  rw [← hz0] at k0 hke; rw [← hz1] at k1 hke; rw [← hz2] at k2 hke; rw [← hz3] at k3 hke
  obtain ⟨r, hr⟩ : ∃ r : Bool, r = decide (keyAt l i = keyAt l k) := ⟨_, rfl⟩
  rw [← hr]
  have hre : r = decide (x0 = z0 ∧ x1 = z1 ∧ x2 = z2 ∧ x3 = z3) := by rw [hr]; simp only [hke]
  have HR := Lib.hid hre
  clear hlen hl hke hx0 hx1 hx2 hx3 hz0 hz1 hz2 hz3 hr hre hi hk
  rcases (show x0 ≠ z0 ∨ (x0 = z0 ∧ x1 ≠ z1) ∨ (x0 = z0 ∧ x1 = z1 ∧ x2 ≠ z2) ∨ (x0 = z0 ∧ x1 = z1 ∧ x2 = z2 ∧ x3 ≠ z3) ∨ (x0 = z0 ∧ x1 = z1 ∧ x2 = z2 ∧ x3 = z3) by omega) with h | ⟨h, h'⟩ | ⟨h, h', h''⟩ | ⟨h, h', h'', h3⟩ | ⟨h, h', h'', h3⟩
  · have q0 : ((x0 : Int) == (z0 : Int)) = false := by simp; omega
    obtain rfl : r = false := by rw [HR.out]; simp [h]
    clear h
    go_enter Try.func12, Try.ntmps12
    go_wp2_with fail
    go_quiet (fail)
    go_wp2_with fail
    go_ret
    exact ⟨rfl, ⟨rfl, rfl, rfl, Nat.le_refl _, fun _ _ => rfl⟩⟩
  · have q0 : ((x0 : Int) == (z0 : Int)) = true := by simp; omega
    have q1 : ((x1 : Int) == (z1 : Int)) = false := by simp; omega
    obtain rfl : r = false := by rw [HR.out]; simp [h']
    clear h h'
    go_enter Try.func12, Try.ntmps12
    go_wp2_with fail
    go_quiet (fail)
    go_wp2_with fail
    go_ret
    exact ⟨rfl, ⟨rfl, rfl, rfl, Nat.le_refl _, fun _ _ => rfl⟩⟩
  · have q0 : ((x0 : Int) == (z0 : Int)) = true := by simp; omega
    have q1 : ((x1 : Int) == (z1 : Int)) = true := by simp; omega
    have q2 : ((x2 : Int) == (z2 : Int)) = false := by simp; omega
    obtain rfl : r = false := by rw [HR.out]; simp [h'']
    clear h h' h''
    go_enter Try.func12, Try.ntmps12
    go_wp2_with fail
    go_quiet (fail)
    go_wp2_with fail
    go_ret
    exact ⟨rfl, ⟨rfl, rfl, rfl, Nat.le_refl _, fun _ _ => rfl⟩⟩
  · have q0 : ((x0 : Int) == (z0 : Int)) = true := by simp; omega
    have q1 : ((x1 : Int) == (z1 : Int)) = true := by simp; omega
    have q2 : ((x2 : Int) == (z2 : Int)) = true := by simp; omega
    have q3 : ((x3 : Int) == (z3 : Int)) = false := by simp; omega
    obtain rfl : r = false := by rw [HR.out]; simp [h3]
    clear h h' h'' h3
    go_enter Try.func12, Try.ntmps12
    go_wp2_with fail
    go_quiet (fail)
    go_wp2_with fail
    go_ret
    exact ⟨rfl, ⟨rfl, rfl, rfl, Nat.le_refl _, fun _ _ => rfl⟩⟩
  · have q0 : ((x0 : Int) == (z0 : Int)) = true := by simp; omega
    have q1 : ((x1 : Int) == (z1 : Int)) = true := by simp; omega
    have q2 : ((x2 : Int) == (z2 : Int)) = true := by simp; omega
    have q3 : ((x3 : Int) == (z3 : Int)) = true := by simp; omega
    obtain rfl : r = true := by rw [HR.out]; simp [h, h', h'', h3]
    clear h h' h'' h3
    go_enter Try.func12, Try.ntmps12
    go_wp2_with fail
    go_quiet (fail)
    go_wp2_with fail
    go_ret
    exact ⟨rfl, ⟨rfl, rfl, rfl, Nat.le_refl _, fun _ _ => rfl⟩⟩
/-- The reference's Key. -/
theorem rkey_any (i k : Int) (hl : rpU8.sl w D A n c l) (hi0 : -9223372036854775808 ≤ i) (hi1 : i ≤ 9223372036854775807) (hk0 : -9223372036854775808 ≤ k) (hk1 : k ≤ 9223372036854775807) :
    Calls Try.prog 12 #[.slice A n c, .int .i64 i, .int .i64 k] w fun e w' => e = .returned (.bool (sameAt l i k)) ∧ Below w.heap.size w w' := by
  have hlen := (Rp.sl_len hl).1
  by_cases hno : i < 0 ∨ k < 0 ∨ (n : Int) < i + 4 ∨ (n : Int) < k + 4
  · rw [show sameAt l i k = false by
      unfold sameAt
      rcases hno with h | h | h | h
      · rw [decide_eq_false (show ¬ 0 ≤ i by omega)]; rfl
      · rw [decide_eq_false (show ¬ 0 ≤ k by omega)]; simp
      · rw [decide_eq_false (show ¬ i + 4 ≤ (l.length : Int) by omega)]; simp
      · rw [decide_eq_false (show ¬ k + 4 ≤ (l.length : Int) by omega)]; simp]
    exact rkey_out i k hl hi0 hi1 hk0 hk1 hno
  · obtain ⟨i', rfl⟩ : ∃ i' : Nat, i = i' := ⟨i.toNat, by omega⟩
    obtain ⟨k', rfl⟩ : ∃ k' : Nat, k = k' := ⟨k.toNat, by omega⟩
    have := rkey_in i' k' hl (by omega) (by omega)
    rw [show sameAt l (i' : Int) (k' : Int) = decide (keyAt l i' = keyAt l k') by
      rw [sameAt_nat, decide_eq_true (show k' + 4 ≤ l.length by omega), Bool.true_and]
      unfold hit
      rw [decide_eq_true (show i' + 4 ≤ l.length by omega), Bool.true_and]]
    exact this
end
end Go.Proofs.Ytkffgmpkpafkmaa
