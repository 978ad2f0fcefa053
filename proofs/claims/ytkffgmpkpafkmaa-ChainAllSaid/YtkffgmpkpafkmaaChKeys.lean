/- ChainKeys. -/
import Derived.Test.YtkffgmpkpafkmaaChLv
namespace Go.Proofs.Ytkffgmpkpafkmaa
open Go.ChangeShapes Go.WideShapes Go.ChangeAt Go.RowKit Go.Maps
set_option linter.unusedVariables false
theorem ofDrew {w w' : World} {n : Nat} (h : Below (w.drewN n).heap.size (w.drewN n) w') : Below w.heap.size w w' := ⟨h.os, h.tape, h.output, h.size, h.block⟩
section
variable {D : Dom} {A : Option Addr} {n c : Nat} {l : List UInt8} {w : World}
set_option maxRecDepth 100000 in
set_option maxHeartbeats 4000000 in
theorem ckeys_long (i k : Int) (hcm : c ≤ 2 ^ 63 - 1) (hnc : n ≤ c) (hlen : 300 < n) :
    Calls Try.prog 3 #[.slice A n c, .int .i64 i, .int .i64 k] w fun e w' => e = .returned (.bool true) ∧ Below w.heap.size w w' := by
  have hd : decide ((300 : Int) < (n : Int)) = true := by simp; omega
  go_enter Try.func3, Try.ntmps3
  go_wp2_with fail
  refine (chlive_any _).mono ?_; rintro e w1 ⟨rfl, hb⟩
  go_wp2_with fail
  go_ret
  exact ⟨rfl, hb⟩
set_option maxRecDepth 100000 in
set_option maxHeartbeats 4000000 in
theorem ckeys_bad (i k : Int) (hl : rpU8.sl w D A n c l) (hlen : n ≤ 300) (i0 : -9223372036854775808 ≤ i) (i1 : i ≤ 9223372036854775807) (k0 : -9223372036854775808 ≤ k) (k1 : k ≤ 9223372036854775807) (hi : i < 0 ∨ (n : Int) < i + 4) :
    Calls Try.prog 3 #[.slice A n c, .int .i64 i, .int .i64 k] w fun e w' => e = .returned (.bool true) ∧ Below w.heap.size w w' := by
  obtain ⟨_, hnc, hcm⟩ := Rp.sl_len hl
  unfold maxLen at hcm
  have HK1 := Lib.hid (key_bad i hl i0 i1 hi)
  have hd : decide ((300 : Int) < (n : Int)) = false := by simp; omega
  obtain ⟨y, cb, hk2⟩ : ∃ (y : Nat) (cb : Bool), Calls Try.prog 11 #[.slice A n c, .int .i64 k] w fun e w' => e = .returned (.tuple #[.int .u32 (y : Int), .bool cb]) ∧ w = w' := by
    by_cases hk : k < 0 ∨ (n : Int) < k + 4
    · exact ⟨0, false, key_bad k hl k0 k1 hk⟩
    · obtain ⟨q, rfl⟩ : ∃ q : Nat, k = q := ⟨k.toNat, by omega⟩
      exact ⟨_, true, key_ok q hl (by omega)⟩
  have HK2 := Lib.hid hk2
  rcases (show i < 0 ∨ (0 ≤ i ∧ (n : Int) - 4 < i) by omega) with h | ⟨h, h2⟩
  all_goals
    clear hk2 hi hl
    go_enter Try.func3, Try.ntmps3
    go_wp2_with fail
    refine HK1.out.mono ?_; rintro e w1 ⟨rfl, rfl⟩
    go_wp2_with fail
    refine HK2.out.mono ?_; rintro e w1 ⟨rfl, rfl⟩
    go_wp2_with fail
    go_quiet (fail)
    go_wp2_with fail
    refine (chlive_any _).mono ?_; rintro e w1 ⟨rfl, hb⟩
    go_wp2_with fail
    go_ret
    exact ⟨rfl, ofDrew hb⟩
set_option maxRecDepth 100000 in
set_option maxHeartbeats 4000000 in
theorem ckeys_ok (i : Nat) (k : Int) (hl : rpU8.sl w D A n c l) (hD : ∀ k, D k → k < w.heap.size) (hlen : n ≤ 300) (hi : i + 4 ≤ n) (k0 : -9223372036854775808 ≤ k) (k1 : k ≤ 9223372036854775807) :
    Calls Try.prog 3 #[.slice A n c, .int .i64 (i : Int), .int .i64 k] w fun e w' => e = .returned (.bool true) ∧ Below w.heap.size w w' := by
  obtain ⟨_, hnc, hcm⟩ := Rp.sl_len hl
  unfold maxLen at hcm
  have hk1 := key_ok i hl hi
  have hrk := fun (q : Nat) (hq : q + 4 ≤ n) => rkey_in i q hl hi hq
  have hkb := fun (hk : k < 0 ∨ (n : Int) < k + 4) => key_bad k hl k0 k1 hk
  have hko := fun (q : Nat) (hq : q + 4 ≤ n) => key_ok q hl hq
  obtain ⟨b, off, rfl, hb, g0⟩ := byt_at hl (k := i) (by omega)
  obtain ⟨_, _, he, _, g1⟩ := byt_at hl (k := i + 1) (by omega)
  cases he
  obtain ⟨_, _, he, _, g2⟩ := byt_at hl (k := i + 2) (by omega)
  cases he
  obtain ⟨_, _, he, _, g3⟩ := byt_at hl (k := i + 3) (by omega)
  cases he
  have hbl := hD b hb
  have hd : decide ((300 : Int) < (n : Int)) = false := by simp; omega
  have a0 : (0 : Int) ≤ (i : Int) := by omega
  have a2 : (i : Int) ≤ (n : Int) - 4 := by omega
  have y0 := byt_lt l i
  have y1 := byt_lt l (i + 1)
  have y2 := byt_lt l (i + 2)
  have y3 := byt_lt l (i + 3)
  obtain ⟨x0, hx0⟩ : ∃ x0, x0 = byt l i := ⟨_, rfl⟩
  obtain ⟨x1, hx1⟩ : ∃ x1, x1 = byt l (i + 1) := ⟨_, rfl⟩
  obtain ⟨x2, hx2⟩ : ∃ x2, x2 = byt l (i + 2) := ⟨_, rfl⟩
  obtain ⟨x3, hx3⟩ : ∃ x3, x3 = byt l (i + 3) := ⟨_, rfl⟩
  have hxx : keyAt l i = x0 + 256 * x1 + 65536 * x2 + 16777216 * x3 := by rw [hx0, hx1, hx2, hx3]; rfl
  obtain ⟨x, hx⟩ : ∃ x, x = keyAt l i := ⟨_, rfl⟩
  rw [← hx0] at g0 y0; rw [← hx1] at g1 y1; rw [← hx2] at g2 y2; rw [← hx3] at g3 y3
  rw [← hx] at hk1 hxx
  simp only [← hx] at hrk
  have HK1 := Lib.hid hk1
  have HXX := Lib.hid hxx
  have hne : ((x : Int) != (x0 : Int) + 256 * (x1 : Int) + 65536 * (x2 : Int) + 16777216 * (x3 : Int)) = false := by simp; omega
  clear hx0 hx1 hx2 hx3 hk1 hxx
  have G0 := Lib.hid g0
  have G1 := Lib.hid g1
  have G2 := Lib.hid g2
  have G3 := Lib.hid g3
  have Y := Lib.hid (And.intro y0 (And.intro y1 (And.intro y2 y3)))
  clear g0 g1 g2 g3 y0 y1 y2 y3
  by_cases hk : k < 0 ∨ (n : Int) < k + 4
  · have HK2 := Lib.hid (hkb hk)
    clear hkb hko hrk hk hl hx
    go_enter Try.func3, Try.ntmps3
    go_wp2_with fail
    refine HK1.out.mono ?_; rintro e w1 ⟨rfl, rfl⟩
    go_wp2_with fail
    refine HK2.out.mono ?_; rintro e w1 ⟨rfl, rfl⟩
    go_wp2_with fail
    have g0 := G0.out
    have g1 := G1.out
    have g2 := G2.out
    have g3 := G3.out
    obtain ⟨y0, y1, y2, y3⟩ := Y.out
    go_quiet (fail)
    go_wp2_with fail
    refine (chlive_any _).mono ?_; rintro e w1 ⟨rfl, hb⟩
    go_wp2_with fail
    go_ret
    exact ⟨rfl, ofDrew hb⟩
  · obtain ⟨q, rfl⟩ : ∃ q : Nat, k = q := ⟨k.toNat, by omega⟩
    have hko2 := hko q (by omega)
    have hrk2 := hrk q (by omega)
    obtain ⟨y, hy⟩ : ∃ y, y = keyAt l q := ⟨_, rfl⟩
    rw [← hy] at hko2 hrk2
    have HK2 := Lib.hid hko2
    have HRK := Lib.hid hrk2
    clear hkb hko hrk hk hl hx hy hko2 hrk2
    by_cases hxy : x = y
    · have hr : ((x : Int) == (y : Int)) = true := by simp; omega
      rw [decide_eq_true hxy] at HRK
      clear hxy
      go_enter Try.func3, Try.ntmps3
      go_wp2_with fail
      refine HK1.out.mono ?_; rintro e w1 ⟨rfl, rfl⟩
      go_wp2_with fail
      refine HK2.out.mono ?_; rintro e w1 ⟨rfl, rfl⟩
      go_wp2_with fail
      refine HRK.out.mono ?_; rintro e w2 ⟨rfl, hb2⟩
      have g0 := (hb2.cell (p := ⟨b, off + i, none⟩) hbl).trans G0.out
      have g1 := (hb2.cell (p := ⟨b, off + (i + 1), none⟩) hbl).trans G1.out
      have g2 := (hb2.cell (p := ⟨b, off + (i + 2), none⟩) hbl).trans G2.out
      have g3 := (hb2.cell (p := ⟨b, off + (i + 3), none⟩) hbl).trans G3.out
      have HB2 := Lib.hid hb2
      clear hb2
      go_wp2_with fail
      obtain ⟨y0, y1, y2, y3⟩ := Y.out
      go_quiet (fail)
      go_wp2_with fail
      refine (chlive_any _).mono ?_; rintro e w3 ⟨rfl, hb⟩
      go_wp2_with fail
      go_ret
      exact ⟨rfl, HB2.out.trans ((ofDrew hb).mono HB2.out.size)⟩
    · have hr : ((x : Int) == (y : Int)) = false := by simp; omega
      rw [decide_eq_false hxy] at HRK
      clear hxy
      go_enter Try.func3, Try.ntmps3
      go_wp2_with fail
      refine HK1.out.mono ?_; rintro e w1 ⟨rfl, rfl⟩
      go_wp2_with fail
      refine HK2.out.mono ?_; rintro e w1 ⟨rfl, rfl⟩
      go_wp2_with fail
      refine HRK.out.mono ?_; rintro e w2 ⟨rfl, hb2⟩
      have g0 := (hb2.cell (p := ⟨b, off + i, none⟩) hbl).trans G0.out
      have g1 := (hb2.cell (p := ⟨b, off + (i + 1), none⟩) hbl).trans G1.out
      have g2 := (hb2.cell (p := ⟨b, off + (i + 2), none⟩) hbl).trans G2.out
      have g3 := (hb2.cell (p := ⟨b, off + (i + 3), none⟩) hbl).trans G3.out
      have HB2 := Lib.hid hb2
      clear hb2
      go_wp2_with fail
      obtain ⟨y0, y1, y2, y3⟩ := Y.out
      go_quiet (fail)
      go_wp2_with fail
      refine (chlive_any _).mono ?_; rintro e w3 ⟨rfl, hb⟩
      go_wp2_with fail
      go_ret
      exact ⟨rfl, HB2.out.trans ((ofDrew hb).mono HB2.out.size)⟩
end
theorem chainKeys_sl (A : Option Addr) (n c : Nat) (l : List UInt8) (i k : Int) (w : World) (hl : rpU8.sl w (lt w.heap.size) A n c l) (i0 : -9223372036854775808 ≤ i) (i1 : i ≤ 9223372036854775807) (k0 : -9223372036854775808 ≤ k) (k1 : k ≤ 9223372036854775807) :
    Calls Try.prog 3 #[.slice A n c, .int .i64 i, .int .i64 k] w fun e w' => e = .returned (.bool true) ∧ Below w.heap.size w w' := by
  obtain ⟨_, hnc, hcm⟩ := Rp.sl_len hl
  unfold maxLen at hcm
  by_cases h : n ≤ 300
  · by_cases hi : i < 0 ∨ (n : Int) < i + 4
    · exact ckeys_bad i k hl h i0 i1 k0 k1 hi
    · obtain ⟨q, rfl⟩ : ∃ q : Nat, i = q := ⟨i.toNat, by omega⟩
      exact ckeys_ok q k hl (fun k hk => hk) h (by omega) k0 k1
  · exact ckeys_long i k hcm hnc (by omega)
end Go.Proofs.Ytkffgmpkpafkmaa
