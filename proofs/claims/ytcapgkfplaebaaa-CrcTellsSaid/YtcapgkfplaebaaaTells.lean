/- A burst is told: the walk of CrcTells. -/
import Derived.Test.YtcapgkfplaebaaaTurn
import Derived.Test.YtcapgkfplaebaaaTellsM
namespace Go.Proofs.Ytcapgkfplaebaaa
open Go.ChangeShapes Go.WideShapes Go.ChangeAt Go.RowKit
open Crc
set_option linter.unusedVariables false

theorem tells_own {w : World} {b : Nat} {e : TypeId} {v : Value} {n : Nat} {d : BitVec 32} {q : Int} {l : List UInt8} (h : w.ownsRow b e 1 v n ((turnL d q 0 l).map bv)) :
    ∃ x : List UInt8, w.ownsRow b e 1 v n (x.map bv) ∧ (sum x = sum l → x = l) := ⟨_, h, tells d q l⟩
theorem tells_walk (A : Option Addr) (n c : Nat) (l : List UInt8) (pos : Int) (dg : Int) (w : World) (hl : rpU8.sl w w.heap.size A n c l) (p0 : -9223372036854775808 ≤ pos) (p1 : pos ≤ 9223372036854775807) (h0 : 0 ≤ dg) (h1' : dg ≤ 4294967295) :
    Calls Try.prog 3 #[.slice A n c, .int .i64 pos, .int .u32 dg] w fun e w' => e = .returned (.bool true) ∧ Below w.heap.size w w' := by
  obtain ⟨hlen, hnc, hcm⟩ := Rp.sl_len hl
  unfold maxLen at hcm
  by_cases hbig : 500 < n
  · have hb : decide ((500 : Int) < (n : Int)) = true := by simp; omega
    clear hl hlen
    go_enter Try.func3, Try.ntmps3
    go_wp2_with (go_at_call 8; refine (live_any _).mono ?_; rintro e w' ⟨rfl, hb⟩)
    go_ret
    exact ⟨rfl, hb⟩
  · have hb : decide ((500 : Int) < (n : Int)) = false := by simp; omega
    obtain ⟨d, rfl⟩ : ∃ d : BitVec 32, dg = (d.toNat : Int) := ⟨BitVec.ofInt 32 dg, by rw [BitVec.toNat_ofInt]; omega⟩
    have HL := Lib.hid hlen
    have HSL := Lib.hid hl
    clear hlen hl hcm hnc
    go_enter Try.func3, Try.ntmps3
    go_wp2_with fail
    all_goals
      refine (ref_turn_any A n c l _ d w.heap.size _ HSL.out (Nat.le_refl _) (by omega) (by omega) (by omega)).mono ?_
      rintro e w1 ⟨A1, c1, rfl, hown, hb1⟩
      obtain ⟨x, hown, ht⟩ := tells_own hown
      have hx := own_bytes hown
      have hs1 := Rp.sl_below HSL.out hb1 (Nat.le_refl _)
      have HX := Lib.hid hx
      have HS1 := Lib.hid hs1
      have hfin : (((sum x).toNat : Int) == ((sum l).toNat : Int)) = (x == l) := by
        rw [Bool.eq_iff_iff]
        simp only [beq_iff_eq]
        constructor
        · intro h
          exact ht (BitVec.toNat_inj.1 (by omega))
        · intro h; rw [h]
      have HF := Lib.hid hfin
      clear hfin ht hx hs1 hown
      go_wp2_with fail
      refine (sum_any _ _ _ _ _ _ HX.out (Nat.le_refl _)).mono ?_; rintro e w2 ⟨rfl, hb2⟩
      go_wp2_with fail
      refine (sum_any _ _ _ _ _ _ (Rp.sl_below HS1.out (hb2.mono hb1.size) (Nat.le_refl _)) (Nat.le_trans hb1.size hb2.size)).mono ?_; rintro e w3 ⟨rfl, hb3⟩
      have hb13 : Below w1.heap.size w1 w3 := hb2.trans (hb3.mono hb2.size)
      have hX3 := Rp.sl_below HX.out hb13 (Nat.le_refl _)
      have hL3 := Rp.sl_more (Rp.sl_below HS1.out (hb13.mono hb1.size) (Nat.le_refl _)) hb1.size
      have HX3 := Lib.hid hX3
      have HL3 := Lib.hid hL3
      clear hX3 hL3
      go_wp2_with fail
      refine (same_any _ _ _ _ _ _ _ _ _ _ HX3.out HL3.out).mono ?_; rintro e w4 ⟨rfl, rfl⟩
      have hf := HF.out
      go_wp2_with fail
      refine (live_any _).mono ?_; rintro e w5 ⟨rfl, hb5⟩
      clear hf
      go_wp2_with fail
      go_ret
      exact ⟨rfl, hb1.trans ((hb13.trans (hb5.mono hb13.size)).mono hb1.size)⟩
end Go.Proofs.Ytcapgkfplaebaaa
