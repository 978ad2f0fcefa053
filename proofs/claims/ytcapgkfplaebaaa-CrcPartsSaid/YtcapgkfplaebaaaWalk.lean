/- The walks of chapter 7's functions. -/
import Derived.Test.YtcapgkfplaebaaaCore
import Derived.Test.YtcapgkfplaebaaaMath
import Derived.Test.YtcapgkfplaebaaaRows
namespace Go.Proofs.Ytcapgkfplaebaaa
open Go.ChangeShapes Go.WideShapes Go.ChangeAt Go.RowKit
open Crc

theorem bits_xor32 (a b : BitVec 32) : bits .xor .u32 (a.toNat : Int) (b.toNat : Int) = ((a ^^^ b).toNat : Int) := by
  rw [u32_xor_nat _ _ a.isLt b.isLt, BitVec.toNat_xor]
theorem bits_and32 (a b : BitVec 32) : bits .and .u32 (a.toNat : Int) (b.toNat : Int) = ((a &&& b).toNat : Int) := by
  rw [u32_and_nat _ _ a.isLt b.isLt, BitVec.toNat_and]
theorem shr1 (c : BitVec 32) : (c.toNat : Int) / (2 : Int) = ((c >>> 1).toNat : Int) := by
  rw [BitVec.toNat_ushiftRight, Nat.shiftRight_eq_div_pow]; rfl
theorem shr4 (c : BitVec 32) : (c.toNat : Int) / (16 : Int) = ((c >>> 4).toNat : Int) := by
  rw [BitVec.toNat_ushiftRight, Nat.shiftRight_eq_div_pow]; rfl
theorem and_one (c : BitVec 32) : (bits .and .u32 (c.toNat : Int) 1 == 1) = c.getLsbD 0 := by
  have h := bits_and32 c 1#32
  have h1 : (((1#32).toNat : Nat) : Int) = 1 := rfl
  rw [h1] at h
  rw [h, BitVec.toNat_and]
  have : c.toNat &&& (1#32).toNat = c.toNat % 2 := Nat.and_one_is_mod _
  rw [this, BitVec.getLsbD, Nat.testBit_zero]
  rw [Bool.eq_iff_iff]; simp; omega
theorem bit0 (s : BitVec 32) : s.getLsbD 0 = ((s.toNat : Int) % 2 == 1) := by
  rw [BitVec.getLsbD, Nat.testBit_zero, Bool.eq_iff_iff]; simp; omega
theorem ret_u32 {a b : Int} (h : a = b) : Ending.returned (.int .u32 a) = .returned (.int .u32 b) := by rw [h]

theorem step_any (c : BitVec 32) (w : World) :
    Calls Try.prog 27 #[.int .u32 (c.toNat : Int)] w fun e w' => e = .returned (.int .u32 ((Crc.step c).toNat : Int)) ∧ w = w' := by
  have hl := c.isLt
  have ha := and_one c
  have hx := bits_xor32 (c >>> 1) poly
  rw [← shr1, show ((poly.toNat : Nat) : Int) = 2197175160 from rfl] at hx
  by_cases hb : c.getLsbD 0 = true
  · rw [hb] at ha
    have e : (c >>> 1) ^^^ poly = Crc.step c := by unfold Crc.step; rw [if_pos hb]
    rw [e] at hx
    have HX := Lib.hid hx
    clear hx hb e
    go_enter Try.func27, Try.ntmps27
    go_wp2
    go_ret
    exact ⟨ret_u32 (by rw [HX.out]), rfl⟩
  · have hb' : c.getLsbD 0 = false := by simpa using hb
    rw [hb'] at ha
    have e : Crc.step c = c >>> 1 := by unfold Crc.step; rw [if_neg hb]
    clear hx hb hb'
    have E := Lib.hid e
    clear e
    go_enter Try.func27, Try.ntmps27
    go_wp2
    go_ret
    exact ⟨ret_u32 (by rw [E.out, shr1]), rfl⟩

theorem into_any (c : BitVec 32) (x : UInt8) (w : World) :
    Calls Try.prog 23 #[.int .u32 (c.toNat : Int), .int .u8 (x.toNat : Int)] w fun e w' => e = .returned (.int .u32 ((into c x).toNat : Int)) ∧ w = w' := by
  have hl := c.isLt
  have hx8 := x.toNat_lt
  have hx := bits_xor32 c (x.toBitVec.zeroExtend 32)
  have ex : (((x.toBitVec.zeroExtend 32).toNat : Nat) : Int) = (x.toNat : Int) := by
    simp [BitVec.truncate_eq_setWidth]
  rw [ex] at hx
  go_enter Try.func23, Try.ntmps23
  go_wp2
  go_loop [0, 5] (fun s i => ∃ k : Nat, k ≤ 8 ∧ i = .int .i64 k ∧ s = .int .u32 ((steps k (c ^^^ x.toBitVec.zeroExtend 32)).toNat : Int)) (fun _ i => 8 - (intOf i).toNat)
  case atStart => exact ⟨0, by omega, rfl, by rw [steps, BitVec.toNat_xor]; simp [BitVec.truncate_eq_setWidth]⟩
  case round =>
    obtain ⟨k, hk, rfl, rfl⟩ := hrel
    by_cases hlt : k < 8
    · have hs : steps (k + 1) (c ^^^ x.toBitVec.zeroExtend 32) = Crc.step (steps k (c ^^^ x.toBitVec.zeroExtend 32)) := rfl
      generalize steps k (c ^^^ x.toBitVec.zeroExtend 32) = s at *
      generalize hs1 : steps (k + 1) (c ^^^ x.toBitVec.zeroExtend 32) = s1 at *
      have hl := s.isLt
      have hsx := bits_xor32 (s >>> 1) poly
      rw [← shr1, show ((poly.toNat : Nat) : Int) = 2197175160 from rfl] at hsx
      have HS := Lib.hid hs
      have HS1 := Lib.hid hs1
      have HX := Lib.hid hsx
      clear hs hs1 hsx hx ex
      go_wp2
      · have hb : ((s.toNat : Int) % 2 == 1) = true := by assumption
        have e : (s >>> 1) ^^^ poly = Crc.step s := by unfold Crc.step; rw [if_pos (by rw [bit0]; exact hb)]
        go_round
        case rel => exact ⟨k + 1, by omega, by go_num, by rw [HX.out, HS1.out, HS.out, e]⟩
        case measure => simp [intOf]; omega
      · have hb : ((s.toNat : Int) % 2 == 1) = false := by assumption
        have e : s >>> 1 = Crc.step s := by unfold Crc.step; rw [if_neg (by rw [bit0, hb]; simp)]
        go_round
        case rel => exact ⟨k + 1, by omega, by go_num, by rw [shr1, HS1.out, HS.out, e]⟩
        case measure => simp [intOf]; omega
    · have hx' : into c x = steps 8 (c ^^^ x.toBitVec.zeroExtend 32) := rfl
      obtain rfl : k = 8 := by omega
      have HX := Lib.hid hx'
      clear hx ex hx'
      go_wp2
      go_ret
      exact ⟨ret_u32 (by rw [HX.out]), rfl⟩
end Go.Proofs.Ytcapgkfplaebaaa
