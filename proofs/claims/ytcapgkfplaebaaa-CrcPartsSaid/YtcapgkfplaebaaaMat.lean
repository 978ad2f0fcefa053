/- The walks over matrices: what each digit of a state makes. -/
import Derived.Test.YtcapgkfplaebaaaWalk3
namespace Go.Proofs.Ytcapgkfplaebaaa
open Go.ChangeShapes Go.WideShapes Go.ChangeAt Go.RowKit
open Crc
set_option linter.unusedVariables false

def mat (f : W32 → W32) (k : Nat) : Array Value := Array.ofFn (n := 32) fun i => .int .u32 (if i.val < k then ((f (1#32 <<< i.val)).toNat : Int) else 0)
theorem mat_size (f : W32 → W32) (k : Nat) : (mat f k).size = 32 := by simp [mat]
theorem mat_get (f : W32 → W32) (k i : Nat) (hi : i < 32) : (mat f k)[i]? = some (.int .u32 (if i < k then ((f (1#32 <<< i)).toNat : Int) else 0)) := by
  rw [Array.getElem?_eq_getElem (by rw [mat_size]; exact hi)]
  simp [mat]
theorem mat_set (f : W32 → W32) (k : Nat) (v : Int) (hv : v = ((f (1#32 <<< k)).toNat : Int)) : (mat f k).setIfInBounds k (.int .u32 v) = mat f (k + 1) := by
  subst hv
  apply Array.ext_getElem?
  intro i
  rw [Array.getElem?_setIfInBounds]
  by_cases hi : i < 32
  · rw [mat_get f (k + 1) i hi, mat_get f k i hi]
    by_cases e : k = i
    · subst e; rw [mat_size]; simp [hi]
    · have : (i < k + 1) = (i < k) := by apply propext; omega
      simp [e, this]
  · have h1 : (mat f k)[i]? = none := Array.getElem?_eq_none (by rw [mat_size]; omega)
    have h2 : (mat f (k + 1))[i]? = none := Array.getElem?_eq_none (by rw [mat_size]; omega)
    rw [h1, h2]
    by_cases e : k = i
    · subst e; rw [if_pos rfl, if_neg (by rw [mat_size]; exact hi)]
    · rw [if_neg e]

theorem mat_zero (f : W32 → W32) : mat f 0 = #[.int .u32 0, .int .u32 0, .int .u32 0, .int .u32 0, .int .u32 0, .int .u32 0, .int .u32 0, .int .u32 0, .int .u32 0, .int .u32 0, .int .u32 0, .int .u32 0, .int .u32 0, .int .u32 0, .int .u32 0, .int .u32 0, .int .u32 0, .int .u32 0, .int .u32 0, .int .u32 0, .int .u32 0, .int .u32 0, .int .u32 0, .int .u32 0, .int .u32 0, .int .u32 0, .int .u32 0, .int .u32 0, .int .u32 0, .int .u32 0, .int .u32 0, .int .u32 0] := by
  have h : mat f 0 = Array.replicate 32 (.int .u32 0) := by
    apply Array.ext_getElem?
    intro i
    by_cases hi : i < 32
    · rw [mat_get f 0 i hi, Array.getElem?_replicate, if_pos hi, if_neg (by omega)]
    · rw [Array.getElem?_eq_none (by rw [mat_size]; omega), Array.getElem?_replicate, if_neg hi]
  rw [h]; rfl
theorem times_any (g : Nat) (f : W32 → W32) (hf : Lin f) (c : BitVec 32) (t : TypeId) (w : World) (hb : Blk w g t (mat f 32)) :
    Calls Try.prog 25 #[.pointer (some ⟨g, 0, none⟩), .int .u32 (c.toNat : Int)] w fun e w' => e = .returned (.int .u32 ((f c).toNat : Int)) ∧ w = w' := by
  have HF := Lib.hid hf
  have HB := Lib.hid hb
  clear hf hb
  go_enter Try.func25, Try.ntmps25
  go_wp2_with fail
  go_loop [1, 5, 6] (fun x o i => ∃ (k : Nat) (u : BitVec 32), k ≤ 32 ∧ i = .int .i64 k ∧ x = .int .u32 ((c >>> k).toNat : Int) ∧ o = .int .u32 (u.toNat : Int) ∧ u ^^^ f ((c >>> k) <<< k) = f c) (fun _ _ i => 32 - (intOf i).toNat)
  case atStart => exact ⟨0, 0#32, by omega, rfl, rfl, rfl, by simp⟩
  case round =>
    obtain ⟨k, u, hk, rfl, rfl, rfl, hu⟩ := hrel
    by_cases hz : c >>> k = 0#32
    · have hfin : u = f c := by rw [← hu, hz, BitVec.zero_shiftLeft, HF.out.zero, BitVec.xor_zero]
      subst hfin
      clear hu
      have hz' : ((c >>> k).toNat : Int) = 0 := by rw [hz]; rfl
      have HZ := Lib.hid hz
      clear hz
      generalize c >>> k = c1 at *
      have hne : (((c1.toNat : Nat) : Int) != 0) = false := by rw [hz']; rfl
      have HZ' := Lib.hid hz'
      clear hz'
      go_wp2_with fail
      go_ret
      exact ⟨rfl, rfl⟩
    · have hk32 : k < 32 := by
        rcases Nat.lt_or_ge k 32 with h | h
        · exact h
        · exact absurd (shift_none h) hz
      have hcell : w.cell? ⟨g, k, none⟩ = some (.int .u32 ((f (1#32 <<< k)).toNat : Int)) := by
        rw [HB.out.cell, mat_get _ _ _ hk32, if_pos hk32]
      have hsp := shift_part c k hk32
      have hif : f (if c.getLsbD k = true then 1#32 <<< k else 0#32) = if c.getLsbD k = true then f (1#32 <<< k) else 0#32 := by
        split
        · rfl
        · exact HF.out.zero
      rw [hsp, HF.out, hif] at hu
      clear hif
      have hbit : (c >>> k).getLsbD 0 = c.getLsbD k := by rw [BitVec.getLsbD_ushiftRight, Nat.add_zero]
      have hnext : (c >>> k) >>> 1 = c >>> (k + 1) := (BitVec.shiftRight_add c k 1).symm
      have hne : (((c >>> k).toNat : Int) != 0) = true := by
        rw [bne_iff_ne]
        intro h
        apply hz
        apply BitVec.eq_of_toNat_eq
        show (c >>> k).toNat = 0
        omega
      have hsh := shr1 (c >>> k)
      have hand := and_one (c >>> k)
      rw [hnext] at hsh
      rw [hbit] at hand
      clear hnext hbit hsp hz
      generalize f (1#32 <<< k) = v at *
      generalize hc2 : c >>> (k + 1) = c2 at *
      have hl1 := (c >>> k).isLt
      generalize c >>> k = c1 at *
      obtain ⟨u', hu'⟩ : ∃ u' : BitVec 32, bits .xor .u32 (u.toNat : Int) (v.toNat : Int) = (u'.toNat : Int) ∧ u' = u ^^^ v := ⟨_, bits_xor32 _ _, rfl⟩
      obtain ⟨hx, hu'⟩ := hu'
      have HU := Lib.hid hu
      have HU' := Lib.hid hu'
      have HC2 := Lib.hid hc2
      have HSH := Lib.hid hsh
      clear hu hu' hc2
      by_cases hb : c.getLsbD k = true
      · rw [hb] at hand
        have HBT := Lib.hid hb
        clear hb
        go_wp2_with fail
        go_round
        case rel => exact ⟨k + 1, u', by omega, by go_num, by rw [HC2.out], rfl, by rw [HC2.out, HU'.out, ← HU.out, if_pos HBT.out, BitVec.xor_assoc]⟩
        case measure => simp [intOf]; omega
      · have hb' : c.getLsbD k = false := by simpa using hb
        rw [hb'] at hand
        have HBT := Lib.hid hb'
        clear hb hb'
        go_wp2_with fail
        go_round
        case rel => exact ⟨k + 1, u, by omega, by go_num, by rw [HC2.out], rfl, by rw [HC2.out, ← HU.out, if_neg (by rw [HBT.out]; simp), BitVec.zero_xor]⟩
        case measure => simp [intOf]; omega

theorem twice_any (g : Nat) (f : W32 → W32) (hf : Lin f) (w : World) (hb : Blk w g 48 (mat f 32)) :
    Calls Try.prog 26 #[.pointer (some ⟨g, 0, none⟩)] w fun e w' => ∃ h, e = .returned (.pointer (some ⟨h, 0, none⟩)) ∧ Blk w' h 48 (mat (fun x => f (f x)) 32) ∧ w.heap.size ≤ h ∧ Below w.heap.size w w' := by
  have hgl := hb.lt
  have HF := Lib.hid hf
  have HB := Lib.hid hb
  clear hf hb
  go_enter Try.func26, Try.ntmps26
  go_wp2_with fail
  go_loopw [5] (fun i wr => ∃ (k : Nat), k ≤ 32 ∧ i = .int .i64 k ∧ Blk wr w.heap.size 48 (mat (fun x => f (f x)) k) ∧ Below w.heap.size w wr) (fun i _ => 32 - (intOf i).toNat)
  case atStart => exact ⟨0, by omega, rfl, by rw [mat_zero]; exact Blk.new w _ _, (Below.refl _ _).alloc (Nat.le_refl _) _⟩
  case round =>
    obtain ⟨k, hk, rfl, hm, hbel⟩ := hrel
    by_cases hlt : k < 32
    · have hd : decide ((k : Int) < 32) = true := by simp; omega
      have hbr := HB.out.below hbel hgl
      have hcell : wr.cell? ⟨g, k, none⟩ = some (.int .u32 ((f (1#32 <<< k)).toNat : Int)) := by
        rw [hbr.cell, mat_get _ _ _ hlt, if_pos hlt]
      have hcm : wr.cell? ⟨w.heap.size, k, none⟩ = some (.int .u32 0) := by
        rw [hm.cell, mat_get _ _ _ hlt, if_neg (by omega)]
      have hfm := hm.frozen k
      have hset := mat_set (fun x => f (f x)) k _ rfl
      have HBR := Lib.hid hbr
      have HM := Lib.hid hm
      have HSET := Lib.hid hset
      clear hbr hm hset
      go_wp2_with (go_at_call 25; refine (times_any g f HF.out (f (1#32 <<< k)) _ _ HBR.out).mono ?_; rintro e w' ⟨rfl, rfl⟩)
      go_roundw
      case rel => exact ⟨k + 1, by omega, by go_num, by rw [← HSET.out]; exact HM.out.put k _, hbel.setCell (Nat.le_refl _) _⟩
      case measure => simp [intOf]; omega
    · obtain rfl : k = 32 := by omega
      go_wp2_with fail
      go_ret
      exact ⟨_, rfl, hm, Nat.le_refl _, hbel⟩

theorem lin_zero1 : Lin zero1 := fun a b => steps_xor 8 a b
theorem one_shl (k : Nat) (hk : k < 32) : (2 : Int) ^ k % 4294967296 = ((1#32 <<< k).toNat : Int) := by
  have : ∀ k : Fin 32, (2 : Int) ^ k.val % 4294967296 = ((1#32 <<< k.val).toNat : Int) := by decide
  exact this ⟨k, hk⟩
theorem nought_any (w : World) :
    Calls Try.prog 24 #[] w fun e w' => ∃ h, e = .returned (.pointer (some ⟨h, 0, none⟩)) ∧ Blk w' h 48 (mat zero1 32) ∧ w.heap.size ≤ h ∧ Below w.heap.size w w' := by
  go_enter Try.func24, Try.ntmps24
  go_wp2_with fail
  go_loopw [3] (fun i wr => ∃ (k : Nat), k ≤ 32 ∧ i = .int .i64 k ∧ Blk wr w.heap.size 48 (mat zero1 k) ∧ Below w.heap.size w wr) (fun i _ => 32 - (intOf i).toNat)
  case atStart => exact ⟨0, by omega, rfl, by rw [mat_zero]; exact Blk.new w _ _, (Below.refl _ _).alloc (Nat.le_refl _) _⟩
  case round =>
    obtain ⟨k, hk, rfl, hm, hbel⟩ := hrel
    by_cases hlt : k < 32
    · have hd : decide ((k : Int) < 32) = true := by simp; omega
      have hone := one_shl k hlt
      have hset := mat_set zero1 k _ rfl
      have hsum : add (1#32 <<< k) [0] = zero1 (1#32 <<< k) := into_zero _
      have hcm0 : (mat zero1 k)[k]? = some (.int .u32 0) := by rw [mat_get _ _ _ hlt, if_neg (by omega)]
      generalize 1#32 <<< k = c at *
      have HM := Lib.hid hm
      have HSET := Lib.hid hset
      have HSUM := Lib.hid hsum
      have HCM := Lib.hid hcm0
      clear hm hset hsum hcm0
      have hrow : rpU8.sl (wr.alloc (.cells #[.int .u8 0] 5)) (wr.heap.size + 1) (some ⟨wr.heap.size, 0, none⟩) 1 1 [0] :=
        bytes_of_cells (cs := #[.int .u8 0]) (fun i => (Blk.new wr 5 _).cell i) (fun i x hx => by
          match i, hx with
          | 0, hx => cases hx; rfl) rfl (by decide) (by decide)
      have HR := Lib.hid hrow
      clear hrow
      go_wp2_with fail
      refine (add_any c _ 1 1 [0] _ _ HR.out (by simp)).mono ?_; rintro e w1 ⟨rfl, hb1⟩
      have hbw : Below wr.heap.size wr w1 := ((Below.refl _ _).alloc (Nat.le_refl _) _).trans (hb1.mono (by simp))
      have hm1 := HM.out.below hbw HM.out.lt
      have hcm : w1.cell? ⟨w.heap.size, k, none⟩ = some (.int .u32 0) := by rw [hm1.cell, HCM.out]
      have hfm := hm1.frozen k
      have hbel1 := hbel.trans (hbw.mono hbel.size)
      rw [HSUM.out]
      have HM1 := Lib.hid hm1
      clear hm1 hbw hb1
      go_wp2_with fail
      go_roundw
      case rel => exact ⟨k + 1, by omega, by go_num, by rw [← HSET.out]; exact HM1.out.put k _, hbel1.setCell (Nat.le_refl _) _⟩
      case measure => simp [intOf]; omega
    · obtain rfl : k = 32 := by omega
      go_wp2_with fail
      go_ret
      exact ⟨_, rfl, hm, Nat.le_refl _, hbel⟩

theorem i64_odd (n : Int) (h0 : 0 ≤ n) (h1 : n ≤ 9223372036854775807) : bits .and .i64 n 1 = n % 2 := by
  obtain ⟨m, rfl⟩ := Int.eq_ofNat_of_zero_le h0
  show IntKind.i64.wrap ((BitVec.ofInt 64 (m : Int) &&& BitVec.ofInt 64 1).toNat : Int) = _
  have e : (BitVec.ofInt 64 (m : Int)).toNat = m := by
    rw [BitVec.ofInt_natCast, BitVec.toNat_ofNat]; exact Nat.mod_eq_of_lt (by omega)
  rw [BitVec.toNat_and, e]
  have e1 : (BitVec.ofInt 64 1).toNat = 1 := rfl
  rw [e1, Nat.and_one_is_mod, IntKind.wrap_i64]
  omega
theorem zeros_mul_two (p : Nat) (k : Int) (hk : 0 < k) (ho : k % 2 = 1) {u : W32} : zeros (p * k.toNat) u = zeros (2 * p * (k / 2).toNat) (zeros p u) := by
  have e : k.toNat = 2 * (k / 2).toNat + 1 := by omega
  rw [e, zeros_mul, ← Nat.mul_assoc, Nat.mul_comm p 2]
theorem zeros_walk (st : BitVec 32) (n : Int) (w : World) (h0 : -9223372036854775808 ≤ n) (h1 : n ≤ 9223372036854775807) :
    Calls Try.prog 18 #[.int .u32 (st.toNat : Int), .int .i64 n] w fun e w' => e = .returned (.int .u32 ((zeros n.toNat st).toNat : Int)) ∧ Below w.heap.size w w' := by
  go_enter Try.func18, Try.ntmps18
  go_wp2_with fail
  refine (nought_any _).mono ?_
  rintro e w1 ⟨h, rfl, hblk, hh, hb1⟩
  go_wp2_with fail
  go_loopw [0, 1, 5] (fun s x m wr => ∃ (k : Int) (p : Nat) (u : BitVec 32) (g : Nat), k ≤ 9223372036854775807 ∧ x = .int .i64 k ∧ s = .int .u32 (u.toNat : Int) ∧ m = .pointer (some ⟨g, 0, none⟩) ∧ Blk wr g 48 (mat (zeros p) 32) ∧
    zeros (p * k.toNat) u = zeros n.toNat st ∧ Below w.heap.size w wr) (fun _ x _ _ => (intOf x).toNat)
  case atStart => exact ⟨n, 1, st, h, h1, rfl, rfl, rfl, hblk, by rw [Nat.one_mul], hb1⟩
  case round =>
    obtain ⟨k, p, u, g, hk, rfl, rfl, rfl, hm, hz, hbel⟩ := hrel
    by_cases hp : 0 < k
    · have hd : decide (0 < k) = true := by simp; omega
      have hand := i64_odd k (by omega) hk
      have hm2 : (fun x => zeros p (zeros p x)) = zeros (2 * p) := by funext x; rw [Nat.two_mul, zeros_add]
      have HM := Lib.hid hm
      have HM2 := Lib.hid hm2
      clear hm hm2
      by_cases ho : k % 2 = 1
      · have ho' : (k % 2 == 1) = true := by simp [ho]
        have hz' : zeros (2 * p * (k / 2).toNat) (zeros p u) = zeros n.toNat st := by
          rw [← hz, ← zeros_mul_two p k hp ho]
        have HZ := Lib.hid hz'
        clear hz hz' ho
        go_wp2_with fail
        refine (times_any g (zeros p) (lin_zeros p) u _ _ HM.out).mono ?_; rintro e w' ⟨rfl, rfl⟩
        go_wp2_with fail
        refine (twice_any g (zeros p) (lin_zeros p) _ HM.out).mono ?_; rintro e w2 ⟨g2, rfl, hm2, hg2, hb2⟩
        rw [HM2.out] at hm2
        have hb' := hbel.trans (hb2.mono hbel.size)
        have HB2 := Lib.hid hm2
        clear hm2
        go_wp2_with fail
        go_roundw
        case rel => exact ⟨k / 2, 2 * p, zeros p u, g2, by omega, rfl, rfl, rfl, HB2.out, HZ.out, hb'⟩
        case measure => simp [intOf]; omega
      · have ho' : (k % 2 == 1) = false := by simp; omega
        have hz' : zeros (2 * p * (k / 2).toNat) u = zeros n.toNat st := by
          rw [← hz]
          congr 1
          have : k.toNat = 2 * (k / 2).toNat := by omega
          rw [this, ← Nat.mul_assoc, Nat.mul_comm p 2]
        have HZ := Lib.hid hz'
        clear hz hz' ho
        go_wp2_with fail
        refine (twice_any g (zeros p) (lin_zeros p) _ HM.out).mono ?_; rintro e w2 ⟨g2, rfl, hm2, hg2, hb2⟩
        rw [HM2.out] at hm2
        have hb' := hbel.trans (hb2.mono hbel.size)
        have HB2 := Lib.hid hm2
        clear hm2
        go_wp2_with fail
        go_roundw
        case rel => exact ⟨k / 2, 2 * p, u, g2, by omega, rfl, rfl, rfl, HB2.out, HZ.out, hb'⟩
        case measure => simp [intOf]; omega
    · have hd : decide (0 < k) = false := by simp; omega
      have : k.toNat = 0 := by omega
      rw [this, Nat.mul_zero] at hz
      have hz' : u = zeros n.toNat st := hz
      subst hz'
      go_wp2_with fail
      go_ret
      exact ⟨rfl, hbel⟩
end Go.Proofs.Ytcapgkfplaebaaa
