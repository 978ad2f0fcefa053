/- The walk of the reference's Turn. -/
import Derived.Test.YtcapgkfplaebaaaWalk3
namespace Go.Proofs.Ytcapgkfplaebaaa
open Go.ChangeShapes Go.WideShapes Go.ChangeAt Go.RowKit
open Crc
set_option linter.unusedVariables false
theorem elemB : Elem Try.prog 22 5 1 1 := Elem.of (z := .int .u8 0) Try.underlying22 (by kernel_rfl) rfl (by decide)

theorem bit_at (d : BitVec 32) (i : Nat) : (((d.toNat : Int) / 2 ^ i).tmod 2 == 1) = d.getLsbD i := by
  have h0 : ((d.toNat : Int) / 2 ^ i) = ((d.toNat / 2 ^ i : Nat) : Int) := by
    rw [Int.natCast_ediv]; simp
  rw [h0, BitVec.getLsbD, Nat.testBit_eq_decide_div_mod_eq, Int.tmod_eq_emod_of_nonneg (Int.natCast_nonneg _), Bool.eq_iff_iff]
  simp
  omega
theorem xor_pow (x : UInt8) (m : Nat) : bits .xor .u8 (x.toNat : Int) ((2 : Int) ^ m % 256) = ((x ^^^ UInt8.ofNat (2 ^ m)).toNat : Int) := by
  have e : (2 : Int) ^ m % 256 = ((UInt8.ofNat (2 ^ m)).toNat : Int) := by rw [UInt8.toNat_ofNat']; simp
  rw [← xor_u8, e]
theorem turn_hit {d : BitVec 32} {s : Int} {m : Nat} {x xb : UInt8} {i : Nat} (hx : turnUpto d s m xb = x) (hi : s + m = i) (h32 : i < 32) (hb : d.getLsbD i = true) : x ^^^ UInt8.ofNat (2 ^ m) = turnUpto d s (m + 1) xb := by
  rw [turnUpto, hx, if_pos]
  unfold hit
  rw [hi]
  simp [hb]; omega
theorem turn_miss {d : BitVec 32} {s : Int} {m : Nat} {x xb : UInt8} (hx : turnUpto d s m xb = x) (h : s + m < 0 ∨ 32 ≤ s + m ∨ d.getLsbD (s + m).toNat = false) : x = turnUpto d s (m + 1) xb := by
  rw [turnUpto, hx, if_neg]
  unfold hit
  rcases h with h | h | h
  · simp; omega
  · simp; omega
  · simp [h]

theorem ref_turn_any (A : Option Addr) (n c : Nat) (l : List UInt8) (pos : Int) (d : BitVec 32) (B : Nat) (w : World) (hl : rpU8.sl w B A n c l) (hB : B ≤ w.heap.size)
    (hn : n ≤ 1000000) (p0 : -1000000 ≤ pos) (p1 : pos ≤ 1000000) :
    Calls Try.prog 9 #[.slice A n c, .int .i64 pos, .int .u32 (d.toNat : Int)] w fun e w' => ∃ A' c', e = .returned (.slice A' n c') ∧ w'.ownsRow w.heap.size 5 1 (.slice A' n c') n ((turnL d pos 0 l).map bv) ∧ Below w.heap.size w w' := by
  obtain ⟨hlen, hnc, hcm⟩ := Rp.sl_len hl
  have HL := Lib.hid hlen
  have HSL := Lib.hid hl
  clear hlen hl hcm hnc
  have hdl := d.isLt
  go_enter Try.func9, Try.ntmps9
  go_wp2_with fail
  go_loopw [7, 8] (fun o i wr => ∃ (k : Nat) (oA : Option Addr) (oc : Nat), k ≤ n ∧ i = .int .i64 k ∧ o = .slice oA k oc ∧ wr.ownsRow w.heap.size 5 1 o k ((turnL d pos 0 (l.take k)).map bv) ∧ Below w.heap.size w wr) (fun _ i _ => n - (intOf i).toNat)
  case atStart => exact ⟨0, none, 0, Nat.zero_le _, rfl, rfl, World.ownsRow_nil _ _ _ _, Below.refl _ _⟩
  case round =>
    obtain ⟨k, oA, oc, hk, rfl, rfl, ho, hbel⟩ := hrel
    by_cases hlt : k < n
    · have hd : decide ((k : Int) < (n : Int)) = true := by simp; omega
      obtain ⟨b, off, xb, rfl, hbB, hxb, hcell0⟩ := bytes_at HSL.out hlt
      have hc0 := (hbel.cell (p := ⟨b, off + k, none⟩) (Nat.lt_of_lt_of_le hbB hB)).trans hcell0
      have hts := turnL_snoc d pos xb (l.take k) 0
      rw [← take_succ hxb, List.length_take, HL.out, Nat.min_eq_left (by omega)] at hts
      have HTS := Lib.hid hts
      have HXB := Lib.hid hxb
      clear hts hxb hcell0
      go_wp2_with fail
      go_loop [9, 10] (fun x j => ∃ (m : Nat), m ≤ 8 ∧ j = .int .i64 m ∧ x = .int .u8 ((turnUpto d (0 + 8 * (k : Int) - pos) m xb).toNat : Int)) (fun _ j => 8 - (intOf j).toNat)
      case atStart => exact ⟨0, by omega, rfl, rfl⟩
      case round =>
        obtain ⟨m, hm, rfl, rfl⟩ := hrel
        by_cases hlt8 : m < 8
        · have hd8 : decide ((m : Int) < 8) = true := by simp; omega
          generalize hx : turnUpto d (0 + 8 * (k : Int) - pos) m xb = x at *
          have HX := Lib.hid hx
          have hxl := x.toNat_lt
          clear hx
          by_cases h0 : 0 ≤ 8 * (k : Int) + m - pos
          · by_cases h32 : 8 * (k : Int) + m - pos < 32
            · go_wp2_with fail
              · have hb : (((d.toNat : Int) / 2 ^ (8 * (k : Int) + m - pos).toNat).tmod 2 == 1) = true := by assumption
                rw [bit_at] at hb
                go_round
                case rel => exact ⟨m + 1, by omega, by go_num, by rw [xor_pow, turn_hit HX.out (by omega) (by omega) hb]⟩
                case measure => simp [intOf]; omega
              · have hb : (((d.toNat : Int) / 2 ^ (8 * (k : Int) + m - pos).toNat).tmod 2 == 1) = false := by assumption
                rw [bit_at] at hb
                go_round
                case rel => exact ⟨m + 1, by omega, by go_num, by rw [turn_miss HX.out (.inr (.inr (by rw [show (0 + 8 * (k : Int) - pos + m) = 8 * (k : Int) + m - pos by omega]; exact hb)))]⟩
                case measure => simp [intOf]; omega
            · go_wp2_with fail
              go_round
              case rel => exact ⟨m + 1, by omega, by go_num, by rw [turn_miss HX.out (.inr (.inl (by omega)))]⟩
              case measure => simp [intOf]; omega
          · go_wp2_with fail
            go_round
            case rel => exact ⟨m + 1, by omega, by go_num, by rw [turn_miss HX.out (.inl (by omega))]⟩
            case measure => simp [intOf]; omega
        · obtain rfl : m = 8 := by omega
          have hd8 : decide (((8 : Nat) : Int) < 8) = false := by simp
          have hts := HTS.out
          generalize turnUpto d (0 + 8 * (k : Int) - pos) 8 xb = y at *
          have hty := y.toNat_lt
          clear HTS
          have HTS := Lib.hid hts
          clear hts
          go_wp2_with (at_builtin; refine wpList_push_byte rfl (.tmp 51) (.tmp 53) _ rfl elemB rfl ho (by omega) hbel.size rfl (by omega) (by omega) ?_; intro u A1 c1 w1 hu ho1 hg1 hat1)
          have hbel1 : Below w.heap.size w w1 := hbel.grown hg1 hbel.size (fun k hk => (ho.lt k hk).1)
          obtain rfl : y = u := UInt8.toNat_inj.1 (by omega)
          rw [← HTS.out] at ho1
          go_roundw
          case rel => exact ⟨k + 1, A1, c1, by omega, by go_num, by go_num, ho1, hbel1⟩
          case measure => simp [intOf]; omega
    · obtain rfl : n = k := by omega
      rw [List.take_of_length_le (by rw [HL.out]; omega)] at ho
      go_wp2_with fail
      go_ret
      exact ⟨oA, oc, rfl, ho, hbel⟩
end Go.Proofs.Ytcapgkfplaebaaa
