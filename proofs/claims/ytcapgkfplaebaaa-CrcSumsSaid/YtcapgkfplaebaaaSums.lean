/- The walk of crc.Turn and of CrcSums. -/
import Derived.Test.YtcapgkfplaebaaaTurn
import Derived.Test.YtcapgkfplaebaaaSumsM
import Derived.BigRegion
namespace Go.Proofs.Ytcapgkfplaebaaa
open Go.ChangeShapes Go.WideShapes Go.ChangeAt Go.RowKit
open Crc
set_option linter.unusedVariables false

theorem modify_map {x : List UInt8} {q : Nat} {y : UInt8} {f : UInt8 → UInt8} (h : x[q]? = some y) : (x.modify q f).map bv = (x.map bv).set q (bv (f y)) := by
  apply List.ext_getElem?
  intro i
  rw [List.getElem?_map, List.getElem?_modify, List.getElem?_set, List.getElem?_map]
  have hq : q < x.length := (List.getElem?_eq_some_iff.1 h).1
  by_cases e : q = i
  · subst e
    have hy : x[q] = y := by rw [List.getElem?_eq_getElem hq] at h; injection h
    simp [hq, hy]
  · simp [e]
theorem modify_far {x : List UInt8} {q : Nat} {f : UInt8 → UInt8} (h : x.length ≤ q) : x.modify q f = x := by
  apply List.ext_getElem?
  intro i
  rw [List.getElem?_modify]
  by_cases e : q = i
  · subst e; rw [List.getElem?_eq_none h]; rfl
  · simp [e]
theorem bit_and (d : BitVec 32) (m : Nat) : (bits .and .u32 ((d.toNat : Int) / 2 ^ m) 1 == 1) = d.getLsbD m := by
  have h0 : ((d.toNat : Int) / 2 ^ m) = (((d >>> m).toNat : Nat) : Int) := by
    rw [BitVec.toNat_ushiftRight, Nat.shiftRight_eq_div_pow, Int.natCast_ediv]; simp
  rw [h0, and_one, BitVec.getLsbD_ushiftRight, Nat.add_zero]
theorem turn_any (A : Option Addr) (n c : Nat) (l : List UInt8) (pos : Int) (d : BitVec 32) (B : Nat) (w : World) (hl : rpU8.sl w B A n c l) (hB : B ≤ w.heap.size)
    (hn : n ≤ 1000000) (p0 : -1000000 ≤ pos) (p1 : pos ≤ 1000000) :
    Calls Try.prog 17 #[.slice A n c, .int .i64 pos, .int .u32 (d.toNat : Int)] w fun e w' => ∃ A' c', e = .returned (.slice A' n c') ∧ w'.ownsRow w.heap.size 5 1 (.slice A' n c') n ((turnL d pos 0 l).map bv) ∧ Below w.heap.size w w' := by
  obtain ⟨hlen, hnc, hcm⟩ := Rp.sl_len hl
  have HL := Lib.hid hlen
  have HSL := Lib.hid hl
  clear hlen hl hcm hnc
  have hdl := d.isLt
  have hmade := World.ownsRow_made (e := 5) (size := 1) (base := w.heap.size) w #[] 0 (Nat.le_refl _) (by decide) rfl
  have hsrc : Src (w.alloc (.cells #[] 5)) A n 1 (l.map bv) := Src.bytes ((rpSlice rpU8).below HSL.out ((Below.refl _ _).alloc (Nat.le_refl _) _) hB)
  have HM := Lib.hid hmade
  have HS := Lib.hid hsrc
  clear hmade hsrc
  go_enter Try.func17, Try.ntmps17
  go_wp2_with (at_builtin; refine wpList_app rfl (.tmp 9) (.tmp 10) _ rfl elemB rfl HM.out rfl HS.out (by unfold maxLen; omega) (by omega) (by simp) ?_; intro A1 c1 w1 ho hg1 hat1; have ho' := ho; rw [Nat.zero_add, List.nil_append] at ho')
  · have hge : 8 * (n : Int) ≤ pos := by omega
    have hb1 : Below w.heap.size w w1 := ((Below.refl _ _).alloc (Nat.le_refl _) _).grown hg1 (by simp) (fun k hk => (HM.out.lt k hk).1)
    go_ret
    exact ⟨A1, c1, by simp, by rw [turn_far d pos l (by rw [HL.out]; exact hge)]; exact ho', hb1⟩
  · have hb1 : Below w.heap.size w w1 := ((Below.refl _ _).alloc (Nat.le_refl _) _).grown hg1 (by simp) (fun k hk => (HM.out.lt k hk).1)
    clear ho hg1 hat1
    go_loopw [18] (fun i wr => ∃ m : Nat, m ≤ 32 ∧ i = .int .i64 m ∧ wr.ownsRow w.heap.size 5 1 (.slice A1 n c1) n ((turnI d pos m l).map bv) ∧ Below w.heap.size w wr) (fun i _ => 32 - (intOf i).toNat)
    case atStart => exact ⟨0, by omega, rfl, ho', hb1⟩
    case round =>
      obtain ⟨m, hm, rfl, ho, hbel⟩ := hrel
      by_cases hlt : m < 32
      · have hd : decide ((m : Int) < 32) = true := by simp; omega
        have hs : turnI d pos (m + 1) l = turnAt d pos m (turnI d pos m l) := rfl
        have hln := turnI_length d pos l m
        rw [HL.out] at hln
        generalize hx1 : turnI d pos (m + 1) l = x' at *
        generalize turnI d pos m l = x at *
        have HX1 := Lib.hid hx1
        clear hx1
        have hbit : (bits .and .u32 ((d.toNat : Int) / 2 ^ m) 1 == 1) = d.getLsbD m := by
          rw [bit_and]
        have HSS := Lib.hid hs
        have HLN := Lib.hid hln
        clear hs hln
        by_cases hb : d.getLsbD m = true
        · rw [hb] at hbit
          have HB := Lib.hid hb
          clear hb
          by_cases hp : 0 ≤ pos + m
          · by_cases hq : (pos + m) / 8 < n
            · obtain ⟨g, rfl, hg, hgl, hfr, hcells, hput⟩ := own_block ho (by omega)
              have hqn : ((pos + m) / 8).toNat < n := by omega
              obtain ⟨xq, hxq⟩ : ∃ y, x[((pos + (m : Int)) / 8).toNat]? = some y := ⟨_, List.getElem?_eq_getElem (by rw [HLN.out]; exact hqn)⟩
              have hcell := hcells _ _ (show (x.map bv)[((pos + (m : Int)) / 8).toNat]? = some (.int .u8 (xq.toNat : Int)) by rw [List.getElem?_map, hxq]; rfl)
              have hfz := hfr ((pos + (m : Int)) / 8).toNat
              have hq0 : 0 ≤ (pos + (m : Int)) / 8 := by omega
              have hr0 : 0 ≤ (pos + (m : Int)) % 8 := by omega
              have hxo : bits .xor .u8 (xq.toNat : Int) ((2 : Int) ^ ((pos + (m : Int)) % 8).toNat % 256) = ((xq ^^^ UInt8.ofNat (2 ^ ((pos + (m : Int)) % 8).toNat)).toNat : Int) := xor_pow _ _
              have HXO := Lib.hid hxo
              have HP := Lib.hid hput
              have HXQ := Lib.hid hxq
              clear hxo hput hxq hcells hfr ho
              go_wp2_with fail
              go_region
              have hrow : wr.setCell ⟨g, ((pos + (m : Int)) / 8).toNat, none⟩ (.int .u8 (bits .xor .u8 (xq.toNat : Int) ((2 : Int) ^ ((pos + (m : Int)) % 8).toNat % 256))) |>.ownsRow w.heap.size 5 1 (.slice (some ⟨g, 0, none⟩) n c1) n (x'.map bv) := by
                have h2 := HP.out ((pos + (m : Int)) / 8).toNat (.int .u8 (bits .xor .u8 (xq.toNat : Int) ((2 : Int) ^ ((pos + (m : Int)) % 8).toNat % 256))) hqn
                rw [HXO.out] at h2 ⊢
                rw [HSS.out, turnAt, if_pos ⟨HB.out, hp⟩, modify_map HXQ.out]
                exact h2
              go_wp2_with fail
              go_roundw
              case rel => exact ⟨m + 1, by omega, by go_num, by rw [HX1.out]; exact hrow, (hbel.setCell hg _).drew⟩
              case measure => simp [intOf]; omega
            · have hx' : x' = x := by
                rw [HSS.out, turnAt, if_pos ⟨HB.out, hp⟩]
                exact modify_far (by rw [HLN.out]; omega)
              have HX' := Lib.hid hx'
              clear hx'
              go_wp2_with fail
              go_roundw
              case rel => exact ⟨m + 1, by omega, by go_num, by rw [HX1.out, HX'.out]; exact ho, hbel⟩
              case measure => simp [intOf]; omega
          · go_wp2_with fail
            go_roundw
            case rel => exact ⟨m + 1, by omega, by go_num, by rw [HX1.out, HSS.out, turnAt, if_neg (fun h => hp h.2)]; exact ho, hbel⟩
            case measure => simp [intOf]; omega
        · have hb' : d.getLsbD m = false := by simpa using hb
          rw [hb'] at hbit
          have HB := Lib.hid hb'
          clear hb hb'
          go_wp2_with fail
          go_roundw
          case rel => exact ⟨m + 1, by omega, by go_num, by rw [HX1.out, HSS.out, turnAt, if_neg (fun h => by rw [HB.out] at h; cases h.1)]; exact ho, hbel⟩
          case measure => simp [intOf]; omega
      · obtain rfl : m = 32 := by omega
        rw [turn_same] at ho
        go_wp2_with fail
        go_ret
        exact ⟨A1, c1, rfl, ho, hbel⟩

theorem sums_walk (st : Int) (A : Option Addr) (n c : Nat) (l : List UInt8) (pos : Int) (w : World) (s0 : 0 ≤ st) (s1 : st ≤ 4294967295) (hl : rpU8.sl w w.heap.size A n c l) (p0 : -9223372036854775808 ≤ pos) (p1 : pos ≤ 9223372036854775807) :
    Calls Try.prog 5 #[.int .u32 st, .slice A n c, .int .i64 pos] w fun e w' => e = .returned (.bool true) ∧ Below w.heap.size w w' := by
  obtain ⟨hlen, hnc, hcm⟩ := Rp.sl_len hl
  unfold maxLen at hcm
  by_cases hbig : 500 < n
  · have hb : decide ((500 : Int) < (n : Int)) = true := by simp; omega
    clear hl hlen
    go_enter Try.func5, Try.ntmps5
    go_wp2_with (go_at_call 8; refine (live_any _).mono ?_; rintro e w' ⟨rfl, hb⟩)
    go_ret
    exact ⟨rfl, hb⟩
  · have hb : decide ((500 : Int) < (n : Int)) = false := by simp; omega
    obtain ⟨d, rfl⟩ : ∃ d : BitVec 32, st = (d.toNat : Int) := ⟨BitVec.ofInt 32 st, by rw [BitVec.toNat_ofInt]; omega⟩
    have hdl := d.isLt
    have hnot : ((~~~d).toNat : Int) = 4294967295 - (d.toNat : Int) := by rw [BitVec.toNat_not]; omega
    have HN := Lib.hid hnot
    have HL := Lib.hid hlen
    have HSL := Lib.hid hl
    clear hlen hl hcm hnc hnot
    go_enter Try.func5, Try.ntmps5
    go_wp2_with fail
    all_goals
      refine (sum_any _ _ _ _ _ _ HSL.out (Nat.le_refl _)).mono ?_; rintro e w1 ⟨rfl, hb1⟩
      have hl1 := Rp.sl_more (Rp.sl_below HSL.out hb1 (Nat.le_refl _)) hb1.size
      go_wp2_with fail
      refine (ref_sum_any _ _ _ _ _ _ hl1 (Nat.le_refl _)).mono ?_; rintro e w' ⟨rfl, rfl⟩
      go_wp2_with fail
      refine (add_any d _ _ _ _ _ _ hl1 (Nat.le_refl _)).mono ?_; rintro e w2 ⟨rfl, hb2⟩
      have hb12 : Below w.heap.size w w2 := hb1.trans (hb2.mono hb1.size)
      have hl2 := Rp.sl_more (Rp.sl_below HSL.out hb12 (Nat.le_refl _)) hb12.size
      clear hl1
      go_wp2_with fail
      refine (ref_add_any d _ _ _ _ _ _ hl2 (Nat.le_refl _)).mono ?_; rintro e w' ⟨rfl, rfl⟩
      go_wp2_with fail
      refine (end_any d _).mono ?_; rintro e w' ⟨rfl, rfl⟩
      rw [HN.out]
      go_wp2_with fail
      refine (begin_any _).mono ?_; rintro e w' ⟨rfl, rfl⟩
      go_wp2_with fail
      refine (turn_any _ _ _ _ _ d _ _ hl2 (Nat.le_refl _) (by omega) (by omega) (by omega)).mono ?_; rintro e w3 ⟨A3, c3, rfl, ho3, hb3⟩
      have hb13 : Below w.heap.size w w3 := hb12.trans (hb3.mono hb12.size)
      have hl3 := Rp.sl_more (Rp.sl_below HSL.out hb13 (Nat.le_refl _)) hb13.size
      go_wp2_with fail
      refine (ref_turn_any _ _ _ _ _ d _ _ hl3 (Nat.le_refl _) (by omega) (by omega) (by omega)).mono ?_; rintro e w4 ⟨A4, c4, rfl, ho4, hb4⟩
      have hx3 := Rp.sl_more (Rp.sl_below (own_bytes ho3) hb4 (Nat.le_refl _)) hb4.size
      have hx4 := own_bytes ho4
      have hb14 : Below w.heap.size w w4 := hb13.trans (hb4.mono hb13.size)
      clear hl2 hl3 ho3 ho4
      go_wp2_with fail
      refine (same_any _ _ _ _ _ _ _ _ _ _ hx3 hx4).mono ?_; rintro e w' ⟨rfl, rfl⟩
      clear hx3 hx4
      go_wp2_with fail
      refine (live_any _).mono ?_; rintro e w5 ⟨rfl, hb5⟩
      go_wp2_with fail
      go_ret
      exact ⟨rfl, hb14.trans (hb5.mono hb14.size)⟩
end Go.Proofs.Ytcapgkfplaebaaa
