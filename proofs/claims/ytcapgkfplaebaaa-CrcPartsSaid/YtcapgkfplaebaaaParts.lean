/- Sums of parts: the walks of Join, Parts and CrcParts. -/
import Derived.Test.YtcapgkfplaebaaaZeros
import Derived.Test.YtcapgkfplaebaaaTurn
import Derived.StillTailTactics
namespace Go.Proofs.Ytcapgkfplaebaaa
open Go.ChangeShapes Go.WideShapes Go.ChangeAt Go.RowKit
open Crc
set_option linter.unusedVariables false

theorem join_any (a b : BitVec 32) (n : Int) (w : World) (h0 : -9223372036854775808 ≤ n) (h1 : n ≤ 9223372036854775807) :
    Calls Try.prog 20 #[.int .u32 (a.toNat : Int), .int .u32 (b.toNat : Int), .int .i64 n] w fun e w' => ∃ u : BitVec 32, e = .returned (.int .u32 (u.toNat : Int)) ∧ Hid (u = zeros n.toNat a ^^^ b) ∧ Below w.heap.size w w' := by
  go_enter Try.func20, Try.ntmps20
  go_wp2_with fail
  refine (zeros_ex a n _ h0 h1).mono ?_; rintro e w1 ⟨u, rfl, hu, hb⟩
  have hx := bits_xor32 u b
  have hv : u ^^^ b = zeros n.toNat a ^^^ b := by rw [hu.out]
  generalize u ^^^ b = v at *
  have HV := Lib.hid hv
  clear hv
  go_wp2_with fail
  go_ret
  exact ⟨v, rfl, HV, hb⟩

theorem parts_any (A : Option Addr) (n c : Nat) (l : List (List UInt8)) (w : World) (hl : (rpSlice rpU8).sl w w.heap.size A n c l) (hsm : n ≤ 1000000) :
    Calls Try.prog 21 #[.slice A n c] w fun e w' => e = .returned (.int .u32 ((sum l.flatten).toNat : Int)) ∧ Below w.heap.size w w' := by
  obtain ⟨hlen, hnc, hcm⟩ := Rp.sl_len hl
  have HL := Lib.hid hlen
  have HSL := Lib.hid hl
  clear hlen hl hcm hnc
  go_enter Try.func21, Try.ntmps21
  go_wp2_with fail
  refine (begin_any _).mono ?_; rintro e w' ⟨rfl, rfl⟩
  go_wp2_with fail
  go_loopw [3, 9] (fun s i wr => ∃ k : Nat, k ≤ n ∧ i = .int .i64 k ∧ s = .int .u32 ((add full (l.take k).flatten).toNat : Int) ∧ Below w.heap.size w wr) (fun _ i _ => n - (intOf i).toNat)
  case atStart => exact ⟨0, by omega, rfl, rfl, Below.refl _ _⟩
  case round =>
    obtain ⟨k, hk, rfl, rfl, hbel⟩ := hrel
    by_cases hlt : k < n
    · have hd : decide ((k : Int) < (n : Int)) = true := by simp; omega
      have hsl := Rp.sl_below HSL.out hbel (Nat.le_refl _)
      obtain ⟨b, off, x, A', c', rfl, hbB, hx, hcell, hxs⟩ := rows_at hsl hlt
      have hadd : add full (l.take (k + 1)).flatten = add (add full (l.take k).flatten) x := by
        rw [take_succ hx, List.flatten_append, add_append]; simp
      have HA := Lib.hid hadd
      have HXS := Lib.hid hxs
      clear hadd hxs hx hsl
      go_wp2_with fail
      refine (add_any _ _ _ _ _ _ _ HXS.out hbel.size).mono ?_; rintro e w1 ⟨rfl, hb1⟩
      have hbel1 := hbel.trans (hb1.mono hbel.size)
      go_wp2_with fail
      go_roundw
      case rel => exact ⟨k + 1, by omega, by go_num, by rw [HA.out], hbel1⟩
      case measure => simp [intOf]; omega
    · obtain rfl : n = k := by omega
      rw [List.take_of_length_le (by rw [HL.out]; omega)]
      have hs : sum l.flatten = ~~~ add full l.flatten := rfl
      have HS := Lib.hid hs
      clear hs
      go_wp2_with fail
      refine (end_any _ _).mono ?_; rintro e w' ⟨rfl, rfl⟩
      go_wp2_with fail
      go_ret
      exact ⟨ret_u32 (by rw [HS.out, BitVec.toNat_not]), hbel⟩

theorem flat_le {l : List (List UInt8)} {n : Nat} (h : ∀ j x, j < n → l[j]? = some x → x.length ≤ 200) : ∀ k, k ≤ n → (l.take k).flatten.length ≤ 200 * k
  | 0, _ => by simp
  | k + 1, hk => by
    have ih := flat_le h k (by omega)
    cases hx : l[k]? with
    | none =>
      have : l.length ≤ k := List.getElem?_eq_none_iff.1 hx
      rw [List.take_of_length_le (by omega)] at ih ⊢
      omega
    | some x =>
      rw [take_succ hx, List.flatten_append, List.length_append]
      have := h k x (by omega) hx
      have e : [x].flatten = x := by simp
      rw [e]
      omega
theorem parts_walk (A : Option Addr) (n c : Nat) (l : List (List UInt8)) (w : World) (hl : (rpSlice rpU8).sl w w.heap.size A n c l) :
    Calls Try.prog 7 #[.slice A n c] w fun e w' => e = .returned (.bool true) ∧ Below w.heap.size w w' := by
  obtain ⟨hlen, hnc, hcm⟩ := Rp.sl_len hl
  unfold maxLen at hcm
  have hn1 : n ≤ 9223372036854775807 := by omega
  have HL := Lib.hid hlen
  have HSL := Lib.hid hl
  clear hlen hl hcm hnc
  go_enter Try.func7, Try.ntmps7
  go_wp2_with fail
  go_loop [3] (fun i => ∃ k : Nat, k ≤ n ∧ k ≤ 40 ∧ i = .int .i64 k ∧ Hid (∀ j x, j < k → l[j]? = some x → x.length ≤ 200)) (fun i => n - (intOf i).toNat)
  case atStart => exact ⟨0, by omega, by omega, rfl, fun j x hj => by omega⟩
  case round =>
    obtain ⟨k, hk, hk40, rfl, hsm⟩ := hrel
    by_cases hlt : k < n
    · by_cases hlt4 : k < 40
      · have hd : decide ((k : Int) < (n : Int)) = true := by simp; omega
        have hd4 : decide ((k : Int) < 40) = true := by simp; omega
        obtain ⟨b, off, x, A', c', rfl, hbB, hx, hcell, hxs⟩ := rows_at HSL.out hlt
        have HX := Lib.hid hx
        have HXS := Lib.hid hxs
        clear hx hxs
        by_cases hbig : 200 < x.length
        · have hb : decide ((200 : Int) < (x.length : Int)) = true := by simp; omega
          go_wp2_with fail
          refine (live_any _).mono ?_; rintro e w' ⟨rfl, hb⟩
          go_wp2_with fail
          go_ret
          exact ⟨rfl, hb⟩
        · have hb : decide ((200 : Int) < (x.length : Int)) = false := by simp; omega
          go_wp2_with fail
          go_round
          case rel => exact ⟨k + 1, by omega, by omega, by go_num, fun j y hj hy => by
            rcases Nat.lt_or_ge j k with h | h
            · exact hsm.out j y h hy
            · obtain rfl : j = k := by omega
              rw [HX.out] at hy
              injection hy with hy
              subst hy
              omega⟩
          case measure => simp [intOf]; omega
      · have hd : decide ((k : Int) < (n : Int)) = true := by simp; omega
        have hd4 : decide ((k : Int) < 40) = false := by simp; omega
        have hb : decide ((40 : Int) < (n : Int)) = true := by simp; omega
        go_wp2_with fail
        refine (live_any _).mono ?_; rintro e w' ⟨rfl, hb⟩
        go_wp2_with fail
        go_ret
        exact ⟨rfl, hb⟩
    · obtain rfl : n = k := by omega
      have hd : decide ((n : Int) < (n : Int)) = false := by simp
      have hb : decide ((40 : Int) < (n : Int)) = false := by simp; omega
      go_wp2_with fail
      refine (begin_any _).mono ?_; rintro e w' ⟨rfl, rfl⟩
      go_wp2_with fail
      go_loopw [4, 5, 6, 7] (fun o s t i wr => ∃ (k L : Nat) (oA : Option Addr) (oc : Nat) (xl : List UInt8), k ≤ n ∧ i = .int .i64 k ∧ o = .slice oA L oc ∧ s = .int .u32 ((add full xl).toNat : Int) ∧ t = .int .u32 ((sum xl).toNat : Int) ∧ Hid (xl = (l.take k).flatten) ∧
        L ≤ 200 * k ∧ wr.ownsRow w.heap.size 5 1 o L (xl.map bv) ∧ Below w.heap.size w wr) (fun _ _ _ i _ => n - (intOf i).toNat)
      case atStart => exact ⟨0, 0, none, 0, [], Nat.zero_le _, rfl, rfl, rfl, by rw [sum_nil]; rfl, rfl, by omega, World.ownsRow_nil _ _ _ _, Below.refl _ _⟩
      case round =>
        obtain ⟨k, L, oA, oc, xl, hk', rfl, rfl, rfl, rfl, hxl, hL, ho, hbel⟩ := hrel
        by_cases hlt : k < n
        · have hd' : decide ((k : Int) < (n : Int)) = true := by simp; omega
          obtain ⟨b, off, x, A', c', rfl, hbB, hx, hcell, hxs⟩ := rows_at HSL.out hlt
          have hxlen := hsm.out k x hlt hx
          have hcell1 := (hbel.cell (p := ⟨b, off + k, none⟩) hbB).trans hcell
          have hxs1 := Rp.sl_below hxs hbel (Nat.le_refl _)
          have hadd : add (add full xl) x = add full (xl ++ x) := (add_append _ _ _).symm
          have hjoin : zeros x.length (sum xl) ^^^ sum x = sum (xl ++ x) := (sum_append _ _).symm
          have hxl' : xl ++ x = (l.take (k + 1)).flatten := by
            rw [take_succ hx, List.flatten_append, ← hxl.out]; simp
          have HX := Lib.hid hx
          have HXS := Lib.hid hxs
          have HXS1 := Lib.hid hxs1
          have HADD := Lib.hid hadd
          have HJ := Lib.hid hjoin
          have HXL := Lib.hid hxl'
          clear hx hxs hxs1 hadd hjoin hxl' hxl
          go_wp2_with (at_builtin; refine wpList_app rfl (.tmp 36) (.tmp 40) _ rfl elemB rfl ho rfl (Src.bytes HXS1.out) (by unfold maxLen; omega) (by omega) hbel.size ?_; intro A1 c1 w1 ho1 hg1 hat1
                       have hbel1 : Below w.heap.size w w1 := hbel.grown hg1 hbel.size (fun k hk => (ho.lt k hk).1)
                       rw [← List.map_append] at ho1
                       have hcell2 := (hbel1.cell (p := ⟨b, off + k, none⟩) hbB).trans hcell
                       clear hcell1 ho hg1 hat1)
          refine (add_any (add full xl) _ _ _ x _ _ (Rp.sl_below HXS.out hbel1 (Nat.le_refl _)) hbel1.size).mono ?_; rintro e w2 ⟨rfl, hb2⟩
          have hbel2 := hbel1.trans (hb2.mono hbel1.size)
          have hcell3 := (hbel2.cell (p := ⟨b, off + k, none⟩) hbB).trans hcell
          have ho2 := ho1.kept (row := none) ⟨hb2.os, hb2.tape, hb2.output, hb2.size, fun k hk _ => hb2.block k hk⟩ (by cases (Value.slice A1 (L + x.length) c1).ownBlock <;> simp)
          rw [HADD.out]
          clear hcell2 ho1 hb2
          go_wp2_with fail
          go_region_held3 (fun w' => w'.cell? ⟨b, off + k, none⟩ = some (.slice A' x.length c'))
            (first | go_keep | exact hk3)
            ((first
              | (go_at_call 12; refine (ref_sum_any A' x.length c' x w.heap.size _ (by exact Rp.sl_below HXS.out hbel2.drew (Nat.le_refl _)) hbel2.drew.size).mono ?_; rintro e w' ⟨rfl, rfl⟩)
              | (go_at_call 20; refine (join_any (sum xl) (sum x) x.length _ (by omega) (by omega)).mono ?_; rintro e w3 ⟨u, rfl, hu, hb3⟩
                 have hbel3 : Below w.heap.size w w3 := hbel2.drew.trans (hb3.mono hbel2.size)
                 have hk3 := (hbel3.cell (p := ⟨b, off + k, none⟩) hbB).trans hcell)))
          obtain rfl : u = sum (xl ++ x) := by rw [hu.out, Int.toNat_natCast, HJ.out]
          have ho3 := ho2.kept (w' := w3) (row := none) ⟨hb3.os, hb3.tape, hb3.output, hb3.size, fun k hk _ => hb3.block k hk⟩ (by cases (Value.slice A1 (L + x.length) c1).ownBlock <;> simp)
          have hsx := own_bytes ho3
          have HSX := Lib.hid hsx
          have hend : ~~~ add full (xl ++ x) = sum (xl ++ x) := rfl
          have hne := (eq_u32 (rfl : sum (xl ++ x) = sum (xl ++ x))).2
          clear hsx hu hk3 hcell3 ho2 hb3
          go_wp2_with fail
          refine (ref_sum_any _ _ _ _ _ _ HSX.out (Nat.le_refl _)).mono ?_; rintro e w' ⟨rfl, rfl⟩
          go_wp2_with fail
          refine (end_any _ _).mono ?_; rintro e w' ⟨rfl, rfl⟩
          rw [hend]
          clear hend
          go_wp2_with fail
          go_roundw
          case rel => exact ⟨k + 1, L + x.length, A1, c1, xl ++ x, by omega, by go_num, by simp, rfl, rfl, HXL, by omega, ho3, hbel3⟩
          case measure => simp [intOf]; omega
        · obtain rfl : n = k := by omega
          have hd' : decide ((n : Int) < (n : Int)) = false := by simp
          rw [List.take_of_length_le (by rw [HL.out]; omega)] at hxl
          obtain rfl := hxl.out
          have hlr := Rp.sl_more (Rp.sl_below HSL.out hbel (Nat.le_refl _)) hbel.size
          have HLR := Lib.hid hlr
          have HO := Lib.hid ho
          clear hlr ho hxl
          go_wp2_with fail
          refine (parts_any _ _ _ _ _ HLR.out (by omega)).mono ?_; rintro e w1 ⟨rfl, hb1⟩
          have ho1 := HO.out.kept (w' := w1) (row := none) ⟨hb1.os, hb1.tape, hb1.output, hb1.size, fun k hk _ => hb1.block k hk⟩ (by cases (Value.slice oA L oc).ownBlock <;> simp)
          have hsx := own_bytes ho1
          have HSX := Lib.hid hsx
          have hbel1 := hbel.trans (hb1.mono hbel.size)
          clear hsx ho1
          go_wp2_with fail
          refine (ref_sum_any _ _ _ _ _ _ HSX.out (Nat.le_refl _)).mono ?_; rintro e w' ⟨rfl, rfl⟩
          go_wp2_with fail
          refine (live_any _).mono ?_; rintro e w2 ⟨rfl, hb2⟩
          go_wp2_with fail
          go_ret
          exact ⟨rfl, hbel1.trans (hb2.mono hbel1.size)⟩
end Go.Proofs.Ytcapgkfplaebaaa
