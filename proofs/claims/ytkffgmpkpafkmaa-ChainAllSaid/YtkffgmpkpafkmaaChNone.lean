/- ChainNone. -/
import Derived.Test.YtkffgmpkpafkmaaChKeys
namespace Go.Proofs.Ytkffgmpkpafkmaa
open Go.ChangeShapes Go.WideShapes Go.ChangeAt Go.RowKit Go.Maps
set_option linter.unusedVariables false
section
variable {D : Dom} {A : Option Addr} {n c : Nat} {l : List UInt8} {w : World}
theorem near_none (a most : Int) (a0 : -9223372036854775808 ≤ a) (a1 : a ≤ 9223372036854775807) (m0 : -9223372036854775808 ≤ most) (m1 : most ≤ 9223372036854775807) :
    Calls Try.prog 19 #[.pointer none, .int .i64 a, .int .i64 most] w fun e w' => ∃ A c, e = .returned (.slice A 0 c) ∧ Below w.heap.size w w' := by
  refine (near_any (U := allU) (B := 0) (l := []) (m := 0) a most a0 a1 m0 m1 (.inl ⟨rfl, rfl⟩) (Nat.zero_le _)).mono ?_
  rintro e w' ⟨A, n, c, rfl, ho, hb⟩
  have hn : n = 0 := by have := ho.1; simp at this; omega
  subst hn
  exact ⟨A, c, rfl, hb⟩
set_option maxRecDepth 100000 in
set_option maxHeartbeats 4000000 in
theorem cnone_any (a most : Int) (hl : rpU8.sl w D A n c l) (hD : ∀ k, D k → k < w.heap.size) (a0 : -9223372036854775808 ≤ a) (a1 : a ≤ 9223372036854775807) (m0 : -9223372036854775808 ≤ most) (m1 : most ≤ 9223372036854775807) :
    Calls Try.prog 6 #[.slice A n c, .int .i64 a, .int .i64 most] w fun e w' => e = .returned (.bool true) ∧ Below w.heap.size w w' := by
  obtain ⟨hlen, hnc, hcm⟩ := Rp.sl_len hl
  unfold maxLen at hcm
  by_cases h300 : 300 < n
  · have hd : decide ((300 : Int) < (n : Int)) = true := by simp; omega
    clear hlen hl
    go_enter Try.func6, Try.ntmps6
    go_wp2_with fail
    refine (chlive_any _).mono ?_; rintro e w1 ⟨rfl, hb⟩
    go_wp2_with fail
    go_ret
    exact ⟨rfl, hb⟩
  have hn300 : n ≤ 300 := by omega
  have hd : decide ((300 : Int) < (n : Int)) = false := by simp; omega
  have HL := Lib.hid hl
  have HD := Lib.hid hD
  have HLEN := Lib.hid hlen
  clear hlen hl hD h300
  go_enter Try.func6, Try.ntmps6
  go_wp2_with fail
  refine add_none.mono ?_; rintro e w1 ⟨rfl, rfl⟩
  go_wp2_with fail
  refine (addTo_none a a0 a1).mono ?_; rintro e w1 ⟨rfl, rfl⟩
  go_wp2_with fail
  refine added_none.mono ?_; rintro e w1 ⟨rfl, rfl⟩
  go_wp2_with fail
  refine keys_none.mono ?_; rintro e w1 ⟨rfl, rfl⟩
  go_wp2_with fail
  refine (near_none a most a0 a1 m0 m1).mono ?_; rintro e w1 ⟨A1, c1, rfl, hb1⟩
  have HB1 := Lib.hid hb1
  have hz1 := hb1.size
  have hbx : Below w1.heap.size w1 (w1.alloc (.cells #[] 5)) := (Below.refl _ _).alloc (Nat.le_refl _) _
  have HM := Lib.hid (World.ownsRow_made (e := 5) (size := 1) (base := w.heap.size) w1 #[] 0 hz1 (by decide) rfl)
  have HSR := Lib.hid (Src.bytes (Rp.sl_below HL.out (hb1.trans (hbx.mono hz1)) HD.out))
  have HBX := Lib.hid (hb1.trans (hbx.mono hz1))
  clear hb1 hbx
  go_wp2_with (refine wpList_app rfl (.tmp 37) (.tmp 38) 22 rfl elemB rfl HM.out rfl HSR.out (by unfold maxLen; omega) (by omega) (by simp; omega) ?_; intro A2 c2 w2 ho2 hg2 hat2; have HO2 := Lib.hid ho2; have HG2 := Lib.hid (show (w1.alloc (.cells #[] 5)).grownBy w2 (some w1.heap.size) from hg2); clear ho2 hg2 hat2)
  have hb2 : Below w.heap.size w w2 := HBX.out.grown HG2.out HBX.out.size (fun q hq => by injection hq with hq; omega)
  have ho2 := HO2.out
  rw [Nat.zero_add, List.nil_append] at ho2
  have hnew := cnew_any (U := allU) (fun _ _ => trivial) (own_bytes ho2) (own_dom ho2) (by omega)
  have HNEW := Lib.hid hnew
  have HO := Lib.hid ho2
  have HB2 := Lib.hid hb2
  have hz2 := hb2.size
  clear HO2 HG2 hb2 ho2 hnew
  try rw [Nat.zero_add]
  refine HNEW.out.mono ?_; rintro e w3 ⟨g, rfl, hc3, hb3⟩
  have HC3 := Lib.hid hc3
  have HB3 := Lib.hid (HB2.out.trans (hb3.mono hz2))
  have HO3 := Lib.hid (ownsRow_same HO.out (fun k hk => hb3.block k (HO.out.lt k hk).2))
  have hz3 := hb3.size
  clear hc3 hb3
  go_wp2_with fail
  go_loopw [10] (fun i wr => ∃ k : Nat, k ≤ n ∧ i = .int .i64 (k : Int) ∧ Hid (∃ l' : List UInt8, wr.ownsRow w.heap.size 5 1 (.slice A2 n c2) n (l'.map bv)) ∧ Hid (Chn allU wr w2.heap.size g l 0) ∧ Hid (Below w.heap.size w wr)) (fun i _ => n - (intOf i).toNat)
  case atStart => exact ⟨0, by omega, rfl, ⟨l, HO3.out⟩, HC3.out, HB3.out⟩
  case round =>
    obtain ⟨k, hk, rfl, how, hch, hbw⟩ := hrel
    by_cases hkn : k < n
    · obtain ⟨l', ho'⟩ := how.out
      have hl' : l'.length = n := by have := ho'.1; simpa using this
      obtain ⟨g1, rfl, hg1, hg1l, hfz, hcell, hput⟩ := own_block ho' (by omega)
      have hg2 : g1 < w2.heap.size := (HO.out.lt g1 rfl).2
      obtain ⟨y, hy⟩ : ∃ y, l'[k]? = some y := ⟨l'[k], List.getElem?_eq_getElem (by omega)⟩
      have q0 : wr.cell? ⟨g1, k, none⟩ = some (.int .u8 (y.toNat : Int)) := hcell k _ (by rw [List.getElem?_map, hy]; rfl)
      have q1 := hfz k
      obtain ⟨u, hu⟩ := byte_of (bits_u8 .xor (y.toNat : Int) ((k : Int) % 256) (.inl rfl)).1 (bits_u8 .xor (y.toNat : Int) ((k : Int) % 256) (.inl rfl)).2
      have hput2 : Hid ((wr.setCell ⟨g1, k, none⟩ (.int .u8 (u.toNat : Int))).ownsRow w.heap.size 5 1 (.slice (some ⟨g1, 0, none⟩) n c2) n ((l'.set k u).map bv)) := by
        have := hput k (bv u) hkn
        rw [List.map_set]
        exact this
      have hch2 : Hid (Chn allU (wr.setCell ⟨g1, k, none⟩ (.int .u8 (u.toNat : Int))) w2.heap.size g l 0) := hch.out.keep (by simp) (fun j _ hj _ => Below.heap_setCell wr ⟨g1, k, none⟩ _ j (by intro e; have e' : j = g1 := e; omega))
      have hb2 : Hid (Below w.heap.size w (wr.setCell ⟨g1, k, none⟩ (.int .u8 (u.toNat : Int)))) := hbw.out.setCell (p := ⟨g1, k, none⟩) hg1 _
      have hd : decide ((k : Int) < (n : Int)) = true := by simp; omega
      clear ho' hfz hcell hput hy
      go_wp2_with fail
      go_roundw
      case rel => exact ⟨k + 1, by omega, by go_num, ⟨_, hput2.out⟩, hch2.out, hb2.out⟩
      case measure => simp [intOf]; omega
    · obtain rfl : k = n := by omega
      have hd : decide ((k : Int) < (k : Int)) = false := by simp
      have hadd := addTo_any 300 (fun _ _ => trivial) hch.out (by have := HLEN.out; omega) (by decide) (by decide)
      have hup : upTo l.length 0 300 = l.length := by unfold upTo; have := HLEN.out; omega
      rw [hup] at hadd
      have HADD := Lib.hid hadd
      clear hadd hup
      go_wp2_with fail
      refine HADD.out.mono ?_; rintro e w4 ⟨rfl, hc4, hb4, _⟩
      have HC4 := Lib.hid hc4
      have hb4' := hbw.out.trans (hb4.mono hz2)
      have HB4 := Lib.hid hb4'
      have hz4 := hb4'.size
      clear hc4 hb4 hb4'
      go_wp2_with fail
      refine (near_chn a most a0 a1 m0 m1 HC4.out (by have := HLEN.out; omega)).mono ?_; rintro e w5 ⟨A5, n5, c5, rfl, ho5, hb5⟩
      have hb5' := HB4.out.trans (hb5.mono hz4)
      have HB5 := Lib.hid hb5'
      have hz5 := hb5'.size
      have HO5 := Lib.hid ho5
      have hrn := rnear_any k a most (Rp.sl_below HL.out hb5' HD.out) (fun j hj => Nat.lt_of_lt_of_le (HD.out j hj) hz5) (by omega) (Nat.le_refl _) a0 a1 m0 m1
      have HRN := Lib.hid hrn
      clear ho5 hb5 hb5' hrn
      go_wp2_with fail
      refine HRN.out.mono ?_; rintro e w6 ⟨A6, n6, c6, rfl, ho6, hb6⟩
      have hb6' := HB5.out.trans (hb6.mono hz5)
      have HB6 := Lib.hid hb6'
      have hz6 := hb6'.size
      have hkl : k = l.length := HLEN.out.symm
      have hbd : ∀ x ∈ near l k a most, -9223372036854775808 ≤ x ∧ x < 9223372036854775808 := near_bound (by omega)
      have hi5 := own_int (show w5.ownsRow _ _ _ _ _ ((near l k a most).map iv) by rw [hkl]; exact HO5.out) hbd
      have hi6 := own_int ho6 hbd
      have hint := rints_any (Rp.sl_below hi5 hb6 (own_dom HO5.out)) hi6 (fun j hj => Nat.lt_of_lt_of_le (own_dom HO5.out j hj) hb6.size) (own_dom ho6)
      rw [dec_true rfl] at hint
      have HINT := Lib.hid hint
      clear ho6 hb6 hb6' hi5 hi6 hint hkl hbd
      go_wp2_with fail
      refine HINT.out.mono ?_; rintro e w7 ⟨rfl, hb7⟩
      have hb7' := HB6.out.trans (hb7.mono hz6)
      have HB7 := Lib.hid hb7'
      have hz7 := hb7'.size
      clear hb7 hb7'
      go_wp2_with fail
      refine (chlive_any _).mono ?_; rintro e w8 ⟨rfl, hb8⟩
      go_wp2_with fail
      go_ret
      exact ⟨rfl, HB7.out.trans (hb8.mono hz7)⟩
end
theorem chainNone_sl (A : Option Addr) (n c : Nat) (l : List UInt8) (a most : Int) (w : World) (hl : rpU8.sl w (lt w.heap.size) A n c l) (a0 : -9223372036854775808 ≤ a) (a1 : a ≤ 9223372036854775807) (m0 : -9223372036854775808 ≤ most) (m1 : most ≤ 9223372036854775807) :
    Calls Try.prog 6 #[.slice A n c, .int .i64 a, .int .i64 most] w fun e w' => e = .returned (.bool true) ∧ Below w.heap.size w w' :=
  cnone_any a most hl (fun k hk => hk) a0 a1 m0 m1
end Go.Proofs.Ytkffgmpkpafkmaa
