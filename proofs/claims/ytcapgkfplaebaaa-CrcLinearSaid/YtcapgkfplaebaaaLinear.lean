/- The sum of the exclusive or of three rows of as many bytes is that of their sums: the walk of CrcLinear. -/
import Derived.Test.YtcapgkfplaebaaaWalk3
import Derived.StillTailTactics
namespace Go.Proofs.Ytcapgkfplaebaaa
open Go.ChangeShapes Go.WideShapes Go.ChangeAt Go.RowKit
open Crc
set_option linter.unusedVariables false

theorem elemB : Elem Try.prog 22 5 1 1 := Elem.of (z := .int .u8 0) Try.underlying22 (by kernel_rfl) rfl (by decide)
theorem xors_snoc {a b : List UInt8} (h : a.length = b.length) (x y : UInt8) : xors (a ++ [x]) (b ++ [y]) = xors a b ++ [x ^^^ y] := by
  unfold xors
  rw [List.zipWith_append h]; rfl
theorem xors_snoc3 {a b c : List UInt8} (h : a.length = b.length) (h' : b.length = c.length) (x y z : UInt8) : xors (xors (a ++ [x]) (b ++ [y])) (c ++ [z]) = xors (xors a b) c ++ [(x ^^^ y) ^^^ z] := by
  rw [xors_snoc h, xors_snoc (by simp [xors, List.length_zipWith]; omega)]
theorem linear_walk (A : Option Addr) (n c : Nat) (l : List UInt8) (seed : Int) (w : World) (hl : rpU8.sl w w.heap.size A n c l) (h0 : 0 ≤ seed) (h1' : seed ≤ 4294967295) :
    Calls Try.prog 4 #[.slice A n c, .int .u32 seed] w fun e w' => e = .returned (.bool true) ∧ Below w.heap.size w w' := by
  obtain ⟨hlen, hnc, hcm⟩ := Rp.sl_len hl
  unfold maxLen at hcm
  have h1 : seed < 4294967296 := by omega
  by_cases hbig : 500 < n
  · have hb : decide ((500 : Int) < (n : Int)) = true := by simp; omega
    clear hl hlen
    go_enter Try.func4, Try.ntmps4
    go_wp2_with (go_at_call 8; refine (live_any _).mono ?_; rintro e w' ⟨rfl, hb⟩)
    go_ret
    exact ⟨rfl, hb⟩
  · have hb : decide ((500 : Int) < (n : Int)) = false := by simp; omega
    have HL := Lib.hid hlen
    have HSL := Lib.hid hl
    clear hlen hl hcm hnc
    go_enter Try.func4, Try.ntmps4
    go_wp2_with fail
    go_loopw [1, 5, 6, 7] (fun s x y i wr => ∃ (k : Nat) (sv : Int) (xl yl : List UInt8) (xA yA : Option Addr) (xc yc : Nat), k ≤ n ∧ i = .int .i64 k ∧ s = .int .u32 sv ∧ 0 ≤ sv ∧ sv < 4294967296 ∧ x = .slice xA k xc ∧ y = .slice yA k yc ∧
      wr.ownsRow w.heap.size 5 1 x k (xl.map bv) ∧ wr.ownsRow w.heap.size 5 1 y k (yl.map bv) ∧ (y.ownBlock = none ∨ y.ownBlock ≠ x.ownBlock) ∧ Below w.heap.size w wr) (fun _ _ _ i _ => n - (intOf i).toNat)
    case atStart => exact ⟨0, seed, [], [], none, none, 0, 0, Nat.zero_le _, rfl, rfl, h0, h1, rfl, rfl, World.ownsRow_nil _ _ _ _, World.ownsRow_nil _ _ _ _, .inl rfl, Below.refl _ _⟩
    case round =>
      obtain ⟨k, sv, xl, yl, xA, yA, xc, yc, hk, rfl, rfl, hs0, hs1, rfl, rfl, hx, hy, hne, hbel⟩ := hrel
      by_cases hlt : k < n
      · have hd : decide ((k : Int) < (n : Int)) = true := by simp; omega
        obtain ⟨b, off, xb, rfl, hbB, hxb, hcell0⟩ := bytes_at HSL.out hlt
        go_wp2_with (first
          | (at_builtin; refine wpList_push_byte rfl (.tmp 23) (.tmp 27) _ rfl elemB rfl hx (by omega) hbel.size rfl (by omega) (by omega) ?_; intro u1 A1 c1 w1 hu1 hx1 hg1 hat1
             have hbel1 : Below w.heap.size w w1 := hbel.grown hg1 hbel.size (fun k hk => (hx.lt k hk).1)
             have hcell1 := (hbel1.cell (p := ⟨b, off + k, none⟩) hbB).trans hcell0
             have hy1 := hy.kept hg1 hne
             have hne1 := own_ne (v' := .slice A1 (k + 1) c1) hy hne hat1
             obtain ⟨v1, hv1⟩ : ∃ v : UInt8, bits .xor .u8 (xb.toNat : Int) (u1.toNat : Int) = (v.toNat : Int) := ⟨_, xor_u8 _ _⟩
             obtain ⟨u3, hu3⟩ := byte_of (v := (sv * 1664525 + 1013904223) % 4294967296 / 65536 % 256) (by omega) (by omega)
             obtain ⟨v2, hv2⟩ : ∃ v : UInt8, bits .xor .u8 (v1.toNat : Int) (u3.toNat : Int) = (v.toNat : Int) := ⟨_, xor_u8 _ _⟩
             have hv2l := v2.toNat_lt
             clear hx hy hg1 hat1 hne hcell0)
          | (at_builtin; refine wpList_push_byte rfl (.tmp 29) (.tmp 42) _ rfl elemB rfl hy1 (by omega) hbel1.size rfl (by omega) (by omega) ?_; intro u2 A2 c2 w2 hu2 hy2 hg2 hat2))
        have hx2 := hx1.kept hg2 (ne_swap hne1)
        have hne2 := ne_swap (own_ne (v' := .slice A2 (k + 1) c2) hx1 (ne_swap hne1) hat2)
        have hbel2 : Below w.heap.size w w2 := hbel1.grown hg2 hbel1.size (fun k hk => (hy1.lt k hk).1)
        go_roundw
        case rel => exact ⟨k + 1, _, xl ++ [u1], yl ++ [u2], A1, A2, c1, c2, by omega, by go_num, rfl, by omega, by omega, by go_num, by go_num, hx2, hy2, hne2, hbel2⟩
        case measure => simp [intOf]; omega
      · obtain rfl : n = k := by omega
        have hd : decide ((n : Int) < (n : Int)) = false := by simp
        have hsx := own_bytes hx
        have hsy := own_bytes hy
        have HX := Lib.hid hsx
        have HY := Lib.hid hsy
        have hlx : xl.length = n := (Rp.sl_len hsx).1
        have hly : yl.length = n := (Rp.sl_len hsy).1
        have HLX := Lib.hid hlx
        have HLY := Lib.hid hly
        clear hx hy hne hsx hsy hlx hly
        go_wp2_with fail
        obtain ⟨wo, rfl⟩ : ∃ wo : World, wo = wr := ⟨_, rfl⟩
        go_loopw [8, 9] (fun z i wr => ∃ (j : Nat) (zA : Option Addr) (zc : Nat), j ≤ n ∧ i = .int .i64 j ∧ z = .slice zA j zc ∧
          wr.ownsRow wo.heap.size 5 1 z j ((xors (xors (l.take j) (xl.take j)) (yl.take j)).map bv) ∧ Below wo.heap.size wo wr) (fun _ i _ => n - (intOf i).toNat)
        case atStart => exact ⟨0, none, 0, Nat.zero_le _, rfl, rfl, World.ownsRow_nil _ _ _ _, Below.refl _ _⟩
        case round =>
          obtain ⟨j, zA, zc, hj, rfl, rfl, hz, hbz⟩ := hrel
          by_cases hlt : j < n
          · have hd : decide ((j : Int) < (n : Int)) = true := by simp; omega
            obtain ⟨b, off, xb, rfl, hbB, hxb, hcell0⟩ := bytes_at HSL.out hlt
            obtain ⟨b1, off1, xb1, rfl, hbB1, hxb1, hcell1⟩ := bytes_at HX.out hlt
            obtain ⟨b2, off2, xb2, rfl, hbB2, hxb2, hcell2⟩ := bytes_at HY.out hlt
            have hc0 := (hbz.cell (p := ⟨b, off + j, none⟩) (Nat.lt_of_lt_of_le hbB hbel.size)).trans ((hbel.cell (p := ⟨b, off + j, none⟩) hbB).trans hcell0)
            have hc1 := (hbz.cell (p := ⟨b1, off1 + j, none⟩) hbB1).trans hcell1
            have hc2 := (hbz.cell (p := ⟨b2, off2 + j, none⟩) hbB2).trans hcell2
            obtain ⟨v1, hv1⟩ : ∃ v : UInt8, bits .xor .u8 (xb.toNat : Int) (xb1.toNat : Int) = (v.toNat : Int) ∧ v = xb ^^^ xb1 := ⟨_, xor_u8 _ _, rfl⟩
            obtain ⟨v2, hv2⟩ : ∃ v : UInt8, bits .xor .u8 (v1.toNat : Int) (xb2.toNat : Int) = (v.toNat : Int) ∧ v = v1 ^^^ xb2 := ⟨_, xor_u8 _ _, rfl⟩
            obtain ⟨hv1, e1⟩ := hv1
            obtain ⟨hv2, e2⟩ := hv2
            have hv2l := v2.toNat_lt
            have E1 := Lib.hid e1
            have E2 := Lib.hid e2
            have HXB := Lib.hid hxb
            have HXB1 := Lib.hid hxb1
            have HXB2 := Lib.hid hxb2
            clear e1 e2 hxb hxb1 hxb2
            go_wp2_with fail
            go_region_held3 (fun w' => w'.cell? ⟨b, off + j, none⟩ = some (.int .u8 (xb.toNat : Int)) ∧ w'.cell? ⟨b1, off1 + j, none⟩ = some (.int .u8 (xb1.toNat : Int)) ∧ w'.cell? ⟨b2, off2 + j, none⟩ = some (.int .u8 (xb2.toNat : Int)))
              (first | go_keep | exact ⟨hk0, hk1, hk2⟩)
              ((refine step_push_byte rfl (.tmp 50) (.tmp 65) _ rfl elemB rfl (hz.alloc _) (by omega) (by have := hbz.size; simp; omega) rfl (by simp; rfl) (by omega) (by omega) ?_; intro u A1 c1 w1 hu hz1 hg1 _
                have hbz1 : Below wo.heap.size wo w1 := (hbz.alloc hbz.size _).drew.grown hg1 (by have := hbz.size; simp; omega) (fun k hk => (hz.lt k hk).1)
                have hk0 := (hbz1.cell (p := ⟨b, off + j, none⟩) (Nat.lt_of_lt_of_le hbB hbel.size)).trans ((hbel.cell (p := ⟨b, off + j, none⟩) hbB).trans hcell0)
                have hk1 := (hbz1.cell (p := ⟨b1, off1 + j, none⟩) hbB1).trans hcell1
                have hk2 := (hbz1.cell (p := ⟨b2, off2 + j, none⟩) hbB2).trans hcell2))
            have hzl : xors (xors (l.take j) (xl.take j)) (yl.take j) ++ [u] = xors (xors (l.take (j + 1)) (xl.take (j + 1))) (yl.take (j + 1)) := by
              have eu : u = (xb ^^^ xb1) ^^^ xb2 := by
                have : v2 = u := UInt8.toNat_inj.1 (by omega)
                rw [← this, E2.out, E1.out]
              rw [eu, take_succ HXB.out, take_succ HXB1.out, take_succ HXB2.out]
              exact (xors_snoc3 (by rw [List.length_take, List.length_take, HL.out, HLX.out]) (by rw [List.length_take, List.length_take, HLX.out, HLY.out]) _ _ _).symm
            rw [hzl] at hz1
            clear hk0 hk1 hk2 hzl hu hg1 hc0 hc1 hc2
            go_wp2_with fail
            go_roundw
            case rel => exact ⟨j + 1, A1, c1, by omega, by go_num, by go_num, hz1, hbz1⟩
            case measure => simp [intOf]; omega
          · obtain rfl : n = j := by omega
            rw [List.take_of_length_le (by rw [HL.out]; omega), List.take_of_length_le (by rw [HLX.out]; omega), List.take_of_length_le (by rw [HLY.out]; omega)] at hz
            have hsz := own_bytes hz
            have hsx := Rp.sl_below HX.out hbz (Nat.le_refl _)
            have hsy := Rp.sl_below HY.out hbz (Nat.le_refl _)
            have hsl := Rp.sl_below HSL.out (hbel.trans (hbz.mono hbel.size)) (Nat.le_refl _)
            have hsum := sum_xor3 l xl yl (by rw [HL.out, HLX.out]) (by rw [HLX.out, HLY.out])
            have hbw : Below w.heap.size w wr := hbel.trans (hbz.mono hbel.size)
            obtain ⟨d1, hd1, e1⟩ : ∃ d : BitVec 32, bits .xor .u32 ((sum l).toNat : Int) ((sum xl).toNat : Int) = (d.toNat : Int) ∧ d = sum l ^^^ sum xl := ⟨_, bits_xor32 _ _, rfl⟩
            obtain ⟨d2, hd2, e2⟩ : ∃ d : BitVec 32, bits .xor .u32 (d1.toNat : Int) ((sum yl).toNat : Int) = (d.toNat : Int) ∧ d = d1 ^^^ sum yl := ⟨_, bits_xor32 _ _, rfl⟩
            rw [← e1, ← e2] at hsum
            have HS := Lib.hid hsum
            have HSZ := Lib.hid hsz
            have HSX := Lib.hid hsx
            have HSY := Lib.hid hsy
            have HSB := Lib.hid hsl
            clear hsum hsz hsx hsy hsl hz e1 e2
            go_wp2_with fail
            refine (sum_any _ _ _ _ _ _ HSZ.out (Nat.le_refl _)).mono ?_; rintro e w1 ⟨rfl, hb1⟩
            rw [HS.out]
            go_wp2_with fail
            refine (sum_any _ _ _ _ _ _ (Rp.sl_below HSB.out (hb1.mono hbw.size) (Nat.le_refl _)) (Nat.le_trans hbw.size hb1.size)).mono ?_; rintro e w2 ⟨rfl, hb2⟩
            have hb12 : Below wr.heap.size wr w2 := hb1.trans (hb2.mono hb1.size)
            go_wp2_with fail
            refine (sum_any _ _ _ _ _ _ (Rp.sl_below HSX.out (hb12.mono hbz.size) (Nat.le_refl _)) (Nat.le_trans hbz.size hb12.size)).mono ?_; rintro e w3 ⟨rfl, hb3⟩
            have hb13 : Below wr.heap.size wr w3 := hb12.trans (hb3.mono hb12.size)
            go_wp2_with fail
            refine (sum_any _ _ _ _ _ _ (Rp.sl_below HSY.out (hb13.mono hbz.size) (Nat.le_refl _)) (Nat.le_trans hbz.size hb13.size)).mono ?_; rintro e w4 ⟨rfl, hb4⟩
            have hb14 : Below wr.heap.size wr w4 := hb13.trans (hb4.mono hb13.size)
            go_wp2_with fail
            refine (live_any _).mono ?_; rintro e w5 ⟨rfl, hb5⟩
            go_wp2_with fail
            go_ret
            exact ⟨rfl, hbw.trans ((hb14.trans (hb5.mono hb14.size)).mono hbw.size)⟩
end Go.Proofs.Ytcapgkfplaebaaa
