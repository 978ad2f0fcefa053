/- The example of chapter 2's laws. -/
import Derived.Test.YtjgcgedjpppfmaaCurBad
import Derived.Test.YtjgcgedjpppfmaaCur3
import Derived.Test.YtjgcgedjpppfmaaLive
namespace Go.Proofs.Ytjgcgedjpppfmaa
open Go.ChangeShapes Go.WideShapes Go.ChangeAt Go.RowKit
set_option linter.unusedVariables false
theorem three_at (w : World) (a b c : UInt8) (e : TypeId) : rpU8.sl (w.alloc (.cells #[.int .u8 (a.toNat : Int), .int .u8 (b.toNat : Int), .int .u8 (c.toNat : Int)] e)) (fun k => k = w.heap.size) (some ⟨w.heap.size, 0, none⟩) 3 3 [a, b, c] :=
  built_at (fun i => (Blk.new w _ _).cell i) (fun i x hx => by
    match i, hx with
    | 0, hx | 1, hx | 2, hx => cases hx; rfl) 3 rfl (by decide)
theorem clive_any (w : World) : Calls Try.prog 28 #[] w fun e w' => e = .returned (.bool true) ∧ Below w.heap.size w w' := by
  go_enter Try.func28, Try.ntmps28
  go_wp2_with fail
  refine (cnew_any (three_at w 7 8 9 _) (fun k hk => by simp; omega)).mono ?_; rintro e w1 ⟨rfl, hr1, hb1⟩
  have eg : ∀ o, (w.alloc o).heap.size = w.heap.size + 1 := fun o => by simp
  rw [eg] at hr1
  clear eg
  have HR1 := Lib.hid hr1
  have HB1 := Lib.hid (((Below.refl w.heap.size w).alloc (Nat.le_refl _) _).trans (hb1.mono (by simp)))
  clear hr1 hb1
  go_wp2_with fail
  refine (ctake_at HR1.out 2 (by decide) (by decide) (by decide)).mono ?_; rintro e w2 ⟨A2, n2, c2, rfl, ho2, hr2, hch2⟩
  have e2 : takeB [7, 8, 9] 0 (0, 0) 2 = [7, 8] := by decide
  have e2' : skipF [(7 : UInt8), 8, 9].length 0 (0, 0) 2 = (2, (0, 0), true) := by decide
  rw [e2] at ho2
  rw [e2'] at hr2
  have hn2 : n2 = 2 := by have := ho2.1; simpa using this.symm
  subst hn2
  have HR2 := Lib.hid hr2
  have HB2 := Lib.hid (HB1.out.trans (hch2.below (B := w.heap.size) HB1.out.size (fun k hk => by rw [show k = _ from hk]; simp)))
  clear hr2 ho2 hch2 e2 e2'
  go_wp2_with fail
  refine (cbyte_at HR2.out (by decide)).mono ?_; rintro e w3 ⟨rfl, hr3, hch3⟩
  have e3 : byteB [7, 8, 9] 2 (0, 0) = 9 := by decide
  have e3' : skipF [(7 : UInt8), 8, 9].length 2 (0, 0) 1 = (3, (0, 0), true) := by decide
  rw [e3]
  rw [e3'] at hr3
  have HR3 := Lib.hid hr3
  have HB3 := Lib.hid (HB2.out.trans (hch3.below (B := w.heap.size) HB2.out.size (fun k hk => by rw [show k = _ from hk]; simp)))
  clear hr3 hch3 e3 e3'
  go_wp2_with fail
  refine (cgood_at HR3.out).mono ?_; rintro e w4 ⟨rfl, hb4⟩
  have HR4 := Lib.hid (HR3.out.below hb4)
  have HB4 := Lib.hid (HB3.out.trans (hb4.mono HB3.out.size))
  clear hb4
  go_wp2_with fail
  refine (cleft_at HR4.out).mono ?_; rintro e w5 ⟨rfl, hb5⟩
  have HR5 := Lib.hid (HR4.out.below hb5)
  have HB5 := Lib.hid (HB4.out.trans (hb5.mono HB4.out.size))
  clear hb5
  go_wp2_with fail
  refine (cbyte_at HR5.out (by decide)).mono ?_; rintro e w6 ⟨rfl, hr6, hch6⟩
  have e6 : byteB [7, 8, 9] 3 (0, 0) = 0 := by decide
  have e6' : skipF [(7 : UInt8), 8, 9].length 3 (0, 0) 1 = (3, (1, 3), false) := by decide
  rw [e6]
  rw [e6'] at hr6
  have HR6 := Lib.hid hr6
  have HB6 := Lib.hid (HB5.out.trans (hch6.below (B := w.heap.size) HB5.out.size (fun k hk => by rw [show k = _ from hk]; simp)))
  clear hr6 hch6 e6 e6'
  go_wp2_with fail
  refine (cfault_at HR6.out).mono ?_; rintro e w7 ⟨rfl, hb7⟩
  go_wp2_with fail
  go_ret
  exact ⟨rfl, HB6.out.trans (hb7.mono HB6.out.size)⟩
end Go.Proofs.Ytjgcgedjpppfmaa
