/- stripe.Set. -/
import Derived.Test.YtmdgmnaaopineaaSh3
namespace Go.Proofs.Ytmdgmnaaopineaa
open Go.ChangeShapes Go.WideShapes Go.ChangeAt Go.RowKit
set_option linter.unusedVariables false
def SetIs (sets : List (List Nat)) (x : Nat) (w : World) (e : Ending) (w' : World) : Prop :=
  ∃ (k : Nat) (q : Bool), e = .returned (.tuple #[.int .i64 (k : Int), .bool q]) ∧ AtSet sets x sets.length k q ∧ Below w.heap.size w w'
section
variable {D : Dom} {A : Option Addr} {n c f t x : Nat} {sets : List (List Nat)} {w : World}
set_option maxRecDepth 100000 in
set_option maxHeartbeats 1000000 in
theorem stset_any (hs : (rpSlice rpU64).sl w D A n c sets) (hD : ∀ k, D k → k < w.heap.size) (hok : SOk (f, t, sets)) (hf : f ≤ 18446744073709551615) (ht : t ≤ 18446744073709551615) :
    Calls Try.prog 68 #[.agg (stpV f t A n c), .int .u64 (x : Int)] w (SetIs sets x w) := by
  have hb0 := below1 w (.cells (stpV f t A n c) 31)
  have hb00 := below1 (w.alloc (.cells (stpV f t A n c) 31)) (.cells #[.int .u64 (x : Int)] 22)
  have hz : (w.alloc (.cells (stpV f t A n c) 31)).heap.size = w.heap.size + 1 := by simp
  have HS := Lib.hid (keepS (keepS (show Sl (rpSlice rpU64) w D A n c sets from ⟨hs, hD⟩) hb0) hb00)
  have hlen := (Rp.sl_len hs).1
  have hn : n ≤ 100 := by have h8 : sets.length ≤ 8 := hok.2.2.2.1; omega
  have hr := right_any (f := f) (t := t) HS.out.1 HS.out.2 hf ht
  rw [dec_true hok] at hr
  have HR := Lib.hid hr
  have HB := Lib.hid (stepB hb0 hb00)
  have HK := Lib.hid (keepB (blk11 w 31 (stpV f t A n c)) hb00)
  have hx := blk11 (w.alloc (.cells (stpV f t A n c) 31)) 22 #[.int .u64 (x : Int)]
  rw [hz] at hx
  have HX := Lib.hid hx
  have HN := Lib.hid hlen
  clear hs hD hb0 hr hlen hok hb00 hz hx
  go_enter Try.func68, Try.ntmps68
  go_upto_region 1 with (fail)
  generalize World.alloc (World.alloc w _) _ = w0 at *
  have k0 := (show Blk w0 w.heap.size 31 _ from HK.out).cell 0
  have k1 := (show Blk w0 w.heap.size 31 _ from HK.out).cell 1
  have k2 := (show Blk w0 w.heap.size 31 _ from HK.out).cell 2
  go_wp2_with fail
  refine HR.out.mono ?_; rintro e w1 ⟨rfl, hb⟩
  have HS1 := Lib.hid (keepS HS.out hb)
  have HB1 := Lib.hid (stepB HB.out hb)
  have hk1 := keepB (show Blk w0 w.heap.size 31 _ from HK.out) hb
  have HX1 := Lib.hid ((keepB (show Blk w0 (w.heap.size + 1) 22 _ from HX.out) hb).cell 0)
  clear k0 k1 k2 hb
  have k2 := hk1.cell 2
  clear hk1
  go_wp2_with fail
  refine (stfind_any (x := x) HS1.out.1 hn HX1.out).mono ?_; rintro e w2 ⟨r, rfl, hr, rfl⟩
  rcases hr with ⟨k, rfl, hk, hat⟩ | ⟨rfl, hat⟩
  · have HAT := Lib.hid hat
    have h1 : ¬ ((k : Int) < 0) := by omega
    have h2 : decide ((k : Int) < 0) = false := by simp
    have h3 : decide ((0 : Int) ≤ (k : Int)) = true := by simp
    clear hat hk
    go_wp2_with fail
    go_ret2
    exact ⟨k, true, rfl, HAT.out, HB1.out⟩
  · have HAT := Lib.hid hat
    clear hat
    go_wp2_with fail
    go_ret2
    exact ⟨0, false, rfl, HAT.out, HB1.out⟩
end
end Go.Proofs.Ytmdgmnaaopineaa
