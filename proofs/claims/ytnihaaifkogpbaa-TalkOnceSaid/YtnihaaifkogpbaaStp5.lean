/- The walks of Dealt, Share, Back; whether sets are too many. -/
import Derived.Test.YtnihaaifkogpbaaStp4
namespace Go.Proofs.Ytnihaaifkogpbaa
open Go.ChangeShapes Go.WideShapes Go.ChangeAt Go.RowKit
set_option linter.unusedVariables false
section
variable {D : Dom} {A : Option Addr} {n c f t : Nat} {sets : List (List Nat)} {w : World}
def SomeBool (R : Bool → World → Prop) (e : Ending) (w' : World) : Prop := ∃ b : Bool, e = .returned (.bool b) ∧ R b w'
theorem long_any (hs : (rpSlice rpU64).sl w D A n c sets) (hD : ∀ k, D k → k < w.heap.size) :
    Calls Try.prog 75 #[.agg (stpV f t A n c)] w (SomeBool fun b w' => (b = false → sets.length ≤ 20 ∧ ∀ (i : Nat) l, sets[i]? = some l → l.length ≤ 20) ∧ Below w.heap.size w w') := by
  obtain ⟨hlen, hnc, hcm⟩ := Rp.sl_len hs
  unfold maxLen at hcm
  subst hlen
  have hb0 : Below w.heap.size w (w.alloc (.cells (stpV f t A sets.length c) 112)) := (Below.refl _ _).alloc (Nat.le_refl _) _
  have HS := Lib.hid (Rp.sl_below hs hb0 hD)
  have HB0 := Lib.hid hb0
  have HK := Lib.hid (Blk.new w 112 (stpV f t A sets.length c))
  clear hs hD hb0
  go_enter Try.func75, Try.ntmps75
  go_wp2_with fail
  generalize World.alloc w _ = w0 at *
  have hbk := (show Blk _ _ _ _ from HK.out)
  have d2 : w0.cell? ⟨w.heap.size, 2, none⟩ = some (.slice A sets.length c) := hbk.cell 2
  clear hbk
  go_loop [3] (fun i => ∃ k : Nat, k ≤ sets.length ∧ k ≤ 20 ∧ i = .int .i64 k ∧ Hid (∀ (i : Nat) l, i < k → sets[i]? = some l → l.length ≤ 20)) (fun i => sets.length - (intOf i).toNat)
  case atStart => exact ⟨0, by omega, by omega, rfl, fun j x h => by omega⟩
  case round =>
    obtain ⟨k, hk, hk20, rfl, hsh⟩ := hrel
    by_cases hin : k < sets.length ∧ k < 20
    · obtain ⟨h1, h2⟩ := hin
      obtain ⟨b, off, s, A2, c2, rfl, hb, hs, hcell, hrow⟩ := rows_at HS.out h1
      obtain ⟨_, hs1, hs2⟩ := Rp.sl_len hrow
      unfold maxLen at hs2
      have HSS := Lib.hid hs
      clear hrow hs
      by_cases hl : 20 < s.length
      · go_wp2_with fail
        go_ret
        exact ⟨true, rfl, by simp, HB0.out⟩
      · go_wp2_with fail
        go_round
        case rel =>
          refine ⟨k + 1, by omega, by omega, by go_num, fun j y hj hy => ?_⟩
          rcases Nat.lt_or_ge j k with h | h
          · exact hsh.out j y h hy
          · obtain rfl : j = k := by omega
            rw [HSS.out] at hy
            injection hy with hy
            subst hy
            omega
        case measure => simp [intOf]; omega
    · by_cases hmany : 20 < sets.length
      · obtain rfl : k = 20 := by omega
        clear hin
        go_wp2_with fail
        go_ret
        exact ⟨true, rfl, by simp, HB0.out⟩
      · obtain rfl : k = sets.length := by omega
        clear hin
        go_wp2_with fail
        go_ret
        have hall : ∀ (i : Nat) l, sets[i]? = some l → l.length ≤ 20 := fun i l hl => hsh.out i l (List.getElem?_eq_some_iff.1 hl).1 hl
        exact ⟨false, by simp; omega, by first | exact fun _ => ⟨by omega, hall⟩ | exact fun _ => hall, HB0.out⟩
end
end Go.Proofs.Ytnihaaifkogpbaa
