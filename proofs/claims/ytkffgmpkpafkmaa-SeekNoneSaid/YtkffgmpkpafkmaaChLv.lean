/- The example of chapter 13's laws. -/
import Derived.Laws.OwnMore
import Derived.Lib.SmallJoins
import Derived.Test.YtkffgmpkpafkmaaChW
namespace Go.Proofs.Ytkffgmpkpafkmaa
open Go.ChangeShapes Go.WideShapes Go.ChangeAt Go.RowKit Go.Maps
set_option linter.unusedVariables false
abbrev allU : Dom := fun _ => True
theorem placesL_length (l : List UInt8) (m : Nat) (a : Int) : (placesL l m a).length ≤ m := by
  unfold placesL
  split
  · unfold pls
    rw [List.length_map]
    exact Nat.le_trans (length_down _ _ _) (Nat.min_le_right _ _)
  · exact Nat.zero_le _
theorem places_near {l : List UInt8} {m : Nat} {a most : Int} (hl : l.length ≤ 60000) : ((placesL l m a).take most.toNat).map fv = (near l m a most).map iv := by
  unfold placesL near dnr ofN
  by_cases h1 : 0 ≤ a ∧ a + 4 ≤ l.length
  · rw [if_pos h1, if_pos (by omega), if_pos (by omega)]
    unfold pls
    rw [← List.map_take, List.map_map, List.map_map]
    apply List.map_congr_left
    intro p hp
    have := mem_down.1 (List.mem_of_mem_take hp)
    have h2 : p < 65536 := by omega
    show Value.int .i64 (((p % 65536 : Nat)) : Int) = Value.int .i64 (p : Int)
    rw [Nat.mod_eq_of_lt h2]
  · rw [if_neg h1]
    by_cases h2 : 0 ≤ a ∧ a ≤ l.length
    · rw [if_pos h2, if_neg (by omega)]
      simp
    · rw [if_neg h2]
      simp
/-- Near, of a chain: what the reference says. -/
theorem near_chn {U : Dom} {B g m : Nat} {l : List UInt8} {w : World} (a most : Int) (a0 : -9223372036854775808 ≤ a) (a1 : a ≤ 9223372036854775807) (m0 : -9223372036854775808 ≤ most) (m1 : most ≤ 9223372036854775807) (h : Chn U w B g l m) (hl : l.length ≤ 60000) :
    Calls Try.prog 19 #[.pointer (some ⟨g, 0, none⟩), .int .i64 a, .int .i64 most] w fun e w' => ∃ A n c, e = .returned (.slice A n c) ∧ w'.ownsRow w.heap.size 3 1 (.slice A n c) n ((near l m a most).map iv) ∧ Below w.heap.size w w' := by
  have := near_any a most a0 a1 m0 m1 (.inr ⟨g, rfl, h, rfl, hl⟩) (Nat.le_trans (placesL_length l m a) (Nat.le_trans h.le hl))
  rw [places_near hl] at this
  exact this
abbrev exB : List UInt8 := [97, 98, 99, 100, 97, 98, 99, 100, 97, 98, 99, 100]
abbrev exC : Array Value := #[.int .u8 97, .int .u8 98, .int .u8 99, .int .u8 100, .int .u8 97, .int .u8 98, .int .u8 99, .int .u8 100, .int .u8 97, .int .u8 98, .int .u8 99, .int .u8 100]
theorem own_dom {w : World} {base : Nat} {e : TypeId} {size n : Nat} {v : Value} {xs : List Value} (h : w.ownsRow base e size v n xs) : ∀ k, some k = v.ownBlock → k < w.heap.size := fun k hk => (h.lt k hk.symm).2
theorem chlive_any (w : World) : Calls Try.prog 10 #[] w fun e w' => e = .returned (.bool true) ∧ Below w.heap.size w w' := by
  have hb0 : Below w.heap.size w (w.alloc (.cells exC 5 (exC.size, exC.size + 1))) := (Below.refl _ _).alloc (Nat.le_refl _) _
  have hsl : rpU8.sl (w.alloc (.cells exC 5 (exC.size, exC.size + 1))) (fun k => k = w.heap.size) (some ⟨w.heap.size, 0, none⟩) 12 12 exB :=
    bytes_of_cells (cs := exC) (fun i => Go.Joins.cell_of_block (heap_alloc_new w _) i) (fun i x hx => by
      match i, hx with
      | 0, hx => cases hx; rfl
      | 1, hx => cases hx; rfl
      | 2, hx => cases hx; rfl
      | 3, hx => cases hx; rfl
      | 4, hx => cases hx; rfl
      | 5, hx => cases hx; rfl
      | 6, hx => cases hx; rfl
      | 7, hx => cases hx; rfl
      | 8, hx => cases hx; rfl
      | 9, hx => cases hx; rfl
      | 10, hx => cases hx; rfl
      | 11, hx => cases hx; rfl
      | i + 12, hx => simp at hx) rfl (by decide) (by decide)
  have hnew := cnew_any (U := allU) (fun _ _ => trivial) hsl (fun k hk => by rw [hk]; simp) (by decide)
  have HNEW := Lib.hid hnew
  have HB0 := Lib.hid hb0
  have HCV := Lib.hid (Go.Joins.run_convert_bytes_const_at (P := Try.prog) w 22 5 exC 12 12 w.heap.size rfl Try.underlying22 Try.underlying5)
  clear hsl hb0 hnew
  go_enter Try.func10, Try.ntmps10
  go_wp2_with fail
  rw [HCV.out]
  go_wp2_with fail
  refine HNEW.out.mono ?_; rintro e w1 ⟨g, rfl, hc1, hb1⟩
  have HADD := Lib.hid (addTo_any 20 (fun _ _ => trivial) hc1 (by decide) (by decide) (by decide))
  have HB1 := Lib.hid (HB0.out.trans (hb1.mono HB0.out.size))
  have hz1 := HB1.out.size
  clear hc1 hb1
  have hup : upTo exB.length 0 20 = 12 := by decide
  rw [hup] at HADD
  go_wp2_with fail
  refine HADD.out.mono ?_; rintro e w2 ⟨rfl, hc2, hb2, _⟩
  have HC2 := Lib.hid hc2
  have HB2 := Lib.hid (HB1.out.trans (hb2.mono HB0.out.size))
  clear hc2 hb2 hup
  go_wp2_with fail
  have hn := near_chn 8 9 (by decide) (by decide) (by decide) (by decide) HC2.out (by decide)
  rw [show near exB 12 8 9 = [4, 0] by decide] at hn
  refine hn.mono ?_; rintro e w3 ⟨A, n, c, rfl, ho3, hb3⟩
  have hn2 : n = 2 := by have := ho3.1; simp at this; omega
  subst hn2
  have ho4 := World.ownsRow_lit (base := w3.heap.size) (size := 1) (e := 3) w3 #[.int .i64 4, .int .i64 0] 2 (Nat.le_refl _) (by decide) rfl
  have hb4 : Below w3.heap.size w3 (w3.alloc (.cells #[.int .i64 4, .int .i64 0] 3)) := (Below.refl _ _).alloc (Nat.le_refl _) _
  have hi3 := own_int ho3 (by decide)
  have hi4 := own_int (l := [4, 0]) ho4 (by decide)
  have hint := rints_any (Rp.sl_below hi3 hb4 (own_dom ho3)) hi4 (fun k hk => Nat.lt_of_lt_of_le (own_dom ho3 k hk) hb4.size) (own_dom ho4)
  rw [dec_true rfl] at hint
  have HINT := Lib.hid hint
  have HC4 := Lib.hid ((HC2.out.below hb3).below hb4)
  have HB4 := Lib.hid ((HB2.out.trans (hb3.mono HB2.out.size)).trans (hb4.mono (Nat.le_trans HB2.out.size hb3.size)))
  clear hn ho3 hb3 ho4 hb4 hi3 hi4 hint
  go_wp2_with fail
  refine HINT.out.mono ?_; rintro e w5 ⟨rfl, hb5⟩
  have hk := keys_any (HC4.out.below hb5)
  rw [show fresh exB 12 = 4 by decide] at hk
  have HK := Lib.hid hk
  have HB5 := Lib.hid (HB4.out.trans (hb5.mono HB4.out.size))
  clear hk hb5
  go_wp2_with fail
  refine HK.out.mono ?_; rintro e w6 ⟨rfl, rfl⟩
  go_wp2_with fail
  go_ret
  exact ⟨rfl, HB5.out⟩
end Go.Proofs.Ytkffgmpkpafkmaa
