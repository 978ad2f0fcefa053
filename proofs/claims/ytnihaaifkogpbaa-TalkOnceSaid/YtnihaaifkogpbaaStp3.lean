/- The walk of stripe.Right: whether a stripe is well-formed. -/
import Derived.Test.YtnihaaifkogpbaaStp2
import Derived.Deep.LoopGhost
namespace Go.Proofs.Ytnihaaifkogpbaa
open Go.ChangeShapes Go.WideShapes Go.ChangeAt Go.RowKit
set_option linter.unusedVariables false
abbrev stpV (f t : Nat) (A : Option Addr) (n c : Nat) : Array Value := #[.int .u64 (f : Int), .int .u64 (t : Int), .slice A n c]
def SUpTo (s : Stp) (k : Nat) : Prop := (s.1 < s.2.1 ∧ s.2.1 ≤ 4611686018427387904 ∧ 1 ≤ s.2.2.length ∧ s.2.2.length ≤ 8) ∧ ∀ (i : Nat) (l : List Nat), i < k → s.2.2[i]? = some l → SetOk s.2.2 i l
theorem sUpTo_all {s : Stp} : SUpTo s s.2.2.length ↔ SOk s :=
  ⟨fun ⟨⟨a, b, c, d⟩, h⟩ => ⟨a, b, c, d, fun i l hl => h i l (List.getElem?_eq_some_iff.1 hl).1 hl⟩, fun ⟨a, b, c, d, h⟩ => ⟨⟨a, b, c, d⟩, fun i l _ hl => h i l hl⟩⟩
theorem sUpTo_mono {s : Stp} {k : Nat} (h : SOk s) : SUpTo s k := ⟨⟨h.1, h.2.1, h.2.2.1, h.2.2.2.1⟩, fun i l _ hl => h.2.2.2.2 i l hl⟩
theorem sUpTo_succ {s : Stp} {k : Nat} {l : List Nat} (hl : s.2.2[k]? = some l) : SUpTo s (k + 1) ↔ SUpTo s k ∧ SetOk s.2.2 k l := by
  constructor
  · rintro ⟨a, h⟩
    exact ⟨⟨a, fun i l' hi hl' => h i l' (by omega) hl'⟩, h k l (by omega) hl⟩
  · rintro ⟨⟨a, h⟩, h2⟩
    refine ⟨a, fun i l' hi hl' => ?_⟩
    rcases Nat.lt_or_ge i k with h3 | h3
    · exact h i l' h3 hl'
    · obtain rfl : i = k := by omega
      rw [hl] at hl'
      injection hl' with hl'
      exact hl' ▸ h2

set_option maxRecDepth 100000 in
set_option maxHeartbeats 4000000 in
theorem right_any {D : Dom} {A : Option Addr} {n c f t : Nat} {sets : List (List Nat)} {w : World} (hs : (rpSlice rpU64).sl w D A n c sets) (hD : ∀ k, D k → k < w.heap.size) (hf : f ≤ 18446744073709551615) (ht : t ≤ 18446744073709551615) :
    Calls Try.prog 70 #[.agg (stpV f t A n c)] w fun e w' => e = .returned (.bool (dec (SOk (f, t, sets)))) ∧ Below w.heap.size w w' := by
  obtain ⟨hlen, hnc, hcm⟩ := Rp.sl_len hs
  unfold maxLen at hcm
  subst hlen
  have hb0 : Below w.heap.size w (w.alloc (.cells (stpV f t A sets.length c) 112)) := (Below.refl _ _).alloc (Nat.le_refl _) _
  have HS := Lib.hid (Rp.sl_below hs hb0 hD)
  have HB0 := Lib.hid hb0
  have HD := Lib.hid (fun k hk => Nat.lt_of_lt_of_le (hD k hk) hb0.size)
  have HK := Lib.hid (Blk.new w 112 (stpV f t A sets.length c))
  clear hs hD hb0
  have hcase : ∃ b : Bool, Hid (dec (SUpTo (f, t, sets) 0) = b) ∧ ((t ≤ f ∧ b = false) ∨ (f < t ∧ 4611686018427387904 < t ∧ b = false) ∨ (f < t ∧ t ≤ 4611686018427387904 ∧ sets.length < 1 ∧ b = false) ∨
      (f < t ∧ t ≤ 4611686018427387904 ∧ 1 ≤ sets.length ∧ 8 < sets.length ∧ b = false) ∨ (f < t ∧ t ≤ 4611686018427387904 ∧ 1 ≤ sets.length ∧ sets.length ≤ 8 ∧ b = true)) := by
    by_cases h1 : f < t
    · by_cases h2 : t ≤ 4611686018427387904
      · by_cases h3 : 1 ≤ sets.length
        · by_cases h4 : sets.length ≤ 8
          · exact ⟨true, dec_true ⟨⟨h1, h2, h3, h4⟩, fun i l h => by omega⟩, by simp; omega⟩
          · exact ⟨false, dec_false (fun h => h4 h.1.2.2.2), by simp; omega⟩
        · exact ⟨false, dec_false (fun h => h3 h.1.2.2.1), .inr (.inr (.inl ⟨h1, h2, by omega, rfl⟩))⟩
      · exact ⟨false, dec_false (fun h => h2 h.1.2.1), by simp; omega⟩
    · exact ⟨false, dec_false (fun h => h1 h.1.1), by simp; omega⟩
  obtain ⟨b0, HP0, hc⟩ := hcase
  rcases hc with ⟨d1, rfl⟩ | ⟨d1, d2, rfl⟩ | ⟨d1, d2, d3, rfl⟩ | ⟨d1, d2, d3, d4, rfl⟩ | ⟨d1, d2, d3, d4, rfl⟩
  all_goals
    go_enter Try.func70, Try.ntmps70
    go_wp2_with fail
    go_step3
    go_wp2_with fail
    go_step3
    go_wp2_with fail
    generalize World.alloc w _ = w0 at *
    have hz0 := HB0.out.size
    have hkl := HK.out.lt
    go_loopw [3, 31] (fun g i wr => ∃ (k : Nat) (gb : Bool), k ≤ sets.length ∧ i = .int .i64 k ∧ g = .bool gb ∧ Hid (gb = dec (SUpTo (f, t, sets) k)) ∧ Below w0.heap.size w0 wr) (fun _ i _ => sets.length - (intOf i).toNat)
    case atStart => exact ⟨0, _, by omega, rfl, rfl, by (show _ = dec _; rw [HP0.out]; try (simp; try omega)), Below.refl _ _⟩
    case round =>
      obtain ⟨k, gb, hk, rfl, rfl, hgb, hbr⟩ := hrel
      have HBR := Lib.hid hbr
      have hzr := hbr.size
      by_cases hkn : k < sets.length
      · obtain ⟨b, off, s, A2, c2, rfl, hb, hs, hcell, hrow⟩ := rows_at (Rp.sl_below HS.out hbr HD.out) hkn
        have HSS := Lib.hid hs
        have HR := Lib.hid hrow
        clear hs hrow
        cases gb
        · have hno := of_not_dec hgb.out.symm
          have HNO := Lib.hid (fun h : SOk (f, t, sets) => hno (sUpTo_mono h))
          clear hno hbr
          go_wp2_with fail
          try rw [Exit.noGoto_ret]
          go_ret
          rw [dec_false HNO.out]
          exact ⟨rfl, HB0.out.trans (HBR.out.mono hz0)⟩
        · have hyes := Lib.hid (of_dec hgb.out.symm)
          obtain ⟨⟨p1, p2, p3, p4⟩, _⟩ := hyes.out
          dsimp only at p1 p2 p3 p4
          try (exfalso; omega)
          all_goals
            have hnd := nodes_any HR.out (fun k hk => Nat.lt_of_lt_of_le (HD.out k hk) hzr)
            clear hbr
            cases hq : dec (NodesOk s)
            · rw [hq] at hnd
              have HND := Lib.hid hnd
              have HQ := Lib.hid (of_not_dec hq)
              clear hnd hq
              go_wp2_with fail
              refine HND.out.mono ?_; rintro e w1 ⟨rfl, hb1⟩
              go_wp2_with fail
              go_roundw
              case rel => exact ⟨k + 1, false, by omega, by go_num, rfl, (dec_false (fun h => HQ.out (setOk_iff.1 ((sUpTo_succ HSS.out).1 h).2).1)).symm, HBR.out.trans (hb1.mono hzr)⟩
              case measure => simp [intOf]; omega
            · rw [hq] at hnd
              have HND := Lib.hid hnd
              have HQ := Lib.hid (of_dec hq)
              obtain ⟨A', hcut, hsl2⟩ := run_cut_h elemSets (Rp.sl_below HS.out HBR.out HD.out) rfl (k : Int) (by omega) (by omega)
              rw [Int.toNat_natCast] at hcut hsl2
              have HS2 := Lib.hid hsl2
              have hbk := HK.out.below HBR.out hkl
              have HBK := Lib.hid hbk
              have d2c := hbk.cell 2
              clear hnd hq hsl2 hbk
              go_wp2_with fail
              refine HND.out.mono ?_; rintro e w1 ⟨rfl, hb1⟩
              have d2c1 : w1.cell? ⟨w.heap.size, 2, none⟩ = some (.slice (some ⟨b, off, none⟩) sets.length c) := (HBK.out.below hb1 HBK.out.lt).cell 2
              have d2c0 : w1.cell? ⟨w.heap.size, 0, none⟩ = some (.int .u64 (f : Int)) := (HBK.out.below hb1 HBK.out.lt).cell 0
              have HB1 := Lib.hid hb1
              clear hb1 d2c
              go_wp2_with fail
              refine (apart_any (Rp.sl_below HR.out HB1.out (fun k hk => Nat.lt_of_lt_of_le (HD.out k hk) hzr)) (Rp.sl_below HS2.out HB1.out (fun k hk => Nat.lt_of_lt_of_le (HD.out k hk) hzr))).mono ?_; rintro e w2 ⟨rfl, rfl⟩
              go_wp2_with fail
              go_roundw
              case rel =>
                refine ⟨k + 1, dec (Apart s (sets.take k)), by omega, by go_num, rfl, dec_congr ?_, HBR.out.trans (HB1.out.mono hzr)⟩
                rw [sUpTo_succ HSS.out, setOk_iff]
                exact ⟨fun h => ⟨hyes.out, HQ.out, h⟩, fun h => h.2.2⟩
              case measure => simp [intOf]; omega
      · obtain rfl : k = sets.length := by omega
        clear hbr
        go_wp2_with fail
        try rw [Exit.noGoto_ret]
        go_ret
        rw [← dec_congr sUpTo_all]
        exact ⟨by rw [← hgb.out]; rfl, HB0.out.trans (HBR.out.mono hz0)⟩
end Go.Proofs.Ytnihaaifkogpbaa
