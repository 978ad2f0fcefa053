/- The example of chapter 14's laws; plain facts of the best match. -/
import Derived.Laws.OwnMore
import Derived.Lib.SmallJoins
import Derived.Test.YtkffgmpkpafkmaaSkS
namespace Go.Proofs.Ytkffgmpkpafkmaa
open Go.ChangeShapes Go.WideShapes Go.ChangeAt Go.RowKit Go.Maps
set_option linter.unusedVariables false
theorem top_zero {l : List UInt8} {a : Int} (hl : l.length ≤ 65536) (h : (tk (top l a)).2 = 0) : (tk (top l a)).1 = 0 ∧ ∀ o : Nat, 1 ≤ o → (o : Int) ≤ a → a < l.length → mat l a (o : Int) < 4 := by
  rcases tk_snd (top l a) with ⟨h1, h2, h3⟩ | ⟨h1, h2⟩
  · refine ⟨h2, fun o ho hoa hal => ?_⟩
    obtain ⟨q, rfl⟩ : ∃ q : Nat, a = q := ⟨a.toNat, by omega⟩
    rw [mat_nat (by omega) ho (by omega)]
    unfold top at h3
    rw [if_pos (by omega), Int.toNat_natCast, Nat.min_eq_left (by omega)] at h3
    have := bst_le l q q o ho (by omega)
    omega
  · rw [h2] at h; omega
theorem top_pos {l : List UInt8} {a : Int} (hl : l.length ≤ 65536) (h : (tk (top l a)).2 ≠ 0) : ∃ q : Nat, a = q ∧ q < l.length ∧ 4 ≤ (tk (top l a)).2 ∧ 1 ≤ (tk (top l a)).1 ∧ (tk (top l a)).1 ≤ q ∧ (tk (top l a)).2 = mlen l q (tk (top l a)).1 ∧
    ∀ o, 1 ≤ o → o ≤ q → mlen l q o ≤ (tk (top l a)).2 ∧ (o < (tk (top l a)).1 → mlen l q o < (tk (top l a)).2) := by
  rcases tk_snd (top l a) with ⟨h1, h2, h3⟩ | ⟨h1, h2⟩
  · exact absurd h1 h
  · rw [h2]
    by_cases ha : 0 ≤ a ∧ a < l.length
    · obtain ⟨q, rfl⟩ : ∃ q : Nat, a = q := ⟨a.toNat, by omega⟩
      have ht : top l (q : Int) = bst l q q := by unfold top; rw [if_pos ha, Int.toNat_natCast, Nat.min_eq_left (by omega)]
      rw [ht] at h1 ⊢
      have hf := bst_fst l q q
      rcases bst_val l q q with ⟨b1, b2⟩ | ⟨b1, b2, b3⟩
      · omega
      · exact ⟨q, rfl, by omega, h1, b2, hf, b3, fun o ho hoq => ⟨bst_le l q q o ho hoq, bst_first l q q o ho⟩⟩
    · unfold top at h1
      rw [if_neg ha] at h1
      simp at h1
abbrev sA : List UInt8 := [97, 97, 97, 97, 97, 97]
abbrev sAc : Array Value := #[.int .u8 97, .int .u8 97, .int .u8 97, .int .u8 97, .int .u8 97, .int .u8 97]
abbrev sB : List UInt8 := [97, 98, 99, 100, 88, 97, 98, 99, 100, 89, 97, 98, 99, 100]
abbrev sBc : Array Value := #[.int .u8 97, .int .u8 98, .int .u8 99, .int .u8 100, .int .u8 88, .int .u8 97, .int .u8 98, .int .u8 99, .int .u8 100, .int .u8 89, .int .u8 97, .int .u8 98, .int .u8 99, .int .u8 100]
theorem sA_best : tk (top sA 1) = (1, 5) := by decide +kernel
theorem sB_places : placesL sB (upTo sB.length 0 ((min 10 sB.length : Nat) : Int)) ((10 : Nat) : Int) = [Fin.ofNat 65536 5, Fin.ofNat 65536 0] := by decide +kernel
theorem sB_1 : skf sB 10 [Fin.ofNat 65536 5] = (5, 4) := by decide +kernel
theorem sB_2 : skf sB 10 [Fin.ofNat 65536 5, Fin.ofNat 65536 0] = (5, 4) := by decide +kernel
theorem sB_pre {pre : List (Fin 65536)} (h : pre = [Fin.ofNat 65536 5, Fin.ofNat 65536 0] ∨ pre <+: [Fin.ofNat 65536 5, Fin.ofNat 65536 0] ∧ 10 + (skf sB 10 pre).2 = sB.length) : skf sB 10 pre = (5, 4) := by
  rcases h with rfl | ⟨⟨t, ht⟩, h2⟩
  · exact sB_2
  · match pre, ht, h2 with
    | [], _, h2 => exact absurd h2 (by decide)
    | [x], ht, _ =>
      simp only [List.singleton_append, List.cons.injEq] at ht
      rw [ht.1]
      exact sB_1
    | x :: y :: pre, ht, _ =>
      simp only [List.cons_append, List.cons.injEq, List.append_eq_nil_iff] at ht
      obtain ⟨rfl, rfl, rfl, _⟩ := ht
      exact sB_2
theorem sklive_any (w : World) : Calls Try.prog 23 #[] w fun e w' => e = .returned (.bool true) ∧ Below w.heap.size w w' := by
  have hb0 : Below w.heap.size w (w.alloc (.cells sAc 5 (sAc.size, sAc.size + 1))) := (Below.refl _ _).alloc (Nat.le_refl _) _
  have hsl : rpU8.sl (w.alloc (.cells sAc 5 (sAc.size, sAc.size + 1))) (fun k => k = w.heap.size) (some ⟨w.heap.size, 0, none⟩) 6 6 sA :=
    bytes_of_cells (cs := sAc) (fun i => Go.Joins.cell_of_block (heap_alloc_new w _) i) (fun i x hx => by
      match i, hx with
      | 0, hx => cases hx; rfl
      | 1, hx => cases hx; rfl
      | 2, hx => cases hx; rfl
      | 3, hx => cases hx; rfl
      | 4, hx => cases hx; rfl
      | 5, hx => cases hx; rfl
      | i + 6, hx => simp at hx) rfl (by decide) (by decide)
  have hbest := best_any 1 hsl (fun k hk => by rw [hk]; simp) (by decide) (by decide) (by decide)
  rw [sA_best] at hbest
  have HBEST := Lib.hid hbest
  have HB0 := Lib.hid hb0
  have HCV := Lib.hid (Go.Joins.run_convert_bytes_const_at (P := Try.prog) w 22 5 sAc 6 6 w.heap.size rfl Try.underlying22 Try.underlying5)
  clear hsl hb0 hbest
  go_enter Try.func23, Try.ntmps23
  go_wp2_with fail
  rw [HCV.out]
  go_wp2_with fail
  refine HBEST.out.mono ?_; rintro e w1 ⟨rfl, hb1⟩
  have HB1 := Lib.hid (HB0.out.trans (hb1.mono HB0.out.size))
  have hb2 : Below w1.heap.size w1 (w1.alloc (.cells sBc 5 (sBc.size, sBc.size + 1))) := (Below.refl _ _).alloc (Nat.le_refl _) _
  have hsl : rpU8.sl (w1.alloc (.cells sBc 5 (sBc.size, sBc.size + 1))) (fun k => k = w1.heap.size) (some ⟨w1.heap.size, 0, none⟩) 14 14 sB :=
    bytes_of_cells (cs := sBc) (fun i => Go.Joins.cell_of_block (heap_alloc_new w1 _) i) (fun i x hx => by
      match i, hx with
      | 0, hx => cases hx; rfl
      | 1, hx => cases hx; rfl
      | 2, hx => cases hx; rfl
      | 3, hx => cases hx; rfl
      | 4, hx => cases hx; rfl
      | 5, hx => cases hx; rfl
      | 6, hx => cases hx; rfl
      | 7, hx => cases hx; rfl
      | 8, hx => cases hx; rfl
      | 9, hx => cases hx; rfl
      | 10, hx => cases hx; rfl
      | 11, hx => cases hx; rfl
      | 12, hx => cases hx; rfl
      | 13, hx => cases hx; rfl
      | i + 14, hx => simp at hx) rfl (by decide) (by decide)
  have HNEW := Lib.hid (snew_any hsl (fun k hk => by rw [hk]; simp) (by decide))
  have HB2 := Lib.hid hb2
  have HCV2 := Lib.hid (Go.Joins.run_convert_bytes_const_at (P := Try.prog) w1 22 5 sBc 14 14 w1.heap.size rfl Try.underlying22 Try.underlying5)
  clear hb1 hsl hb2 HBEST HCV
  go_wp2_with fail
  rw [HCV2.out]
  go_wp2_with fail
  refine HNEW.out.mono ?_; rintro e w3 ⟨g, rfl, hs3, hb3⟩
  have hbest := sbest_any 10 hs3 (by decide) (by decide) (by decide)
  rw [sB_places] at hbest
  have HBEST := Lib.hid hbest
  have HB3 := Lib.hid hb3
  clear hs3 hb3 hbest
  go_wp2_with fail
  refine HBEST.out.mono ?_; rintro e w4 ⟨pre, hpre, rfl, hb4⟩
  have hq := sB_pre hpre
  rw [hq]
  have HB4 := Lib.hid hb4
  clear hpre hb4 hq
  go_wp2_with fail
  go_ret
  have z1 := HB1.out.size
  have z2 := HB2.out.size
  exact ⟨rfl, HB1.out.trans ((HB2.out.trans ((HB3.out.mono z2).trans (HB4.out.mono z2))).mono z1)⟩
end Go.Proofs.Ytkffgmpkpafkmaa
