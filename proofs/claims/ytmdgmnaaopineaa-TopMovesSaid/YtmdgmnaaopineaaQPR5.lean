/-
  The law of this claim, part 5 of its proof: the parts Deals, DealsW, Prj, PrM, PrPut, Fixed, Live, PrL, PrN.
-/
import Derived.Test.YtmdgmnaaopineaaQPR4
/- The walk of the law StripeDeals. -/
namespace Go.Proofs.Ytmdgmnaaopineaa
open Go.ChangeShapes Go.WideShapes Go.ChangeAt Go.RowKit
set_option linter.unusedVariables false
theorem nodes_bad {D : Dom} {A : Option Addr} {n c f t : Nat} {sets : List (List Nat)} {w : World} (hs : (rpSlice rpU64).sl w D A n c sets) (hD : ∀ k, D k → k < w.heap.size) (hf : f ≤ 18446744073709551615) (ht : t ≤ 18446744073709551615) (hno : ¬ SOk (f, t, sets)) :
    Calls Try.prog 66 #[.agg (stpV f t A n c)] w fun e w' => e = .returned (.slice none 0 0) ∧ Below w.heap.size w w' := by
  obtain ⟨hlen, hnc, hcm⟩ := Rp.sl_len hs
  subst hlen
  have hb0 : Below w.heap.size w (w.alloc (.cells (stpV f t A sets.length c) 31)) := (Below.refl _ _).alloc (Nat.le_refl _) _
  have hr := right_any (Rp.sl_below hs hb0 hD) (fun k hk => Nat.lt_of_lt_of_le (hD k hk) hb0.size) hf ht
  rw [dec_false hno] at hr
  have HR := Lib.hid hr
  have HB0 := Lib.hid hb0
  clear hs hD hb0 hr hno
  go_enter Try.func66, Try.ntmps66
  go_wp2_with fail
  refine HR.out.mono ?_; rintro e w1 ⟨rfl, hb1⟩
  go_wp2_with fail
  go_ret
  exact ⟨rfl, HB0.out.trans (hb1.mono HB0.out.size)⟩

section
variable {D : Dom} {A : Option Addr} {c f t : Nat} {sets : List (List Nat)} {w : World}
set_option maxRecDepth 100000 in
set_option maxHeartbeats 4000000 in
theorem deals_no (p : Nat) (set : Int) (hno : ¬ SOk (f, t, sets)) (hs : (rpSlice rpU64).sl w D A sets.length c sets) (hD : ∀ k, D k → k < w.heap.size) (hf : f ≤ 18446744073709551615) (ht : t ≤ 18446744073709551615) (hp : p ≤ 18446744073709551615) (hs0 : -9223372036854775808 ≤ set) (hs1 : set ≤ 9223372036854775807) :
    Calls Try.prog 12 #[.agg (stpV f t A sets.length c), .int .u64 (p : Int), .int .i64 set] w fun e w' => e = .returned (.bool true) ∧ Below w.heap.size w w' := by
  obtain ⟨_, hnc, hcm⟩ := Rp.sl_len hs
  unfold maxLen at hcm
  have hb0 : Below w.heap.size w (w.alloc (.cells (stpV f t A sets.length c) 31)) := (Below.refl _ _).alloc (Nat.le_refl _) _
  have HS := Lib.hid (Rp.sl_below hs hb0 hD)
  have HB := Lib.hid hb0
  have HD := Lib.hid (fun k hk => Nat.lt_of_lt_of_le (hD k hk) hb0.size)
  have HK := Lib.hid (Blk.new w 31 (stpV f t A sets.length c))
  clear hs hD hb0
  have E1 := Lib.hid (dealt_out (s := (f, t, sets)) (p := p) (fun h => hno h.1))
  have hsh : share (f, t, sets) set = 0 := share_out (fun h => hno h.1)
  have E2 := Lib.hid (back_out (s := (f, t, sets)) (set := set) (loc := p) (by rw [hsh]; omega))
  have E3 := Lib.hid hsh
  have E4 := Lib.hid (dec_false hno)
  have HNO := Lib.hid hno
  clear hsh hno
  go_enter Try.func12, Try.ntmps12
  go_wp2_with fail
  generalize World.alloc w _ = w0 at *
  have hkl := (show Blk _ _ _ _ from HK.out).lt
  have hz0 := HB.out.size
  have B0 : Hid (Below w0.heap.size w0 w0) := Below.refl _ _
  refine (long_any (f := f) (t := t) HS.out HD.out).mono ?_; rintro e w1 ⟨b, rfl, _, hb⟩
  have hk := (show Blk _ _ _ _ from HK.out).below hb hkl
  have d0 : w1.cell? ⟨w.heap.size, 0, none⟩ = some (.int .u64 (f : Int)) := hk.cell 0
  have d1 : w1.cell? ⟨w.heap.size, 1, none⟩ = some (.int .u64 (t : Int)) := hk.cell 1
  have d2 : w1.cell? ⟨w.heap.size, 2, none⟩ = some (.slice A sets.length c) := hk.cell 2
  have B1 := Lib.hid hb
  clear hb hk
  cases b
  case true =>
    go_wp2_with fail
    refine (slive_any _).mono ?_; rintro e w2 ⟨rfl, hb⟩
    go_wp2_with fail
    go_ret
    exact ⟨rfl, HB.out.trans ((B1.out.trans (hb.mono B1.out.size)).mono hz0)⟩
  go_wp2_with fail
  clear d0 d1 d2
  have hc := dealt_any p (Rp.sl_below HS.out B1.out HD.out) (fun k hk => Nat.lt_of_lt_of_le (HD.out k hk) B1.out.size) hf ht hp
  rw [E1.out] at hc
  have HC1 := Lib.hid hc
  clear hc
  refine (HC1.out).mono ?_; rintro e w2 ⟨rfl, hb⟩
  have hbn := B1.out.trans (hb.mono B1.out.size)
  have hk := HK.out.below hbn hkl
  have d0 : w2.cell? ⟨w.heap.size, 0, none⟩ = some (.int .u64 (f : Int)) := hk.cell 0
  have d1 : w2.cell? ⟨w.heap.size, 1, none⟩ = some (.int .u64 (t : Int)) := hk.cell 1
  have d2 : w2.cell? ⟨w.heap.size, 2, none⟩ = some (.slice A sets.length c) := hk.cell 2
  have B2 := Lib.hid hbn
  clear hb hbn hk
  go_wp2_with fail
  clear d0 d1 d2
  have hc := back_any set p (Rp.sl_below HS.out B2.out HD.out) (fun k hk => Nat.lt_of_lt_of_le (HD.out k hk) B2.out.size) hf ht hp
  rw [E2.out] at hc
  have HC2 := Lib.hid hc
  clear hc
  refine (HC2.out).mono ?_; rintro e w3 ⟨rfl, hb⟩
  have hbn := B2.out.trans (hb.mono B2.out.size)
  have hk := HK.out.below hbn hkl
  have d0 : w3.cell? ⟨w.heap.size, 0, none⟩ = some (.int .u64 (f : Int)) := hk.cell 0
  have d1 : w3.cell? ⟨w.heap.size, 1, none⟩ = some (.int .u64 (t : Int)) := hk.cell 1
  have d2 : w3.cell? ⟨w.heap.size, 2, none⟩ = some (.slice A sets.length c) := hk.cell 2
  have B3 := Lib.hid hbn
  clear hb hbn hk
  go_wp2_with fail
  clear d0 d1 d2
  have hc := rright_any (Rp.sl_below HS.out B3.out HD.out) (fun k hk => Nat.lt_of_lt_of_le (HD.out k hk) B3.out.size) hf ht
  rw [E4.out] at hc
  have HC3 := Lib.hid hc
  clear hc
  refine (HC3.out).mono ?_; rintro e w4 ⟨rfl, hb⟩
  have hbn := B3.out.trans (hb.mono B3.out.size)
  have hk := HK.out.below hbn hkl
  have d0 : w4.cell? ⟨w.heap.size, 0, none⟩ = some (.int .u64 (f : Int)) := hk.cell 0
  have d1 : w4.cell? ⟨w.heap.size, 1, none⟩ = some (.int .u64 (t : Int)) := hk.cell 1
  have d2 : w4.cell? ⟨w.heap.size, 2, none⟩ = some (.slice A sets.length c) := hk.cell 2
  have B4 := Lib.hid hbn
  clear hb hbn hk
  go_wp2_with fail
  clear d0 d1 d2
  have hc := share_any set (Rp.sl_below HS.out B4.out HD.out) (fun k hk => Nat.lt_of_lt_of_le (HD.out k hk) B4.out.size) hf ht
  rw [E3.out] at hc
  have HC4 := Lib.hid hc
  clear hc
  refine (HC4.out).mono ?_; rintro e w5 ⟨rfl, hb⟩
  have hbn := B4.out.trans (hb.mono B4.out.size)
  have hk := HK.out.below hbn hkl
  have d0 : w5.cell? ⟨w.heap.size, 0, none⟩ = some (.int .u64 (f : Int)) := hk.cell 0
  have d1 : w5.cell? ⟨w.heap.size, 1, none⟩ = some (.int .u64 (t : Int)) := hk.cell 1
  have d2 : w5.cell? ⟨w.heap.size, 2, none⟩ = some (.slice A sets.length c) := hk.cell 2
  have B5 := Lib.hid hbn
  clear hb hbn hk
  go_wp2_with fail
  clear d0 d1 d2
  have hc := nodes_bad (Rp.sl_below HS.out B5.out HD.out) (fun k hk => Nat.lt_of_lt_of_le (HD.out k hk) B5.out.size) hf ht HNO.out
  have HC5 := Lib.hid hc
  clear hc
  refine (HC5.out).mono ?_; rintro e w6 ⟨rfl, hb⟩
  have hbn := B5.out.trans (hb.mono B5.out.size)
  have hk := HK.out.below hbn hkl
  have d0 : w6.cell? ⟨w.heap.size, 0, none⟩ = some (.int .u64 (f : Int)) := hk.cell 0
  have d1 : w6.cell? ⟨w.heap.size, 1, none⟩ = some (.int .u64 (t : Int)) := hk.cell 1
  have d2 : w6.cell? ⟨w.heap.size, 2, none⟩ = some (.slice A sets.length c) := hk.cell 2
  have B6 := Lib.hid hbn
  clear hb hbn hk
  go_wp2_with fail
  clear d0 d1 d2
  refine (slive_any _).mono ?_; rintro e w7 ⟨rfl, hb⟩
  have hbn := B6.out.trans (hb.mono B6.out.size)
  have B7 := Lib.hid hbn
  clear hb hbn
  go_wp2_with fail
  go_ret
  exact ⟨rfl, HB.out.trans (B7.out.mono hz0)⟩
set_option maxRecDepth 100000 in
set_option maxHeartbeats 4000000 in
theorem deals_in_is (p : Nat) (set : Int) (hok : SOk (f, t, sets)) (hin : f ≤ p ∧ p < t) (his : p < share (f, t, sets) set) (hs : (rpSlice rpU64).sl w D A sets.length c sets) (hD : ∀ k, D k → k < w.heap.size) (hf : f ≤ 18446744073709551615) (ht : t ≤ 18446744073709551615) (hp : p ≤ 18446744073709551615) (hs0 : -9223372036854775808 ≤ set) (hs1 : set ≤ 9223372036854775807) :
    Calls Try.prog 12 #[.agg (stpV f t A sets.length c), .int .u64 (p : Int), .int .i64 set] w fun e w' => e = .returned (.bool true) ∧ Below w.heap.size w w' := by
  obtain ⟨_, hnc, hcm⟩ := Rp.sl_len hs
  unfold maxLen at hcm
  have hb0 : Below w.heap.size w (w.alloc (.cells (stpV f t A sets.length c) 31)) := (Below.refl _ _).alloc (Nat.le_refl _) _
  have HS := Lib.hid (Rp.sl_below hs hb0 hD)
  have HB := Lib.hid hb0
  have HD := Lib.hid (fun k hk => Nat.lt_of_lt_of_le (hD k hk) hb0.size)
  have HK := Lib.hid (Blk.new w 31 (stpV f t A sets.length c))
  clear hs hD hb0
  have h1 : f < t := hok.1
  have h2 : t ≤ 4611686018427387904 := hok.2.1
  have h3 : 1 ≤ sets.length := hok.2.2.1
  have h4 : sets.length ≤ 8 := hok.2.2.2.1
  have E4 := Lib.hid (dec_true hok)
  have hin1 : f ≤ p := hin.1
  have hin2 : p < t := hin.2
  obtain ⟨K, hK⟩ : ∃ K : Nat, K = (p - f) % sets.length := ⟨_, rfl⟩
  obtain ⟨N, hN⟩ : ∃ N : Nat, N = (p - f) / sets.length := ⟨_, rfl⟩
  have hKl : K < 8 := by have := Nat.mod_lt (p - f) (show 0 < sets.length by omega); omega
  have hNl : N ≤ 18446744073709551615 := by have := Nat.div_le_self (p - f) sets.length; omega
  have e1 : dealt (f, t, sets) p = (K, N, true) := by rw [hK, hN]; exact dealt_in hok hin.1 hin.2
  have e5 : back (f, t, sets) (K : Int) N = (p, true) := by rw [hK, hN]; exact dealt_back hok hin.1 hin.2
  have hKe : ((p : Int) - f) % (sets.length : Int) = (K : Int) := by rw [hK, Int.natCast_emod, Int.natCast_sub hin1]
  have hNe : ((p : Int) - f) / (sets.length : Int) = (N : Int) := by rw [hN, Int.natCast_ediv, Int.natCast_sub hin1]
  have E1 := Lib.hid e1
  have E5 := Lib.hid e5
  clear hK hN e1 e5 hin
  obtain ⟨j, rfl, hj, hbk, hq1, hdq⟩ := back_dealt his
  dsimp only at hj hbk hq1 hdq
  obtain ⟨Q, hQ⟩ : ∃ Q : Nat, Q = f + p * sets.length + j := ⟨_, rfl⟩
  rw [← hQ] at hbk hq1 hdq
  have hQl : Q ≤ 18446744073709551615 := by omega
  obtain ⟨sh, hsh⟩ : ∃ sh : Nat, sh = share (f, t, sets) (j : Int) := ⟨_, rfl⟩
  have hlt : p < sh := by rw [hsh]; exact his
  have hdlt : decide (p < sh) = true := by simp; omega
  have hdj : decide (j < sets.length) = true := by simp; omega
  have E2 := Lib.hid hbk
  have E3 := Lib.hid hsh.symm
  have E6 := Lib.hid hdq
  clear hQ hsh hbk hdq his
  clear hok
  go_enter Try.func12, Try.ntmps12
  go_wp2_with fail
  generalize World.alloc w _ = w0 at *
  have hkl := (show Blk _ _ _ _ from HK.out).lt
  have hz0 := HB.out.size
  have B0 : Hid (Below w0.heap.size w0 w0) := Below.refl _ _
  refine (long_any (f := f) (t := t) HS.out HD.out).mono ?_; rintro e w1 ⟨b, rfl, _, hb⟩
  have hk := (show Blk _ _ _ _ from HK.out).below hb hkl
  have d0 : w1.cell? ⟨w.heap.size, 0, none⟩ = some (.int .u64 (f : Int)) := hk.cell 0
  have d1 : w1.cell? ⟨w.heap.size, 1, none⟩ = some (.int .u64 (t : Int)) := hk.cell 1
  have d2 : w1.cell? ⟨w.heap.size, 2, none⟩ = some (.slice A sets.length c) := hk.cell 2
  have B1 := Lib.hid hb
  clear hb hk
  cases b
  case true =>
    go_wp2_with fail
    refine (slive_any _).mono ?_; rintro e w2 ⟨rfl, hb⟩
    go_wp2_with fail
    go_ret
    exact ⟨rfl, HB.out.trans ((B1.out.trans (hb.mono B1.out.size)).mono hz0)⟩
  go_wp2_with fail
  clear d0 d1 d2
  have hc := dealt_any p (Rp.sl_below HS.out B1.out HD.out) (fun k hk => Nat.lt_of_lt_of_le (HD.out k hk) B1.out.size) hf ht hp
  rw [E1.out] at hc
  have HC1 := Lib.hid hc
  clear hc
  refine (HC1.out).mono ?_; rintro e w2 ⟨rfl, hb⟩
  have hbn := B1.out.trans (hb.mono B1.out.size)
  have hk := HK.out.below hbn hkl
  have d0 : w2.cell? ⟨w.heap.size, 0, none⟩ = some (.int .u64 (f : Int)) := hk.cell 0
  have d1 : w2.cell? ⟨w.heap.size, 1, none⟩ = some (.int .u64 (t : Int)) := hk.cell 1
  have d2 : w2.cell? ⟨w.heap.size, 2, none⟩ = some (.slice A sets.length c) := hk.cell 2
  have B2 := Lib.hid hbn
  clear hb hbn hk
  go_wp2_with fail
  clear d0 d1 d2
  have hc := back_any (j : Int) p (Rp.sl_below HS.out B2.out HD.out) (fun k hk => Nat.lt_of_lt_of_le (HD.out k hk) B2.out.size) hf ht hp
  rw [E2.out] at hc
  have HC2 := Lib.hid hc
  clear hc
  refine (HC2.out).mono ?_; rintro e w3 ⟨rfl, hb⟩
  have hbn := B2.out.trans (hb.mono B2.out.size)
  have hk := HK.out.below hbn hkl
  have d0 : w3.cell? ⟨w.heap.size, 0, none⟩ = some (.int .u64 (f : Int)) := hk.cell 0
  have d1 : w3.cell? ⟨w.heap.size, 1, none⟩ = some (.int .u64 (t : Int)) := hk.cell 1
  have d2 : w3.cell? ⟨w.heap.size, 2, none⟩ = some (.slice A sets.length c) := hk.cell 2
  have B3 := Lib.hid hbn
  clear hb hbn hk
  go_wp2_with fail
  clear d0 d1 d2
  have hc := rright_any (Rp.sl_below HS.out B3.out HD.out) (fun k hk => Nat.lt_of_lt_of_le (HD.out k hk) B3.out.size) hf ht
  rw [E4.out] at hc
  have HC3 := Lib.hid hc
  clear hc
  refine (HC3.out).mono ?_; rintro e w4 ⟨rfl, hb⟩
  have hbn := B3.out.trans (hb.mono B3.out.size)
  have hk := HK.out.below hbn hkl
  have d0 : w4.cell? ⟨w.heap.size, 0, none⟩ = some (.int .u64 (f : Int)) := hk.cell 0
  have d1 : w4.cell? ⟨w.heap.size, 1, none⟩ = some (.int .u64 (t : Int)) := hk.cell 1
  have d2 : w4.cell? ⟨w.heap.size, 2, none⟩ = some (.slice A sets.length c) := hk.cell 2
  have B4 := Lib.hid hbn
  clear hb hbn hk
  go_wp2_with fail
  clear d0 d1 d2
  have hc := back_any (K : Int) N (Rp.sl_below HS.out B4.out HD.out) (fun k hk => Nat.lt_of_lt_of_le (HD.out k hk) B4.out.size) hf ht hNl
  rw [E5.out] at hc
  have HC4 := Lib.hid hc
  clear hc
  refine (HC4.out).mono ?_; rintro e w5 ⟨rfl, hb⟩
  have hbn := B4.out.trans (hb.mono B4.out.size)
  have hk := HK.out.below hbn hkl
  have d0 : w5.cell? ⟨w.heap.size, 0, none⟩ = some (.int .u64 (f : Int)) := hk.cell 0
  have d1 : w5.cell? ⟨w.heap.size, 1, none⟩ = some (.int .u64 (t : Int)) := hk.cell 1
  have d2 : w5.cell? ⟨w.heap.size, 2, none⟩ = some (.slice A sets.length c) := hk.cell 2
  have B5 := Lib.hid hbn
  clear hb hbn hk
  go_wp2_with fail
  clear d0 d1 d2
  have hc := share_any (j : Int) (Rp.sl_below HS.out B5.out HD.out) (fun k hk => Nat.lt_of_lt_of_le (HD.out k hk) B5.out.size) hf ht
  rw [E3.out] at hc
  have HC5 := Lib.hid hc
  clear hc
  refine (HC5.out).mono ?_; rintro e w6 ⟨rfl, hb⟩
  have hbn := B5.out.trans (hb.mono B5.out.size)
  have hk := HK.out.below hbn hkl
  have d0 : w6.cell? ⟨w.heap.size, 0, none⟩ = some (.int .u64 (f : Int)) := hk.cell 0
  have d1 : w6.cell? ⟨w.heap.size, 1, none⟩ = some (.int .u64 (t : Int)) := hk.cell 1
  have d2 : w6.cell? ⟨w.heap.size, 2, none⟩ = some (.slice A sets.length c) := hk.cell 2
  have B6 := Lib.hid hbn
  clear hb hbn hk
  go_wp2_with fail
  clear d0 d1 d2
  have hc := dealt_any Q (Rp.sl_below HS.out B6.out HD.out) (fun k hk => Nat.lt_of_lt_of_le (HD.out k hk) B6.out.size) hf ht hQl
  rw [E6.out] at hc
  have HC6 := Lib.hid hc
  clear hc
  refine (HC6.out).mono ?_; rintro e w7 ⟨rfl, hb⟩
  have hbn := B6.out.trans (hb.mono B6.out.size)
  have hk := HK.out.below hbn hkl
  have d0 : w7.cell? ⟨w.heap.size, 0, none⟩ = some (.int .u64 (f : Int)) := hk.cell 0
  have d1 : w7.cell? ⟨w.heap.size, 1, none⟩ = some (.int .u64 (t : Int)) := hk.cell 1
  have d2 : w7.cell? ⟨w.heap.size, 2, none⟩ = some (.slice A sets.length c) := hk.cell 2
  have B7 := Lib.hid hbn
  clear hb hbn hk
  go_wp2_with fail
  clear d0 d1 d2
  refine (slive_any _).mono ?_; rintro e w8 ⟨rfl, hb⟩
  have hbn := B7.out.trans (hb.mono B7.out.size)
  have B8 := Lib.hid hbn
  clear hb hbn
  go_wp2_with fail
  go_ret
  exact ⟨rfl, HB.out.trans (B8.out.mono hz0)⟩
set_option maxRecDepth 100000 in
set_option maxHeartbeats 4000000 in
theorem deals_in_there (p : Nat) (set : Int) (hok : SOk (f, t, sets)) (hin : f ≤ p ∧ p < t) (his : ¬ p < share (f, t, sets) set) (hth : 0 ≤ set ∧ set < sets.length) (hs : (rpSlice rpU64).sl w D A sets.length c sets) (hD : ∀ k, D k → k < w.heap.size) (hf : f ≤ 18446744073709551615) (ht : t ≤ 18446744073709551615) (hp : p ≤ 18446744073709551615) (hs0 : -9223372036854775808 ≤ set) (hs1 : set ≤ 9223372036854775807) :
    Calls Try.prog 12 #[.agg (stpV f t A sets.length c), .int .u64 (p : Int), .int .i64 set] w fun e w' => e = .returned (.bool true) ∧ Below w.heap.size w w' := by
  obtain ⟨_, hnc, hcm⟩ := Rp.sl_len hs
  unfold maxLen at hcm
  have hb0 : Below w.heap.size w (w.alloc (.cells (stpV f t A sets.length c) 31)) := (Below.refl _ _).alloc (Nat.le_refl _) _
  have HS := Lib.hid (Rp.sl_below hs hb0 hD)
  have HB := Lib.hid hb0
  have HD := Lib.hid (fun k hk => Nat.lt_of_lt_of_le (hD k hk) hb0.size)
  have HK := Lib.hid (Blk.new w 31 (stpV f t A sets.length c))
  clear hs hD hb0
  have h1 : f < t := hok.1
  have h2 : t ≤ 4611686018427387904 := hok.2.1
  have h3 : 1 ≤ sets.length := hok.2.2.1
  have h4 : sets.length ≤ 8 := hok.2.2.2.1
  have E4 := Lib.hid (dec_true hok)
  have hin1 : f ≤ p := hin.1
  have hin2 : p < t := hin.2
  obtain ⟨K, hK⟩ : ∃ K : Nat, K = (p - f) % sets.length := ⟨_, rfl⟩
  obtain ⟨N, hN⟩ : ∃ N : Nat, N = (p - f) / sets.length := ⟨_, rfl⟩
  have hKl : K < 8 := by have := Nat.mod_lt (p - f) (show 0 < sets.length by omega); omega
  have hNl : N ≤ 18446744073709551615 := by have := Nat.div_le_self (p - f) sets.length; omega
  have e1 : dealt (f, t, sets) p = (K, N, true) := by rw [hK, hN]; exact dealt_in hok hin.1 hin.2
  have e5 : back (f, t, sets) (K : Int) N = (p, true) := by rw [hK, hN]; exact dealt_back hok hin.1 hin.2
  have hKe : ((p : Int) - f) % (sets.length : Int) = (K : Int) := by rw [hK, Int.natCast_emod, Int.natCast_sub hin1]
  have hNe : ((p : Int) - f) / (sets.length : Int) = (N : Int) := by rw [hN, Int.natCast_ediv, Int.natCast_sub hin1]
  have E1 := Lib.hid e1
  have E5 := Lib.hid e5
  clear hK hN e1 e5 hin
  have E2 := Lib.hid (back_out (s := (f, t, sets)) (set := set) (loc := p) (by omega))
  obtain ⟨hth1, hth2⟩ := hth
  obtain ⟨sh, hsh⟩ : ∃ sh : Nat, sh = share (f, t, sets) set := ⟨_, rfl⟩
  have hge : sh ≤ p := by rw [hsh]; omega
  have hdlt : decide (p < sh) = false := by simp; omega
  have E3 := Lib.hid hsh.symm
  clear hsh his
  clear hok
  go_enter Try.func12, Try.ntmps12
  go_wp2_with fail
  generalize World.alloc w _ = w0 at *
  have hkl := (show Blk _ _ _ _ from HK.out).lt
  have hz0 := HB.out.size
  have B0 : Hid (Below w0.heap.size w0 w0) := Below.refl _ _
  refine (long_any (f := f) (t := t) HS.out HD.out).mono ?_; rintro e w1 ⟨b, rfl, _, hb⟩
  have hk := (show Blk _ _ _ _ from HK.out).below hb hkl
  have d0 : w1.cell? ⟨w.heap.size, 0, none⟩ = some (.int .u64 (f : Int)) := hk.cell 0
  have d1 : w1.cell? ⟨w.heap.size, 1, none⟩ = some (.int .u64 (t : Int)) := hk.cell 1
  have d2 : w1.cell? ⟨w.heap.size, 2, none⟩ = some (.slice A sets.length c) := hk.cell 2
  have B1 := Lib.hid hb
  clear hb hk
  cases b
  case true =>
    go_wp2_with fail
    refine (slive_any _).mono ?_; rintro e w2 ⟨rfl, hb⟩
    go_wp2_with fail
    go_ret
    exact ⟨rfl, HB.out.trans ((B1.out.trans (hb.mono B1.out.size)).mono hz0)⟩
  go_wp2_with fail
  clear d0 d1 d2
  have hc := dealt_any p (Rp.sl_below HS.out B1.out HD.out) (fun k hk => Nat.lt_of_lt_of_le (HD.out k hk) B1.out.size) hf ht hp
  rw [E1.out] at hc
  have HC1 := Lib.hid hc
  clear hc
  refine (HC1.out).mono ?_; rintro e w2 ⟨rfl, hb⟩
  have hbn := B1.out.trans (hb.mono B1.out.size)
  have hk := HK.out.below hbn hkl
  have d0 : w2.cell? ⟨w.heap.size, 0, none⟩ = some (.int .u64 (f : Int)) := hk.cell 0
  have d1 : w2.cell? ⟨w.heap.size, 1, none⟩ = some (.int .u64 (t : Int)) := hk.cell 1
  have d2 : w2.cell? ⟨w.heap.size, 2, none⟩ = some (.slice A sets.length c) := hk.cell 2
  have B2 := Lib.hid hbn
  clear hb hbn hk
  go_wp2_with fail
  clear d0 d1 d2
  have hc := back_any set p (Rp.sl_below HS.out B2.out HD.out) (fun k hk => Nat.lt_of_lt_of_le (HD.out k hk) B2.out.size) hf ht hp
  rw [E2.out] at hc
  have HC2 := Lib.hid hc
  clear hc
  refine (HC2.out).mono ?_; rintro e w3 ⟨rfl, hb⟩
  have hbn := B2.out.trans (hb.mono B2.out.size)
  have hk := HK.out.below hbn hkl
  have d0 : w3.cell? ⟨w.heap.size, 0, none⟩ = some (.int .u64 (f : Int)) := hk.cell 0
  have d1 : w3.cell? ⟨w.heap.size, 1, none⟩ = some (.int .u64 (t : Int)) := hk.cell 1
  have d2 : w3.cell? ⟨w.heap.size, 2, none⟩ = some (.slice A sets.length c) := hk.cell 2
  have B3 := Lib.hid hbn
  clear hb hbn hk
  go_wp2_with fail
  clear d0 d1 d2
  have hc := rright_any (Rp.sl_below HS.out B3.out HD.out) (fun k hk => Nat.lt_of_lt_of_le (HD.out k hk) B3.out.size) hf ht
  rw [E4.out] at hc
  have HC3 := Lib.hid hc
  clear hc
  refine (HC3.out).mono ?_; rintro e w4 ⟨rfl, hb⟩
  have hbn := B3.out.trans (hb.mono B3.out.size)
  have hk := HK.out.below hbn hkl
  have d0 : w4.cell? ⟨w.heap.size, 0, none⟩ = some (.int .u64 (f : Int)) := hk.cell 0
  have d1 : w4.cell? ⟨w.heap.size, 1, none⟩ = some (.int .u64 (t : Int)) := hk.cell 1
  have d2 : w4.cell? ⟨w.heap.size, 2, none⟩ = some (.slice A sets.length c) := hk.cell 2
  have B4 := Lib.hid hbn
  clear hb hbn hk
  go_wp2_with fail
  clear d0 d1 d2
  have hc := back_any (K : Int) N (Rp.sl_below HS.out B4.out HD.out) (fun k hk => Nat.lt_of_lt_of_le (HD.out k hk) B4.out.size) hf ht hNl
  rw [E5.out] at hc
  have HC4 := Lib.hid hc
  clear hc
  refine (HC4.out).mono ?_; rintro e w5 ⟨rfl, hb⟩
  have hbn := B4.out.trans (hb.mono B4.out.size)
  have hk := HK.out.below hbn hkl
  have d0 : w5.cell? ⟨w.heap.size, 0, none⟩ = some (.int .u64 (f : Int)) := hk.cell 0
  have d1 : w5.cell? ⟨w.heap.size, 1, none⟩ = some (.int .u64 (t : Int)) := hk.cell 1
  have d2 : w5.cell? ⟨w.heap.size, 2, none⟩ = some (.slice A sets.length c) := hk.cell 2
  have B5 := Lib.hid hbn
  clear hb hbn hk
  go_wp2_with fail
  clear d0 d1 d2
  have hc := share_any set (Rp.sl_below HS.out B5.out HD.out) (fun k hk => Nat.lt_of_lt_of_le (HD.out k hk) B5.out.size) hf ht
  rw [E3.out] at hc
  have HC5 := Lib.hid hc
  clear hc
  refine (HC5.out).mono ?_; rintro e w6 ⟨rfl, hb⟩
  have hbn := B5.out.trans (hb.mono B5.out.size)
  have hk := HK.out.below hbn hkl
  have d0 : w6.cell? ⟨w.heap.size, 0, none⟩ = some (.int .u64 (f : Int)) := hk.cell 0
  have d1 : w6.cell? ⟨w.heap.size, 1, none⟩ = some (.int .u64 (t : Int)) := hk.cell 1
  have d2 : w6.cell? ⟨w.heap.size, 2, none⟩ = some (.slice A sets.length c) := hk.cell 2
  have B6 := Lib.hid hbn
  clear hb hbn hk
  go_wp2_with fail
  clear d0 d1 d2
  refine (slive_any _).mono ?_; rintro e w7 ⟨rfl, hb⟩
  have hbn := B6.out.trans (hb.mono B6.out.size)
  have B7 := Lib.hid hbn
  clear hb hbn
  go_wp2_with fail
  go_ret
  exact ⟨rfl, HB.out.trans (B7.out.mono hz0)⟩
set_option maxRecDepth 100000 in
set_option maxHeartbeats 4000000 in
theorem deals_in_not (p : Nat) (set : Int) (hok : SOk (f, t, sets)) (hin : f ≤ p ∧ p < t) (his : ¬ p < share (f, t, sets) set) (hth : ¬ (0 ≤ set ∧ set < sets.length)) (hs : (rpSlice rpU64).sl w D A sets.length c sets) (hD : ∀ k, D k → k < w.heap.size) (hf : f ≤ 18446744073709551615) (ht : t ≤ 18446744073709551615) (hp : p ≤ 18446744073709551615) (hs0 : -9223372036854775808 ≤ set) (hs1 : set ≤ 9223372036854775807) :
    Calls Try.prog 12 #[.agg (stpV f t A sets.length c), .int .u64 (p : Int), .int .i64 set] w fun e w' => e = .returned (.bool true) ∧ Below w.heap.size w w' := by
  obtain ⟨_, hnc, hcm⟩ := Rp.sl_len hs
  unfold maxLen at hcm
  have hb0 : Below w.heap.size w (w.alloc (.cells (stpV f t A sets.length c) 31)) := (Below.refl _ _).alloc (Nat.le_refl _) _
  have HS := Lib.hid (Rp.sl_below hs hb0 hD)
  have HB := Lib.hid hb0
  have HD := Lib.hid (fun k hk => Nat.lt_of_lt_of_le (hD k hk) hb0.size)
  have HK := Lib.hid (Blk.new w 31 (stpV f t A sets.length c))
  clear hs hD hb0
  have h1 : f < t := hok.1
  have h2 : t ≤ 4611686018427387904 := hok.2.1
  have h3 : 1 ≤ sets.length := hok.2.2.1
  have h4 : sets.length ≤ 8 := hok.2.2.2.1
  have E4 := Lib.hid (dec_true hok)
  have hin1 : f ≤ p := hin.1
  have hin2 : p < t := hin.2
  obtain ⟨K, hK⟩ : ∃ K : Nat, K = (p - f) % sets.length := ⟨_, rfl⟩
  obtain ⟨N, hN⟩ : ∃ N : Nat, N = (p - f) / sets.length := ⟨_, rfl⟩
  have hKl : K < 8 := by have := Nat.mod_lt (p - f) (show 0 < sets.length by omega); omega
  have hNl : N ≤ 18446744073709551615 := by have := Nat.div_le_self (p - f) sets.length; omega
  have e1 : dealt (f, t, sets) p = (K, N, true) := by rw [hK, hN]; exact dealt_in hok hin.1 hin.2
  have e5 : back (f, t, sets) (K : Int) N = (p, true) := by rw [hK, hN]; exact dealt_back hok hin.1 hin.2
  have hKe : ((p : Int) - f) % (sets.length : Int) = (K : Int) := by rw [hK, Int.natCast_emod, Int.natCast_sub hin1]
  have hNe : ((p : Int) - f) / (sets.length : Int) = (N : Int) := by rw [hN, Int.natCast_ediv, Int.natCast_sub hin1]
  have E1 := Lib.hid e1
  have E5 := Lib.hid e5
  clear hK hN e1 e5 hin
  have E2 := Lib.hid (back_out (s := (f, t, sets)) (set := set) (loc := p) (by omega))
  have hth' : set < 0 ∨ (0 ≤ set ∧ (sets.length : Int) ≤ set) := by omega
  clear his hth
  clear hok
  rcases hth' with hth | ⟨hth1, hth2⟩
  all_goals
    go_enter Try.func12, Try.ntmps12
    go_wp2_with fail
    generalize World.alloc w _ = w0 at *
    have hkl := (show Blk _ _ _ _ from HK.out).lt
    have hz0 := HB.out.size
    have B0 : Hid (Below w0.heap.size w0 w0) := Below.refl _ _
    refine (long_any (f := f) (t := t) HS.out HD.out).mono ?_; rintro e w1 ⟨b, rfl, _, hb⟩
    have hk := (show Blk _ _ _ _ from HK.out).below hb hkl
    have d0 : w1.cell? ⟨w.heap.size, 0, none⟩ = some (.int .u64 (f : Int)) := hk.cell 0
    have d1 : w1.cell? ⟨w.heap.size, 1, none⟩ = some (.int .u64 (t : Int)) := hk.cell 1
    have d2 : w1.cell? ⟨w.heap.size, 2, none⟩ = some (.slice A sets.length c) := hk.cell 2
    have B1 := Lib.hid hb
    clear hb hk
    cases b
    case true =>
      go_wp2_with fail
      refine (slive_any _).mono ?_; rintro e w2 ⟨rfl, hb⟩
      go_wp2_with fail
      go_ret
      exact ⟨rfl, HB.out.trans ((B1.out.trans (hb.mono B1.out.size)).mono hz0)⟩
    go_wp2_with fail
    clear d0 d1 d2
    have hc := dealt_any p (Rp.sl_below HS.out B1.out HD.out) (fun k hk => Nat.lt_of_lt_of_le (HD.out k hk) B1.out.size) hf ht hp
    rw [E1.out] at hc
    have HC1 := Lib.hid hc
    clear hc
    refine (HC1.out).mono ?_; rintro e w2 ⟨rfl, hb⟩
    have hbn := B1.out.trans (hb.mono B1.out.size)
    have hk := HK.out.below hbn hkl
    have d0 : w2.cell? ⟨w.heap.size, 0, none⟩ = some (.int .u64 (f : Int)) := hk.cell 0
    have d1 : w2.cell? ⟨w.heap.size, 1, none⟩ = some (.int .u64 (t : Int)) := hk.cell 1
    have d2 : w2.cell? ⟨w.heap.size, 2, none⟩ = some (.slice A sets.length c) := hk.cell 2
    have B2 := Lib.hid hbn
    clear hb hbn hk
    go_wp2_with fail
    clear d0 d1 d2
    have hc := back_any set p (Rp.sl_below HS.out B2.out HD.out) (fun k hk => Nat.lt_of_lt_of_le (HD.out k hk) B2.out.size) hf ht hp
    rw [E2.out] at hc
    have HC2 := Lib.hid hc
    clear hc
    refine (HC2.out).mono ?_; rintro e w3 ⟨rfl, hb⟩
    have hbn := B2.out.trans (hb.mono B2.out.size)
    have hk := HK.out.below hbn hkl
    have d0 : w3.cell? ⟨w.heap.size, 0, none⟩ = some (.int .u64 (f : Int)) := hk.cell 0
    have d1 : w3.cell? ⟨w.heap.size, 1, none⟩ = some (.int .u64 (t : Int)) := hk.cell 1
    have d2 : w3.cell? ⟨w.heap.size, 2, none⟩ = some (.slice A sets.length c) := hk.cell 2
    have B3 := Lib.hid hbn
    clear hb hbn hk
    go_wp2_with fail
    clear d0 d1 d2
    have hc := rright_any (Rp.sl_below HS.out B3.out HD.out) (fun k hk => Nat.lt_of_lt_of_le (HD.out k hk) B3.out.size) hf ht
    rw [E4.out] at hc
    have HC3 := Lib.hid hc
    clear hc
    refine (HC3.out).mono ?_; rintro e w4 ⟨rfl, hb⟩
    have hbn := B3.out.trans (hb.mono B3.out.size)
    have hk := HK.out.below hbn hkl
    have d0 : w4.cell? ⟨w.heap.size, 0, none⟩ = some (.int .u64 (f : Int)) := hk.cell 0
    have d1 : w4.cell? ⟨w.heap.size, 1, none⟩ = some (.int .u64 (t : Int)) := hk.cell 1
    have d2 : w4.cell? ⟨w.heap.size, 2, none⟩ = some (.slice A sets.length c) := hk.cell 2
    have B4 := Lib.hid hbn
    clear hb hbn hk
    go_wp2_with fail
    clear d0 d1 d2
    have hc := back_any (K : Int) N (Rp.sl_below HS.out B4.out HD.out) (fun k hk => Nat.lt_of_lt_of_le (HD.out k hk) B4.out.size) hf ht hNl
    rw [E5.out] at hc
    have HC4 := Lib.hid hc
    clear hc
    refine (HC4.out).mono ?_; rintro e w5 ⟨rfl, hb⟩
    have hbn := B4.out.trans (hb.mono B4.out.size)
    have hk := HK.out.below hbn hkl
    have d0 : w5.cell? ⟨w.heap.size, 0, none⟩ = some (.int .u64 (f : Int)) := hk.cell 0
    have d1 : w5.cell? ⟨w.heap.size, 1, none⟩ = some (.int .u64 (t : Int)) := hk.cell 1
    have d2 : w5.cell? ⟨w.heap.size, 2, none⟩ = some (.slice A sets.length c) := hk.cell 2
    have B5 := Lib.hid hbn
    clear hb hbn hk
    go_wp2_with fail
    clear d0 d1 d2
    refine (slive_any _).mono ?_; rintro e w6 ⟨rfl, hb⟩
    have hbn := B5.out.trans (hb.mono B5.out.size)
    have B6 := Lib.hid hbn
    clear hb hbn
    go_wp2_with fail
    go_ret
    exact ⟨rfl, HB.out.trans (B6.out.mono hz0)⟩
set_option maxRecDepth 100000 in
set_option maxHeartbeats 4000000 in
theorem deals_out_is (p : Nat) (set : Int) (hok : SOk (f, t, sets)) (hin : ¬ (f ≤ p ∧ p < t)) (his : p < share (f, t, sets) set) (hs : (rpSlice rpU64).sl w D A sets.length c sets) (hD : ∀ k, D k → k < w.heap.size) (hf : f ≤ 18446744073709551615) (ht : t ≤ 18446744073709551615) (hp : p ≤ 18446744073709551615) (hs0 : -9223372036854775808 ≤ set) (hs1 : set ≤ 9223372036854775807) :
    Calls Try.prog 12 #[.agg (stpV f t A sets.length c), .int .u64 (p : Int), .int .i64 set] w fun e w' => e = .returned (.bool true) ∧ Below w.heap.size w w' := by
  obtain ⟨_, hnc, hcm⟩ := Rp.sl_len hs
  unfold maxLen at hcm
  have hb0 : Below w.heap.size w (w.alloc (.cells (stpV f t A sets.length c) 31)) := (Below.refl _ _).alloc (Nat.le_refl _) _
  have HS := Lib.hid (Rp.sl_below hs hb0 hD)
  have HB := Lib.hid hb0
  have HD := Lib.hid (fun k hk => Nat.lt_of_lt_of_le (hD k hk) hb0.size)
  have HK := Lib.hid (Blk.new w 31 (stpV f t A sets.length c))
  clear hs hD hb0
  have h1 : f < t := hok.1
  have h2 : t ≤ 4611686018427387904 := hok.2.1
  have h3 : 1 ≤ sets.length := hok.2.2.1
  have h4 : sets.length ≤ 8 := hok.2.2.2.1
  have E4 := Lib.hid (dec_true hok)
  have E1 := Lib.hid (dealt_out (s := (f, t, sets)) (p := p) (fun h => hin h.2))
  have hin' : p < f ∨ (f ≤ p ∧ t ≤ p) := by omega
  clear hin
  obtain ⟨j, rfl, hj, hbk, hq1, hdq⟩ := back_dealt his
  dsimp only at hj hbk hq1 hdq
  obtain ⟨Q, hQ⟩ : ∃ Q : Nat, Q = f + p * sets.length + j := ⟨_, rfl⟩
  rw [← hQ] at hbk hq1 hdq
  have hQl : Q ≤ 18446744073709551615 := by omega
  obtain ⟨sh, hsh⟩ : ∃ sh : Nat, sh = share (f, t, sets) (j : Int) := ⟨_, rfl⟩
  have hlt : p < sh := by rw [hsh]; exact his
  have hdlt : decide (p < sh) = true := by simp; omega
  have hdj : decide (j < sets.length) = true := by simp; omega
  have E2 := Lib.hid hbk
  have E3 := Lib.hid hsh.symm
  have E6 := Lib.hid hdq
  clear hQ hsh hbk hdq his
  clear hok
  rcases hin' with hin1 | ⟨hin1, hin2⟩
  all_goals
    go_enter Try.func12, Try.ntmps12
    go_wp2_with fail
    generalize World.alloc w _ = w0 at *
    have hkl := (show Blk _ _ _ _ from HK.out).lt
    have hz0 := HB.out.size
    have B0 : Hid (Below w0.heap.size w0 w0) := Below.refl _ _
    refine (long_any (f := f) (t := t) HS.out HD.out).mono ?_; rintro e w1 ⟨b, rfl, _, hb⟩
    have hk := (show Blk _ _ _ _ from HK.out).below hb hkl
    have d0 : w1.cell? ⟨w.heap.size, 0, none⟩ = some (.int .u64 (f : Int)) := hk.cell 0
    have d1 : w1.cell? ⟨w.heap.size, 1, none⟩ = some (.int .u64 (t : Int)) := hk.cell 1
    have d2 : w1.cell? ⟨w.heap.size, 2, none⟩ = some (.slice A sets.length c) := hk.cell 2
    have B1 := Lib.hid hb
    clear hb hk
    cases b
    case true =>
      go_wp2_with fail
      refine (slive_any _).mono ?_; rintro e w2 ⟨rfl, hb⟩
      go_wp2_with fail
      go_ret
      exact ⟨rfl, HB.out.trans ((B1.out.trans (hb.mono B1.out.size)).mono hz0)⟩
    go_wp2_with fail
    clear d0 d1 d2
    have hc := dealt_any p (Rp.sl_below HS.out B1.out HD.out) (fun k hk => Nat.lt_of_lt_of_le (HD.out k hk) B1.out.size) hf ht hp
    rw [E1.out] at hc
    have HC1 := Lib.hid hc
    clear hc
    refine (HC1.out).mono ?_; rintro e w2 ⟨rfl, hb⟩
    have hbn := B1.out.trans (hb.mono B1.out.size)
    have hk := HK.out.below hbn hkl
    have d0 : w2.cell? ⟨w.heap.size, 0, none⟩ = some (.int .u64 (f : Int)) := hk.cell 0
    have d1 : w2.cell? ⟨w.heap.size, 1, none⟩ = some (.int .u64 (t : Int)) := hk.cell 1
    have d2 : w2.cell? ⟨w.heap.size, 2, none⟩ = some (.slice A sets.length c) := hk.cell 2
    have B2 := Lib.hid hbn
    clear hb hbn hk
    go_wp2_with fail
    clear d0 d1 d2
    have hc := back_any (j : Int) p (Rp.sl_below HS.out B2.out HD.out) (fun k hk => Nat.lt_of_lt_of_le (HD.out k hk) B2.out.size) hf ht hp
    rw [E2.out] at hc
    have HC2 := Lib.hid hc
    clear hc
    refine (HC2.out).mono ?_; rintro e w3 ⟨rfl, hb⟩
    have hbn := B2.out.trans (hb.mono B2.out.size)
    have hk := HK.out.below hbn hkl
    have d0 : w3.cell? ⟨w.heap.size, 0, none⟩ = some (.int .u64 (f : Int)) := hk.cell 0
    have d1 : w3.cell? ⟨w.heap.size, 1, none⟩ = some (.int .u64 (t : Int)) := hk.cell 1
    have d2 : w3.cell? ⟨w.heap.size, 2, none⟩ = some (.slice A sets.length c) := hk.cell 2
    have B3 := Lib.hid hbn
    clear hb hbn hk
    go_wp2_with fail
    clear d0 d1 d2
    have hc := rright_any (Rp.sl_below HS.out B3.out HD.out) (fun k hk => Nat.lt_of_lt_of_le (HD.out k hk) B3.out.size) hf ht
    rw [E4.out] at hc
    have HC3 := Lib.hid hc
    clear hc
    refine (HC3.out).mono ?_; rintro e w4 ⟨rfl, hb⟩
    have hbn := B3.out.trans (hb.mono B3.out.size)
    have hk := HK.out.below hbn hkl
    have d0 : w4.cell? ⟨w.heap.size, 0, none⟩ = some (.int .u64 (f : Int)) := hk.cell 0
    have d1 : w4.cell? ⟨w.heap.size, 1, none⟩ = some (.int .u64 (t : Int)) := hk.cell 1
    have d2 : w4.cell? ⟨w.heap.size, 2, none⟩ = some (.slice A sets.length c) := hk.cell 2
    have B4 := Lib.hid hbn
    clear hb hbn hk
    go_wp2_with fail
    clear d0 d1 d2
    have hc := share_any (j : Int) (Rp.sl_below HS.out B4.out HD.out) (fun k hk => Nat.lt_of_lt_of_le (HD.out k hk) B4.out.size) hf ht
    rw [E3.out] at hc
    have HC4 := Lib.hid hc
    clear hc
    refine (HC4.out).mono ?_; rintro e w5 ⟨rfl, hb⟩
    have hbn := B4.out.trans (hb.mono B4.out.size)
    have hk := HK.out.below hbn hkl
    have d0 : w5.cell? ⟨w.heap.size, 0, none⟩ = some (.int .u64 (f : Int)) := hk.cell 0
    have d1 : w5.cell? ⟨w.heap.size, 1, none⟩ = some (.int .u64 (t : Int)) := hk.cell 1
    have d2 : w5.cell? ⟨w.heap.size, 2, none⟩ = some (.slice A sets.length c) := hk.cell 2
    have B5 := Lib.hid hbn
    clear hb hbn hk
    go_wp2_with fail
    clear d0 d1 d2
    have hc := dealt_any Q (Rp.sl_below HS.out B5.out HD.out) (fun k hk => Nat.lt_of_lt_of_le (HD.out k hk) B5.out.size) hf ht hQl
    rw [E6.out] at hc
    have HC5 := Lib.hid hc
    clear hc
    refine (HC5.out).mono ?_; rintro e w6 ⟨rfl, hb⟩
    have hbn := B5.out.trans (hb.mono B5.out.size)
    have hk := HK.out.below hbn hkl
    have d0 : w6.cell? ⟨w.heap.size, 0, none⟩ = some (.int .u64 (f : Int)) := hk.cell 0
    have d1 : w6.cell? ⟨w.heap.size, 1, none⟩ = some (.int .u64 (t : Int)) := hk.cell 1
    have d2 : w6.cell? ⟨w.heap.size, 2, none⟩ = some (.slice A sets.length c) := hk.cell 2
    have B6 := Lib.hid hbn
    clear hb hbn hk
    go_wp2_with fail
    clear d0 d1 d2
    refine (slive_any _).mono ?_; rintro e w7 ⟨rfl, hb⟩
    have hbn := B6.out.trans (hb.mono B6.out.size)
    have B7 := Lib.hid hbn
    clear hb hbn
    go_wp2_with fail
    go_ret
    exact ⟨rfl, HB.out.trans (B7.out.mono hz0)⟩
set_option maxRecDepth 100000 in
set_option maxHeartbeats 4000000 in
theorem deals_out_there (p : Nat) (set : Int) (hok : SOk (f, t, sets)) (hin : ¬ (f ≤ p ∧ p < t)) (his : ¬ p < share (f, t, sets) set) (hth : 0 ≤ set ∧ set < sets.length) (hs : (rpSlice rpU64).sl w D A sets.length c sets) (hD : ∀ k, D k → k < w.heap.size) (hf : f ≤ 18446744073709551615) (ht : t ≤ 18446744073709551615) (hp : p ≤ 18446744073709551615) (hs0 : -9223372036854775808 ≤ set) (hs1 : set ≤ 9223372036854775807) :
    Calls Try.prog 12 #[.agg (stpV f t A sets.length c), .int .u64 (p : Int), .int .i64 set] w fun e w' => e = .returned (.bool true) ∧ Below w.heap.size w w' := by
  obtain ⟨_, hnc, hcm⟩ := Rp.sl_len hs
  unfold maxLen at hcm
  have hb0 : Below w.heap.size w (w.alloc (.cells (stpV f t A sets.length c) 31)) := (Below.refl _ _).alloc (Nat.le_refl _) _
  have HS := Lib.hid (Rp.sl_below hs hb0 hD)
  have HB := Lib.hid hb0
  have HD := Lib.hid (fun k hk => Nat.lt_of_lt_of_le (hD k hk) hb0.size)
  have HK := Lib.hid (Blk.new w 31 (stpV f t A sets.length c))
  clear hs hD hb0
  have h1 : f < t := hok.1
  have h2 : t ≤ 4611686018427387904 := hok.2.1
  have h3 : 1 ≤ sets.length := hok.2.2.1
  have h4 : sets.length ≤ 8 := hok.2.2.2.1
  have E4 := Lib.hid (dec_true hok)
  have E1 := Lib.hid (dealt_out (s := (f, t, sets)) (p := p) (fun h => hin h.2))
  have hin' : p < f ∨ (f ≤ p ∧ t ≤ p) := by omega
  clear hin
  have E2 := Lib.hid (back_out (s := (f, t, sets)) (set := set) (loc := p) (by omega))
  obtain ⟨hth1, hth2⟩ := hth
  obtain ⟨sh, hsh⟩ : ∃ sh : Nat, sh = share (f, t, sets) set := ⟨_, rfl⟩
  have hge : sh ≤ p := by rw [hsh]; omega
  have hdlt : decide (p < sh) = false := by simp; omega
  have E3 := Lib.hid hsh.symm
  clear hsh his
  clear hok
  rcases hin' with hin1 | ⟨hin1, hin2⟩
  all_goals
    go_enter Try.func12, Try.ntmps12
    go_wp2_with fail
    generalize World.alloc w _ = w0 at *
    have hkl := (show Blk _ _ _ _ from HK.out).lt
    have hz0 := HB.out.size
    have B0 : Hid (Below w0.heap.size w0 w0) := Below.refl _ _
    refine (long_any (f := f) (t := t) HS.out HD.out).mono ?_; rintro e w1 ⟨b, rfl, _, hb⟩
    have hk := (show Blk _ _ _ _ from HK.out).below hb hkl
    have d0 : w1.cell? ⟨w.heap.size, 0, none⟩ = some (.int .u64 (f : Int)) := hk.cell 0
    have d1 : w1.cell? ⟨w.heap.size, 1, none⟩ = some (.int .u64 (t : Int)) := hk.cell 1
    have d2 : w1.cell? ⟨w.heap.size, 2, none⟩ = some (.slice A sets.length c) := hk.cell 2
    have B1 := Lib.hid hb
    clear hb hk
    cases b
    case true =>
      go_wp2_with fail
      refine (slive_any _).mono ?_; rintro e w2 ⟨rfl, hb⟩
      go_wp2_with fail
      go_ret
      exact ⟨rfl, HB.out.trans ((B1.out.trans (hb.mono B1.out.size)).mono hz0)⟩
    go_wp2_with fail
    clear d0 d1 d2
    have hc := dealt_any p (Rp.sl_below HS.out B1.out HD.out) (fun k hk => Nat.lt_of_lt_of_le (HD.out k hk) B1.out.size) hf ht hp
    rw [E1.out] at hc
    have HC1 := Lib.hid hc
    clear hc
    refine (HC1.out).mono ?_; rintro e w2 ⟨rfl, hb⟩
    have hbn := B1.out.trans (hb.mono B1.out.size)
    have hk := HK.out.below hbn hkl
    have d0 : w2.cell? ⟨w.heap.size, 0, none⟩ = some (.int .u64 (f : Int)) := hk.cell 0
    have d1 : w2.cell? ⟨w.heap.size, 1, none⟩ = some (.int .u64 (t : Int)) := hk.cell 1
    have d2 : w2.cell? ⟨w.heap.size, 2, none⟩ = some (.slice A sets.length c) := hk.cell 2
    have B2 := Lib.hid hbn
    clear hb hbn hk
    go_wp2_with fail
    clear d0 d1 d2
    have hc := back_any set p (Rp.sl_below HS.out B2.out HD.out) (fun k hk => Nat.lt_of_lt_of_le (HD.out k hk) B2.out.size) hf ht hp
    rw [E2.out] at hc
    have HC2 := Lib.hid hc
    clear hc
    refine (HC2.out).mono ?_; rintro e w3 ⟨rfl, hb⟩
    have hbn := B2.out.trans (hb.mono B2.out.size)
    have hk := HK.out.below hbn hkl
    have d0 : w3.cell? ⟨w.heap.size, 0, none⟩ = some (.int .u64 (f : Int)) := hk.cell 0
    have d1 : w3.cell? ⟨w.heap.size, 1, none⟩ = some (.int .u64 (t : Int)) := hk.cell 1
    have d2 : w3.cell? ⟨w.heap.size, 2, none⟩ = some (.slice A sets.length c) := hk.cell 2
    have B3 := Lib.hid hbn
    clear hb hbn hk
    go_wp2_with fail
    clear d0 d1 d2
    have hc := rright_any (Rp.sl_below HS.out B3.out HD.out) (fun k hk => Nat.lt_of_lt_of_le (HD.out k hk) B3.out.size) hf ht
    rw [E4.out] at hc
    have HC3 := Lib.hid hc
    clear hc
    refine (HC3.out).mono ?_; rintro e w4 ⟨rfl, hb⟩
    have hbn := B3.out.trans (hb.mono B3.out.size)
    have hk := HK.out.below hbn hkl
    have d0 : w4.cell? ⟨w.heap.size, 0, none⟩ = some (.int .u64 (f : Int)) := hk.cell 0
    have d1 : w4.cell? ⟨w.heap.size, 1, none⟩ = some (.int .u64 (t : Int)) := hk.cell 1
    have d2 : w4.cell? ⟨w.heap.size, 2, none⟩ = some (.slice A sets.length c) := hk.cell 2
    have B4 := Lib.hid hbn
    clear hb hbn hk
    go_wp2_with fail
    clear d0 d1 d2
    have hc := share_any set (Rp.sl_below HS.out B4.out HD.out) (fun k hk => Nat.lt_of_lt_of_le (HD.out k hk) B4.out.size) hf ht
    rw [E3.out] at hc
    have HC4 := Lib.hid hc
    clear hc
    refine (HC4.out).mono ?_; rintro e w5 ⟨rfl, hb⟩
    have hbn := B4.out.trans (hb.mono B4.out.size)
    have hk := HK.out.below hbn hkl
    have d0 : w5.cell? ⟨w.heap.size, 0, none⟩ = some (.int .u64 (f : Int)) := hk.cell 0
    have d1 : w5.cell? ⟨w.heap.size, 1, none⟩ = some (.int .u64 (t : Int)) := hk.cell 1
    have d2 : w5.cell? ⟨w.heap.size, 2, none⟩ = some (.slice A sets.length c) := hk.cell 2
    have B5 := Lib.hid hbn
    clear hb hbn hk
    go_wp2_with fail
    clear d0 d1 d2
    refine (slive_any _).mono ?_; rintro e w6 ⟨rfl, hb⟩
    have hbn := B5.out.trans (hb.mono B5.out.size)
    have B6 := Lib.hid hbn
    clear hb hbn
    go_wp2_with fail
    go_ret
    exact ⟨rfl, HB.out.trans (B6.out.mono hz0)⟩
set_option maxRecDepth 100000 in
set_option maxHeartbeats 4000000 in
theorem deals_out_not (p : Nat) (set : Int) (hok : SOk (f, t, sets)) (hin : ¬ (f ≤ p ∧ p < t)) (his : ¬ p < share (f, t, sets) set) (hth : ¬ (0 ≤ set ∧ set < sets.length)) (hs : (rpSlice rpU64).sl w D A sets.length c sets) (hD : ∀ k, D k → k < w.heap.size) (hf : f ≤ 18446744073709551615) (ht : t ≤ 18446744073709551615) (hp : p ≤ 18446744073709551615) (hs0 : -9223372036854775808 ≤ set) (hs1 : set ≤ 9223372036854775807) :
    Calls Try.prog 12 #[.agg (stpV f t A sets.length c), .int .u64 (p : Int), .int .i64 set] w fun e w' => e = .returned (.bool true) ∧ Below w.heap.size w w' := by
  obtain ⟨_, hnc, hcm⟩ := Rp.sl_len hs
  unfold maxLen at hcm
  have hb0 : Below w.heap.size w (w.alloc (.cells (stpV f t A sets.length c) 31)) := (Below.refl _ _).alloc (Nat.le_refl _) _
  have HS := Lib.hid (Rp.sl_below hs hb0 hD)
  have HB := Lib.hid hb0
  have HD := Lib.hid (fun k hk => Nat.lt_of_lt_of_le (hD k hk) hb0.size)
  have HK := Lib.hid (Blk.new w 31 (stpV f t A sets.length c))
  clear hs hD hb0
  have h1 : f < t := hok.1
  have h2 : t ≤ 4611686018427387904 := hok.2.1
  have h3 : 1 ≤ sets.length := hok.2.2.1
  have h4 : sets.length ≤ 8 := hok.2.2.2.1
  have E4 := Lib.hid (dec_true hok)
  have E1 := Lib.hid (dealt_out (s := (f, t, sets)) (p := p) (fun h => hin h.2))
  have hin' : p < f ∨ (f ≤ p ∧ t ≤ p) := by omega
  clear hin
  have E2 := Lib.hid (back_out (s := (f, t, sets)) (set := set) (loc := p) (by omega))
  have hth' : set < 0 ∨ (0 ≤ set ∧ (sets.length : Int) ≤ set) := by omega
  clear his hth
  clear hok
  rcases hin' with hin1 | ⟨hin1, hin2⟩
  all_goals rcases hth' with hth | ⟨hth1, hth2⟩
  all_goals
    go_enter Try.func12, Try.ntmps12
    go_wp2_with fail
    generalize World.alloc w _ = w0 at *
    have hkl := (show Blk _ _ _ _ from HK.out).lt
    have hz0 := HB.out.size
    have B0 : Hid (Below w0.heap.size w0 w0) := Below.refl _ _
    refine (long_any (f := f) (t := t) HS.out HD.out).mono ?_; rintro e w1 ⟨b, rfl, _, hb⟩
    have hk := (show Blk _ _ _ _ from HK.out).below hb hkl
    have d0 : w1.cell? ⟨w.heap.size, 0, none⟩ = some (.int .u64 (f : Int)) := hk.cell 0
    have d1 : w1.cell? ⟨w.heap.size, 1, none⟩ = some (.int .u64 (t : Int)) := hk.cell 1
    have d2 : w1.cell? ⟨w.heap.size, 2, none⟩ = some (.slice A sets.length c) := hk.cell 2
    have B1 := Lib.hid hb
    clear hb hk
    cases b
    case true =>
      go_wp2_with fail
      refine (slive_any _).mono ?_; rintro e w2 ⟨rfl, hb⟩
      go_wp2_with fail
      go_ret
      exact ⟨rfl, HB.out.trans ((B1.out.trans (hb.mono B1.out.size)).mono hz0)⟩
    go_wp2_with fail
    clear d0 d1 d2
    have hc := dealt_any p (Rp.sl_below HS.out B1.out HD.out) (fun k hk => Nat.lt_of_lt_of_le (HD.out k hk) B1.out.size) hf ht hp
    rw [E1.out] at hc
    have HC1 := Lib.hid hc
    clear hc
    refine (HC1.out).mono ?_; rintro e w2 ⟨rfl, hb⟩
    have hbn := B1.out.trans (hb.mono B1.out.size)
    have hk := HK.out.below hbn hkl
    have d0 : w2.cell? ⟨w.heap.size, 0, none⟩ = some (.int .u64 (f : Int)) := hk.cell 0
    have d1 : w2.cell? ⟨w.heap.size, 1, none⟩ = some (.int .u64 (t : Int)) := hk.cell 1
    have d2 : w2.cell? ⟨w.heap.size, 2, none⟩ = some (.slice A sets.length c) := hk.cell 2
    have B2 := Lib.hid hbn
    clear hb hbn hk
    go_wp2_with fail
    clear d0 d1 d2
    have hc := back_any set p (Rp.sl_below HS.out B2.out HD.out) (fun k hk => Nat.lt_of_lt_of_le (HD.out k hk) B2.out.size) hf ht hp
    rw [E2.out] at hc
    have HC2 := Lib.hid hc
    clear hc
    refine (HC2.out).mono ?_; rintro e w3 ⟨rfl, hb⟩
    have hbn := B2.out.trans (hb.mono B2.out.size)
    have hk := HK.out.below hbn hkl
    have d0 : w3.cell? ⟨w.heap.size, 0, none⟩ = some (.int .u64 (f : Int)) := hk.cell 0
    have d1 : w3.cell? ⟨w.heap.size, 1, none⟩ = some (.int .u64 (t : Int)) := hk.cell 1
    have d2 : w3.cell? ⟨w.heap.size, 2, none⟩ = some (.slice A sets.length c) := hk.cell 2
    have B3 := Lib.hid hbn
    clear hb hbn hk
    go_wp2_with fail
    clear d0 d1 d2
    have hc := rright_any (Rp.sl_below HS.out B3.out HD.out) (fun k hk => Nat.lt_of_lt_of_le (HD.out k hk) B3.out.size) hf ht
    rw [E4.out] at hc
    have HC3 := Lib.hid hc
    clear hc
    refine (HC3.out).mono ?_; rintro e w4 ⟨rfl, hb⟩
    have hbn := B3.out.trans (hb.mono B3.out.size)
    have hk := HK.out.below hbn hkl
    have d0 : w4.cell? ⟨w.heap.size, 0, none⟩ = some (.int .u64 (f : Int)) := hk.cell 0
    have d1 : w4.cell? ⟨w.heap.size, 1, none⟩ = some (.int .u64 (t : Int)) := hk.cell 1
    have d2 : w4.cell? ⟨w.heap.size, 2, none⟩ = some (.slice A sets.length c) := hk.cell 2
    have B4 := Lib.hid hbn
    clear hb hbn hk
    go_wp2_with fail
    clear d0 d1 d2
    refine (slive_any _).mono ?_; rintro e w5 ⟨rfl, hb⟩
    have hbn := B4.out.trans (hb.mono B4.out.size)
    have B5 := Lib.hid hbn
    clear hb hbn
    go_wp2_with fail
    go_ret
    exact ⟨rfl, HB.out.trans (B5.out.mono hz0)⟩

theorem stripeDeals_any {n : Nat} (p : Nat) (set : Int) (hs : (rpSlice rpU64).sl w D A n c sets) (hD : ∀ k, D k → k < w.heap.size) (hf : f ≤ 18446744073709551615) (ht : t ≤ 18446744073709551615) (hp : p ≤ 18446744073709551615) (hs0 : -9223372036854775808 ≤ set) (hs1 : set ≤ 9223372036854775807) :
    Calls Try.prog 12 #[.agg (stpV f t A n c), .int .u64 (p : Int), .int .i64 set] w fun e w' => e = .returned (.bool true) ∧ Below w.heap.size w w' := by
  obtain ⟨hlen, _, _⟩ := Rp.sl_len hs
  subst hlen
  by_cases hok : SOk (f, t, sets)
  · by_cases hin : f ≤ p ∧ p < t
    · by_cases his : p < share (f, t, sets) set
      · exact deals_in_is p set hok hin his hs hD hf ht hp hs0 hs1
      · by_cases hth : 0 ≤ set ∧ set < sets.length
        · exact deals_in_there p set hok hin his hth hs hD hf ht hp hs0 hs1
        · exact deals_in_not p set hok hin his hth hs hD hf ht hp hs0 hs1
    · by_cases his : p < share (f, t, sets) set
      · exact deals_out_is p set hok hin his hs hD hf ht hp hs0 hs1
      · by_cases hth : 0 ≤ set ∧ set < sets.length
        · exact deals_out_there p set hok hin his hth hs hD hf ht hp hs0 hs1
        · exact deals_out_not p set hok hin his hth hs hD hf ht hp hs0 hs1
  · exact deals_no p set hok hs hD hf ht hp hs0 hs1
end
end Go.Proofs.Ytmdgmnaaopineaa
/- StripeDeals, its arguments as they come. -/
namespace Go.Proofs.Ytmdgmnaaopineaa
open Go.ChangeShapes Go.WideShapes Go.ChangeAt Go.RowKit
set_option linter.unusedVariables false
abbrev rpStp : Rp Stp := rpPair rpU64 (rpPair rpU64 rpSets)
/-- A stripe's cells, opened. -/
theorem stp_open {w : World} {D : Dom} {x : Stp} {cs : List Value} (h : rpStp.ok w D x cs) : ∃ A c, cs = [.int .u64 (x.1 : Int), .int .u64 (x.2.1 : Int), .slice A x.2.2.length c] ∧ (rpSlice rpU64).sl w D A x.2.2.length c x.2.2 ∧ x.1 ≤ 18446744073709551615 ∧ x.2.1 ≤ 18446744073709551615 := by
  obtain ⟨cs1, cs2, rfl, ⟨rfl, q1⟩, cs3, cs4, rfl, ⟨rfl, q2⟩, h4⟩ := h
  obtain ⟨A, c, rfl, hs⟩ := Rp.sl_form h4
  exact ⟨A, c, rfl, hs, by omega, by omega⟩
theorem agg_of {cs : Array Value} {l : List Value} (h : cs.toList = l) : cs = l.toArray := by
  have : cs.toList.toArray = cs := by simp
  rw [← this, h]
theorem stripeDeals_st (cs : Array Value) (x : Stp) (p set : Int) (w : World) (hx : rpStp.ok w (lt w.heap.size) x cs.toList) (p0 : 0 ≤ p) (p1 : p ≤ 18446744073709551615) (s0 : -9223372036854775808 ≤ set) (s1 : set ≤ 9223372036854775807) :
    Calls Try.prog 12 #[.agg cs, .int .u64 p, .int .i64 set] w fun e w' => e = .returned (.bool true) ∧ Below w.heap.size w w' := by
  obtain ⟨A, c, hcs, hs, hf, ht⟩ := stp_open hx
  obtain ⟨q, rfl⟩ : ∃ q : Nat, p = q := ⟨p.toNat, by omega⟩
  rw [agg_of hcs]
  exact stripeDeals_any q set hs (fun k hk => hk) hf ht (by omega) s0 s1
end Go.Proofs.Ytmdgmnaaopineaa
/- Chapters 17 and 20: whether a number is an epoch or a position; whether a projection is well-formed: the walk of proj.Right. -/
namespace Go.Proofs.Ytmdgmnaaopineaa
open Go.ChangeShapes Go.WideShapes Go.ChangeAt Go.RowKit
set_option linter.unusedVariables false
abbrev Prj := Nat × List Stp
def EOk (e : Nat) : Prop := 1 ≤ e ∧ e < 4611686018427387904
def PosOk (x : Nat) : Prop := x < 4611686018427387904
/-- Where the stripe of a number begins: where the one ahead ends. -/
def startOf (l : List Stp) : Nat → Nat
  | 0 => 0
  | i + 1 => ((l[i]?).map (fun s => s.2.1)).getD 0
def PUpTo (p : Prj) (k : Nat) : Prop := (EOk p.1 ∧ 1 ≤ p.2.length ∧ p.2.length ≤ 64) ∧ ∀ (i : Nat) (s : Stp), i < k → p.2[i]? = some s → SOk s ∧ s.1 = startOf p.2 i
def POk (p : Prj) : Prop := PUpTo p p.2.length ∧ startOf p.2 p.2.length = 4611686018427387904
theorem startOf_succ {l : List Stp} {k : Nat} {s : Stp} (h : l[k]? = some s) : startOf l (k + 1) = s.2.1 := by
  show ((l[k]?).map (fun s => s.2.1)).getD 0 = _
  rw [h]; rfl
theorem pUpTo_succ {p : Prj} {k : Nat} {s : Stp} (hs : p.2[k]? = some s) : PUpTo p (k + 1) ↔ PUpTo p k ∧ SOk s ∧ s.1 = startOf p.2 k := by
  constructor
  · rintro ⟨a, h⟩
    exact ⟨⟨a, fun i s' hi hs' => h i s' (by omega) hs'⟩, h k s (by omega) hs⟩
  · rintro ⟨⟨a, h⟩, h2⟩
    refine ⟨a, fun i s' hi hs' => ?_⟩
    rcases Nat.lt_or_ge i k with h3 | h3
    · exact h i s' h3 hs'
    · obtain rfl : i = k := by omega
      rw [hs] at hs'
      injection hs' with hs'
      exact hs' ▸ h2
theorem pUpTo_of {p : Prj} {k : Nat} (h : POk p) : PUpTo p k := ⟨h.1.1, fun i s _ hs => h.1.2 i s (List.getElem?_eq_some_iff.1 hs).1 hs⟩

theorem eright_any (e : Nat) (w : World) (he : e ≤ 18446744073709551615) : Calls Try.prog 90 #[.int .u64 (e : Int)] w fun en w' => en = .returned (.bool (dec (EOk e))) ∧ w = w' := by
  by_cases h1 : 1 ≤ e
  · by_cases h2 : e < 4611686018427387904
    · have hd : decide ((1 : Int) ≤ (e : Int)) = true := by simp; omega
      have hd2 : decide ((e : Int) < 4611686018427387904) = true := by simp; omega
      rw [dec_true (show EOk e from ⟨h1, h2⟩)]
      go_enter Try.func90, Try.ntmps90
      go_wp2_with fail
      go_ret
      exact ⟨rfl, rfl⟩
    · have hd : decide ((1 : Int) ≤ (e : Int)) = true := by simp; omega
      have hd2 : decide ((e : Int) < 4611686018427387904) = false := by simp; omega
      rw [dec_false (show ¬ EOk e from fun h => h2 h.2)]
      go_enter Try.func90, Try.ntmps90
      go_wp2_with fail
      go_ret
      exact ⟨rfl, rfl⟩
  · have hd : decide ((1 : Int) ≤ (e : Int)) = false := by simp; omega
    rw [dec_false (show ¬ EOk e from fun h => h1 h.1)]
    go_enter Try.func90, Try.ntmps90
    go_wp2_with fail
    go_ret
    exact ⟨rfl, rfl⟩
theorem reright_any (e : Nat) (w : World) (he : e ≤ 18446744073709551615) : Calls Try.prog 87 #[.int .u64 (e : Int)] w fun en w' => en = .returned (.bool (dec (EOk e))) ∧ w = w' := by
  by_cases h1 : 1 ≤ e
  · by_cases h2 : e < 4611686018427387904
    · have hd : decide ((0 : Int) < (e : Int)) = true := by simp; omega
      have hd2 : decide ((e : Int) ≤ 4611686018427387903) = true := by simp; omega
      rw [dec_true (show EOk e from ⟨h1, h2⟩)]
      go_enter Try.func87, Try.ntmps87
      go_wp2_with fail
      go_ret
      exact ⟨rfl, rfl⟩
    · have hd : decide ((0 : Int) < (e : Int)) = true := by simp; omega
      have hd2 : decide ((e : Int) ≤ 4611686018427387903) = false := by simp; omega
      rw [dec_false (show ¬ EOk e from fun h => h2 h.2)]
      go_enter Try.func87, Try.ntmps87
      go_wp2_with fail
      go_ret
      exact ⟨rfl, rfl⟩
  · have hd : decide ((0 : Int) < (e : Int)) = false := by simp; omega
    rw [dec_false (show ¬ EOk e from fun h => h1 h.1)]
    go_enter Try.func87, Try.ntmps87
    go_wp2_with fail
    go_ret
    exact ⟨rfl, rfl⟩
theorem epos_any (x : Nat) (w : World) (he : x ≤ 18446744073709551615) : Calls Try.prog 81 #[.int .u64 (x : Int)] w fun en w' => en = .returned (.bool (dec (PosOk x))) ∧ w = w' := by
  by_cases h2 : x < 4611686018427387904
  · have hd2 : decide ((x : Int) < 4611686018427387904) = true := by simp; omega
    rw [dec_true (show PosOk x from h2)]
    go_enter Try.func81, Try.ntmps81
    go_wp2_with fail
    go_ret
    exact ⟨by rw [← hd2]; rfl, rfl⟩
  · have hd2 : decide ((x : Int) < 4611686018427387904) = false := by simp; omega
    rw [dec_false (show ¬ PosOk x from h2)]
    go_enter Try.func81, Try.ntmps81
    go_wp2_with fail
    go_ret
    exact ⟨by rw [← hd2]; rfl, rfl⟩
theorem repos_any (x : Nat) (w : World) (he : x ≤ 18446744073709551615) : Calls Try.prog 33 #[.int .u64 (x : Int)] w fun en w' => en = .returned (.bool (dec (PosOk x))) ∧ w = w' := by
  by_cases h2 : x < 4611686018427387904
  · have hd2 : decide ((x : Int) ≤ 4611686018427387903) = true := by simp; omega
    rw [dec_true (show PosOk x from h2)]
    go_enter Try.func33, Try.ntmps33
    go_wp2_with fail
    go_ret
    exact ⟨by rw [← hd2]; rfl, rfl⟩
  · have hd2 : decide ((x : Int) ≤ 4611686018427387903) = false := by simp; omega
    rw [dec_false (show ¬ PosOk x from h2)]
    go_enter Try.func33, Try.ntmps33
    go_wp2_with fail
    go_ret
    exact ⟨by rw [← hd2]; rfl, rfl⟩

theorem stps_at {w : World} {D : Dom} {A : Option Addr} {n c : Nat} {l : List Stp} (h : rpStp.sl w D A n c l) {k : Nat} (hk : k < n) :
    ∃ b off s A' c', A = some ⟨b, off, none⟩ ∧ D b ∧ l[k]? = some s ∧ w.cell? ⟨b, off + k * 3, none⟩ = some (.int .u64 (s.1 : Int)) ∧ w.cell? ⟨b, off + k * 3 + 1, none⟩ = some (.int .u64 (s.2.1 : Int)) ∧ w.cell? ⟨b, off + k * 3 + 2, none⟩ = some (.slice A' s.2.2.length c') ∧
      (rpSlice rpU64).sl w D A' s.2.2.length c' s.2.2 ∧ s.1 ≤ 18446744073709551615 ∧ s.2.1 ≤ 18446744073709551615 := by
  obtain ⟨b, off, s, cs, hA, hb, hx, hc, hg⟩ := Rp.sl_at h hk
  obtain ⟨A', c', rfl, hs, h1, h2⟩ := stp_open hc
  have e : rpStp.size = 3 := by kernel_rfl
  rw [e] at hg
  exact ⟨b, off, s, A', c', hA, hb, hx, by simpa using hg 0 _ rfl, hg 1 _ rfl, hg 2 _ rfl, hs, h1, h2⟩
abbrev prjV (e : Nat) (A : Option Addr) (n c : Nat) : Array Value := #[.int .u64 (e : Int), .slice A n c]

set_option maxRecDepth 100000 in
set_option maxHeartbeats 4000000 in
theorem pright_any {D : Dom} {A : Option Addr} {n c e : Nat} {l : List Stp} {w : World} (hs : rpStp.sl w D A n c l) (hD : ∀ k, D k → k < w.heap.size) (he : e ≤ 18446744073709551615) :
    Calls Try.prog 38 #[.agg (prjV e A n c)] w fun en w' => en = .returned (.bool (dec (POk (e, l)))) ∧ Below w.heap.size w w' := by
  obtain ⟨hlen, hnc, hcm⟩ := Rp.sl_len hs
  unfold maxLen at hcm
  subst hlen
  have hb0 : Below w.heap.size w (w.alloc (.cells (prjV e A l.length c) 25)) := (Below.refl _ _).alloc (Nat.le_refl _) _
  have HS := Lib.hid (Rp.sl_below hs hb0 hD)
  have HB0 := Lib.hid hb0
  have HD := Lib.hid (fun k hk => Nat.lt_of_lt_of_le (hD k hk) hb0.size)
  have HK := Lib.hid (Blk.new w 25 (prjV e A l.length c))
  clear hs hD hb0
  have her := fun w => eright_any e w he
  cases hq : dec (EOk e)
  · rw [hq] at her
    have HE := Lib.hid her
    rw [dec_false (fun h : POk (e, l) => of_not_dec hq h.1.1.1)]
    clear her hq
    go_enter Try.func38, Try.ntmps38
    go_wp2_with fail
    refine (HE.out _).mono ?_; rintro en w1 ⟨rfl, rfl⟩
    go_wp2_with fail
    go_ret
    exact ⟨rfl, HB0.out⟩
  rw [hq] at her
  have HE := Lib.hid her
  have HEO := Lib.hid (of_dec hq)
  clear her hq
  by_cases hpre : 1 ≤ l.length ∧ l.length ≤ 64
  case neg =>
    rw [dec_false (fun h : POk (e, l) => hpre h.1.1.2)]
    have hc : l.length < 1 ∨ (1 ≤ l.length ∧ 64 < l.length) := by omega
    clear hpre
    rcases hc with d1 | ⟨d1, d2⟩
    all_goals
      go_enter Try.func38, Try.ntmps38
      go_wp2_with fail
      refine (HE.out _).mono ?_; rintro en w1 ⟨rfl, rfl⟩
      go_wp2_with fail
      go_ret
      exact ⟨rfl, HB0.out⟩
  obtain ⟨d1, d2⟩ := hpre
  have v1 : decide ((l.length : Int) < 1) = false := by simp; omega
  have v2 : decide ((64 : Int) < (l.length : Int)) = false := by simp; omega
  have HP0 : Hid (PUpTo (e, l) 0) := ⟨⟨HEO.out, d1, d2⟩, fun i s h => by omega⟩
  go_enter Try.func38, Try.ntmps38
  go_wp2_with fail
  refine (HE.out _).mono ?_; rintro en w1 ⟨rfl, rfl⟩
  go_wp2_with fail
  generalize World.alloc w _ = w0 at *
  have hz0 := HB0.out.size
  go_loopw [3, 25] (fun fv i wr => ∃ (k fr : Nat), k ≤ l.length ∧ i = .int .i64 k ∧ fv = .int .u64 (fr : Int) ∧ fr ≤ 18446744073709551615 ∧ Hid (fr = startOf l k) ∧ Hid (PUpTo (e, l) k) ∧ Below w0.heap.size w0 wr) (fun _ i _ => l.length - (intOf i).toNat)
  case atStart => exact ⟨0, 0, by omega, rfl, rfl, by omega, rfl, HP0, Below.refl _ _⟩
  case round =>
    obtain ⟨k, fr, hk, rfl, rfl, hfr, hst, hup, hbr⟩ := hrel
    have HBR := Lib.hid hbr
    have hzr := hbr.size
    by_cases hkn : k < l.length
    · obtain ⟨b, off, s, A2, c2, rfl, hb, hsk, g0, g1, g2, hrow, hs1, hs2⟩ := stps_at (Rp.sl_below HS.out hbr HD.out) hkn
      have HSK := Lib.hid hsk
      have HR := Lib.hid hrow
      have hdk : decide ((k : Int) < (l.length : Int)) = true := by simp; omega
      obtain ⟨sf, hsf⟩ : ∃ sf, sf = s.1 := ⟨_, rfl⟩
      obtain ⟨st, hst2⟩ : ∃ st, st = s.2.1 := ⟨_, rfl⟩
      obtain ⟨sn, hsn⟩ : ∃ sn, sn = s.2.2.length := ⟨_, rfl⟩
      rw [← hsf] at g0 hs1
      rw [← hst2] at g1 hs2
      rw [← hsn] at g2
      have hal := Lib.hid ((Below.refl wr.heap.size wr).alloc (Nat.le_refl _) (.cells (stpV sf st A2 sn c2) 31))
      have HKS := Lib.hid (Blk.new wr 31 (stpV sf st A2 sn c2))
      have HSF := Lib.hid hsf
      have HST := Lib.hid hst2
      have HSN := Lib.hid hsn
      clear hsk hrow hbr hsf hst2 hsn
      by_cases hne : sf = fr
      · subst hne
        have hdn : ((sf : Int) != (sf : Int)) = false := by simp
        have hrt := right_any (f := s.1) (t := s.2.1) (Rp.sl_below HR.out hal.out (fun k hk => Nat.lt_of_lt_of_le (HD.out k hk) hzr)) (fun k hk => Nat.lt_of_lt_of_le (Nat.lt_of_lt_of_le (HD.out k hk) hzr) hal.out.size) (by rw [← HSF.out]; omega) (by rw [← HST.out]; omega)
        rw [← HSF.out, ← HST.out, ← HSN.out] at hrt
        cases hq : dec (SOk (sf, st, s.2.2))
        · rw [hq] at hrt
          have HRT := Lib.hid hrt
          have hno := Lib.hid (show ¬ POk (e, l) from fun h => of_not_dec hq (by
            have := (h.1.2 k s (List.getElem?_eq_some_iff.1 HSK.out).1 HSK.out).1
            rw [HSF.out, HST.out]; exact this))
          clear hrt hq
          go_wp2_with fail
          refine HRT.out.mono ?_; rintro en w1 ⟨rfl, hb1⟩
          go_wp2_with fail
          go_ret
          rw [dec_false hno.out]
          have h1 := HBR.out.trans (hal.out.mono hzr)
          have h2 := h1.trans (hb1.mono h1.size)
          exact ⟨rfl, HB0.out.trans (h2.mono hz0)⟩
        · rw [hq] at hrt
          have HRT := Lib.hid hrt
          have HOK := Lib.hid (of_dec hq)
          clear hrt hq
          go_wp2_with fail
          refine HRT.out.mono ?_; rintro en w1 ⟨rfl, hb1⟩
          have hks := Blk.below (show Blk _ _ _ _ from HKS.out) hb1 (show Blk _ _ _ _ from HKS.out).lt
          have e1 : w1.cell? ⟨wr.heap.size, 1, none⟩ = some (.int .u64 (st : Int)) := hks.cell 1
          have HB1 := Lib.hid hb1
          clear hb1 hks
          go_wp2_with fail
          go_roundw
          case rel =>
            have h1 := HBR.out.trans (hal.out.mono hzr)
            refine ⟨k + 1, st, by omega, by go_num, rfl, by omega, (startOf_succ HSK.out).symm ▸ HST.out, (pUpTo_succ HSK.out).2 ⟨hup.out, ?_, ?_⟩, h1.trans (HB1.out.mono h1.size)⟩
            · have := HOK.out
              rw [HSF.out, HST.out] at this
              exact this
            · rw [← HSF.out]; exact hst.out
          case measure => simp [intOf]; omega
      · have hdn : ((sf : Int) != (fr : Int)) = true := by simp; omega
        have hno := Lib.hid (show ¬ POk (e, l) from fun h => hne (by
          have := (h.1.2 k s (List.getElem?_eq_some_iff.1 HSK.out).1 HSK.out).2
          rw [HSF.out, hst.out]; exact this))
        clear hne
        go_wp2_with fail
        go_ret
        rw [dec_false hno.out]
        exact ⟨rfl, HB0.out.trans ((HBR.out.trans (hal.out.mono hzr)).mono hz0)⟩
    · obtain rfl : k = l.length := by omega
      have hdk : decide ((l.length : Int) < (l.length : Int)) = false := by simp
      clear hbr
      by_cases hend : fr = 4611686018427387904
      · have hde : ((fr : Int) == 4611686018427387904) = true := by simp; omega
        have hyes : POk (e, l) := ⟨hup.out, by show startOf l l.length = _; rw [← hst.out]; exact hend⟩
        have HY := Lib.hid hyes
        clear hyes hend
        go_wp2_with fail
        go_ret
        rw [dec_true HY.out]
        exact ⟨by first | rfl | (rw [← hde]; rfl), HB0.out.trans (HBR.out.mono hz0)⟩
      · have hde : ((fr : Int) == 4611686018427387904) = false := by simp; omega
        have hno : ¬ POk (e, l) := fun h => hend (by rw [hst.out]; exact h.2)
        have HY := Lib.hid hno
        clear hno hend
        go_wp2_with fail
        go_ret
        rw [dec_false HY.out]
        exact ⟨by first | rfl | (rw [← hde]; rfl), HB0.out.trans (HBR.out.mono hz0)⟩
end Go.Proofs.Ytmdgmnaaopineaa
/- Chapter 20 in plain words: a projection's numbers and bytes, how many they are. No walk. -/
namespace Go.Proofs.Ytmdgmnaaopineaa
open Go.ChangeShapes Go.WideShapes Go.ChangeAt Go.RowKit
set_option linter.unusedVariables false
def prn (p : Prj) : List Nat := p.1 :: p.2.length :: (p.2.map stn).flatten
def prb (p : Prj) : List UInt8 := flat (prn p)
def pm (e N : Nat) (l : List Stp) (k : Nat) : List Nat := e :: N :: ((l.take k).map stn).flatten
theorem pm_step {e N k : Nat} {l : List Stp} {s : Stp} (h : l[k]? = some s) : pm e N l (k + 1) = pm e N l k ++ stn s := by
  unfold pm
  rw [List.take_add_one, h]
  simp
theorem pm_end {e : Nat} {l : List Stp} : pm e l.length l l.length = prn (e, l) := by
  unfold pm prn
  rw [List.take_length]
theorem pm_zero {e N : Nat} {l : List Stp} : pm e N l 0 = [e, N] := by simp [pm]
theorem stn_lt {s : Stp} (h : SOk s) : ∀ y ∈ stn s, y < 18446744073709551616 := by
  have := pn_lt (T := s.2.1 - s.1 - 1) (N := s.2.2.length) (sets := s.2.2) (by have := h.2.1; omega) (by have := h.2.2.2.1; omega) (sOk_nodes h) s.2.2.length
  rw [pn_end] at this; exact this
theorem stn_length {s : Stp} (h : SOk s) : (stn s).length ≤ 74 := by
  have h2 := pn_length (T := s.2.1 - s.1 - 1) (N := s.2.2.length) (sets := s.2.2) (sOk_nodes h) s.2.2.length
  rw [pn_end] at h2
  have h3 := h.2.2.2.1
  have h4 : (stn (s.1, s.2.1, s.2.2)).length = (stn s).length := rfl
  omega
theorem flats_len {l : List Stp} (h : ∀ s ∈ l, SOk s) : ((l.map stn).flatten).length ≤ 74 * l.length := by
  induction l with
  | nil => simp
  | cons x xs ih =>
    have h1 := stn_length (h x (by simp))
    have h2 := ih (fun y hy => h y (by simp [hy]))
    simp only [List.map_cons, List.flatten_cons, List.length_append, List.length_cons]
    omega
theorem pm_lt {e N : Nat} {l : List Stp} (he : e < 18446744073709551616) (hN : N < 18446744073709551616) (h : ∀ s ∈ l, SOk s) (k : Nat) : ∀ y ∈ pm e N l k, y < 18446744073709551616 := by
  intro y hy
  unfold pm at hy
  rcases List.mem_cons.1 hy with rfl | hy
  · exact he
  rcases List.mem_cons.1 hy with rfl | hy
  · exact hN
  obtain ⟨z, hz, hyz⟩ := List.mem_flatten.1 hy
  obtain ⟨x, hx, rfl⟩ := List.mem_map.1 hz
  exact stn_lt (h x (List.mem_of_mem_take hx)) y hyz
theorem pm_length {e N : Nat} {l : List Stp} (h : ∀ s ∈ l, SOk s) (k : Nat) : (pm e N l k).length ≤ 2 + 74 * k := by
  have h1 := flats_len (l := l.take k) (fun x hx => h x (List.mem_of_mem_take hx))
  have h2 : (l.take k).length ≤ k := by rw [List.length_take]; omega
  unfold pm
  simp only [List.length_cons]
  omega
/-- How many bytes numbers take that are below a power of 128. -/
theorem vlen_le (k : Nat) : ∀ xs : List Nat, (∀ x ∈ xs, x < 128 ^ (k + 1)) → (flat xs).length ≤ (k + 1) * xs.length
  | [], _ => by simp [flat]
  | x :: xs, h => by
    have h1 := vbytes_len k x (h x (by simp))
    have h2 := vlen_le k xs (fun y hy => h y (by simp [hy]))
    rw [flat_cons, List.length_append, List.length_cons, Nat.mul_succ]
    omega
theorem setb_len {x : List Nat} (h : NodesOk x) : (flat (setn x)).length ≤ 41 := by
  have h8 := h.2.1
  have h1 := vlen_le 0 [x.length] (fun y hy => by simp at hy; subst hy; omega)
  have h2 := vlen_le 4 (stepsFrom none x) (stepsFrom_lt none x _ (fun z hz => by have := nodesOk_lt h z hz; rw [show (128 : Nat) ^ (4 + 1) = 34359738368 from by decide]; omega))
  rw [stepsFrom_length] at h2
  have e : flat (setn x) = flat [x.length] ++ flat (stepsFrom none x) := by
    rw [← flat_append]; rfl
  rw [e, List.length_append]
  simp only [List.length_cons, List.length_nil] at h1
  omega
theorem setsb_len {sets : List (List Nat)} (h : ∀ x ∈ sets, NodesOk x) : (flat ((sets.map setn).flatten)).length ≤ 41 * sets.length := by
  induction sets with
  | nil => simp [flat]
  | cons x xs ih =>
    have h1 := setb_len (h x (by simp))
    have h2 := ih (fun y hy => h y (by simp [hy]))
    rw [List.map_cons, List.flatten_cons, flat_append, List.length_append, List.length_cons]
    omega
theorem stb_len2 {s : Stp} (h : SOk s) : (flat (stn s)).length ≤ 339 := by
  have h1 := setsb_len (sOk_nodes h)
  have h3 := h.2.2.2.1
  have h2 := vlen_le 9 [s.2.1 - s.1 - 1] (fun y hy => by
    simp at hy
    subst hy
    have := h.2.1
    have : (128 : Nat) ^ (9 + 1) = 1180591620717411303424 := by decide
    omega)
  have h4 := vlen_le 0 [s.2.2.length] (fun y hy => by simp at hy; subst hy; omega)
  have e : flat (stn s) = (flat [s.2.1 - s.1 - 1] ++ flat [s.2.2.length]) ++ flat ((s.2.2.map setn).flatten) := by
    rw [← flat_append, ← flat_append]; rfl
  rw [e, List.length_append, List.length_append]
  simp only [List.length_cons, List.length_nil] at h2 h4
  omega
theorem stsb_len {l : List Stp} (h : ∀ s ∈ l, SOk s) : (flat ((l.map stn).flatten)).length ≤ 339 * l.length := by
  induction l with
  | nil => simp [flat]
  | cons x xs ih =>
    have h1 := stb_len2 (h x (by simp))
    have h2 := ih (fun y hy => h y (by simp [hy]))
    rw [List.map_cons, List.flatten_cons, flat_append, List.length_append, List.length_cons]
    omega
theorem pOk_stripes {p : Prj} (h : POk p) : ∀ s ∈ p.2, SOk s := fun s hs => by
  obtain ⟨i, hi⟩ := List.getElem?_of_mem hs
  exact (h.1.2 i s (List.getElem?_eq_some_iff.1 hi).1 hi).1
theorem prb_len {p : Prj} (h : POk p) : (prb p).length ≤ 21720 := by
  have h1 := stsb_len (pOk_stripes h)
  have h3 := h.1.1.2.2
  have h2 := vlen_le 9 [p.1] (fun y hy => by
    simp at hy
    subst hy
    have := h.1.1.1.2
    have : (128 : Nat) ^ (9 + 1) = 1180591620717411303424 := by decide
    omega)
  have h4 := vlen_le 0 [p.2.length] (fun y hy => by simp at hy; subst hy; omega)
  have e : prb p = (flat [p.1] ++ flat [p.2.length]) ++ flat ((p.2.map stn).flatten) := by
    rw [← flat_append, ← flat_append]; rfl
  rw [e, List.length_append, List.length_append]
  simp only [List.length_cons, List.length_nil] at h2 h4
  omega
theorem prput_fit {p : Prj} (h : POk p) {most : Int} (hm : 21720 ≤ most) : putsB most ([], 0) ((prn p).map vbytes) = (prb p, 0) := by
  have := putsB_fit (most := most) (b := []) (xs := (prn p).map vbytes) (by have := prb_len h; show ((prb p).length : Int) ≤ most; omega)
  exact this
end Go.Proofs.Ytmdgmnaaopineaa
/- A projection is written: epoch.Put, proj.Put, proj.Bytes. -/
namespace Go.Proofs.Ytmdgmnaaopineaa
open Go.ChangeShapes Go.WideShapes Go.ChangeAt Go.RowKit
set_option linter.unusedVariables false
section
variable {D F : Dom} {A : Option Addr} {n c g e : Nat} {l : List Stp} {b : List UInt8} {most code : Int} {w : World}
theorem eput_ok (he : EOk e) (h : Pen w F g most b code) (h0 : 0 ≤ most) (h1 : most ≤ 9223372036854775807) (hb : b.length ≤ 10000000) :
    Calls Try.prog 116 #[.pointer (some ⟨g, 0, none⟩), .int .u64 (e : Int)] w (PutIs w F g most b code [e]) := by
  have he64 : e < 18446744073709551616 := by have := he.2; omega
  have her := fun w => eright_any e w (by omega)
  rw [dec_true he] at her
  have HE := Lib.hid her
  have HV := Lib.hid (vput_at h h0 h1 (by omega) e he64)
  have HP : Calls Try.prog 141 #[.pointer (some ⟨g, 0, none⟩), .int .u64 (e : Int), .bool true] w (PutIs w F g most b code [e]) := by
    clear her HE h he
    go_enter Try.func141, Try.ntmps141
    go_wp2_with fail
    refine HV.out.mono ?_; rintro en w1 ⟨rfl, F1, hp1, hch1, hF1⟩
    have HP1 := Lib.hid hp1
    have HCH1 := Lib.hid hch1
    have HF1 := Lib.hid hF1
    clear hp1 hch1 hF1
    go_wp2_with fail
    go_end0
    exact ⟨rfl, F1, HP1.out, HCH1.out, HF1.out⟩
  have HPP := Lib.hid HP
  clear her HP HV h he
  go_enter Try.func116, Try.ntmps116
  go_wp2_with fail
  refine (HE.out _).mono ?_; rintro en w1 ⟨rfl, rfl⟩
  go_wp2_with fail
  refine HPP.out.mono ?_; rintro en w2 ⟨rfl, F1, hp1, hch1, hF1⟩
  have HP1 := Lib.hid hp1
  have HCH1 := Lib.hid hch1
  have HF1 := Lib.hid hF1
  clear hp1 hch1 hF1
  go_wp2_with fail
  go_end0
  exact ⟨rfl, F1, HP1.out, HCH1.out, HF1.out⟩
set_option maxRecDepth 100000 in
set_option maxHeartbeats 4000000 in
theorem prput_ok (hs : rpStp.sl w D A n c l) (hD : ∀ k, D k → k < w.heap.size) (hDF : ∀ k, D k → ¬ F k) (hok : POk (e, l)) (h : Pen w F g most b code) (h0 : 0 ≤ most) (h1 : most ≤ 9223372036854775807) (hb : b.length ≤ 1000000) :
    Calls Try.prog 62 #[.pointer (some ⟨g, 0, none⟩), .agg (prjV e A n c)] w (PutIs w F g most b code (prn (e, l))) := by
  obtain ⟨hlen, hnc, hcm⟩ := Rp.sl_len hs
  have hstr := pOk_stripes hok
  simp only at hstr
  have hok' := hok
  obtain ⟨⟨⟨heo, hn1, hn64⟩, _⟩, _⟩ := hok'
  simp only at heo hn1 hn64
  subst hlen
  rw [← pm_end]
  have he64 : e < 18446744073709551616 := by have := heo.2; omega
  have hb0 := below1 w (.cells (prjV e A l.length c) 25)
  have hr := pright_any (e := e) (Rp.sl_below hs hb0 hD) (fun k hk => Nat.lt_of_lt_of_le (hD k hk) hb0.size) (by omega)
  rw [dec_true hok] at hr
  have HR := Lib.hid hr
  have HB0 := Lib.hid hb0
  have HK0 := Lib.hid (blk11 w 25 (prjV e A l.length c))
  have HS : Hid (Sl rpStp w D A l.length c l) := ⟨hs, hD⟩
  have HDF := Lib.hid hDF
  have HP := Lib.hid h
  have HFL := Lib.hid h.lt
  have HEO := Lib.hid heo
  have HE64 := Lib.hid he64
  have HSTR := Lib.hid hstr
  have s2 : IntKind.u64.wrap (l.length : Int) = (l.length : Int) := IntWalk.u64_in _ (by omega)
  clear hs hD hDF h hok hr hb0 hstr heo he64
  generalize hN : l.length = N at *
  have HN := Lib.hid hN
  clear hN
  go_enter Try.func62, Try.ntmps62
  go_wp2_with fail
  generalize World.alloc w _ = w0 at *
  have k0 := (show Blk w0 _ _ _ from HK0.out).cell 0
  have k1 := (show Blk w0 _ _ _ from HK0.out).cell 1
  go_wp2_with fail
  refine HR.out.mono ?_; rintro en w1 ⟨rfl, hb1⟩
  have HK1 := Lib.hid (keepB (show Blk w0 w.heap.size 25 _ from HK0.out) hb1)
  have HB1 := Lib.hid (stepB HB0.out hb1)
  have HNF : Hid (¬ F w.heap.size) := fun hF => by have := HFL.out _ hF; omega
  have hlt1 := (show Blk w1 w.heap.size 25 _ from HK1.out).lt
  have c0 := (show Blk w1 w.heap.size 25 _ from HK1.out).cell 0
  clear hb1 k0 k1
  go_wp2_with fail
  refine (eput_ok HEO.out (HP.out.below HB1.out) h0 h1 (by omega)).mono ?_; rintro en w2 ⟨rfl, F2, hp2, hch2, hF2⟩
  have HP2 := Lib.hid hp2
  have HCH2 := Lib.hid hch2
  have HF2 := Lib.hid hF2
  have HK2 := Lib.hid (chB (show Blk w1 w.heap.size 25 _ from HK1.out) hch2 HNF.out)
  have hz12 := hch2.size
  clear hp2 hch2 hF2 c0
  have c1 := (show Blk w2 w.heap.size 25 _ from HK2.out).cell 1
  have hl2 : Hid ((putsB most (b, code) ([e].map vbytes)).1.length ≤ 1000000000) := by have h1 := puts_len most b code [e] (by simpa using HE64.out); exact (by simp only [List.length_cons, List.length_nil] at h1; omega : (putsB most (b, code) ([e].map vbytes)).1.length ≤ 1000000000)
  go_wp2_with fail
  refine (vput_at HP2.out h0 h1 hl2.out N (by omega)).mono ?_; rintro en w3 ⟨rfl, F3, hp3, hch3, hF3⟩
  have HP3 : Hid (Pen w3 F3 g most (putsB most (b, code) ((pm e N l 0).map vbytes)).1 (putsB most (b, code) ((pm e N l 0).map vbytes)).2) := by
    rw [pm_zero]
    exact hp3
  have HK3 := Lib.hid (chB (show Blk w2 w.heap.size 25 _ from HK2.out) hch3 (fun hF => by
    rcases HF2.out _ hF with h | h
    · exact HNF.out h
    · omega))
  have HCH3 : Hid (Chg (fun k => F k ∨ w1.heap.size ≤ k) w1 w3) := (HCH2.out.more (fun k _ hk => .inl hk)).trans (hch3.more (fun k _ hk => HF2.out k hk))
  have HF3 : Hid (∀ q, F3 q → F q ∨ w1.heap.size ≤ q) := fun q hq => by
    rcases hF3 q hq with h | h
    · exact HF2.out q h
    · exact .inr (by omega)
  clear hp3 hch3 hF3 c1
  have c1 := (show Blk w3 w.heap.size 25 _ from HK3.out).cell 1
  go_wp2_with fail
  clear c1
  go_loopw [24] (fun i wr => ∃ (k : Nat) (F' : Dom), k ≤ N ∧ i = .int .i64 k ∧ Hid (Pen wr F' g most (putsB most (b, code) ((pm e N l k).map vbytes)).1 (putsB most (b, code) ((pm e N l k).map vbytes)).2) ∧ Hid (Chg (fun k => F k ∨ w1.heap.size ≤ k) w1 wr) ∧ Hid (∀ q, F' q → F q ∨ w1.heap.size ≤ q)) (fun i _ => N - (intOf i).toNat)
  case atStart => exact ⟨0, F3, by omega, rfl, HP3.out, HCH3.out, HF3.out⟩
  case round =>
    clear HP3 HCH3 HF3 HK3 HK2 HP2 HCH2 HF2 hl2
    obtain ⟨k, F', hk, rfl, hpen, hchg, hF'⟩ := hrel
    by_cases hlt : k < N
    · have hsr := chS (keepS HS.out HB1.out) hchg.out (fun q hq hF => by
        rcases hF with hF | hF
        · exact HDF.out q hq hF
        · have := HS.out.2 q hq; have := HB1.out.size; omega)
      obtain ⟨bo, off, s, A3, c3, rfl, hbD, hx, g0, g1, g2, hrow, hs1, hs2⟩ := stps_at hsr.1 hlt
      obtain ⟨sf, hsf⟩ : ∃ sf, sf = s.1 := ⟨_, rfl⟩
      obtain ⟨st, hst⟩ : ∃ st, st = s.2.1 := ⟨_, rfl⟩
      obtain ⟨ss, hss⟩ : ∃ ss, ss = s.2.2 := ⟨_, rfl⟩
      have es : s = (sf, st, ss) := by rw [hsf, hst, hss]
      rw [← hsf] at g0 hs1
      rw [← hst] at g1 hs2
      rw [← hss] at g2 hrow
      subst es
      have hok := HSTR.out _ (List.mem_of_getElem? hx)
      have HOK := Lib.hid hok
      have HPS := Lib.hid (pm_step (e := e) (N := N) hx)
      have hlen : (putsB most (b, code) ((pm e N l k).map vbytes)).1.length ≤ 10000000 := by
        have h1 := puts_len most b code (pm e N l k) (pm_lt HE64.out (by omega) HSTR.out k)
        have h2 := pm_length (e := e) (N := N) HSTR.out k
        omega
      have hba := below1 wr (.cells (stpV sf st A3 ss.length c3) 31)
      have HRW := Lib.hid (keepS (show Sl (rpSlice rpU64) wr D A3 ss.length c3 ss from ⟨hrow, hsr.2⟩) hba)
      have HKS := Lib.hid (blk11 wr 31 (stpV sf st A3 ss.length c3))
      have HPW := Lib.hid (keepP hpen.out hba)
      have HBA := Lib.hid hba
      have HLEN := Lib.hid hlen
      have hzr := hchg.out.size
      have hd : decide ((k : Int) < (N : Int)) = true := by simp; omega
      have hkI : (0 : Int) ≤ (k : Int) := by omega
      have hkI2 : (k : Int) < (N : Int) := by omega
      clear hlen hx hok hrow hsr hsf hst hss hba
      go_wp2_with fail
      generalize World.alloc wr _ = w4 at *
      have hz4 := HBA.out.size
      have v0 := (show Blk w4 _ _ _ from HKS.out).cell 0
      have v1 := (show Blk w4 _ _ _ from HKS.out).cell 1
      have v2 := (show Blk w4 _ _ _ from HKS.out).cell 2
      clear g0 g1 g2
      go_wp2_with fail
      refine (stput_ok HRW.out.1 HRW.out.2 (fun q hq hF => by
        rcases hF'.out q hF with hF | hF
        · exact HDF.out q hq hF
        · have := HS.out.2 q hq; have := HB1.out.size; omega) HOK.out HPW.out h0 h1 HLEN.out).mono ?_; rintro en w5 ⟨rfl, F5, hp5, hch5, hF5⟩
      have HP5 : Hid (Pen w5 F5 g most (putsB most (b, code) ((pm e N l (k + 1)).map vbytes)).1 (putsB most (b, code) ((pm e N l (k + 1)).map vbytes)).2) := by
        rw [HPS.out, puts_append]
        exact hp5
      have HCH5 := Lib.hid hch5
      have HF5 := Lib.hid hF5
      clear hp5 hch5 hF5 v0 v1 v2
      go_wp2_with fail
      go_roundw
      case rel =>
        refine ⟨k + 1, F5, by omega, by go_num, HP5.out, (hchg.out.trans (Chg.of_pure HBA.out _)).trans (HCH5.out.more (fun q _ hq => hF'.out q hq)), fun q hq => ?_⟩
        rcases HF5.out q hq with h | h
        · exact hF'.out q h
        · exact .inr (by omega)
      case measure => simp [intOf]; omega
    · obtain rfl : k = N := by omega
      have hd : decide ((k : Int) < (k : Int)) = false := by simp
      go_wp2_with fail
      go_end0
      refine ⟨rfl, F', hpen.out, (Chg.of_pure HB1.out F).trans (hchg.out.more (fun q hq h => ?_)), fun q hq => ?_⟩
      · rcases h with h | h
        · exact h
        · omega
      · rcases hF'.out q hq with h | h
        · exact .inl h
        · exact .inr (Nat.le_trans HB1.out.size h)
set_option maxRecDepth 100000 in
theorem prput_bad (hs : rpStp.sl w D A n c l) (hD : ∀ k, D k → k < w.heap.size) (he : e ≤ 18446744073709551615) (hno : ¬ POk (e, l)) (h : Pen w F g most b code) :
    Calls Try.prog 62 #[.pointer (some ⟨g, 0, none⟩), .agg (prjV e A n c)] w fun en w' => en = .returned (.tuple #[]) ∧ Pen w' F g most b (if code = 0 then 3 else code) ∧ Chg F w w' := by
  have hb0 := below1 w (.cells (prjV e A n c) 25)
  have hr := pright_any (e := e) (Rp.sl_below hs hb0 hD) (fun k hk => Nat.lt_of_lt_of_le (hD k hk) hb0.size) he
  rw [dec_false hno] at hr
  have HR := Lib.hid hr
  have HB0 := Lib.hid hb0
  have HP := Lib.hid h
  obtain ⟨cd, hcd⟩ : ∃ cd : Int, cd = (if code = 0 then 3 else code) := ⟨_, rfl⟩
  rw [← hcd]
  have HCD := Lib.hid hcd
  clear h hs hD hcd hr hb0 hno
  go_enter Try.func62, Try.ntmps62
  go_wp2_with fail
  refine HR.out.mono ?_; rintro en w1 ⟨rfl, hb1⟩
  have HB1 := Lib.hid (stepB HB0.out hb1)
  clear hb1
  go_wp2_with fail
  refine (fail_at (HP.out.below HB1.out) 3).mono ?_; rintro en w2 ⟨rfl, hp2, hc2⟩
  rw [← HCD.out] at hp2
  have HP2 := Lib.hid hp2
  have HC2 := Lib.hid hc2
  clear hp2 hc2
  go_wp2_with fail
  exact bodyPost_ret (v := .tuple #[]) (by simp [results, Try.results62, go_sem]) rfl ⟨rfl, HP2.out, (Chg.of_pure HB1.out F).trans HC2.out⟩
end
section
variable {D : Dom} {A : Option Addr} {n c e : Nat} {l : List Stp} {w : World}
set_option maxRecDepth 100000 in
theorem prbytes_ok (hs : rpStp.sl w D A n c l) (hD : ∀ k, D k → k < w.heap.size) (hok : POk (e, l)) :
    Calls Try.prog 20 #[.agg (prjV e A n c)] w fun en w' => ∃ A2 m c2, en = .returned (.tuple #[.slice A2 m c2, .int .i64 0]) ∧ w'.ownsRow w.heap.size 5 1 (.slice A2 m c2) m ((prb (e, l)).map bv) ∧ Below w.heap.size w w' := by
  have hb0 := below1 w (.cells (prjV e A n c) 25)
  have HK0 := Lib.hid (Blk.new w 25 (prjV e A n c))
  have HB0 := Lib.hid hb0
  have HS := Lib.hid (keepS (show Sl rpStp w D A n c l from ⟨hs, hD⟩) hb0)
  have HOK := Lib.hid hok
  have HDL := Lib.hid hD
  have HFIT := Lib.hid (prput_fit hok (most := 32768) (by decide))
  have hl := prb_len hok
  clear hs hb0 hok hD
  go_enter Try.func20, Try.ntmps20
  go_wp2_with fail
  generalize World.alloc w _ = w0 at *
  have hz0 := HB0.out.size
  refine (new_any 32768 _).mono ?_; rintro en w1 ⟨rfl, hp1, hb1⟩
  have hk1 := keepB (show Blk w0 w.heap.size 25 _ from HK0.out) hb1
  have c0 := hk1.cell 0
  have c1 := hk1.cell 1
  have HB1 := Lib.hid (stepB HB0.out hb1)
  have HS1 := Lib.hid (keepS HS.out hb1)
  have HP1 := Lib.hid hp1
  clear hb1 hk1 hp1
  go_wp2_with fail
  refine (prput_ok HS1.out.1 HS1.out.2 (fun k hk hF => by have e : k = w0.heap.size := hF; have := HDL.out k hk; omega) HOK.out HP1.out (by decide) (by decide) (by simp)).mono ?_; rintro en w2 ⟨rfl, F2, hp2, hch2, hF2⟩
  rw [show max (32768 : Int) 0 = 32768 from rfl, HFIT.out] at hp2
  have HP2 := Lib.hid hp2
  have HB2 := Lib.hid (HB1.out.trans (hch2.below HB1.out.size (fun k hk => by have : k = w0.heap.size := hk; omega)))
  clear hp2 hch2 hF2 c0 c1
  go_wp2_with fail
  refine (bytes_ok HP2.out (by omega)).mono ?_; rintro en w3 ⟨A, n, c, rfl, ho, hb3⟩
  have HO := Lib.hid ho
  have HB3 := Lib.hid (stepB HB2.out hb3)
  clear ho hb3
  go_wp2_with fail
  go_ret2
  exact ⟨A, n, c, rfl, own_mono HO.out HB2.out.size, HB3.out⟩
set_option maxRecDepth 100000 in
theorem prbytes_bad (hs : rpStp.sl w D A n c l) (hD : ∀ k, D k → k < w.heap.size) (he : e ≤ 18446744073709551615) (hno : ¬ POk (e, l)) :
    Calls Try.prog 20 #[.agg (prjV e A n c)] w fun en w' => en = .returned (.tuple #[.slice none 0 0, .int .i64 3]) ∧ Below w.heap.size w w' := by
  have hb0 := below1 w (.cells (prjV e A n c) 25)
  have HK0 := Lib.hid (Blk.new w 25 (prjV e A n c))
  have HB0 := Lib.hid hb0
  have HS := Lib.hid (keepS (show Sl rpStp w D A n c l from ⟨hs, hD⟩) hb0)
  have HNO := Lib.hid hno
  clear hs hb0 hno hD
  go_enter Try.func20, Try.ntmps20
  go_wp2_with fail
  generalize World.alloc w _ = w0 at *
  have hz0 := HB0.out.size
  refine (new_any 32768 _).mono ?_; rintro en w1 ⟨rfl, hp1, hb1⟩
  have hk1 := keepB (show Blk w0 w.heap.size 25 _ from HK0.out) hb1
  have c0 := hk1.cell 0
  have c1 := hk1.cell 1
  have HB1 := Lib.hid (stepB HB0.out hb1)
  have HS1 := Lib.hid (keepS HS.out hb1)
  have HP1 := Lib.hid hp1
  clear hb1 hk1 hp1
  go_wp2_with fail
  refine (prput_bad HS1.out.1 HS1.out.2 he HNO.out HP1.out).mono ?_; rintro en w2 ⟨rfl, hp2, hch2⟩
  have HP2 := Lib.hid hp2
  have HB2 := Lib.hid (HB1.out.trans (hch2.below HB1.out.size (fun k hk => by have : k = w0.heap.size := hk; omega)))
  clear hp2 hch2 c0 c1
  go_wp2_with fail
  refine (bytes_bad HP2.out (by decide)).mono ?_; rintro en w3 ⟨rfl, rfl⟩
  go_wp2_with fail
  go_ret2
  exact ⟨rfl, HB2.out⟩
end
end Go.Proofs.Ytmdgmnaaopineaa
/- A number's lowest bytes, the program's and the reference's; whether two rows of bytes are the same; the law's example. -/
namespace Go.Proofs.Ytmdgmnaaopineaa
open Go.ChangeShapes Go.WideShapes Go.ChangeAt Go.RowKit
set_option linter.unusedVariables false

theorem take_succ {α : Type} {l : List α} {k : Nat} {x : α} (h : l[k]? = some x) : l.take (k + 1) = l.take k ++ [x] := by
  rw [List.take_add_one, h]; rfl
/-- The lowest m bytes, the lowest first. -/
def low : Nat → Nat → List UInt8
  | 0, _ => []
  | m + 1, x => low m x ++ [UInt8.ofNat (x / 256 ^ m)]
theorem low_length (x : Nat) : ∀ m, (low m x).length = m
  | 0 => rfl
  | m + 1 => by rw [low, List.length_append, low_length x m]; rfl
def many (n : Int) : Nat := (min (max n 0) 8).toNat
theorem many_le (n : Int) : many n ≤ 8 := by unfold many; omega

end Go.Proofs.Ytmdgmnaaopineaa
/- Whether two rows of bytes are the same; the law's example. -/
namespace Go.Proofs.Ytmdgmnaaopineaa
open Go.ChangeShapes Go.WideShapes Go.ChangeAt Go.RowKit
set_option linter.unusedVariables false

theorem same_any (A A' : Option Addr) (n c n' c' : Nat) (l l' : List UInt8) (D D' : Dom) (w : World) (hl : rpU8.sl w D A n c l) (hl' : rpU8.sl w D' A' n' c' l') :
    Calls Try.prog 47 #[.slice A n c, .slice A' n' c'] w fun e w' => e = .returned (.bool (l == l')) ∧ w = w' := by
  have h1 := run_bytes_string (P := Try.prog) hl 36 9 5 Try.underlying36 Try.underlying5 Try.underlying9
  have h2 := run_bytes_string (P := Try.prog) hl' 36 9 5 Try.underlying36 Try.underlying5 Try.underlying9
  go_enter Try.func47, Try.ntmps47
  go_wp2
  go_ret
  exact ⟨rfl, rfl⟩

theorem built_at {g : Nat} {cs : Array Value} {w' : World} {o : List UInt8} (hw : ∀ i, w'.cell? ⟨g, i, none⟩ = cs[i]?) (hcs : ∀ (i : Nat) (x : UInt8), o[i]? = some x → cs[i]? = some (Value.int .u8 (x.toNat : Int))) (n : Nat) (hn : o.length = n) (hm : n ≤ 1000) : rpU8.sl w' (fun k => k = g) (some ⟨g, 0, none⟩) n n o :=
  bytes_of_cells hw hcs hn (Nat.le_refl _) (by unfold maxLen; omega)
theorem two_at (w : World) (a b : UInt8) (e : TypeId) : rpU8.sl (w.alloc (.cells #[.int .u8 (a.toNat : Int), .int .u8 (b.toNat : Int)] e)) (fun k => k = w.heap.size) (some ⟨w.heap.size, 0, none⟩) 2 2 [a, b] :=
  built_at (fun i => (Blk.new w _ _).cell i) (fun i x hx => by
    match i, hx with
    | 0, hx | 1, hx => cases hx; rfl) 2 rfl (by decide)
theorem four_at (w : World) (a b c d : UInt8) (e : TypeId) : rpU8.sl (w.alloc (.cells #[.int .u8 (a.toNat : Int), .int .u8 (b.toNat : Int), .int .u8 (c.toNat : Int), .int .u8 (d.toNat : Int)] e)) (fun k => k = w.heap.size) (some ⟨w.heap.size, 0, none⟩) 4 4 [a, b, c, d] :=
  built_at (fun i => (Blk.new w _ _).cell i) (fun i x hx => by
    match i, hx with
    | 0, hx | 1, hx | 2, hx | 3, hx => cases hx; rfl) 4 rfl (by decide)

end Go.Proofs.Ytmdgmnaaopineaa
/- The example of chapter 20's laws. -/
namespace Go.Proofs.Ytmdgmnaaopineaa
open Go.ChangeShapes Go.WideShapes Go.ChangeAt Go.RowKit
set_option linter.unusedVariables false
abbrev oneL : List Stp := [(0, 4611686018427387904, [[7]])]
abbrev oneB : List UInt8 := [1, 1, 255, 255, 255, 255, 255, 255, 255, 255, 63, 1, 1, 7]
theorem vb_max : vbytes 4611686018427387903 = [255, 255, 255, 255, 255, 255, 255, 255, 63] := by
  rw [vbytes_ge (by decide), vbytes_ge (by decide), vbytes_ge (by decide), vbytes_ge (by decide), vbytes_ge (by decide), vbytes_ge (by decide), vbytes_ge (by decide), vbytes_ge (by decide), vbytes_lt (by decide)]
  rfl
theorem one_bytes : prb (1, oneL) = oneB := by
  have e : prn (1, oneL) = [1, 1, 4611686018427387903, 1, 1, 7] := rfl
  unfold prb
  rw [e]
  simp only [flat_cons, flat_nil, vb_max, vbytes_lt (show 1 < 128 by decide), vbytes_lt (show 7 < 128 by decide)]
  rfl
theorem sOk_one : SOk (0, 4611686018427387904, [[7]]) := by
  refine ⟨by decide, by decide, by decide, by decide, fun i l hl => ?_⟩
  match i, hl with
  | 0, hl =>
    cases hl
    exact ⟨by decide, by decide, fun i a b ha hb => by simp at hb, fun a ha => by simp at ha; omega, fun j o hj => by omega⟩
  | i + 1, hl => simp at hl
theorem pOk_one : POk (1, oneL) := by
  refine ⟨⟨⟨⟨by decide, by decide⟩, by decide, by decide⟩, fun i s hi hs => ?_⟩, rfl⟩
  match i, hs with
  | 0, hs => cases hs; exact ⟨sOk_one, rfl⟩
  | i + 1, hs => simp at hs
set_option maxRecDepth 100000 in
theorem one_any (w : World) : Calls Try.prog 75 #[] w fun en w' => ∃ A c, en = .returned (.agg (prjV 1 A 1 c)) ∧ rpStp.sl w' (fun k => k < w'.heap.size) A 1 c oneL ∧ Below w.heap.size w w' := by
  have H : Hid ((Try.prog.info? 25).map (·.size) = some 2) := by unfold Hid; kernel_rfl
  obtain ⟨k1, k2, k3, k4, hb, hz⟩ := four_blks w (prjV 0 none 0 0) #[.int .u64 7] #[.slice (some ⟨w.heap.size + 1, 0, none⟩) 1 1] #[.int .u64 0, .int .u64 4611686018427387904, .slice (some ⟨w.heap.size + 1 + 1, 0, none⟩) 1 1] 25 22 46 31
  have K1 := Lib.hid k1
  have K2 := Lib.hid k2
  have K3 := Lib.hid k3
  have K4 := Lib.hid k4
  have HB := Lib.hid hb
  have HZ := Lib.hid hz
  clear k1 k2 k3 k4 hb hz
  go_enter Try.func75, Try.ntmps75
  go_wp2_with (refine wpList_put_row rfl 25 (.tmp 0) (.tmp 5) rfl w.heap.size _ rfl rfl 25 _ (show Blk _ _ _ _ from K1.out) H.out rfl (by simp [Value.oneCell']) ?_; intro w5 hblk hgr)
  have f0 := hblk.cell 0
  have f1 := hblk.cell 1
  generalize World.alloc (World.alloc (World.alloc (World.alloc w _) _) _) _ = w0 at *
  have hz := HZ.out
  have l1 := (show Blk w0 w.heap.size 25 _ from K1.out).lt
  have k2 := (show Blk w0 _ 22 _ from K2.out).grown hgr (by simp)
  have k3 := (show Blk w0 _ 46 _ from K3.out).grown hgr (by simp; omega)
  have k4 := (show Blk w0 _ 31 _ from K4.out).grown hgr (by simp; omega)
  have hA : (rpSlice rpU64).sl w5 (fun k => k < w5.heap.size) (some ⟨w.heap.size + 1 + 1, 0, none⟩) 1 1 [[7]] := by
    refine Rp.sl_block rfl k3 k3.lt rfl (by decide) (fun i x hx => ?_)
    match i, hx with
    | 0, hx =>
      cases hx
      refine ⟨_, rfl, Rp.sl_block (r := rpU64) rfl k2 k2.lt rfl (by decide) (fun i x hx => ?_)⟩
      match i, hx with
      | 0, hx => cases hx; exact ⟨_, rfl, u64_ok _ _ _ (by decide)⟩
  have hL : rpStp.sl w5 (fun k => k < w5.heap.size) (some ⟨w.heap.size + 1 + 1 + 1, 0, none⟩) 1 1 oneL := by
    refine ⟨_, _, rfl, by decide, by decide, fun _ => ⟨_, 0, rfl, k4.lt, fun i x hx => ?_⟩⟩
    have e3 : rpStp.size = 3 := by kernel_rfl
    rw [e3]
    match i, hx with
    | 0, hx =>
      cases hx
      refine ⟨[.int .u64 ((0 : Nat) : Int), .int .u64 ((4611686018427387904 : Nat) : Int), .slice (some ⟨w.heap.size + 1 + 1, 0, none⟩) 1 1], ⟨[_], _, rfl, u64_ok _ _ 0 (by decide), [_], _, rfl, u64_ok _ _ 4611686018427387904 (by decide), hA⟩, fun j u hu => ?_⟩
      match j, hu with
      | 0, hu => cases hu; exact k4.cell 0
      | 1, hu => cases hu; exact k4.cell 1
      | 2, hu => cases hu; exact k4.cell 2
  have hbz : Below w.heap.size w w5 := HB.out.grown hgr (by omega) (fun k hk => by injection hk with hk; omega)
  exact bodyPost_ret (results_cell_row rfl _ _ w.heap.size 25 _ (0, 0) _ rfl hblk Try.underlying25 rfl H.out) rfl ⟨some ⟨w.heap.size + 1 + 1 + 1, 0, none⟩, 1, rfl, hL, hbz⟩
theorem lit_bytes (w : World) (t : TypeId) (l : List UInt8) (h : l.length ≤ 1000) : rpU8.sl (w.alloc (.cells (l.map bv).toArray t)) (fun k => k = w.heap.size) (some ⟨w.heap.size, 0, none⟩) l.length l.length l :=
  bytes_of_cells (cs := (l.map bv).toArray) (fun i => (Blk.new w t _).cell i) (fun i x hx => by simp [hx, bv]) rfl (Nat.le_refl _) (by unfold maxLen; omega)
set_option maxRecDepth 100000 in
theorem plive_any (w : World) : Calls Try.prog 34 #[] w fun e w' => e = .returned (.bool true) ∧ Below w.heap.size w w' := by
  go_enter Try.func34, Try.ntmps34
  go_wp2_with fail
  refine (one_any _).mono ?_; rintro en w1 ⟨A, c, rfl, hs, hb1⟩
  have HB1 := Lib.hid hb1
  have HBY := Lib.hid (prbytes_ok hs (fun k hk => hk) pOk_one)
  clear hs hb1
  go_wp2_with fail
  refine HBY.out.mono ?_; rintro e w2 ⟨A2, n2, c2, rfl, ho, hb2⟩
  rw [one_bytes] at ho
  have HB2 := Lib.hid (stepB HB1.out hb2)
  have HO := Lib.hid (keepO ho (below1 w2 (.cells (oneB.map bv).toArray 5)))
  have HF := Lib.hid (lit_bytes w2 5 oneB (by decide))
  clear ho hb2
  go_wp2_with fail
  refine (same_any _ _ _ _ _ _ _ _ _ _ _ (own_bytes HO.out) HF.out).mono ?_; rintro e w3 ⟨rfl, rfl⟩
  go_wp2_with fail
  go_ret
  exact ⟨rfl, stepB HB2.out (below1 _ _)⟩
end Go.Proofs.Ytmdgmnaaopineaa
/- What reading a projection gives, in plain words. No walk. -/
namespace Go.Proofs.Ytmdgmnaaopineaa
open Go.ChangeShapes Go.WideShapes Go.ChangeAt Go.RowKit
set_option linter.unusedVariables false
/-- So many stripes more, each from where the one ahead ended: the stripes, the place, the fault, where the last one ended. -/
noncomputable def stsF (l : List UInt8) : Nat → Nat → Flt → Nat → List Stp → List Stp × Nat × Flt × Nat
  | 0, p, f, fr, acc => (acc, p, f, fr)
  | k + 1, p, f, fr, acc => if (strF l p f fr).2.2.1 = 0 then stsF l k (strF l p f fr).2.1 (strF l p f fr).2.2 (strF l p f fr).1.2.1 (acc ++ [(strF l p f fr).1]) else (acc ++ [(strF l p f fr).1], (strF l p f fr).2.1, (strF l p f fr).2.2, (strF l p f fr).1.2.1)
/-- The fault behind the last stripe. -/
def endFr (p : Nat) (f : Flt) (fr : Nat) : Flt := if fr = 4611686018427387904 then f else failF f 3 p
noncomputable def prjM (l : List UInt8) (p : Nat) (f : Flt) : Nat × Nat × Flt := manyF l (mustF isEpoch l p f).2.1 (mustF isEpoch l p f).2.2 64
noncomputable def prjS (l : List UInt8) (p : Nat) (f : Flt) : List Stp × Nat × Flt × Nat := stsF l (prjM l p f).1 (prjM l p f).2.1 (prjM l p f).2.2 0 []
noncomputable def prjF (l : List UInt8) (p : Nat) (f : Flt) : Prj × Nat × Flt :=
  if (endFr (prjS l p f).2.1 (prjS l p f).2.2.1 (prjS l p f).2.2.2).1 = 0 then (((mustF isEpoch l p f).1, (prjS l p f).1), (prjS l p f).2.1, endFr (prjS l p f).2.1 (prjS l p f).2.2.1 (prjS l p f).2.2.2)
  else ((0, []), (prjS l p f).2.1, endFr (prjS l p f).2.1 (prjS l p f).2.2.1 (prjS l p f).2.2.2)
theorem stsF_step {l : List UInt8} {k p fr : Nat} {f : Flt} {acc : List Stp} (h : (strF l p f fr).2.2.1 = 0) : stsF l (k + 1) p f fr acc = stsF l k (strF l p f fr).2.1 (strF l p f fr).2.2 (strF l p f fr).1.2.1 (acc ++ [(strF l p f fr).1]) := by
  rw [stsF, if_pos h]
theorem stsF_stop {l : List UInt8} {k p fr : Nat} {f : Flt} {acc : List Stp} (h : (strF l p f fr).2.2.1 ≠ 0) : stsF l (k + 1) p f fr acc = (acc ++ [(strF l p f fr).1], (strF l p f fr).2.1, (strF l p f fr).2.2, (strF l p f fr).1.2.1) := by
  rw [stsF, if_neg h]
theorem stsF_ok {l : List UInt8} : ∀ {k p fr : Nat} {f : Flt} {acc : List Stp}, OkF f → OkF (stsF l k p f fr acc).2.2.1
  | 0, p, fr, f, acc, h => h
  | k + 1, p, fr, f, acc, h => by
    unfold stsF
    split
    · exact stsF_ok (strF_ok h)
    · exact strF_ok h
theorem stsF_q {l : List UInt8} : ∀ {k p fr : Nat} {f : Flt} {acc : List Stp}, p ≤ l.length → (stsF l k p f fr acc).2.1 ≤ l.length
  | 0, p, fr, f, acc, h => h
  | k + 1, p, fr, f, acc, h => by
    unfold stsF
    split
    · exact stsF_q (strF_q h)
    · exact strF_q h
theorem endFr_ok {p fr : Nat} {f : Flt} (h : OkF f) : OkF (endFr p f fr) := by
  unfold endFr
  split
  · exact h
  · exact h.fail _ _
theorem prjS_ok {l : List UInt8} {p : Nat} {f : Flt} (h : OkF f) : OkF (prjS l p f).2.2.1 := stsF_ok (manyF_ok (mustF_ok h))
theorem prjF_ok {l : List UInt8} {p : Nat} {f : Flt} (h : OkF f) : OkF (prjF l p f).2.2 := by
  unfold prjF
  split <;> exact endFr_ok (prjS_ok h)
theorem prjM_q {l : List UInt8} {p : Nat} {f : Flt} (h : p ≤ l.length) : (prjM l p f).2.1 ≤ l.length := by
  unfold prjM
  rw [manyF_q, mustF_q]
  exact (vrdF_le (vrdF_le h).1).1
theorem prjF_q {l : List UInt8} {p : Nat} {f : Flt} (h : p ≤ l.length) : (prjF l p f).2.1 ≤ l.length := by
  have : (prjS l p f).2.1 ≤ l.length := stsF_q (prjM_q h)
  unfold prjF
  split <;> exact this
theorem prjF_fail0 {l : List UInt8} {p : Nat} {f : Flt} (h : (prjF l p f).2.2.1 ≠ 0) : (prjF l p f).1 = (0, []) := by
  unfold prjF at h ⊢
  split
  · rename_i h1
    rw [if_pos h1] at h
    exact absurd h1 h
  · rfl
/-- Stripes, each of which begins where the one ahead ends. -/
def ChainF : Nat → List Stp → Nat → Prop
  | fr, [], e => fr = e
  | fr, s :: ss, e => s.1 = fr ∧ ChainF s.2.1 ss e
def atF (fr : Nat) (l : List Stp) : Nat → Nat
  | 0 => fr
  | i + 1 => startOf l (i + 1)
theorem chainF_iff : ∀ (l : List Stp) (fr e : Nat), ChainF fr l e ↔ (∀ (i : Nat) s, l[i]? = some s → s.1 = atF fr l i) ∧ atF fr l l.length = e
  | [], fr, e => by
    constructor
    · intro h; exact ⟨fun i s hs => by simp at hs, h⟩
    · intro h; exact h.2
  | s :: ss, fr, e => by
    have key : ∀ i, atF fr (s :: ss) (i + 1) = atF s.2.1 ss i := by
      intro i
      cases i with
      | zero => rfl
      | succ i => rfl
    constructor
    · rintro ⟨h1, h2⟩
      obtain ⟨a, b⟩ := (chainF_iff ss _ _).1 h2
      refine ⟨fun i t ht => ?_, by rw [List.length_cons, key]; exact b⟩
      cases i with
      | zero =>
        simp only [List.getElem?_cons_zero, Option.some.injEq] at ht
        subst ht; exact h1
      | succ i => rw [key]; exact a i t (by simpa using ht)
    · rintro ⟨a, b⟩
      refine ⟨a 0 s rfl, (chainF_iff ss _ _).2 ⟨fun i t ht => ?_, by rw [List.length_cons, key] at b; exact b⟩⟩
      have := a (i + 1) t (by simpa using ht)
      rw [key] at this; exact this
theorem pOk_iff {p : Prj} : POk p ↔ EOk p.1 ∧ 1 ≤ p.2.length ∧ p.2.length ≤ 64 ∧ (∀ s ∈ p.2, SOk s) ∧ ChainF 0 p.2 4611686018427387904 := by
  have e0 : ∀ i, atF 0 p.2 i = startOf p.2 i := fun i => by cases i <;> rfl
  rw [chainF_iff]
  simp only [e0]
  constructor
  · intro h
    exact ⟨h.1.1.1, h.1.1.2.1, h.1.1.2.2, pOk_stripes h, fun i s hs => (h.1.2 i s (List.getElem?_eq_some_iff.1 hs).1 hs).2, h.2⟩
  · rintro ⟨h1, h2, h3, h4, h5, h6⟩
    exact ⟨⟨⟨h1, h2, h3⟩, fun i s _ hs => ⟨h4 s (List.mem_of_getElem? hs), h5 i s hs⟩⟩, h6⟩
theorem isEpoch_iff {x : Nat} : isEpoch x = true ↔ EOk x := by
  unfold isEpoch EOk
  simp
theorem stsF_inv {l : List UInt8} : ∀ {k p fr : Nat} {f : Flt} {acc : List Stp}, (stsF l k p f fr acc).2.2.1.1 = 0 → p ≤ l.length →
    ∃ new, (stsF l k p f fr acc).1 = acc ++ new ∧ new.length = k ∧ (∀ s ∈ new, SOk s) ∧ ChainF fr new (stsF l k p f fr acc).2.2.2 ∧ (stsF l k p f fr acc).2.1 = p + (flat (new.map stn).flatten).length ∧ (stsF l k p f fr acc).2.1 ≤ l.length ∧ Stands l p (flat (new.map stn).flatten)
  | 0, p, fr, f, acc, h, hp => ⟨[], by simp [stsF], rfl, by simp, rfl, by simp [stsF, flat], hp, Stands.nil _ _⟩
  | k + 1, p, fr, f, acc, h, hp => by
    unfold stsF at h ⊢
    by_cases h0 : (strF l p f fr).2.2.1 = 0
    · rw [if_pos h0] at h ⊢
      obtain ⟨n1, n2, n3, n4, n5⟩ := strF_inv hp h0
      obtain ⟨new, e1, e2, e3, e4, e5, e6, e7⟩ := stsF_inv h n4
      refine ⟨(strF l p f fr).1 :: new, by rw [e1]; simp, by rw [List.length_cons, e2], ?_, ⟨n1, e4⟩, ?_, e6, ?_⟩
      · intro s hs
        rcases List.mem_cons.1 hs with rfl | hs
        · exact n2
        · exact e3 s hs
      · rw [List.map_cons, List.flatten_cons, flat_append, List.length_append, e5, n3]
        show _ = p + ((stb _).length + _)
        omega
      · rw [List.map_cons, List.flatten_cons, flat_append, stands_append]
        refine ⟨n5, ?_⟩
        rw [n3] at e7; exact e7
    · rw [if_neg h0] at h
      exact absurd h h0
theorem stsF_stands {l : List UInt8} : ∀ {new : List Stp} {p fr e : Nat} {acc : List Stp}, (∀ s ∈ new, SOk s) → ChainF fr new e → Stands l p (flat (new.map stn).flatten) →
    stsF l new.length p (0, 0) fr acc = (acc ++ new, p + (flat (new.map stn).flatten).length, (0, 0), e)
  | [], p, fr, e, acc, _, hc, _ => by
    have : fr = e := hc
    subst this
    simp [stsF, flat]
  | s :: new, p, fr, e, acc, hn, hc, hs => by
    rw [List.map_cons, List.flatten_cons, flat_append] at hs ⊢
    rw [stands_append] at hs
    obtain ⟨hc1, hc2⟩ := hc
    subst hc1
    have hx := strF_stands (hn s (by simp)) hs.1
    rw [List.length_cons, stsF_step (by rw [hx]), hx]
    simp only
    have ih := stsF_stands (new := new) (p := p + (stb s).length) (fr := s.2.1) (e := e) (acc := acc ++ [s]) (fun t ht => hn t (by simp [ht])) hc2 hs.2
    rw [ih]
    simp only [List.append_assoc, List.singleton_append, List.length_append, Nat.add_assoc, stb]
/-- **The projection that was read is what was written.** -/
theorem prjF_inv {l : List UInt8} {p : Nat} {f : Flt} (hp : p ≤ l.length) (h : (prjF l p f).2.2.1 = 0) :
    POk (prjF l p f).1 ∧ (prjF l p f).2.1 = p + (prb (prjF l p f).1).length ∧ (prjF l p f).2.1 ≤ l.length ∧ Stands l p (prb (prjF l p f).1) := by
  unfold prjF at h ⊢
  by_cases h0 : (endFr (prjS l p f).2.1 (prjS l p f).2.2.1 (prjS l p f).2.2.2).1 = 0
  · rw [if_pos h0] at h ⊢
    have hfr : (prjS l p f).2.2.2 = 4611686018427387904 ∧ (prjS l p f).2.2.1.1 = 0 := by
      unfold endFr at h0
      by_cases hq : (prjS l p f).2.2.2 = 4611686018427387904
      · rw [if_pos hq] at h0; exact ⟨hq, h0⟩
      · rw [if_neg hq] at h0; exact absurd h0 (failF_bad (by decide))
    obtain ⟨q1, q2⟩ := hfr
    obtain ⟨new, e1, e2, e3, e4, e5, e6, e7⟩ := stsF_inv (l := l) (k := (prjM l p f).1) (p := (prjM l p f).2.1) (fr := 0) (f := (prjM l p f).2.2) (acc := []) q2 (prjM_q hp)
    have hmf : (prjM l p f).2.2.1 = 0 := by
      by_cases hm : (prjM l p f).2.2.1 = 0
      · exact hm
      · have h1 := manyF_fail0 (l := l) (p := (mustF isEpoch l p f).2.1) (m := 64) (f := (mustF isEpoch l p f).2.2) hm
        have h2 : (prjS l p f).2.2.1 = (prjM l p f).2.2 := by
          unfold prjS
          rw [show (prjM l p f).1 = 0 from h1]
          rfl
        rw [h2] at q2
        exact q2
    obtain ⟨m0, m1, m2, m3, m4, m5⟩ := manyF_inv (l := l) (p := (mustF isEpoch l p f).2.1) (m := 64) (f := (mustF isEpoch l p f).2.2) hmf
    obtain ⟨v0, v1, v2, v3, v4, v5, v6⟩ := mustF_inv m0
    have e1' : (prjS l p f).1 = new := by rw [List.nil_append] at e1; exact e1
    have e4' : ChainF 0 new 4611686018427387904 := by rw [← q1]; exact e4
    have hpos : (prjS l p f).2.1 = (prjM l p f).2.1 + (flat (new.map stn).flatten).length := e5
    have hm3 : (prjM l p f).2.1 = (mustF isEpoch l p f).2.1 + (vbytes (prjM l p f).1).length := m3
    have hm2 : (prjM l p f).1 ≤ 64 := m2
    have hm1 : 1 ≤ (prjM l p f).1 := m1
    have hm5 : Stands l (mustF isEpoch l p f).2.1 (vbytes (prjM l p f).1) := m5
    rw [e1']
    refine ⟨pOk_iff.2 ⟨isEpoch_iff.1 v1, by show 1 ≤ new.length; omega, by show new.length ≤ 64; omega, e3, e4'⟩, ?_, e6, ?_⟩
    · simp only [prb, prn, flat_cons, List.length_append]
      rw [hpos, hm3, v3, e2]; omega
    · simp only [prb, prn, flat_cons, stands_append]
      rw [← v3, e2, ← hm3]
      exact ⟨v5, hm5, e7⟩
  · rw [if_neg h0] at h
    exact absurd h h0
/-- **What is written is read so.** -/
theorem prjF_stands {l : List UInt8} {p : Nat} {x : Prj} (hx : POk x) (h : Stands l p (prb x)) : prjF l p (0, 0) = (x, p + (prb x).length, (0, 0)) := by
  obtain ⟨e, st⟩ := x
  obtain ⟨h1, h2, h3, h4, h5⟩ := pOk_iff.1 hx
  simp only at h1 h2 h3 h4 h5
  simp only [prb, prn, flat_cons, stands_append] at h
  obtain ⟨s1, s2, s3⟩ := h
  have hv : mustF isEpoch l p (0, 0) = (e, p + (vbytes e).length, (0, 0)) := mustF_stands (by have := h1.2; omega) (isEpoch_iff.2 h1) s1
  have hm : prjM l p (0, 0) = (st.length, p + (vbytes e).length + (vbytes st.length).length, (0, 0)) := by
    unfold prjM
    rw [hv]
    exact manyF_stands h2 h3 (by decide) s2
  have hr : prjS l p (0, 0) = (st, p + (vbytes e).length + (vbytes st.length).length + (flat (st.map stn).flatten).length, (0, 0), 4611686018427387904) := by
    unfold prjS
    rw [hm]
    have := stsF_stands (l := l) (p := p + (vbytes e).length + (vbytes st.length).length) (acc := []) h4 h5 s3
    simpa using this
  unfold prjF
  rw [hr, hv]
  have he : endFr (p + (vbytes e).length + (vbytes st.length).length + (flat (st.map stn).flatten).length) (0, 0) 4611686018427387904 = (0, 0) := if_pos rfl
  simp only [he]
  rw [if_pos trivial]
  simp only [prb, prn, flat_cons, List.length_append, Nat.add_assoc]
end Go.Proofs.Ytmdgmnaaopineaa
