/- The walk of the law StripeDeals. -/
import Derived.Test.YtmdgmnaaopineaaStpL
namespace Go.Proofs.Ytmdgmnaaopineaa
open Go.ChangeShapes Go.WideShapes Go.ChangeAt Go.RowKit
set_option linter.unusedVariables false
theorem nodes_bad {D : Dom} {A : Option Addr} {n c f t : Nat} {sets : List (List Nat)} {w : World} (hs : (rpSlice rpU64).sl w D A n c sets) (hD : ∀ k, D k → k < w.heap.size) (hf : f ≤ 18446744073709551615) (ht : t ≤ 18446744073709551615) (hno : ¬ SOk (f, t, sets)) :
    Calls Try.prog 66 #[.agg (stpV f t A n c)] w fun e w' => e = .returned (.slice none 0 0) ∧ Below w.heap.size w w' := by
  obtain ⟨hlen, hnc, hcm⟩ := Rp.sl_len hs
  subst hlen
  have hb0 : Below w.heap.size w (w.alloc (.cells (stpV f t A sets.length c) 31)) := (Below.refl _ _).alloc (Nat.le_refl _) _
  have hr := right_any (Rp.sl_below hs hb0 hD) (fun k hk => Nat.lt_of_lt_of_le (hD k hk) hb0.size) hf ht
  rw [dec_false hno] at hr
  have HR := Lib.hid hr
  have HB0 := Lib.hid hb0
  clear hs hD hb0 hr hno
  go_enter Try.func66, Try.ntmps66
  go_wp2_with fail
  refine HR.out.mono ?_; rintro e w1 ⟨rfl, hb1⟩
  go_wp2_with fail
  go_ret
  exact ⟨rfl, HB0.out.trans (hb1.mono HB0.out.size)⟩

section
variable {D : Dom} {A : Option Addr} {c f t : Nat} {sets : List (List Nat)} {w : World}
set_option maxRecDepth 100000 in
set_option maxHeartbeats 4000000 in
theorem deals_no (p : Nat) (set : Int) (hno : ¬ SOk (f, t, sets)) (hs : (rpSlice rpU64).sl w D A sets.length c sets) (hD : ∀ k, D k → k < w.heap.size) (hf : f ≤ 18446744073709551615) (ht : t ≤ 18446744073709551615) (hp : p ≤ 18446744073709551615) (hs0 : -9223372036854775808 ≤ set) (hs1 : set ≤ 9223372036854775807) :
    Calls Try.prog 12 #[.agg (stpV f t A sets.length c), .int .u64 (p : Int), .int .i64 set] w fun e w' => e = .returned (.bool true) ∧ Below w.heap.size w w' := by
  obtain ⟨_, hnc, hcm⟩ := Rp.sl_len hs
  unfold maxLen at hcm
  have hb0 : Below w.heap.size w (w.alloc (.cells (stpV f t A sets.length c) 31)) := (Below.refl _ _).alloc (Nat.le_refl _) _
  have HS := Lib.hid (Rp.sl_below hs hb0 hD)
  have HB := Lib.hid hb0
  have HD := Lib.hid (fun k hk => Nat.lt_of_lt_of_le (hD k hk) hb0.size)
  have HK := Lib.hid (Blk.new w 31 (stpV f t A sets.length c))
  clear hs hD hb0
  have E1 := Lib.hid (dealt_out (s := (f, t, sets)) (p := p) (fun h => hno h.1))
  have hsh : share (f, t, sets) set = 0 := share_out (fun h => hno h.1)
  have E2 := Lib.hid (back_out (s := (f, t, sets)) (set := set) (loc := p) (by rw [hsh]; omega))
  have E3 := Lib.hid hsh
  have E4 := Lib.hid (dec_false hno)
  have HNO := Lib.hid hno
  clear hsh hno
  go_enter Try.func12, Try.ntmps12
  go_wp2_with fail
  generalize World.alloc w _ = w0 at *
  have hkl := (show Blk _ _ _ _ from HK.out).lt
  have hz0 := HB.out.size
  have B0 : Hid (Below w0.heap.size w0 w0) := Below.refl _ _
  refine (long_any (f := f) (t := t) HS.out HD.out).mono ?_; rintro e w1 ⟨b, rfl, _, hb⟩
  have hk := (show Blk _ _ _ _ from HK.out).below hb hkl
  have d0 : w1.cell? ⟨w.heap.size, 0, none⟩ = some (.int .u64 (f : Int)) := hk.cell 0
  have d1 : w1.cell? ⟨w.heap.size, 1, none⟩ = some (.int .u64 (t : Int)) := hk.cell 1
  have d2 : w1.cell? ⟨w.heap.size, 2, none⟩ = some (.slice A sets.length c) := hk.cell 2
  have B1 := Lib.hid hb
  clear hb hk
  cases b
  case true =>
    go_wp2_with fail
    refine (slive_any _).mono ?_; rintro e w2 ⟨rfl, hb⟩
    go_wp2_with fail
    go_ret
    exact ⟨rfl, HB.out.trans ((B1.out.trans (hb.mono B1.out.size)).mono hz0)⟩
  go_wp2_with fail
  clear d0 d1 d2
  have hc := dealt_any p (Rp.sl_below HS.out B1.out HD.out) (fun k hk => Nat.lt_of_lt_of_le (HD.out k hk) B1.out.size) hf ht hp
  rw [E1.out] at hc
  have HC1 := Lib.hid hc
  clear hc
  refine (HC1.out).mono ?_; rintro e w2 ⟨rfl, hb⟩
  have hbn := B1.out.trans (hb.mono B1.out.size)
  have hk := HK.out.below hbn hkl
  have d0 : w2.cell? ⟨w.heap.size, 0, none⟩ = some (.int .u64 (f : Int)) := hk.cell 0
  have d1 : w2.cell? ⟨w.heap.size, 1, none⟩ = some (.int .u64 (t : Int)) := hk.cell 1
  have d2 : w2.cell? ⟨w.heap.size, 2, none⟩ = some (.slice A sets.length c) := hk.cell 2
  have B2 := Lib.hid hbn
  clear hb hbn hk
  go_wp2_with fail
  clear d0 d1 d2
  have hc := back_any set p (Rp.sl_below HS.out B2.out HD.out) (fun k hk => Nat.lt_of_lt_of_le (HD.out k hk) B2.out.size) hf ht hp
  rw [E2.out] at hc
  have HC2 := Lib.hid hc
  clear hc
  refine (HC2.out).mono ?_; rintro e w3 ⟨rfl, hb⟩
  have hbn := B2.out.trans (hb.mono B2.out.size)
  have hk := HK.out.below hbn hkl
  have d0 : w3.cell? ⟨w.heap.size, 0, none⟩ = some (.int .u64 (f : Int)) := hk.cell 0
  have d1 : w3.cell? ⟨w.heap.size, 1, none⟩ = some (.int .u64 (t : Int)) := hk.cell 1
  have d2 : w3.cell? ⟨w.heap.size, 2, none⟩ = some (.slice A sets.length c) := hk.cell 2
  have B3 := Lib.hid hbn
  clear hb hbn hk
  go_wp2_with fail
  clear d0 d1 d2
  have hc := rright_any (Rp.sl_below HS.out B3.out HD.out) (fun k hk => Nat.lt_of_lt_of_le (HD.out k hk) B3.out.size) hf ht
  rw [E4.out] at hc
  have HC3 := Lib.hid hc
  clear hc
  refine (HC3.out).mono ?_; rintro e w4 ⟨rfl, hb⟩
  have hbn := B3.out.trans (hb.mono B3.out.size)
  have hk := HK.out.below hbn hkl
  have d0 : w4.cell? ⟨w.heap.size, 0, none⟩ = some (.int .u64 (f : Int)) := hk.cell 0
  have d1 : w4.cell? ⟨w.heap.size, 1, none⟩ = some (.int .u64 (t : Int)) := hk.cell 1
  have d2 : w4.cell? ⟨w.heap.size, 2, none⟩ = some (.slice A sets.length c) := hk.cell 2
  have B4 := Lib.hid hbn
  clear hb hbn hk
  go_wp2_with fail
  clear d0 d1 d2
  have hc := share_any set (Rp.sl_below HS.out B4.out HD.out) (fun k hk => Nat.lt_of_lt_of_le (HD.out k hk) B4.out.size) hf ht
  rw [E3.out] at hc
  have HC4 := Lib.hid hc
  clear hc
  refine (HC4.out).mono ?_; rintro e w5 ⟨rfl, hb⟩
  have hbn := B4.out.trans (hb.mono B4.out.size)
  have hk := HK.out.below hbn hkl
  have d0 : w5.cell? ⟨w.heap.size, 0, none⟩ = some (.int .u64 (f : Int)) := hk.cell 0
  have d1 : w5.cell? ⟨w.heap.size, 1, none⟩ = some (.int .u64 (t : Int)) := hk.cell 1
  have d2 : w5.cell? ⟨w.heap.size, 2, none⟩ = some (.slice A sets.length c) := hk.cell 2
  have B5 := Lib.hid hbn
  clear hb hbn hk
  go_wp2_with fail
  clear d0 d1 d2
  have hc := nodes_bad (Rp.sl_below HS.out B5.out HD.out) (fun k hk => Nat.lt_of_lt_of_le (HD.out k hk) B5.out.size) hf ht HNO.out
  have HC5 := Lib.hid hc
  clear hc
  refine (HC5.out).mono ?_; rintro e w6 ⟨rfl, hb⟩
  have hbn := B5.out.trans (hb.mono B5.out.size)
  have hk := HK.out.below hbn hkl
  have d0 : w6.cell? ⟨w.heap.size, 0, none⟩ = some (.int .u64 (f : Int)) := hk.cell 0
  have d1 : w6.cell? ⟨w.heap.size, 1, none⟩ = some (.int .u64 (t : Int)) := hk.cell 1
  have d2 : w6.cell? ⟨w.heap.size, 2, none⟩ = some (.slice A sets.length c) := hk.cell 2
  have B6 := Lib.hid hbn
  clear hb hbn hk
  go_wp2_with fail
  clear d0 d1 d2
  refine (slive_any _).mono ?_; rintro e w7 ⟨rfl, hb⟩
  have hbn := B6.out.trans (hb.mono B6.out.size)
  have B7 := Lib.hid hbn
  clear hb hbn
  go_wp2_with fail
  go_ret
  exact ⟨rfl, HB.out.trans (B7.out.mono hz0)⟩
set_option maxRecDepth 100000 in
set_option maxHeartbeats 4000000 in
theorem deals_in_is (p : Nat) (set : Int) (hok : SOk (f, t, sets)) (hin : f ≤ p ∧ p < t) (his : p < share (f, t, sets) set) (hs : (rpSlice rpU64).sl w D A sets.length c sets) (hD : ∀ k, D k → k < w.heap.size) (hf : f ≤ 18446744073709551615) (ht : t ≤ 18446744073709551615) (hp : p ≤ 18446744073709551615) (hs0 : -9223372036854775808 ≤ set) (hs1 : set ≤ 9223372036854775807) :
    Calls Try.prog 12 #[.agg (stpV f t A sets.length c), .int .u64 (p : Int), .int .i64 set] w fun e w' => e = .returned (.bool true) ∧ Below w.heap.size w w' := by
  obtain ⟨_, hnc, hcm⟩ := Rp.sl_len hs
  unfold maxLen at hcm
  have hb0 : Below w.heap.size w (w.alloc (.cells (stpV f t A sets.length c) 31)) := (Below.refl _ _).alloc (Nat.le_refl _) _
  have HS := Lib.hid (Rp.sl_below hs hb0 hD)
  have HB := Lib.hid hb0
  have HD := Lib.hid (fun k hk => Nat.lt_of_lt_of_le (hD k hk) hb0.size)
  have HK := Lib.hid (Blk.new w 31 (stpV f t A sets.length c))
  clear hs hD hb0
  have h1 : f < t := hok.1
  have h2 : t ≤ 4611686018427387904 := hok.2.1
  have h3 : 1 ≤ sets.length := hok.2.2.1
  have h4 : sets.length ≤ 8 := hok.2.2.2.1
  have E4 := Lib.hid (dec_true hok)
  have hin1 : f ≤ p := hin.1
  have hin2 : p < t := hin.2
  obtain ⟨K, hK⟩ : ∃ K : Nat, K = (p - f) % sets.length := ⟨_, rfl⟩
  obtain ⟨N, hN⟩ : ∃ N : Nat, N = (p - f) / sets.length := ⟨_, rfl⟩
  have hKl : K < 8 := by have := Nat.mod_lt (p - f) (show 0 < sets.length by omega); omega
  have hNl : N ≤ 18446744073709551615 := by have := Nat.div_le_self (p - f) sets.length; omega
  have e1 : dealt (f, t, sets) p = (K, N, true) := by rw [hK, hN]; exact dealt_in hok hin.1 hin.2
  have e5 : back (f, t, sets) (K : Int) N = (p, true) := by rw [hK, hN]; exact dealt_back hok hin.1 hin.2
  have hKe : ((p : Int) - f) % (sets.length : Int) = (K : Int) := by rw [hK, Int.natCast_emod, Int.natCast_sub hin1]
  have hNe : ((p : Int) - f) / (sets.length : Int) = (N : Int) := by rw [hN, Int.natCast_ediv, Int.natCast_sub hin1]
  have E1 := Lib.hid e1
  have E5 := Lib.hid e5
  clear hK hN e1 e5 hin
  obtain ⟨j, rfl, hj, hbk, hq1, hdq⟩ := back_dealt his
  dsimp only at hj hbk hq1 hdq
  obtain ⟨Q, hQ⟩ : ∃ Q : Nat, Q = f + p * sets.length + j := ⟨_, rfl⟩
  rw [← hQ] at hbk hq1 hdq
  have hQl : Q ≤ 18446744073709551615 := by omega
  obtain ⟨sh, hsh⟩ : ∃ sh : Nat, sh = share (f, t, sets) (j : Int) := ⟨_, rfl⟩
  have hlt : p < sh := by rw [hsh]; exact his
  have hdlt : decide (p < sh) = true := by simp; omega
  have hdj : decide (j < sets.length) = true := by simp; omega
  have E2 := Lib.hid hbk
  have E3 := Lib.hid hsh.symm
  have E6 := Lib.hid hdq
  clear hQ hsh hbk hdq his
  clear hok
  go_enter Try.func12, Try.ntmps12
  go_wp2_with fail
  generalize World.alloc w _ = w0 at *
  have hkl := (show Blk _ _ _ _ from HK.out).lt
  have hz0 := HB.out.size
  have B0 : Hid (Below w0.heap.size w0 w0) := Below.refl _ _
  refine (long_any (f := f) (t := t) HS.out HD.out).mono ?_; rintro e w1 ⟨b, rfl, _, hb⟩
  have hk := (show Blk _ _ _ _ from HK.out).below hb hkl
  have d0 : w1.cell? ⟨w.heap.size, 0, none⟩ = some (.int .u64 (f : Int)) := hk.cell 0
  have d1 : w1.cell? ⟨w.heap.size, 1, none⟩ = some (.int .u64 (t : Int)) := hk.cell 1
  have d2 : w1.cell? ⟨w.heap.size, 2, none⟩ = some (.slice A sets.length c) := hk.cell 2
  have B1 := Lib.hid hb
  clear hb hk
  cases b
  case true =>
    go_wp2_with fail
    refine (slive_any _).mono ?_; rintro e w2 ⟨rfl, hb⟩
    go_wp2_with fail
    go_ret
    exact ⟨rfl, HB.out.trans ((B1.out.trans (hb.mono B1.out.size)).mono hz0)⟩
  go_wp2_with fail
  clear d0 d1 d2
  have hc := dealt_any p (Rp.sl_below HS.out B1.out HD.out) (fun k hk => Nat.lt_of_lt_of_le (HD.out k hk) B1.out.size) hf ht hp
  rw [E1.out] at hc
  have HC1 := Lib.hid hc
  clear hc
  refine (HC1.out).mono ?_; rintro e w2 ⟨rfl, hb⟩
  have hbn := B1.out.trans (hb.mono B1.out.size)
  have hk := HK.out.below hbn hkl
  have d0 : w2.cell? ⟨w.heap.size, 0, none⟩ = some (.int .u64 (f : Int)) := hk.cell 0
  have d1 : w2.cell? ⟨w.heap.size, 1, none⟩ = some (.int .u64 (t : Int)) := hk.cell 1
  have d2 : w2.cell? ⟨w.heap.size, 2, none⟩ = some (.slice A sets.length c) := hk.cell 2
  have B2 := Lib.hid hbn
  clear hb hbn hk
  go_wp2_with fail
  clear d0 d1 d2
  have hc := back_any (j : Int) p (Rp.sl_below HS.out B2.out HD.out) (fun k hk => Nat.lt_of_lt_of_le (HD.out k hk) B2.out.size) hf ht hp
  rw [E2.out] at hc
  have HC2 := Lib.hid hc
  clear hc
  refine (HC2.out).mono ?_; rintro e w3 ⟨rfl, hb⟩
  have hbn := B2.out.trans (hb.mono B2.out.size)
  have hk := HK.out.below hbn hkl
  have d0 : w3.cell? ⟨w.heap.size, 0, none⟩ = some (.int .u64 (f : Int)) := hk.cell 0
  have d1 : w3.cell? ⟨w.heap.size, 1, none⟩ = some (.int .u64 (t : Int)) := hk.cell 1
  have d2 : w3.cell? ⟨w.heap.size, 2, none⟩ = some (.slice A sets.length c) := hk.cell 2
  have B3 := Lib.hid hbn
  clear hb hbn hk
  go_wp2_with fail
  clear d0 d1 d2
  have hc := rright_any (Rp.sl_below HS.out B3.out HD.out) (fun k hk => Nat.lt_of_lt_of_le (HD.out k hk) B3.out.size) hf ht
  rw [E4.out] at hc
  have HC3 := Lib.hid hc
  clear hc
  refine (HC3.out).mono ?_; rintro e w4 ⟨rfl, hb⟩
  have hbn := B3.out.trans (hb.mono B3.out.size)
  have hk := HK.out.below hbn hkl
  have d0 : w4.cell? ⟨w.heap.size, 0, none⟩ = some (.int .u64 (f : Int)) := hk.cell 0
  have d1 : w4.cell? ⟨w.heap.size, 1, none⟩ = some (.int .u64 (t : Int)) := hk.cell 1
  have d2 : w4.cell? ⟨w.heap.size, 2, none⟩ = some (.slice A sets.length c) := hk.cell 2
  have B4 := Lib.hid hbn
  clear hb hbn hk
  go_wp2_with fail
  clear d0 d1 d2
  have hc := back_any (K : Int) N (Rp.sl_below HS.out B4.out HD.out) (fun k hk => Nat.lt_of_lt_of_le (HD.out k hk) B4.out.size) hf ht hNl
  rw [E5.out] at hc
  have HC4 := Lib.hid hc
  clear hc
  refine (HC4.out).mono ?_; rintro e w5 ⟨rfl, hb⟩
  have hbn := B4.out.trans (hb.mono B4.out.size)
  have hk := HK.out.below hbn hkl
  have d0 : w5.cell? ⟨w.heap.size, 0, none⟩ = some (.int .u64 (f : Int)) := hk.cell 0
  have d1 : w5.cell? ⟨w.heap.size, 1, none⟩ = some (.int .u64 (t : Int)) := hk.cell 1
  have d2 : w5.cell? ⟨w.heap.size, 2, none⟩ = some (.slice A sets.length c) := hk.cell 2
  have B5 := Lib.hid hbn
  clear hb hbn hk
  go_wp2_with fail
  clear d0 d1 d2
  have hc := share_any (j : Int) (Rp.sl_below HS.out B5.out HD.out) (fun k hk => Nat.lt_of_lt_of_le (HD.out k hk) B5.out.size) hf ht
  rw [E3.out] at hc
  have HC5 := Lib.hid hc
  clear hc
  refine (HC5.out).mono ?_; rintro e w6 ⟨rfl, hb⟩
  have hbn := B5.out.trans (hb.mono B5.out.size)
  have hk := HK.out.below hbn hkl
  have d0 : w6.cell? ⟨w.heap.size, 0, none⟩ = some (.int .u64 (f : Int)) := hk.cell 0
  have d1 : w6.cell? ⟨w.heap.size, 1, none⟩ = some (.int .u64 (t : Int)) := hk.cell 1
  have d2 : w6.cell? ⟨w.heap.size, 2, none⟩ = some (.slice A sets.length c) := hk.cell 2
  have B6 := Lib.hid hbn
  clear hb hbn hk
  go_wp2_with fail
  clear d0 d1 d2
  have hc := dealt_any Q (Rp.sl_below HS.out B6.out HD.out) (fun k hk => Nat.lt_of_lt_of_le (HD.out k hk) B6.out.size) hf ht hQl
  rw [E6.out] at hc
  have HC6 := Lib.hid hc
  clear hc
  refine (HC6.out).mono ?_; rintro e w7 ⟨rfl, hb⟩
  have hbn := B6.out.trans (hb.mono B6.out.size)
  have hk := HK.out.below hbn hkl
  have d0 : w7.cell? ⟨w.heap.size, 0, none⟩ = some (.int .u64 (f : Int)) := hk.cell 0
  have d1 : w7.cell? ⟨w.heap.size, 1, none⟩ = some (.int .u64 (t : Int)) := hk.cell 1
  have d2 : w7.cell? ⟨w.heap.size, 2, none⟩ = some (.slice A sets.length c) := hk.cell 2
  have B7 := Lib.hid hbn
  clear hb hbn hk
  go_wp2_with fail
  clear d0 d1 d2
  refine (slive_any _).mono ?_; rintro e w8 ⟨rfl, hb⟩
  have hbn := B7.out.trans (hb.mono B7.out.size)
  have B8 := Lib.hid hbn
  clear hb hbn
  go_wp2_with fail
  go_ret
  exact ⟨rfl, HB.out.trans (B8.out.mono hz0)⟩
set_option maxRecDepth 100000 in
set_option maxHeartbeats 4000000 in
theorem deals_in_there (p : Nat) (set : Int) (hok : SOk (f, t, sets)) (hin : f ≤ p ∧ p < t) (his : ¬ p < share (f, t, sets) set) (hth : 0 ≤ set ∧ set < sets.length) (hs : (rpSlice rpU64).sl w D A sets.length c sets) (hD : ∀ k, D k → k < w.heap.size) (hf : f ≤ 18446744073709551615) (ht : t ≤ 18446744073709551615) (hp : p ≤ 18446744073709551615) (hs0 : -9223372036854775808 ≤ set) (hs1 : set ≤ 9223372036854775807) :
    Calls Try.prog 12 #[.agg (stpV f t A sets.length c), .int .u64 (p : Int), .int .i64 set] w fun e w' => e = .returned (.bool true) ∧ Below w.heap.size w w' := by
  obtain ⟨_, hnc, hcm⟩ := Rp.sl_len hs
  unfold maxLen at hcm
  have hb0 : Below w.heap.size w (w.alloc (.cells (stpV f t A sets.length c) 31)) := (Below.refl _ _).alloc (Nat.le_refl _) _
  have HS := Lib.hid (Rp.sl_below hs hb0 hD)
  have HB := Lib.hid hb0
  have HD := Lib.hid (fun k hk => Nat.lt_of_lt_of_le (hD k hk) hb0.size)
  have HK := Lib.hid (Blk.new w 31 (stpV f t A sets.length c))
  clear hs hD hb0
  have h1 : f < t := hok.1
  have h2 : t ≤ 4611686018427387904 := hok.2.1
  have h3 : 1 ≤ sets.length := hok.2.2.1
  have h4 : sets.length ≤ 8 := hok.2.2.2.1
  have E4 := Lib.hid (dec_true hok)
  have hin1 : f ≤ p := hin.1
  have hin2 : p < t := hin.2
  obtain ⟨K, hK⟩ : ∃ K : Nat, K = (p - f) % sets.length := ⟨_, rfl⟩
  obtain ⟨N, hN⟩ : ∃ N : Nat, N = (p - f) / sets.length := ⟨_, rfl⟩
  have hKl : K < 8 := by have := Nat.mod_lt (p - f) (show 0 < sets.length by omega); omega
  have hNl : N ≤ 18446744073709551615 := by have := Nat.div_le_self (p - f) sets.length; omega
  have e1 : dealt (f, t, sets) p = (K, N, true) := by rw [hK, hN]; exact dealt_in hok hin.1 hin.2
  have e5 : back (f, t, sets) (K : Int) N = (p, true) := by rw [hK, hN]; exact dealt_back hok hin.1 hin.2
  have hKe : ((p : Int) - f) % (sets.length : Int) = (K : Int) := by rw [hK, Int.natCast_emod, Int.natCast_sub hin1]
  have hNe : ((p : Int) - f) / (sets.length : Int) = (N : Int) := by rw [hN, Int.natCast_ediv, Int.natCast_sub hin1]
  have E1 := Lib.hid e1
  have E5 := Lib.hid e5
  clear hK hN e1 e5 hin
  have E2 := Lib.hid (back_out (s := (f, t, sets)) (set := set) (loc := p) (by omega))
  obtain ⟨hth1, hth2⟩ := hth
  obtain ⟨sh, hsh⟩ : ∃ sh : Nat, sh = share (f, t, sets) set := ⟨_, rfl⟩
  have hge : sh ≤ p := by rw [hsh]; omega
  have hdlt : decide (p < sh) = false := by simp; omega
  have E3 := Lib.hid hsh.symm
  clear hsh his
  clear hok
  go_enter Try.func12, Try.ntmps12
  go_wp2_with fail
  generalize World.alloc w _ = w0 at *
  have hkl := (show Blk _ _ _ _ from HK.out).lt
  have hz0 := HB.out.size
  have B0 : Hid (Below w0.heap.size w0 w0) := Below.refl _ _
  refine (long_any (f := f) (t := t) HS.out HD.out).mono ?_; rintro e w1 ⟨b, rfl, _, hb⟩
  have hk := (show Blk _ _ _ _ from HK.out).below hb hkl
  have d0 : w1.cell? ⟨w.heap.size, 0, none⟩ = some (.int .u64 (f : Int)) := hk.cell 0
  have d1 : w1.cell? ⟨w.heap.size, 1, none⟩ = some (.int .u64 (t : Int)) := hk.cell 1
  have d2 : w1.cell? ⟨w.heap.size, 2, none⟩ = some (.slice A sets.length c) := hk.cell 2
  have B1 := Lib.hid hb
  clear hb hk
  cases b
  case true =>
    go_wp2_with fail
    refine (slive_any _).mono ?_; rintro e w2 ⟨rfl, hb⟩
    go_wp2_with fail
    go_ret
    exact ⟨rfl, HB.out.trans ((B1.out.trans (hb.mono B1.out.size)).mono hz0)⟩
  go_wp2_with fail
  clear d0 d1 d2
  have hc := dealt_any p (Rp.sl_below HS.out B1.out HD.out) (fun k hk => Nat.lt_of_lt_of_le (HD.out k hk) B1.out.size) hf ht hp
  rw [E1.out] at hc
  have HC1 := Lib.hid hc
  clear hc
  refine (HC1.out).mono ?_; rintro e w2 ⟨rfl, hb⟩
  have hbn := B1.out.trans (hb.mono B1.out.size)
  have hk := HK.out.below hbn hkl
  have d0 : w2.cell? ⟨w.heap.size, 0, none⟩ = some (.int .u64 (f : Int)) := hk.cell 0
  have d1 : w2.cell? ⟨w.heap.size, 1, none⟩ = some (.int .u64 (t : Int)) := hk.cell 1
  have d2 : w2.cell? ⟨w.heap.size, 2, none⟩ = some (.slice A sets.length c) := hk.cell 2
  have B2 := Lib.hid hbn
  clear hb hbn hk
  go_wp2_with fail
  clear d0 d1 d2
  have hc := back_any set p (Rp.sl_below HS.out B2.out HD.out) (fun k hk => Nat.lt_of_lt_of_le (HD.out k hk) B2.out.size) hf ht hp
  rw [E2.out] at hc
  have HC2 := Lib.hid hc
  clear hc
  refine (HC2.out).mono ?_; rintro e w3 ⟨rfl, hb⟩
  have hbn := B2.out.trans (hb.mono B2.out.size)
  have hk := HK.out.below hbn hkl
  have d0 : w3.cell? ⟨w.heap.size, 0, none⟩ = some (.int .u64 (f : Int)) := hk.cell 0
  have d1 : w3.cell? ⟨w.heap.size, 1, none⟩ = some (.int .u64 (t : Int)) := hk.cell 1
  have d2 : w3.cell? ⟨w.heap.size, 2, none⟩ = some (.slice A sets.length c) := hk.cell 2
  have B3 := Lib.hid hbn
  clear hb hbn hk
  go_wp2_with fail
  clear d0 d1 d2
  have hc := rright_any (Rp.sl_below HS.out B3.out HD.out) (fun k hk => Nat.lt_of_lt_of_le (HD.out k hk) B3.out.size) hf ht
  rw [E4.out] at hc
  have HC3 := Lib.hid hc
  clear hc
  refine (HC3.out).mono ?_; rintro e w4 ⟨rfl, hb⟩
  have hbn := B3.out.trans (hb.mono B3.out.size)
  have hk := HK.out.below hbn hkl
  have d0 : w4.cell? ⟨w.heap.size, 0, none⟩ = some (.int .u64 (f : Int)) := hk.cell 0
  have d1 : w4.cell? ⟨w.heap.size, 1, none⟩ = some (.int .u64 (t : Int)) := hk.cell 1
  have d2 : w4.cell? ⟨w.heap.size, 2, none⟩ = some (.slice A sets.length c) := hk.cell 2
  have B4 := Lib.hid hbn
  clear hb hbn hk
  go_wp2_with fail
  clear d0 d1 d2
  have hc := back_any (K : Int) N (Rp.sl_below HS.out B4.out HD.out) (fun k hk => Nat.lt_of_lt_of_le (HD.out k hk) B4.out.size) hf ht hNl
  rw [E5.out] at hc
  have HC4 := Lib.hid hc
  clear hc
  refine (HC4.out).mono ?_; rintro e w5 ⟨rfl, hb⟩
  have hbn := B4.out.trans (hb.mono B4.out.size)
  have hk := HK.out.below hbn hkl
  have d0 : w5.cell? ⟨w.heap.size, 0, none⟩ = some (.int .u64 (f : Int)) := hk.cell 0
  have d1 : w5.cell? ⟨w.heap.size, 1, none⟩ = some (.int .u64 (t : Int)) := hk.cell 1
  have d2 : w5.cell? ⟨w.heap.size, 2, none⟩ = some (.slice A sets.length c) := hk.cell 2
  have B5 := Lib.hid hbn
  clear hb hbn hk
  go_wp2_with fail
  clear d0 d1 d2
  have hc := share_any set (Rp.sl_below HS.out B5.out HD.out) (fun k hk => Nat.lt_of_lt_of_le (HD.out k hk) B5.out.size) hf ht
  rw [E3.out] at hc
  have HC5 := Lib.hid hc
  clear hc
  refine (HC5.out).mono ?_; rintro e w6 ⟨rfl, hb⟩
  have hbn := B5.out.trans (hb.mono B5.out.size)
  have hk := HK.out.below hbn hkl
  have d0 : w6.cell? ⟨w.heap.size, 0, none⟩ = some (.int .u64 (f : Int)) := hk.cell 0
  have d1 : w6.cell? ⟨w.heap.size, 1, none⟩ = some (.int .u64 (t : Int)) := hk.cell 1
  have d2 : w6.cell? ⟨w.heap.size, 2, none⟩ = some (.slice A sets.length c) := hk.cell 2
  have B6 := Lib.hid hbn
  clear hb hbn hk
  go_wp2_with fail
  clear d0 d1 d2
  refine (slive_any _).mono ?_; rintro e w7 ⟨rfl, hb⟩
  have hbn := B6.out.trans (hb.mono B6.out.size)
  have B7 := Lib.hid hbn
  clear hb hbn
  go_wp2_with fail
  go_ret
  exact ⟨rfl, HB.out.trans (B7.out.mono hz0)⟩
set_option maxRecDepth 100000 in
set_option maxHeartbeats 4000000 in
theorem deals_in_not (p : Nat) (set : Int) (hok : SOk (f, t, sets)) (hin : f ≤ p ∧ p < t) (his : ¬ p < share (f, t, sets) set) (hth : ¬ (0 ≤ set ∧ set < sets.length)) (hs : (rpSlice rpU64).sl w D A sets.length c sets) (hD : ∀ k, D k → k < w.heap.size) (hf : f ≤ 18446744073709551615) (ht : t ≤ 18446744073709551615) (hp : p ≤ 18446744073709551615) (hs0 : -9223372036854775808 ≤ set) (hs1 : set ≤ 9223372036854775807) :
    Calls Try.prog 12 #[.agg (stpV f t A sets.length c), .int .u64 (p : Int), .int .i64 set] w fun e w' => e = .returned (.bool true) ∧ Below w.heap.size w w' := by
  obtain ⟨_, hnc, hcm⟩ := Rp.sl_len hs
  unfold maxLen at hcm
  have hb0 : Below w.heap.size w (w.alloc (.cells (stpV f t A sets.length c) 31)) := (Below.refl _ _).alloc (Nat.le_refl _) _
  have HS := Lib.hid (Rp.sl_below hs hb0 hD)
  have HB := Lib.hid hb0
  have HD := Lib.hid (fun k hk => Nat.lt_of_lt_of_le (hD k hk) hb0.size)
  have HK := Lib.hid (Blk.new w 31 (stpV f t A sets.length c))
  clear hs hD hb0
  have h1 : f < t := hok.1
  have h2 : t ≤ 4611686018427387904 := hok.2.1
  have h3 : 1 ≤ sets.length := hok.2.2.1
  have h4 : sets.length ≤ 8 := hok.2.2.2.1
  have E4 := Lib.hid (dec_true hok)
  have hin1 : f ≤ p := hin.1
  have hin2 : p < t := hin.2
  obtain ⟨K, hK⟩ : ∃ K : Nat, K = (p - f) % sets.length := ⟨_, rfl⟩
  obtain ⟨N, hN⟩ : ∃ N : Nat, N = (p - f) / sets.length := ⟨_, rfl⟩
  have hKl : K < 8 := by have := Nat.mod_lt (p - f) (show 0 < sets.length by omega); omega
  have hNl : N ≤ 18446744073709551615 := by have := Nat.div_le_self (p - f) sets.length; omega
  have e1 : dealt (f, t, sets) p = (K, N, true) := by rw [hK, hN]; exact dealt_in hok hin.1 hin.2
  have e5 : back (f, t, sets) (K : Int) N = (p, true) := by rw [hK, hN]; exact dealt_back hok hin.1 hin.2
  have hKe : ((p : Int) - f) % (sets.length : Int) = (K : Int) := by rw [hK, Int.natCast_emod, Int.natCast_sub hin1]
  have hNe : ((p : Int) - f) / (sets.length : Int) = (N : Int) := by rw [hN, Int.natCast_ediv, Int.natCast_sub hin1]
  have E1 := Lib.hid e1
  have E5 := Lib.hid e5
  clear hK hN e1 e5 hin
  have E2 := Lib.hid (back_out (s := (f, t, sets)) (set := set) (loc := p) (by omega))
  have hth' : set < 0 ∨ (0 ≤ set ∧ (sets.length : Int) ≤ set) := by omega
  clear his hth
  clear hok
  rcases hth' with hth | ⟨hth1, hth2⟩
  all_goals
    go_enter Try.func12, Try.ntmps12
    go_wp2_with fail
    generalize World.alloc w _ = w0 at *
    have hkl := (show Blk _ _ _ _ from HK.out).lt
    have hz0 := HB.out.size
    have B0 : Hid (Below w0.heap.size w0 w0) := Below.refl _ _
    refine (long_any (f := f) (t := t) HS.out HD.out).mono ?_; rintro e w1 ⟨b, rfl, _, hb⟩
    have hk := (show Blk _ _ _ _ from HK.out).below hb hkl
    have d0 : w1.cell? ⟨w.heap.size, 0, none⟩ = some (.int .u64 (f : Int)) := hk.cell 0
    have d1 : w1.cell? ⟨w.heap.size, 1, none⟩ = some (.int .u64 (t : Int)) := hk.cell 1
    have d2 : w1.cell? ⟨w.heap.size, 2, none⟩ = some (.slice A sets.length c) := hk.cell 2
    have B1 := Lib.hid hb
    clear hb hk
    cases b
    case true =>
      go_wp2_with fail
      refine (slive_any _).mono ?_; rintro e w2 ⟨rfl, hb⟩
      go_wp2_with fail
      go_ret
      exact ⟨rfl, HB.out.trans ((B1.out.trans (hb.mono B1.out.size)).mono hz0)⟩
    go_wp2_with fail
    clear d0 d1 d2
    have hc := dealt_any p (Rp.sl_below HS.out B1.out HD.out) (fun k hk => Nat.lt_of_lt_of_le (HD.out k hk) B1.out.size) hf ht hp
    rw [E1.out] at hc
    have HC1 := Lib.hid hc
    clear hc
    refine (HC1.out).mono ?_; rintro e w2 ⟨rfl, hb⟩
    have hbn := B1.out.trans (hb.mono B1.out.size)
    have hk := HK.out.below hbn hkl
    have d0 : w2.cell? ⟨w.heap.size, 0, none⟩ = some (.int .u64 (f : Int)) := hk.cell 0
    have d1 : w2.cell? ⟨w.heap.size, 1, none⟩ = some (.int .u64 (t : Int)) := hk.cell 1
    have d2 : w2.cell? ⟨w.heap.size, 2, none⟩ = some (.slice A sets.length c) := hk.cell 2
    have B2 := Lib.hid hbn
    clear hb hbn hk
    go_wp2_with fail
    clear d0 d1 d2
    have hc := back_any set p (Rp.sl_below HS.out B2.out HD.out) (fun k hk => Nat.lt_of_lt_of_le (HD.out k hk) B2.out.size) hf ht hp
    rw [E2.out] at hc
    have HC2 := Lib.hid hc
    clear hc
    refine (HC2.out).mono ?_; rintro e w3 ⟨rfl, hb⟩
    have hbn := B2.out.trans (hb.mono B2.out.size)
    have hk := HK.out.below hbn hkl
    have d0 : w3.cell? ⟨w.heap.size, 0, none⟩ = some (.int .u64 (f : Int)) := hk.cell 0
    have d1 : w3.cell? ⟨w.heap.size, 1, none⟩ = some (.int .u64 (t : Int)) := hk.cell 1
    have d2 : w3.cell? ⟨w.heap.size, 2, none⟩ = some (.slice A sets.length c) := hk.cell 2
    have B3 := Lib.hid hbn
    clear hb hbn hk
    go_wp2_with fail
    clear d0 d1 d2
    have hc := rright_any (Rp.sl_below HS.out B3.out HD.out) (fun k hk => Nat.lt_of_lt_of_le (HD.out k hk) B3.out.size) hf ht
    rw [E4.out] at hc
    have HC3 := Lib.hid hc
    clear hc
    refine (HC3.out).mono ?_; rintro e w4 ⟨rfl, hb⟩
    have hbn := B3.out.trans (hb.mono B3.out.size)
    have hk := HK.out.below hbn hkl
    have d0 : w4.cell? ⟨w.heap.size, 0, none⟩ = some (.int .u64 (f : Int)) := hk.cell 0
    have d1 : w4.cell? ⟨w.heap.size, 1, none⟩ = some (.int .u64 (t : Int)) := hk.cell 1
    have d2 : w4.cell? ⟨w.heap.size, 2, none⟩ = some (.slice A sets.length c) := hk.cell 2
    have B4 := Lib.hid hbn
    clear hb hbn hk
    go_wp2_with fail
    clear d0 d1 d2
    have hc := back_any (K : Int) N (Rp.sl_below HS.out B4.out HD.out) (fun k hk => Nat.lt_of_lt_of_le (HD.out k hk) B4.out.size) hf ht hNl
    rw [E5.out] at hc
    have HC4 := Lib.hid hc
    clear hc
    refine (HC4.out).mono ?_; rintro e w5 ⟨rfl, hb⟩
    have hbn := B4.out.trans (hb.mono B4.out.size)
    have hk := HK.out.below hbn hkl
    have d0 : w5.cell? ⟨w.heap.size, 0, none⟩ = some (.int .u64 (f : Int)) := hk.cell 0
    have d1 : w5.cell? ⟨w.heap.size, 1, none⟩ = some (.int .u64 (t : Int)) := hk.cell 1
    have d2 : w5.cell? ⟨w.heap.size, 2, none⟩ = some (.slice A sets.length c) := hk.cell 2
    have B5 := Lib.hid hbn
    clear hb hbn hk
    go_wp2_with fail
    clear d0 d1 d2
    refine (slive_any _).mono ?_; rintro e w6 ⟨rfl, hb⟩
    have hbn := B5.out.trans (hb.mono B5.out.size)
    have B6 := Lib.hid hbn
    clear hb hbn
    go_wp2_with fail
    go_ret
    exact ⟨rfl, HB.out.trans (B6.out.mono hz0)⟩
set_option maxRecDepth 100000 in
set_option maxHeartbeats 4000000 in
theorem deals_out_is (p : Nat) (set : Int) (hok : SOk (f, t, sets)) (hin : ¬ (f ≤ p ∧ p < t)) (his : p < share (f, t, sets) set) (hs : (rpSlice rpU64).sl w D A sets.length c sets) (hD : ∀ k, D k → k < w.heap.size) (hf : f ≤ 18446744073709551615) (ht : t ≤ 18446744073709551615) (hp : p ≤ 18446744073709551615) (hs0 : -9223372036854775808 ≤ set) (hs1 : set ≤ 9223372036854775807) :
    Calls Try.prog 12 #[.agg (stpV f t A sets.length c), .int .u64 (p : Int), .int .i64 set] w fun e w' => e = .returned (.bool true) ∧ Below w.heap.size w w' := by
  obtain ⟨_, hnc, hcm⟩ := Rp.sl_len hs
  unfold maxLen at hcm
  have hb0 : Below w.heap.size w (w.alloc (.cells (stpV f t A sets.length c) 31)) := (Below.refl _ _).alloc (Nat.le_refl _) _
  have HS := Lib.hid (Rp.sl_below hs hb0 hD)
  have HB := Lib.hid hb0
  have HD := Lib.hid (fun k hk => Nat.lt_of_lt_of_le (hD k hk) hb0.size)
  have HK := Lib.hid (Blk.new w 31 (stpV f t A sets.length c))
  clear hs hD hb0
  have h1 : f < t := hok.1
  have h2 : t ≤ 4611686018427387904 := hok.2.1
  have h3 : 1 ≤ sets.length := hok.2.2.1
  have h4 : sets.length ≤ 8 := hok.2.2.2.1
  have E4 := Lib.hid (dec_true hok)
  have E1 := Lib.hid (dealt_out (s := (f, t, sets)) (p := p) (fun h => hin h.2))
  have hin' : p < f ∨ (f ≤ p ∧ t ≤ p) := by omega
  clear hin
  obtain ⟨j, rfl, hj, hbk, hq1, hdq⟩ := back_dealt his
  dsimp only at hj hbk hq1 hdq
  obtain ⟨Q, hQ⟩ : ∃ Q : Nat, Q = f + p * sets.length + j := ⟨_, rfl⟩
  rw [← hQ] at hbk hq1 hdq
  have hQl : Q ≤ 18446744073709551615 := by omega
  obtain ⟨sh, hsh⟩ : ∃ sh : Nat, sh = share (f, t, sets) (j : Int) := ⟨_, rfl⟩
  have hlt : p < sh := by rw [hsh]; exact his
  have hdlt : decide (p < sh) = true := by simp; omega
  have hdj : decide (j < sets.length) = true := by simp; omega
  have E2 := Lib.hid hbk
  have E3 := Lib.hid hsh.symm
  have E6 := Lib.hid hdq
  clear hQ hsh hbk hdq his
  clear hok
  rcases hin' with hin1 | ⟨hin1, hin2⟩
  all_goals
    go_enter Try.func12, Try.ntmps12
    go_wp2_with fail
    generalize World.alloc w _ = w0 at *
    have hkl := (show Blk _ _ _ _ from HK.out).lt
    have hz0 := HB.out.size
    have B0 : Hid (Below w0.heap.size w0 w0) := Below.refl _ _
    refine (long_any (f := f) (t := t) HS.out HD.out).mono ?_; rintro e w1 ⟨b, rfl, _, hb⟩
    have hk := (show Blk _ _ _ _ from HK.out).below hb hkl
    have d0 : w1.cell? ⟨w.heap.size, 0, none⟩ = some (.int .u64 (f : Int)) := hk.cell 0
    have d1 : w1.cell? ⟨w.heap.size, 1, none⟩ = some (.int .u64 (t : Int)) := hk.cell 1
    have d2 : w1.cell? ⟨w.heap.size, 2, none⟩ = some (.slice A sets.length c) := hk.cell 2
    have B1 := Lib.hid hb
    clear hb hk
    cases b
    case true =>
      go_wp2_with fail
      refine (slive_any _).mono ?_; rintro e w2 ⟨rfl, hb⟩
      go_wp2_with fail
      go_ret
      exact ⟨rfl, HB.out.trans ((B1.out.trans (hb.mono B1.out.size)).mono hz0)⟩
    go_wp2_with fail
    clear d0 d1 d2
    have hc := dealt_any p (Rp.sl_below HS.out B1.out HD.out) (fun k hk => Nat.lt_of_lt_of_le (HD.out k hk) B1.out.size) hf ht hp
    rw [E1.out] at hc
    have HC1 := Lib.hid hc
    clear hc
    refine (HC1.out).mono ?_; rintro e w2 ⟨rfl, hb⟩
    have hbn := B1.out.trans (hb.mono B1.out.size)
    have hk := HK.out.below hbn hkl
    have d0 : w2.cell? ⟨w.heap.size, 0, none⟩ = some (.int .u64 (f : Int)) := hk.cell 0
    have d1 : w2.cell? ⟨w.heap.size, 1, none⟩ = some (.int .u64 (t : Int)) := hk.cell 1
    have d2 : w2.cell? ⟨w.heap.size, 2, none⟩ = some (.slice A sets.length c) := hk.cell 2
    have B2 := Lib.hid hbn
    clear hb hbn hk
    go_wp2_with fail
    clear d0 d1 d2
    have hc := back_any (j : Int) p (Rp.sl_below HS.out B2.out HD.out) (fun k hk => Nat.lt_of_lt_of_le (HD.out k hk) B2.out.size) hf ht hp
    rw [E2.out] at hc
    have HC2 := Lib.hid hc
    clear hc
    refine (HC2.out).mono ?_; rintro e w3 ⟨rfl, hb⟩
    have hbn := B2.out.trans (hb.mono B2.out.size)
    have hk := HK.out.below hbn hkl
    have d0 : w3.cell? ⟨w.heap.size, 0, none⟩ = some (.int .u64 (f : Int)) := hk.cell 0
    have d1 : w3.cell? ⟨w.heap.size, 1, none⟩ = some (.int .u64 (t : Int)) := hk.cell 1
    have d2 : w3.cell? ⟨w.heap.size, 2, none⟩ = some (.slice A sets.length c) := hk.cell 2
    have B3 := Lib.hid hbn
    clear hb hbn hk
    go_wp2_with fail
    clear d0 d1 d2
    have hc := rright_any (Rp.sl_below HS.out B3.out HD.out) (fun k hk => Nat.lt_of_lt_of_le (HD.out k hk) B3.out.size) hf ht
    rw [E4.out] at hc
    have HC3 := Lib.hid hc
    clear hc
    refine (HC3.out).mono ?_; rintro e w4 ⟨rfl, hb⟩
    have hbn := B3.out.trans (hb.mono B3.out.size)
    have hk := HK.out.below hbn hkl
    have d0 : w4.cell? ⟨w.heap.size, 0, none⟩ = some (.int .u64 (f : Int)) := hk.cell 0
    have d1 : w4.cell? ⟨w.heap.size, 1, none⟩ = some (.int .u64 (t : Int)) := hk.cell 1
    have d2 : w4.cell? ⟨w.heap.size, 2, none⟩ = some (.slice A sets.length c) := hk.cell 2
    have B4 := Lib.hid hbn
    clear hb hbn hk
    go_wp2_with fail
    clear d0 d1 d2
    have hc := share_any (j : Int) (Rp.sl_below HS.out B4.out HD.out) (fun k hk => Nat.lt_of_lt_of_le (HD.out k hk) B4.out.size) hf ht
    rw [E3.out] at hc
    have HC4 := Lib.hid hc
    clear hc
    refine (HC4.out).mono ?_; rintro e w5 ⟨rfl, hb⟩
    have hbn := B4.out.trans (hb.mono B4.out.size)
    have hk := HK.out.below hbn hkl
    have d0 : w5.cell? ⟨w.heap.size, 0, none⟩ = some (.int .u64 (f : Int)) := hk.cell 0
    have d1 : w5.cell? ⟨w.heap.size, 1, none⟩ = some (.int .u64 (t : Int)) := hk.cell 1
    have d2 : w5.cell? ⟨w.heap.size, 2, none⟩ = some (.slice A sets.length c) := hk.cell 2
    have B5 := Lib.hid hbn
    clear hb hbn hk
    go_wp2_with fail
    clear d0 d1 d2
    have hc := dealt_any Q (Rp.sl_below HS.out B5.out HD.out) (fun k hk => Nat.lt_of_lt_of_le (HD.out k hk) B5.out.size) hf ht hQl
    rw [E6.out] at hc
    have HC5 := Lib.hid hc
    clear hc
    refine (HC5.out).mono ?_; rintro e w6 ⟨rfl, hb⟩
    have hbn := B5.out.trans (hb.mono B5.out.size)
    have hk := HK.out.below hbn hkl
    have d0 : w6.cell? ⟨w.heap.size, 0, none⟩ = some (.int .u64 (f : Int)) := hk.cell 0
    have d1 : w6.cell? ⟨w.heap.size, 1, none⟩ = some (.int .u64 (t : Int)) := hk.cell 1
    have d2 : w6.cell? ⟨w.heap.size, 2, none⟩ = some (.slice A sets.length c) := hk.cell 2
    have B6 := Lib.hid hbn
    clear hb hbn hk
    go_wp2_with fail
    clear d0 d1 d2
    refine (slive_any _).mono ?_; rintro e w7 ⟨rfl, hb⟩
    have hbn := B6.out.trans (hb.mono B6.out.size)
    have B7 := Lib.hid hbn
    clear hb hbn
    go_wp2_with fail
    go_ret
    exact ⟨rfl, HB.out.trans (B7.out.mono hz0)⟩
set_option maxRecDepth 100000 in
set_option maxHeartbeats 4000000 in
theorem deals_out_there (p : Nat) (set : Int) (hok : SOk (f, t, sets)) (hin : ¬ (f ≤ p ∧ p < t)) (his : ¬ p < share (f, t, sets) set) (hth : 0 ≤ set ∧ set < sets.length) (hs : (rpSlice rpU64).sl w D A sets.length c sets) (hD : ∀ k, D k → k < w.heap.size) (hf : f ≤ 18446744073709551615) (ht : t ≤ 18446744073709551615) (hp : p ≤ 18446744073709551615) (hs0 : -9223372036854775808 ≤ set) (hs1 : set ≤ 9223372036854775807) :
    Calls Try.prog 12 #[.agg (stpV f t A sets.length c), .int .u64 (p : Int), .int .i64 set] w fun e w' => e = .returned (.bool true) ∧ Below w.heap.size w w' := by
  obtain ⟨_, hnc, hcm⟩ := Rp.sl_len hs
  unfold maxLen at hcm
  have hb0 : Below w.heap.size w (w.alloc (.cells (stpV f t A sets.length c) 31)) := (Below.refl _ _).alloc (Nat.le_refl _) _
  have HS := Lib.hid (Rp.sl_below hs hb0 hD)
  have HB := Lib.hid hb0
  have HD := Lib.hid (fun k hk => Nat.lt_of_lt_of_le (hD k hk) hb0.size)
  have HK := Lib.hid (Blk.new w 31 (stpV f t A sets.length c))
  clear hs hD hb0
  have h1 : f < t := hok.1
  have h2 : t ≤ 4611686018427387904 := hok.2.1
  have h3 : 1 ≤ sets.length := hok.2.2.1
  have h4 : sets.length ≤ 8 := hok.2.2.2.1
  have E4 := Lib.hid (dec_true hok)
  have E1 := Lib.hid (dealt_out (s := (f, t, sets)) (p := p) (fun h => hin h.2))
  have hin' : p < f ∨ (f ≤ p ∧ t ≤ p) := by omega
  clear hin
  have E2 := Lib.hid (back_out (s := (f, t, sets)) (set := set) (loc := p) (by omega))
  obtain ⟨hth1, hth2⟩ := hth
  obtain ⟨sh, hsh⟩ : ∃ sh : Nat, sh = share (f, t, sets) set := ⟨_, rfl⟩
  have hge : sh ≤ p := by rw [hsh]; omega
  have hdlt : decide (p < sh) = false := by simp; omega
  have E3 := Lib.hid hsh.symm
  clear hsh his
  clear hok
  rcases hin' with hin1 | ⟨hin1, hin2⟩
  all_goals
    go_enter Try.func12, Try.ntmps12
    go_wp2_with fail
    generalize World.alloc w _ = w0 at *
    have hkl := (show Blk _ _ _ _ from HK.out).lt
    have hz0 := HB.out.size
    have B0 : Hid (Below w0.heap.size w0 w0) := Below.refl _ _
    refine (long_any (f := f) (t := t) HS.out HD.out).mono ?_; rintro e w1 ⟨b, rfl, _, hb⟩
    have hk := (show Blk _ _ _ _ from HK.out).below hb hkl
    have d0 : w1.cell? ⟨w.heap.size, 0, none⟩ = some (.int .u64 (f : Int)) := hk.cell 0
    have d1 : w1.cell? ⟨w.heap.size, 1, none⟩ = some (.int .u64 (t : Int)) := hk.cell 1
    have d2 : w1.cell? ⟨w.heap.size, 2, none⟩ = some (.slice A sets.length c) := hk.cell 2
    have B1 := Lib.hid hb
    clear hb hk
    cases b
    case true =>
      go_wp2_with fail
      refine (slive_any _).mono ?_; rintro e w2 ⟨rfl, hb⟩
      go_wp2_with fail
      go_ret
      exact ⟨rfl, HB.out.trans ((B1.out.trans (hb.mono B1.out.size)).mono hz0)⟩
    go_wp2_with fail
    clear d0 d1 d2
    have hc := dealt_any p (Rp.sl_below HS.out B1.out HD.out) (fun k hk => Nat.lt_of_lt_of_le (HD.out k hk) B1.out.size) hf ht hp
    rw [E1.out] at hc
    have HC1 := Lib.hid hc
    clear hc
    refine (HC1.out).mono ?_; rintro e w2 ⟨rfl, hb⟩
    have hbn := B1.out.trans (hb.mono B1.out.size)
    have hk := HK.out.below hbn hkl
    have d0 : w2.cell? ⟨w.heap.size, 0, none⟩ = some (.int .u64 (f : Int)) := hk.cell 0
    have d1 : w2.cell? ⟨w.heap.size, 1, none⟩ = some (.int .u64 (t : Int)) := hk.cell 1
    have d2 : w2.cell? ⟨w.heap.size, 2, none⟩ = some (.slice A sets.length c) := hk.cell 2
    have B2 := Lib.hid hbn
    clear hb hbn hk
    go_wp2_with fail
    clear d0 d1 d2
    have hc := back_any set p (Rp.sl_below HS.out B2.out HD.out) (fun k hk => Nat.lt_of_lt_of_le (HD.out k hk) B2.out.size) hf ht hp
    rw [E2.out] at hc
    have HC2 := Lib.hid hc
    clear hc
    refine (HC2.out).mono ?_; rintro e w3 ⟨rfl, hb⟩
    have hbn := B2.out.trans (hb.mono B2.out.size)
    have hk := HK.out.below hbn hkl
    have d0 : w3.cell? ⟨w.heap.size, 0, none⟩ = some (.int .u64 (f : Int)) := hk.cell 0
    have d1 : w3.cell? ⟨w.heap.size, 1, none⟩ = some (.int .u64 (t : Int)) := hk.cell 1
    have d2 : w3.cell? ⟨w.heap.size, 2, none⟩ = some (.slice A sets.length c) := hk.cell 2
    have B3 := Lib.hid hbn
    clear hb hbn hk
    go_wp2_with fail
    clear d0 d1 d2
    have hc := rright_any (Rp.sl_below HS.out B3.out HD.out) (fun k hk => Nat.lt_of_lt_of_le (HD.out k hk) B3.out.size) hf ht
    rw [E4.out] at hc
    have HC3 := Lib.hid hc
    clear hc
    refine (HC3.out).mono ?_; rintro e w4 ⟨rfl, hb⟩
    have hbn := B3.out.trans (hb.mono B3.out.size)
    have hk := HK.out.below hbn hkl
    have d0 : w4.cell? ⟨w.heap.size, 0, none⟩ = some (.int .u64 (f : Int)) := hk.cell 0
    have d1 : w4.cell? ⟨w.heap.size, 1, none⟩ = some (.int .u64 (t : Int)) := hk.cell 1
    have d2 : w4.cell? ⟨w.heap.size, 2, none⟩ = some (.slice A sets.length c) := hk.cell 2
    have B4 := Lib.hid hbn
    clear hb hbn hk
    go_wp2_with fail
    clear d0 d1 d2
    have hc := share_any set (Rp.sl_below HS.out B4.out HD.out) (fun k hk => Nat.lt_of_lt_of_le (HD.out k hk) B4.out.size) hf ht
    rw [E3.out] at hc
    have HC4 := Lib.hid hc
    clear hc
    refine (HC4.out).mono ?_; rintro e w5 ⟨rfl, hb⟩
    have hbn := B4.out.trans (hb.mono B4.out.size)
    have hk := HK.out.below hbn hkl
    have d0 : w5.cell? ⟨w.heap.size, 0, none⟩ = some (.int .u64 (f : Int)) := hk.cell 0
    have d1 : w5.cell? ⟨w.heap.size, 1, none⟩ = some (.int .u64 (t : Int)) := hk.cell 1
    have d2 : w5.cell? ⟨w.heap.size, 2, none⟩ = some (.slice A sets.length c) := hk.cell 2
    have B5 := Lib.hid hbn
    clear hb hbn hk
    go_wp2_with fail
    clear d0 d1 d2
    refine (slive_any _).mono ?_; rintro e w6 ⟨rfl, hb⟩
    have hbn := B5.out.trans (hb.mono B5.out.size)
    have B6 := Lib.hid hbn
    clear hb hbn
    go_wp2_with fail
    go_ret
    exact ⟨rfl, HB.out.trans (B6.out.mono hz0)⟩
set_option maxRecDepth 100000 in
set_option maxHeartbeats 4000000 in
theorem deals_out_not (p : Nat) (set : Int) (hok : SOk (f, t, sets)) (hin : ¬ (f ≤ p ∧ p < t)) (his : ¬ p < share (f, t, sets) set) (hth : ¬ (0 ≤ set ∧ set < sets.length)) (hs : (rpSlice rpU64).sl w D A sets.length c sets) (hD : ∀ k, D k → k < w.heap.size) (hf : f ≤ 18446744073709551615) (ht : t ≤ 18446744073709551615) (hp : p ≤ 18446744073709551615) (hs0 : -9223372036854775808 ≤ set) (hs1 : set ≤ 9223372036854775807) :
    Calls Try.prog 12 #[.agg (stpV f t A sets.length c), .int .u64 (p : Int), .int .i64 set] w fun e w' => e = .returned (.bool true) ∧ Below w.heap.size w w' := by
  obtain ⟨_, hnc, hcm⟩ := Rp.sl_len hs
  unfold maxLen at hcm
  have hb0 : Below w.heap.size w (w.alloc (.cells (stpV f t A sets.length c) 31)) := (Below.refl _ _).alloc (Nat.le_refl _) _
  have HS := Lib.hid (Rp.sl_below hs hb0 hD)
  have HB := Lib.hid hb0
  have HD := Lib.hid (fun k hk => Nat.lt_of_lt_of_le (hD k hk) hb0.size)
  have HK := Lib.hid (Blk.new w 31 (stpV f t A sets.length c))
  clear hs hD hb0
  have h1 : f < t := hok.1
  have h2 : t ≤ 4611686018427387904 := hok.2.1
  have h3 : 1 ≤ sets.length := hok.2.2.1
  have h4 : sets.length ≤ 8 := hok.2.2.2.1
  have E4 := Lib.hid (dec_true hok)
  have E1 := Lib.hid (dealt_out (s := (f, t, sets)) (p := p) (fun h => hin h.2))
  have hin' : p < f ∨ (f ≤ p ∧ t ≤ p) := by omega
  clear hin
  have E2 := Lib.hid (back_out (s := (f, t, sets)) (set := set) (loc := p) (by omega))
  have hth' : set < 0 ∨ (0 ≤ set ∧ (sets.length : Int) ≤ set) := by omega
  clear his hth
  clear hok
  rcases hin' with hin1 | ⟨hin1, hin2⟩
  all_goals rcases hth' with hth | ⟨hth1, hth2⟩
  all_goals
    go_enter Try.func12, Try.ntmps12
    go_wp2_with fail
    generalize World.alloc w _ = w0 at *
    have hkl := (show Blk _ _ _ _ from HK.out).lt
    have hz0 := HB.out.size
    have B0 : Hid (Below w0.heap.size w0 w0) := Below.refl _ _
    refine (long_any (f := f) (t := t) HS.out HD.out).mono ?_; rintro e w1 ⟨b, rfl, _, hb⟩
    have hk := (show Blk _ _ _ _ from HK.out).below hb hkl
    have d0 : w1.cell? ⟨w.heap.size, 0, none⟩ = some (.int .u64 (f : Int)) := hk.cell 0
    have d1 : w1.cell? ⟨w.heap.size, 1, none⟩ = some (.int .u64 (t : Int)) := hk.cell 1
    have d2 : w1.cell? ⟨w.heap.size, 2, none⟩ = some (.slice A sets.length c) := hk.cell 2
    have B1 := Lib.hid hb
    clear hb hk
    cases b
    case true =>
      go_wp2_with fail
      refine (slive_any _).mono ?_; rintro e w2 ⟨rfl, hb⟩
      go_wp2_with fail
      go_ret
      exact ⟨rfl, HB.out.trans ((B1.out.trans (hb.mono B1.out.size)).mono hz0)⟩
    go_wp2_with fail
    clear d0 d1 d2
    have hc := dealt_any p (Rp.sl_below HS.out B1.out HD.out) (fun k hk => Nat.lt_of_lt_of_le (HD.out k hk) B1.out.size) hf ht hp
    rw [E1.out] at hc
    have HC1 := Lib.hid hc
    clear hc
    refine (HC1.out).mono ?_; rintro e w2 ⟨rfl, hb⟩
    have hbn := B1.out.trans (hb.mono B1.out.size)
    have hk := HK.out.below hbn hkl
    have d0 : w2.cell? ⟨w.heap.size, 0, none⟩ = some (.int .u64 (f : Int)) := hk.cell 0
    have d1 : w2.cell? ⟨w.heap.size, 1, none⟩ = some (.int .u64 (t : Int)) := hk.cell 1
    have d2 : w2.cell? ⟨w.heap.size, 2, none⟩ = some (.slice A sets.length c) := hk.cell 2
    have B2 := Lib.hid hbn
    clear hb hbn hk
    go_wp2_with fail
    clear d0 d1 d2
    have hc := back_any set p (Rp.sl_below HS.out B2.out HD.out) (fun k hk => Nat.lt_of_lt_of_le (HD.out k hk) B2.out.size) hf ht hp
    rw [E2.out] at hc
    have HC2 := Lib.hid hc
    clear hc
    refine (HC2.out).mono ?_; rintro e w3 ⟨rfl, hb⟩
    have hbn := B2.out.trans (hb.mono B2.out.size)
    have hk := HK.out.below hbn hkl
    have d0 : w3.cell? ⟨w.heap.size, 0, none⟩ = some (.int .u64 (f : Int)) := hk.cell 0
    have d1 : w3.cell? ⟨w.heap.size, 1, none⟩ = some (.int .u64 (t : Int)) := hk.cell 1
    have d2 : w3.cell? ⟨w.heap.size, 2, none⟩ = some (.slice A sets.length c) := hk.cell 2
    have B3 := Lib.hid hbn
    clear hb hbn hk
    go_wp2_with fail
    clear d0 d1 d2
    have hc := rright_any (Rp.sl_below HS.out B3.out HD.out) (fun k hk => Nat.lt_of_lt_of_le (HD.out k hk) B3.out.size) hf ht
    rw [E4.out] at hc
    have HC3 := Lib.hid hc
    clear hc
    refine (HC3.out).mono ?_; rintro e w4 ⟨rfl, hb⟩
    have hbn := B3.out.trans (hb.mono B3.out.size)
    have hk := HK.out.below hbn hkl
    have d0 : w4.cell? ⟨w.heap.size, 0, none⟩ = some (.int .u64 (f : Int)) := hk.cell 0
    have d1 : w4.cell? ⟨w.heap.size, 1, none⟩ = some (.int .u64 (t : Int)) := hk.cell 1
    have d2 : w4.cell? ⟨w.heap.size, 2, none⟩ = some (.slice A sets.length c) := hk.cell 2
    have B4 := Lib.hid hbn
    clear hb hbn hk
    go_wp2_with fail
    clear d0 d1 d2
    refine (slive_any _).mono ?_; rintro e w5 ⟨rfl, hb⟩
    have hbn := B4.out.trans (hb.mono B4.out.size)
    have B5 := Lib.hid hbn
    clear hb hbn
    go_wp2_with fail
    go_ret
    exact ⟨rfl, HB.out.trans (B5.out.mono hz0)⟩

theorem stripeDeals_any {n : Nat} (p : Nat) (set : Int) (hs : (rpSlice rpU64).sl w D A n c sets) (hD : ∀ k, D k → k < w.heap.size) (hf : f ≤ 18446744073709551615) (ht : t ≤ 18446744073709551615) (hp : p ≤ 18446744073709551615) (hs0 : -9223372036854775808 ≤ set) (hs1 : set ≤ 9223372036854775807) :
    Calls Try.prog 12 #[.agg (stpV f t A n c), .int .u64 (p : Int), .int .i64 set] w fun e w' => e = .returned (.bool true) ∧ Below w.heap.size w w' := by
  obtain ⟨hlen, _, _⟩ := Rp.sl_len hs
  subst hlen
  by_cases hok : SOk (f, t, sets)
  · by_cases hin : f ≤ p ∧ p < t
    · by_cases his : p < share (f, t, sets) set
      · exact deals_in_is p set hok hin his hs hD hf ht hp hs0 hs1
      · by_cases hth : 0 ≤ set ∧ set < sets.length
        · exact deals_in_there p set hok hin his hth hs hD hf ht hp hs0 hs1
        · exact deals_in_not p set hok hin his hth hs hD hf ht hp hs0 hs1
    · by_cases his : p < share (f, t, sets) set
      · exact deals_out_is p set hok hin his hs hD hf ht hp hs0 hs1
      · by_cases hth : 0 ≤ set ∧ set < sets.length
        · exact deals_out_there p set hok hin his hth hs hD hf ht hp hs0 hs1
        · exact deals_out_not p set hok hin his hth hs hD hf ht hp hs0 hs1
  · exact deals_no p set hok hs hD hf ht hp hs0 hs1
end
end Go.Proofs.Ytmdgmnaaopineaa
