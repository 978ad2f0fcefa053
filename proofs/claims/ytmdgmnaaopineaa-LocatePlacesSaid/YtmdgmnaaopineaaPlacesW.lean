/- The walk of the law LocatePlaces. -/
import Derived.Test.YtmdgmnaaopineaaLocP
import Derived.Test.YtmdgmnaaopineaaPosT
namespace Go.Proofs.Ytmdgmnaaopineaa
open Go.ChangeShapes Go.WideShapes Go.ChangeAt Go.RowKit
set_option linter.unusedVariables false
section
variable {D : Dom} {A : Option Addr} {c e : Nat} {l : List Stp} {w : World}
set_option maxRecDepth 100000 in
set_option maxHeartbeats 4000000 in
theorem lplaces_no (x : Nat) (h1 : ¬ POk (e, l)) (hs : rpStp.sl w D A l.length c l) (hD : ∀ k, D k → k < w.heap.size) (he : e ≤ 18446744073709551615) (hx : x ≤ 18446744073709551615) :
    Calls Try.prog 4 #[.agg (prjV e A l.length c), .int .u64 (x : Int)] w fun en w' => en = .returned (.bool true) ∧ Below w.heap.size w w' := by
  obtain ⟨_, hnc, hcm⟩ := Rp.sl_len hs
  unfold maxLen at hcm
  have hb0 : Below w.heap.size w (w.alloc (.cells (prjV e A l.length c) 25)) := (Below.refl _ _).alloc (Nat.le_refl _) _
  have HK0 : Hid (Blk (w.alloc (.cells (prjV e A l.length c) 25)) w.heap.size 25 (prjV e A l.length c)) := Blk.newAt rfl _ _
  have HS := Lib.hid (Rp.sl_below hs hb0 hD)
  have HB := Lib.hid hb0
  have HD := Lib.hid (fun k hk => Nat.lt_of_lt_of_le (hD k hk) hb0.size)
  clear hs hD hb0
  have HNO := Lib.hid (show ¬ (POk (e, l) ∧ PosOk x) from fun h => h1 h.1)
  have H1 := Lib.hid h1
  clear h1
  go_enter Try.func4, Try.ntmps4
  go_wp2_with fail
  generalize World.alloc w _ = w0 at *
  have hl0 := (show Blk _ _ _ _ from HK0.out).lt
  have hz0 := HB.out.size
  have B0 : Hid (Below w0.heap.size w0 w0) := Below.refl _ _
  refine (plong_any (e := e) HS.out HD.out).mono ?_; rintro en w1 ⟨bb, rfl, hb⟩
  have hbn := hb
  have hk0 := Blk.below (show Blk _ _ _ _ from HK0.out) hbn hl0
  have e0 : w1.cell? ⟨w.heap.size, 0, none⟩ = some (.int .u64 (e : Int)) := hk0.cell 0
  have e1 : w1.cell? ⟨w.heap.size, 1, none⟩ = some (.slice A l.length c) := hk0.cell 1
  have B1 := Lib.hid hbn
  clear hb hbn hk0
  cases bb
  case true =>
    go_wp2_with fail
    refine (lclive_any _).mono ?_; rintro en w2 ⟨rfl, hb⟩
    go_wp2_with fail
    go_ret
    exact ⟨rfl, HB.out.trans ((B1.out.trans (hb.mono B1.out.size)).mono hz0)⟩
  go_wp2_with fail
  clear e0 e1
  refine (lstripe_bad x (Rp.sl_below HS.out B1.out HD.out) (fun k hk => Nat.lt_of_lt_of_le (HD.out k hk) B1.out.size) he hx HNO.out).mono ?_; rintro en w2 ⟨rfl, hb⟩
  have hbn := B1.out.trans (hb.mono B1.out.size)
  have hk0 := Blk.below (show Blk _ _ _ _ from HK0.out) hbn hl0
  have e0 : w2.cell? ⟨w.heap.size, 0, none⟩ = some (.int .u64 (e : Int)) := hk0.cell 0
  have e1 : w2.cell? ⟨w.heap.size, 1, none⟩ = some (.slice A l.length c) := hk0.cell 1
  have B2 := Lib.hid hbn
  clear hb hbn hk0
  go_wp2_with fail
  clear e0 e1
  refine (at_bad x 3 (Rp.sl_below HS.out B2.out HD.out) (fun k hk => Nat.lt_of_lt_of_le (HD.out k hk) B2.out.size) he hx (.inl ⟨H1.out, rfl⟩)).mono ?_; rintro en w3 ⟨rfl, hb⟩
  have hb3 := B2.out.trans (hb.mono B2.out.size)
  have hba : Below w3.heap.size w3 (w3.alloc (.cells plcZ 48)) := (Below.refl _ _).alloc (Nat.le_refl _) _
  have HKP := Lib.hid (Blk.new w3 48 plcZ)
  have hbn := hb3.trans (hba.mono hb3.size)
  have hk0 := (Blk.below (show Blk _ _ _ _ from HK0.out) hb3 hl0).alloc (.cells plcZ 48)
  have e0 : (w3.alloc (.cells plcZ 48)).cell? ⟨w.heap.size, 0, none⟩ = some (.int .u64 (e : Int)) := hk0.cell 0
  have e1 : (w3.alloc (.cells plcZ 48)).cell? ⟨w.heap.size, 1, none⟩ = some (.slice A l.length c) := hk0.cell 1
  have B4 := Lib.hid hbn
  clear hb hbn hk0 hba hb3
  go_wp2_with fail
  generalize (w3.alloc (.cells plcZ 48)) = w4 at *
  try clear e0 e1
  refine (which_bad x (Rp.sl_below HS.out B4.out HD.out) (fun k hk => Nat.lt_of_lt_of_le (HD.out k hk) B4.out.size) he hx HNO.out).mono ?_; rintro en w5 ⟨rfl, hb⟩
  have hbn := B4.out.trans (hb.mono B4.out.size)
  have hk0 := Blk.below (show Blk _ _ _ _ from HK0.out) hbn hl0
  have e0 : w5.cell? ⟨w.heap.size, 0, none⟩ = some (.int .u64 (e : Int)) := hk0.cell 0
  have e1 : w5.cell? ⟨w.heap.size, 1, none⟩ = some (.slice A l.length c) := hk0.cell 1
  have B5 := Lib.hid hbn
  have hkp := Blk.below (show Blk _ _ _ _ from HKP.out) hb (show Blk _ _ _ _ from HKP.out).lt
  have HKP5 := Lib.hid hkp
  clear hkp
  clear hb hbn hk0
  go_wp2_with fail
  have hc := rpright_any (Rp.sl_below HS.out B5.out HD.out) (fun k hk => Nat.lt_of_lt_of_le (HD.out k hk) B5.out.size) he
  rw [dec_false H1.out] at hc
  have HC2 := Lib.hid hc
  clear hc
  clear e0 e1
  refine (HC2.out).mono ?_; rintro en w6 ⟨rfl, hb⟩
  have hbn := B5.out.trans (hb.mono B5.out.size)
  have hk0 := Blk.below (show Blk _ _ _ _ from HK0.out) hbn hl0
  have e0 : w6.cell? ⟨w.heap.size, 0, none⟩ = some (.int .u64 (e : Int)) := hk0.cell 0
  have e1 : w6.cell? ⟨w.heap.size, 1, none⟩ = some (.slice A l.length c) := hk0.cell 1
  have B6 := Lib.hid hbn
  have hkp := Blk.below (show Blk _ _ _ _ from HKP5.out) hb (show Blk _ _ _ _ from HKP5.out).lt
  have HKP6 := Lib.hid hkp
  clear hkp
  clear hb hbn hk0
  have u0 : w6.cell? ⟨w3.heap.size, 0, none⟩ = some (.int .i64 0) := (show Blk _ _ _ _ from HKP6.out).cell 0
  have u1 : w6.cell? ⟨w3.heap.size, 1, none⟩ = some (.int .i64 0) := (show Blk _ _ _ _ from HKP6.out).cell 1
  have u2 : w6.cell? ⟨w3.heap.size, 2, none⟩ = some (.int .u64 0) := (show Blk _ _ _ _ from HKP6.out).cell 2
  have u3 : w6.cell? ⟨w3.heap.size, 3, none⟩ = some (.slice none 0 0) := (show Blk _ _ _ _ from HKP6.out).cell 3
  go_wp2_with fail
  clear e0 e1 u0 u1 u2 u3
  refine (lclive_any _).mono ?_; rintro en w7 ⟨rfl, hb⟩
  go_wp2_with fail
  go_ret
  exact ⟨rfl, HB.out.trans ((B6.out.trans (hb.mono B6.out.size)).mono hz0)⟩
set_option maxRecDepth 100000 in
set_option maxHeartbeats 4000000 in
theorem lplaces_far (x : Nat) (h1 : POk (e, l)) (h2 : ¬ PosOk x) (hs : rpStp.sl w D A l.length c l) (hD : ∀ k, D k → k < w.heap.size) (he : e ≤ 18446744073709551615) (hx : x ≤ 18446744073709551615) :
    Calls Try.prog 4 #[.agg (prjV e A l.length c), .int .u64 (x : Int)] w fun en w' => en = .returned (.bool true) ∧ Below w.heap.size w w' := by
  obtain ⟨_, hnc, hcm⟩ := Rp.sl_len hs
  unfold maxLen at hcm
  have hb0 : Below w.heap.size w (w.alloc (.cells (prjV e A l.length c) 25)) := (Below.refl _ _).alloc (Nat.le_refl _) _
  have HK0 : Hid (Blk (w.alloc (.cells (prjV e A l.length c) 25)) w.heap.size 25 (prjV e A l.length c)) := Blk.newAt rfl _ _
  have HS := Lib.hid (Rp.sl_below hs hb0 hD)
  have HB := Lib.hid hb0
  have HD := Lib.hid (fun k hk => Nat.lt_of_lt_of_le (hD k hk) hb0.size)
  clear hs hD hb0
  have HNO := Lib.hid (show ¬ (POk (e, l) ∧ PosOk x) from fun h => h2 h.2)
  have H1 := Lib.hid h1
  clear h1
  have H2 := Lib.hid h2
  clear h2
  go_enter Try.func4, Try.ntmps4
  go_wp2_with fail
  generalize World.alloc w _ = w0 at *
  have hl0 := (show Blk _ _ _ _ from HK0.out).lt
  have hz0 := HB.out.size
  have B0 : Hid (Below w0.heap.size w0 w0) := Below.refl _ _
  refine (plong_any (e := e) HS.out HD.out).mono ?_; rintro en w1 ⟨bb, rfl, hb⟩
  have hbn := hb
  have hk0 := Blk.below (show Blk _ _ _ _ from HK0.out) hbn hl0
  have e0 : w1.cell? ⟨w.heap.size, 0, none⟩ = some (.int .u64 (e : Int)) := hk0.cell 0
  have e1 : w1.cell? ⟨w.heap.size, 1, none⟩ = some (.slice A l.length c) := hk0.cell 1
  have B1 := Lib.hid hbn
  clear hb hbn hk0
  cases bb
  case true =>
    go_wp2_with fail
    refine (lclive_any _).mono ?_; rintro en w2 ⟨rfl, hb⟩
    go_wp2_with fail
    go_ret
    exact ⟨rfl, HB.out.trans ((B1.out.trans (hb.mono B1.out.size)).mono hz0)⟩
  go_wp2_with fail
  clear e0 e1
  refine (lstripe_bad x (Rp.sl_below HS.out B1.out HD.out) (fun k hk => Nat.lt_of_lt_of_le (HD.out k hk) B1.out.size) he hx HNO.out).mono ?_; rintro en w2 ⟨rfl, hb⟩
  have hbn := B1.out.trans (hb.mono B1.out.size)
  have hk0 := Blk.below (show Blk _ _ _ _ from HK0.out) hbn hl0
  have e0 : w2.cell? ⟨w.heap.size, 0, none⟩ = some (.int .u64 (e : Int)) := hk0.cell 0
  have e1 : w2.cell? ⟨w.heap.size, 1, none⟩ = some (.slice A l.length c) := hk0.cell 1
  have B2 := Lib.hid hbn
  clear hb hbn hk0
  go_wp2_with fail
  clear e0 e1
  refine (at_bad x 17 (Rp.sl_below HS.out B2.out HD.out) (fun k hk => Nat.lt_of_lt_of_le (HD.out k hk) B2.out.size) he hx (.inr ⟨H1.out, H2.out, rfl⟩)).mono ?_; rintro en w3 ⟨rfl, hb⟩
  have hb3 := B2.out.trans (hb.mono B2.out.size)
  have hba : Below w3.heap.size w3 (w3.alloc (.cells plcZ 48)) := (Below.refl _ _).alloc (Nat.le_refl _) _
  have HKP := Lib.hid (Blk.new w3 48 plcZ)
  have hbn := hb3.trans (hba.mono hb3.size)
  have hk0 := (Blk.below (show Blk _ _ _ _ from HK0.out) hb3 hl0).alloc (.cells plcZ 48)
  have e0 : (w3.alloc (.cells plcZ 48)).cell? ⟨w.heap.size, 0, none⟩ = some (.int .u64 (e : Int)) := hk0.cell 0
  have e1 : (w3.alloc (.cells plcZ 48)).cell? ⟨w.heap.size, 1, none⟩ = some (.slice A l.length c) := hk0.cell 1
  have B4 := Lib.hid hbn
  clear hb hbn hk0 hba hb3
  go_wp2_with fail
  generalize (w3.alloc (.cells plcZ 48)) = w4 at *
  try clear e0 e1
  refine (which_bad x (Rp.sl_below HS.out B4.out HD.out) (fun k hk => Nat.lt_of_lt_of_le (HD.out k hk) B4.out.size) he hx HNO.out).mono ?_; rintro en w5 ⟨rfl, hb⟩
  have hbn := B4.out.trans (hb.mono B4.out.size)
  have hk0 := Blk.below (show Blk _ _ _ _ from HK0.out) hbn hl0
  have e0 : w5.cell? ⟨w.heap.size, 0, none⟩ = some (.int .u64 (e : Int)) := hk0.cell 0
  have e1 : w5.cell? ⟨w.heap.size, 1, none⟩ = some (.slice A l.length c) := hk0.cell 1
  have B5 := Lib.hid hbn
  have hkp := Blk.below (show Blk _ _ _ _ from HKP.out) hb (show Blk _ _ _ _ from HKP.out).lt
  have HKP5 := Lib.hid hkp
  clear hkp
  clear hb hbn hk0
  go_wp2_with fail
  have hc := rpright_any (Rp.sl_below HS.out B5.out HD.out) (fun k hk => Nat.lt_of_lt_of_le (HD.out k hk) B5.out.size) he
  rw [dec_true H1.out] at hc
  have HC2 := Lib.hid hc
  clear hc
  clear e0 e1
  refine (HC2.out).mono ?_; rintro en w6 ⟨rfl, hb⟩
  have hbn := B5.out.trans (hb.mono B5.out.size)
  have hk0 := Blk.below (show Blk _ _ _ _ from HK0.out) hbn hl0
  have e0 : w6.cell? ⟨w.heap.size, 0, none⟩ = some (.int .u64 (e : Int)) := hk0.cell 0
  have e1 : w6.cell? ⟨w.heap.size, 1, none⟩ = some (.slice A l.length c) := hk0.cell 1
  have B6 := Lib.hid hbn
  have hkp := Blk.below (show Blk _ _ _ _ from HKP5.out) hb (show Blk _ _ _ _ from HKP5.out).lt
  have HKP6 := Lib.hid hkp
  clear hkp
  clear hb hbn hk0
  have u0 : w6.cell? ⟨w3.heap.size, 0, none⟩ = some (.int .i64 0) := (show Blk _ _ _ _ from HKP6.out).cell 0
  have u1 : w6.cell? ⟨w3.heap.size, 1, none⟩ = some (.int .i64 0) := (show Blk _ _ _ _ from HKP6.out).cell 1
  have u2 : w6.cell? ⟨w3.heap.size, 2, none⟩ = some (.int .u64 0) := (show Blk _ _ _ _ from HKP6.out).cell 2
  have u3 : w6.cell? ⟨w3.heap.size, 3, none⟩ = some (.slice none 0 0) := (show Blk _ _ _ _ from HKP6.out).cell 3
  go_wp2_with fail
  clear e0 e1 u0 u1 u2 u3
  refine (lclive_any _).mono ?_; rintro en w7 ⟨rfl, hb⟩
  go_wp2_with fail
  go_ret
  exact ⟨rfl, HB.out.trans ((B6.out.trans (hb.mono B6.out.size)).mono hz0)⟩
set_option maxRecDepth 100000 in
set_option maxHeartbeats 4000000 in
theorem lplaces_in (x : Nat) (hok : POk (e, l)) (hpos : PosOk x) (hs : rpStp.sl w D A l.length c l) (hD : ∀ k, D k → k < w.heap.size) (he : e ≤ 18446744073709551615) (hx : x ≤ 18446744073709551615) :
    Calls Try.prog 4 #[.agg (prjV e A l.length c), .int .u64 (x : Int)] w fun en w' => en = .returned (.bool true) ∧ Below w.heap.size w w' := by
  obtain ⟨_, hnc, hcm⟩ := Rp.sl_len hs
  unfold maxLen at hcm
  have hb0 : Below w.heap.size w (w.alloc (.cells (prjV e A l.length c) 25)) := (Below.refl _ _).alloc (Nat.le_refl _) _
  have HK0 : Hid (Blk (w.alloc (.cells (prjV e A l.length c) 25)) w.heap.size 25 (prjV e A l.length c)) := Blk.newAt rfl _ _
  have HS := Lib.hid (Rp.sl_below hs hb0 hD)
  have HB := Lib.hid hb0
  have HD := Lib.hid (fun k hk => Nat.lt_of_lt_of_le (hD k hk) hb0.size)
  clear hs hD hb0
  have HOK := Lib.hid hok
  have HPO := Lib.hid hpos
  clear hok hpos
  go_enter Try.func4, Try.ntmps4
  go_wp2_with fail
  generalize World.alloc w _ = w0 at *
  have hl0 := (show Blk _ _ _ _ from HK0.out).lt
  have hz0 := HB.out.size
  have B0 : Hid (Below w0.heap.size w0 w0) := Below.refl _ _
  refine (plong_any (e := e) HS.out HD.out).mono ?_; rintro en w1 ⟨bb, rfl, hb⟩
  have hbn := hb
  have hk0 := Blk.below (show Blk _ _ _ _ from HK0.out) hbn hl0
  have e0 : w1.cell? ⟨w.heap.size, 0, none⟩ = some (.int .u64 (e : Int)) := hk0.cell 0
  have e1 : w1.cell? ⟨w.heap.size, 1, none⟩ = some (.slice A l.length c) := hk0.cell 1
  have B1 := Lib.hid hbn
  clear hb hbn hk0
  cases bb
  case true =>
    go_wp2_with fail
    refine (lclive_any _).mono ?_; rintro en w2 ⟨rfl, hb⟩
    go_wp2_with fail
    go_ret
    exact ⟨rfl, HB.out.trans ((B1.out.trans (hb.mono B1.out.size)).mono hz0)⟩
  go_wp2_with fail
  clear e0 e1
  refine (lstripe_any x (Rp.sl_below HS.out B1.out HD.out) (fun k hk => Nat.lt_of_lt_of_le (HD.out k hk) B1.out.size) he hx HOK.out HPO.out).mono ?_; rintro en w2 ⟨r, s, rfl, hin, hb⟩
  have hbn := B1.out.trans (hb.mono B1.out.size)
  have hk0 := Blk.below (show Blk _ _ _ _ from HK0.out) hbn hl0
  have e0 : w2.cell? ⟨w.heap.size, 0, none⟩ = some (.int .u64 (e : Int)) := hk0.cell 0
  have e1 : w2.cell? ⟨w.heap.size, 1, none⟩ = some (.slice A l.length c) := hk0.cell 1
  have B2 := Lib.hid hbn
  have HIN := Lib.hid hin
  clear hin
  clear hb hbn hk0
  go_wp2_with fail
  clear e0 e1
  refine (at_ok x (Rp.sl_below HS.out B2.out HD.out) (fun k hk => Nat.lt_of_lt_of_le (HD.out k hk) B2.out.size) he hx HOK.out HPO.out).mono ?_; rintro en w3 ⟨r', K, N, nd, A2, n2, c2, D2, rfl, hpl, hs2, hd2, hb⟩
  obtain ⟨s', hin', hso, hKe, hNe, hnd⟩ := hpl
  obtain ⟨rfl, rfl⟩ := inStripe_unique HOK.out hin' HIN.out
  have hn2 := (Rp.sl_len hs2).1
  obtain ⟨n3, hn3⟩ : ∃ n3, n3 = nd.length := ⟨_, rfl⟩
  rw [← hn3] at hn2
  obtain rfl : n2 = n3 := hn2.symm
  have hb3 := B2.out.trans (hb.mono B2.out.size)
  have hba : Below w3.heap.size w3 (w3.alloc (.cells #[.int .i64 (r' : Int), .int .i64 (K : Int), .int .u64 (N : Int), .slice A2 n2 c2] 48)) := (Below.refl _ _).alloc (Nat.le_refl _) _
  have HKP := Lib.hid (Blk.new w3 48 #[.int .i64 (r' : Int), .int .i64 (K : Int), .int .u64 (N : Int), .slice A2 n2 c2])
  have hbn := hb3.trans (hba.mono hb3.size)
  have hk0 := (Blk.below (show Blk _ _ _ _ from HK0.out) hb3 hl0).alloc (.cells #[.int .i64 (r' : Int), .int .i64 (K : Int), .int .u64 (N : Int), .slice A2 n2 c2] 48)
  have e0 : (w3.alloc (.cells #[.int .i64 (r' : Int), .int .i64 (K : Int), .int .u64 (N : Int), .slice A2 n2 c2] 48)).cell? ⟨w.heap.size, 0, none⟩ = some (.int .u64 (e : Int)) := hk0.cell 0
  have e1 : (w3.alloc (.cells #[.int .i64 (r' : Int), .int .i64 (K : Int), .int .u64 (N : Int), .slice A2 n2 c2] 48)).cell? ⟨w.heap.size, 1, none⟩ = some (.slice A l.length c) := hk0.cell 1
  have B4 := Lib.hid hbn
  have HS2 := Lib.hid (Rp.sl_below hs2 hba (fun k hk => (hd2 k hk).2))
  have HD2 := Lib.hid (fun k (hk : D2 k) => Nat.lt_of_lt_of_le (hd2 k hk).2 hba.size)
  -- the stripe's cells, wherever it lies
  obtain ⟨b, off, t, A3, c3, hA, hb3d, hsk, g0, g1, g2, hrow, hs3, hs4⟩ := stps_at (Rp.sl_below HS.out hbn HD.out) (show r' < l.length from (List.getElem?_eq_some_iff.1 HIN.out.1).1)
  obtain rfl : t = s' := by have h1 := HIN.out.1; rw [hsk] at h1; injection h1
  obtain ⟨nd', A5, c5, hnd', hs5, hnod⟩ := rnodes_ok (e := e) x (Rp.sl_below HS.out hbn HD.out) (fun k hk => Nat.lt_of_lt_of_le (HD.out k hk) hbn.size) he hx HOK.out HPO.out HIN.out
  obtain rfl : nd = nd' := by rw [← hKe, hnd] at hnd'; injection hnd'
  rw [← hn3] at hs5 hnod
  have hbk : back t (K : Int) N = (x, true) := by rw [hKe, hNe]; exact dealt_back hso HIN.out.2.1 HIN.out.2.2
  have hpa : posAt l (r' : Int) (K : Int) N = (x, true) := by rw [posAt_in _ _ HIN.out.1]; exact hbk
  obtain ⟨m, hm⟩ : ∃ m, m = t.2.2.length := ⟨_, rfl⟩
  obtain ⟨f, hf⟩ : ∃ f, f = t.1 := ⟨_, rfl⟩
  obtain ⟨u, hu⟩ : ∃ u, u = t.2.1 := ⟨_, rfl⟩
  have hm1 : 1 ≤ m := by rw [hm]; exact hso.2.2.1
  have hm8 : m ≤ 8 := by rw [hm]; exact hso.2.2.2.1
  have hfx : f ≤ x := by rw [hf]; exact HIN.out.2.1
  have hr64 : r' < 64 := by have h1 := (List.getElem?_eq_some_iff.1 HIN.out.1).1; have h2 := HOK.out.1.1.2.2; dsimp only at h2; omega
  have hrl : r' < l.length := (List.getElem?_eq_some_iff.1 HIN.out.1).1
  rw [← hm] at g2 hKe hNe
  rw [← hf] at g0 hs3 hKe hNe
  rw [← hu] at g1 hs4
  have hKm : K < m := by rw [hKe]; exact Nat.mod_lt _ (by omega)
  obtain ⟨d, hd⟩ : ∃ d : Nat, d = x - f := ⟨_, rfl⟩
  rw [← hd] at hKe hNe
  have HKE := Lib.hid hKe
  have HNE := Lib.hid hNe
  have HDD := Lib.hid hd
  have hNd : N ≤ d := by rw [hNe]; exact Nat.div_le_self _ _
  have hdl : d ≤ 18446744073709551615 := by omega
  have hbz := Nat.lt_of_lt_of_le (HD.out b hb3d) hbn.size
  have HG := Lib.hid (And.intro g0 (And.intro g1 g2))
  have HPA := Lib.hid hpa
  have HS5 := Lib.hid hs5
  have HNOD := Lib.hid hnod
  have HA := Lib.hid hA
  clear hn3 hb hbn hk0 hba hb3 hs2 hd2 hin' hso hKe hNe hnd hnd' hs5 hnod hbk hpa hm hf hu hd hb3d hsk g0 g1 g2 hrow hs3 hs4 hA
  go_wp2_with fail
  generalize (w3.alloc (.cells #[.int .i64 (r' : Int), .int .i64 (K : Int), .int .u64 (N : Int), .slice A2 n2 c2] 48)) = w4 at *
  have hmx : (if (r' : Int) < 0 then (0 : Int) else (r' : Int)) = (r' : Int) := by split <;> omega
  have hr0 : decide ((0 : Int) ≤ (r' : Int)) = true := by simp
  have hr1 : decide ((r' : Int) < 0) = false := by simp
  have hrI0 : (0 : Int) ≤ (r' : Int) := by omega
  have hrI1 : (r' : Int) < (l.length : Int) := by omega
  try clear e0 e1
  refine (which_ok x (Rp.sl_below HS.out B4.out HD.out) (fun k hk => Nat.lt_of_lt_of_le (HD.out k hk) B4.out.size) he hx HOK.out HPO.out HIN.out).mono ?_; rintro en w5 ⟨rfl, hb⟩
  have hbn := B4.out.trans (hb.mono B4.out.size)
  have hk0 := Blk.below (show Blk _ _ _ _ from HK0.out) hbn hl0
  have e0 : w5.cell? ⟨w.heap.size, 0, none⟩ = some (.int .u64 (e : Int)) := hk0.cell 0
  have e1 : w5.cell? ⟨w.heap.size, 1, none⟩ = some (.slice A l.length c) := hk0.cell 1
  have B5 := Lib.hid hbn
  have hkp := Blk.below (show Blk _ _ _ _ from HKP.out) hb (show Blk _ _ _ _ from HKP.out).lt
  have HKP5 := Lib.hid hkp
  have BF5 := Lib.hid (hb)
  clear hkp
  clear hb hbn hk0
  have p0 := (BF5.out.cell (p := ⟨b, off + r' * 3, none⟩) hbz).trans HG.out.1
  have p1 := (BF5.out.cell (p := ⟨b, off + r' * 3 + 1, none⟩) hbz).trans HG.out.2.1
  have p2 := (BF5.out.cell (p := ⟨b, off + r' * 3 + 2, none⟩) hbz).trans HG.out.2.2
  have hk0s := (Blk.below (show Blk _ _ _ _ from HK0.out) B5.out hl0).alloc (.cells #[.int .u64 (f : Int), .int .u64 (u : Int), .slice A3 m c3] 31)
  have hkps := (show Blk _ _ _ _ from HKP5.out).alloc (.cells #[.int .u64 (f : Int), .int .u64 (u : Int), .slice A3 m c3] 31)
  have hkss := Blk.new w5 31 #[.int .u64 (f : Int), .int .u64 (u : Int), .slice A3 m c3]
  have hb6 : Below w5.heap.size w5 (w5.alloc (.cells #[.int .u64 (f : Int), .int .u64 (u : Int), .slice A3 m c3] 31)) := (Below.refl _ _).alloc (Nat.le_refl _) _
  have u0 : (w5.alloc (.cells #[.int .u64 (f : Int), .int .u64 (u : Int), .slice A3 m c3] 31)).cell? ⟨w3.heap.size, 0, none⟩ = some (.int .i64 (r' : Int)) := hkps.cell 0
  have u1 : (w5.alloc (.cells #[.int .u64 (f : Int), .int .u64 (u : Int), .slice A3 m c3] 31)).cell? ⟨w3.heap.size, 1, none⟩ = some (.int .i64 (K : Int)) := hkps.cell 1
  have u2 : (w5.alloc (.cells #[.int .u64 (f : Int), .int .u64 (u : Int), .slice A3 m c3] 31)).cell? ⟨w3.heap.size, 2, none⟩ = some (.int .u64 (N : Int)) := hkps.cell 2
  have v0 : (w5.alloc (.cells #[.int .u64 (f : Int), .int .u64 (u : Int), .slice A3 m c3] 31)).cell? ⟨w.heap.size, 0, none⟩ = some (.int .u64 (e : Int)) := hk0s.cell 0
  have v1 : (w5.alloc (.cells #[.int .u64 (f : Int), .int .u64 (u : Int), .slice A3 m c3] 31)).cell? ⟨w.heap.size, 1, none⟩ = some (.slice A l.length c) := hk0s.cell 1
  have HKS := Lib.hid hkss
  have HKP6 := Lib.hid hkps
  have HK06 := Lib.hid hk0s
  have B6 := Lib.hid (B5.out.trans (hb6.mono B5.out.size))
  have BF6 := Lib.hid (BF5.out.trans (hb6.mono BF5.out.size))
  clear hk0s hkps hkss hb6
  have hA := HA.out
  subst hA
  go_wp2_with fail
  generalize (w5.alloc (.cells #[.int .u64 (f : Int), .int .u64 (u : Int), .slice A3 m c3] 31)) = w6 at *
  clear e0 e1 p0 p1 p2 u0 u1 u2 v0 v1
  have hc := pos_any (r' : Int) (K : Int) N (Rp.sl_below HS.out B6.out HD.out) (fun k hk => Nat.lt_of_lt_of_le (HD.out k hk) B6.out.size) he (by omega) HOK.out (by omega) (by omega)
  rw [HPA.out] at hc
  have HC6 := Lib.hid hc
  clear hc
  refine HC6.out.mono ?_; rintro en w7 ⟨rfl, hb⟩
  have hbn := B6.out.trans (hb.mono B6.out.size)
  have BF7 := Lib.hid (BF6.out.trans (hb.mono BF6.out.size))
  have hk0 := Blk.below (show Blk _ _ _ _ from HK06.out) hb (show Blk _ _ _ _ from HK06.out).lt
  have hkp := Blk.below (show Blk _ _ _ _ from HKP6.out) hb (show Blk _ _ _ _ from HKP6.out).lt
  have hks := Blk.below (show Blk _ _ _ _ from HKS.out) hb (show Blk _ _ _ _ from HKS.out).lt
  have B7 := Lib.hid hbn
  clear hb hbn
  go_wp2_with fail
  have e0 : ∀ q : Gr w7.heap.size w7, q.val.cell? ⟨w.heap.size, 0, none⟩ = some (.int .u64 (e : Int)) := fun q => (q.is.cell (p := ⟨w.heap.size, 0, none⟩) hk0.lt).trans (hk0.cell 0)
  have e1 : ∀ q : Gr w7.heap.size w7, q.val.cell? ⟨w.heap.size, 1, none⟩ = some (.slice (some ⟨b, off, none⟩) l.length c) := fun q => (q.is.cell (p := ⟨w.heap.size, 1, none⟩) hk0.lt).trans (hk0.cell 1)
  have u0 : ∀ q : Gr w7.heap.size w7, q.val.cell? ⟨w3.heap.size, 0, none⟩ = some (.int .i64 (r' : Int)) := fun q => (q.is.cell (p := ⟨w3.heap.size, 0, none⟩) hkp.lt).trans (hkp.cell 0)
  have u1 : ∀ q : Gr w7.heap.size w7, q.val.cell? ⟨w3.heap.size, 1, none⟩ = some (.int .i64 (K : Int)) := fun q => (q.is.cell (p := ⟨w3.heap.size, 1, none⟩) hkp.lt).trans (hkp.cell 1)
  have u2 : ∀ q : Gr w7.heap.size w7, q.val.cell? ⟨w3.heap.size, 2, none⟩ = some (.int .u64 (N : Int)) := fun q => (q.is.cell (p := ⟨w3.heap.size, 2, none⟩) hkp.lt).trans (hkp.cell 2)
  have u3 : ∀ q : Gr w7.heap.size w7, q.val.cell? ⟨w3.heap.size, 3, none⟩ = some (.slice A2 n2 c2) := fun q => (q.is.cell (p := ⟨w3.heap.size, 3, none⟩) hkp.lt).trans (hkp.cell 3)
  have v0 : ∀ q : Gr w7.heap.size w7, q.val.cell? ⟨w5.heap.size, 0, none⟩ = some (.int .u64 (f : Int)) := fun q => (q.is.cell (p := ⟨w5.heap.size, 0, none⟩) hks.lt).trans (hks.cell 0)
  have hz4 := B4.out.size
  have hz7 := BF7.out.size
  have HNO := Lib.hid (fun q : Gr w7.heap.size w7 => HNOD.out q.val (BF7.out.trans (q.is.mono hz7)))
  have HSM := Lib.hid (fun q : Gr w7.heap.size w7 => by
    have h1 := same05_any (Rp.sl_below HS2.out (BF7.out.trans (q.is.mono hz7)) HD2.out) (Rp.sl_below HS5.out (BF7.out.trans (q.is.mono hz7)) (fun k hk => Nat.lt_of_lt_of_le (HD.out k hk) hz4)) (fun k hk => Nat.lt_of_lt_of_le (HD2.out k hk) (Nat.le_trans hz7 q.is.size)) (fun k hk => Nat.lt_of_lt_of_le (HD.out k hk) (Nat.le_trans hz4 (Nat.le_trans hz7 q.is.size)))
    rw [dec_true rfl] at h1
    exact h1)
  have HLV := Lib.hid (fun q : Gr w7.heap.size w7 => lclive_any q.val)
  have s1 : IntKind.u64.wrap ((x : Int) - (f : Int)) = (d : Int) := by rw [IntWalk.u64_in _ (by omega)]; have := HDD.out; omega
  have s2 : IntKind.u64.wrap (K : Int) = (K : Int) := by rw [IntWalk.u64_in _ (by omega)]
  have s3 : (d : Int).tmod (m : Int) = (K : Int) := by rw [Int.tmod_eq_emod_of_nonneg (by omega), HKE.out]; simp
  have s4 : (d : Int).tdiv (m : Int) = (N : Int) := by rw [Int.tdiv_eq_ediv_of_nonneg (by omega), HNE.out]; simp
  have s5 : IntKind.u64.wrap (N : Int) = (N : Int) := by rw [IntWalk.u64_in _ (by omega)]
  have m0 : ((m : Int) == 0) = false := by simp; omega
  have m1 : (m : Int) ≠ 0 := by omega
  have m2 : m ≠ 0 := by omega
  clear hk0 hkp hks
  refine wp_region_grow (by kernel_rfl) (by kernel_rfl) w7.heap.size ?_
  repeat (go_big_quiet_step ((first | (go_at_call 32; exact Gr.call _ (Nat.le_refl _) (HNO.out _)) | (go_at_call 31; exact Gr.call _ (Nat.le_refl _) (HSM.out _)) | (go_at_call 26; exact Gr.call _ (Nat.le_refl _) (HLV.out _)))))
  refine wpQuiet_nil ?_
  rintro w8 ⟨⟨_, hb8⟩, rfl⟩
  have HB8 := Lib.hid (B7.out.trans (hb8.mono B7.out.size))
  clear e0 e1 u0 u1 u2 u3 v0 s1 s2 s3 s4 s5 hb8
  go_wp2_with fail
  go_ret
  exact ⟨rfl, HB.out.trans (HB8.out.mono hz0)⟩
end
theorem locatePlaces_st (cs : Array Value) (x : Nat × List Stp) (p : Int) (w : World) (hx : rpPrj.ok w (lt w.heap.size) x cs.toList) (p0 : 0 ≤ p) (p1 : p ≤ 18446744073709551615) :
    Calls Try.prog 4 #[.agg cs, .int .u64 p] w fun e w' => e = .returned (.bool true) ∧ Below w.heap.size w w' := by
  obtain ⟨A, c, hcs, hs, he⟩ := prj_open hx
  obtain ⟨q, rfl⟩ : ∃ q : Nat, p = q := ⟨p.toNat, by omega⟩
  rw [agg_of hcs]
  by_cases h1 : POk (x.1, x.2)
  · by_cases h2 : PosOk q
    · exact lplaces_in q h1 h2 hs (fun k hk => hk) he (by omega)
    · exact lplaces_far q h1 h2 hs (fun k hk => hk) he (by omega)
  · exact lplaces_no q h1 hs (fun k hk => hk) he (by omega)
end Go.Proofs.Ytmdgmnaaopineaa
