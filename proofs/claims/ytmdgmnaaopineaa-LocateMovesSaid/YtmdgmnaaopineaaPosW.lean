/- The walk of the law LocatePos, case by case. NOT CLEAN YET. -/
import Derived.Test.YtmdgmnaaopineaaLocM
namespace Go.Proofs.Ytmdgmnaaopineaa
open Go.ChangeShapes Go.WideShapes Go.ChangeAt Go.RowKit
set_option linter.unusedVariables false
section
variable {D : Dom} {A : Option Addr} {c e : Nat} {l : List Stp} {w : World}
set_option maxRecDepth 100000 in
set_option maxHeartbeats 4000000 in
theorem lpos_no (r set : Int) (loc : Nat) (hno : ¬ POk (e, l)) (hs : rpStp.sl w D A l.length c l) (hD : ∀ k, D k → k < w.heap.size) (he : e ≤ 18446744073709551615) (hl : loc ≤ 18446744073709551615) (r0 : -9223372036854775808 ≤ r) (r1 : r ≤ 9223372036854775807) (s0 : -9223372036854775808 ≤ set) (s1 : set ≤ 9223372036854775807) :
    Calls Try.prog 5 #[.agg (prjV e A l.length c), .agg #[.int .i64 r, .int .i64 set], .int .u64 (loc : Int)] w fun en w' => en = .returned (.bool true) ∧ Below w.heap.size w w' := by
  obtain ⟨_, hnc, hcm⟩ := Rp.sl_len hs
  unfold maxLen at hcm
  have hb0 : Below w.heap.size w ((w.alloc (.cells (prjV e A l.length c) 25)).alloc (.cells #[.int .i64 r, .int .i64 set] 61)) := ((Below.refl _ _).alloc (Nat.le_refl _) _).alloc (by simp) _
  have HK0 : Hid (Blk ((w.alloc (.cells (prjV e A l.length c) 25)).alloc (.cells #[.int .i64 r, .int .i64 set] 61)) w.heap.size 25 (prjV e A l.length c)) := (Blk.newAt rfl _ _).alloc _
  have HK1 : Hid (Blk ((w.alloc (.cells (prjV e A l.length c) 25)).alloc (.cells #[.int .i64 r, .int .i64 set] 61)) (w.heap.size + 1) 61 #[.int .i64 r, .int .i64 set]) := Blk.newAt (size_alloc _ _) _ _
  have HS := Lib.hid (Rp.sl_below hs hb0 hD)
  have HB := Lib.hid hb0
  have HD := Lib.hid (fun k hk => Nat.lt_of_lt_of_le (hD k hk) hb0.size)
  clear hs hD hb0
  have HNO := Lib.hid hno
  clear hno
  go_enter Try.func5, Try.ntmps5
  go_wp2_with fail
  generalize World.alloc (World.alloc w _) _ = w0 at *
  have hl0 := (show Blk _ _ _ _ from HK0.out).lt
  have hl1 := (show Blk _ _ _ _ from HK1.out).lt
  have hz0 := HB.out.size
  have B0 : Hid (Below w0.heap.size w0 w0) := Below.refl _ _
  refine (plong_any (e := e) HS.out HD.out).mono ?_; rintro en w1 ⟨bb, rfl, hb⟩
  have hbn := hb
  have hk0 := Blk.below (show Blk _ _ _ _ from HK0.out) hbn hl0
  have hk1 := Blk.below (show Blk _ _ _ _ from HK1.out) hbn hl1
  have e0 : w1.cell? ⟨w.heap.size, 0, none⟩ = some (.int .u64 (e : Int)) := hk0.cell 0
  have e1 : w1.cell? ⟨w.heap.size, 1, none⟩ = some (.slice A l.length c) := hk0.cell 1
  have t0 : w1.cell? ⟨w.heap.size + 1, 0, none⟩ = some (.int .i64 r) := hk1.cell 0
  have t1 : w1.cell? ⟨w.heap.size + 1, 1, none⟩ = some (.int .i64 set) := hk1.cell 1
  have B1 := Lib.hid hbn
  clear hb hbn hk0 hk1
  cases bb
  case true =>
    go_wp2_with fail
    refine (lclive_any _).mono ?_; rintro en w2 ⟨rfl, hb⟩
    go_wp2_with fail
    go_ret
    exact ⟨rfl, HB.out.trans ((B1.out.trans (hb.mono B1.out.size)).mono hz0)⟩
  go_wp2_with fail
  clear e0 e1 t0 t1
  refine (pos_bad r set loc (Rp.sl_below HS.out B1.out HD.out) (fun k hk => Nat.lt_of_lt_of_le (HD.out k hk) B1.out.size) he HNO.out).mono ?_; rintro en w2 ⟨rfl, hb⟩
  have hbn := B1.out.trans (hb.mono B1.out.size)
  have hk0 := Blk.below (show Blk _ _ _ _ from HK0.out) hbn hl0
  have hk1 := Blk.below (show Blk _ _ _ _ from HK1.out) hbn hl1
  have e0 : w2.cell? ⟨w.heap.size, 0, none⟩ = some (.int .u64 (e : Int)) := hk0.cell 0
  have e1 : w2.cell? ⟨w.heap.size, 1, none⟩ = some (.slice A l.length c) := hk0.cell 1
  have t0 : w2.cell? ⟨w.heap.size + 1, 0, none⟩ = some (.int .i64 r) := hk1.cell 0
  have t1 : w2.cell? ⟨w.heap.size + 1, 1, none⟩ = some (.int .i64 set) := hk1.cell 1
  have B2 := Lib.hid hbn
  clear hb hbn hk0 hk1
  go_wp2_with fail
  have hc := rpright_any (Rp.sl_below HS.out B2.out HD.out) (fun k hk => Nat.lt_of_lt_of_le (HD.out k hk) B2.out.size) he
  rw [dec_false HNO.out] at hc
  have HC2 := Lib.hid hc
  clear hc
  clear e0 e1 t0 t1
  refine (HC2.out).mono ?_; rintro en w3 ⟨rfl, hb⟩
  have hbn := B2.out.trans (hb.mono B2.out.size)
  have hk0 := Blk.below (show Blk _ _ _ _ from HK0.out) hbn hl0
  have hk1 := Blk.below (show Blk _ _ _ _ from HK1.out) hbn hl1
  have e0 : w3.cell? ⟨w.heap.size, 0, none⟩ = some (.int .u64 (e : Int)) := hk0.cell 0
  have e1 : w3.cell? ⟨w.heap.size, 1, none⟩ = some (.slice A l.length c) := hk0.cell 1
  have t0 : w3.cell? ⟨w.heap.size + 1, 0, none⟩ = some (.int .i64 r) := hk1.cell 0
  have t1 : w3.cell? ⟨w.heap.size + 1, 1, none⟩ = some (.int .i64 set) := hk1.cell 1
  have B3 := Lib.hid hbn
  clear hb hbn hk0 hk1
  go_wp2_with fail
  clear e0 e1 t0 t1
  refine (lclive_any _).mono ?_; rintro en w4 ⟨rfl, hb⟩
  go_wp2_with fail
  go_ret
  exact ⟨rfl, HB.out.trans ((B3.out.trans (hb.mono B3.out.size)).mono hz0)⟩
set_option maxRecDepth 100000 in
set_option maxHeartbeats 4000000 in
theorem lpos_in (r set : Int) (loc : Nat) (hok : POk (e, l)) (hfd : ∃ (q : Nat) (s : Stp), r = q ∧ l[q]? = some s ∧ loc < share s set) (hs : rpStp.sl w D A l.length c l) (hD : ∀ k, D k → k < w.heap.size) (he : e ≤ 18446744073709551615) (hl : loc ≤ 18446744073709551615) (r0 : -9223372036854775808 ≤ r) (r1 : r ≤ 9223372036854775807) (s0 : -9223372036854775808 ≤ set) (s1 : set ≤ 9223372036854775807) :
    Calls Try.prog 5 #[.agg (prjV e A l.length c), .agg #[.int .i64 r, .int .i64 set], .int .u64 (loc : Int)] w fun en w' => en = .returned (.bool true) ∧ Below w.heap.size w w' := by
  obtain ⟨_, hnc, hcm⟩ := Rp.sl_len hs
  unfold maxLen at hcm
  have hb0 : Below w.heap.size w ((w.alloc (.cells (prjV e A l.length c) 25)).alloc (.cells #[.int .i64 r, .int .i64 set] 61)) := ((Below.refl _ _).alloc (Nat.le_refl _) _).alloc (by simp) _
  have HK0 : Hid (Blk ((w.alloc (.cells (prjV e A l.length c) 25)).alloc (.cells #[.int .i64 r, .int .i64 set] 61)) w.heap.size 25 (prjV e A l.length c)) := (Blk.newAt rfl _ _).alloc _
  have HK1 : Hid (Blk ((w.alloc (.cells (prjV e A l.length c) 25)).alloc (.cells #[.int .i64 r, .int .i64 set] 61)) (w.heap.size + 1) 61 #[.int .i64 r, .int .i64 set]) := Blk.newAt (size_alloc _ _) _ _
  have HS := Lib.hid (Rp.sl_below hs hb0 hD)
  have HB := Lib.hid hb0
  have HD := Lib.hid (fun k hk => Nat.lt_of_lt_of_le (hD k hk) hb0.size)
  clear hs hD hb0
  have HOK := Lib.hid hok
  obtain ⟨q, s, rfl, hq, hlt⟩ := hfd
  obtain ⟨P, hP⟩ : ∃ P : Nat, P = (back s set loc).1 := ⟨_, rfl⟩
  have hpa : posAt l (q : Int) set loc = (P, true) := by rw [posAt_in set loc hq, hP, ← (back_iff (s := s)).2 hlt]
  have hPb : P < 4611686018427387904 := by
    obtain ⟨j, rfl, hj, hbk, hin, _⟩ := back_dealt hlt
    have h1 : s.2.1 ≤ 4611686018427387904 := ((HOK.out.1.2 q s (List.getElem?_eq_some_iff.1 hq).1 hq).1).2.1
    rw [hP, hbk]; dsimp only; omega
  have HPA := Lib.hid hpa
  have HP := Lib.hid hP
  have HQ := Lib.hid hq
  have HLT := Lib.hid hlt
  clear hok hpa hP hq hlt
  go_enter Try.func5, Try.ntmps5
  go_wp2_with fail
  generalize World.alloc (World.alloc w _) _ = w0 at *
  have hl0 := (show Blk _ _ _ _ from HK0.out).lt
  have hl1 := (show Blk _ _ _ _ from HK1.out).lt
  have hz0 := HB.out.size
  have B0 : Hid (Below w0.heap.size w0 w0) := Below.refl _ _
  refine (plong_any (e := e) HS.out HD.out).mono ?_; rintro en w1 ⟨bb, rfl, hb⟩
  have hbn := hb
  have hk0 := Blk.below (show Blk _ _ _ _ from HK0.out) hbn hl0
  have hk1 := Blk.below (show Blk _ _ _ _ from HK1.out) hbn hl1
  have e0 : w1.cell? ⟨w.heap.size, 0, none⟩ = some (.int .u64 (e : Int)) := hk0.cell 0
  have e1 : w1.cell? ⟨w.heap.size, 1, none⟩ = some (.slice A l.length c) := hk0.cell 1
  have t0 : w1.cell? ⟨w.heap.size + 1, 0, none⟩ = some (.int .i64 (q : Int)) := hk1.cell 0
  have t1 : w1.cell? ⟨w.heap.size + 1, 1, none⟩ = some (.int .i64 set) := hk1.cell 1
  have B1 := Lib.hid hbn
  clear hb hbn hk0 hk1
  cases bb
  case true =>
    go_wp2_with fail
    refine (lclive_any _).mono ?_; rintro en w2 ⟨rfl, hb⟩
    go_wp2_with fail
    go_ret
    exact ⟨rfl, HB.out.trans ((B1.out.trans (hb.mono B1.out.size)).mono hz0)⟩
  go_wp2_with fail
  have hc := pos_any (q : Int) set loc (Rp.sl_below HS.out B1.out HD.out) (fun k hk => Nat.lt_of_lt_of_le (HD.out k hk) B1.out.size) he hl HOK.out r0 r1
  rw [HPA.out] at hc
  have HC1 := Lib.hid hc
  clear hc
  clear e0 e1 t0 t1
  refine (HC1.out).mono ?_; rintro en w2 ⟨rfl, hb⟩
  have hbn := B1.out.trans (hb.mono B1.out.size)
  have hk0 := Blk.below (show Blk _ _ _ _ from HK0.out) hbn hl0
  have hk1 := Blk.below (show Blk _ _ _ _ from HK1.out) hbn hl1
  have e0 : w2.cell? ⟨w.heap.size, 0, none⟩ = some (.int .u64 (e : Int)) := hk0.cell 0
  have e1 : w2.cell? ⟨w.heap.size, 1, none⟩ = some (.slice A l.length c) := hk0.cell 1
  have t0 : w2.cell? ⟨w.heap.size + 1, 0, none⟩ = some (.int .i64 (q : Int)) := hk1.cell 0
  have t1 : w2.cell? ⟨w.heap.size + 1, 1, none⟩ = some (.int .i64 set) := hk1.cell 1
  have B2 := Lib.hid hbn
  clear hb hbn hk0 hk1
  go_wp2_with fail
  have hc := rpright_any (Rp.sl_below HS.out B2.out HD.out) (fun k hk => Nat.lt_of_lt_of_le (HD.out k hk) B2.out.size) he
  rw [dec_true HOK.out] at hc
  have HC2 := Lib.hid hc
  clear hc
  clear e0 e1 t0 t1
  refine (HC2.out).mono ?_; rintro en w3 ⟨rfl, hb⟩
  have hbn := B2.out.trans (hb.mono B2.out.size)
  have hk0 := Blk.below (show Blk _ _ _ _ from HK0.out) hbn hl0
  have hk1 := Blk.below (show Blk _ _ _ _ from HK1.out) hbn hl1
  have e0 : w3.cell? ⟨w.heap.size, 0, none⟩ = some (.int .u64 (e : Int)) := hk0.cell 0
  have e1 : w3.cell? ⟨w.heap.size, 1, none⟩ = some (.slice A l.length c) := hk0.cell 1
  have t0 : w3.cell? ⟨w.heap.size + 1, 0, none⟩ = some (.int .i64 (q : Int)) := hk1.cell 0
  have t1 : w3.cell? ⟨w.heap.size + 1, 1, none⟩ = some (.int .i64 set) := hk1.cell 1
  have B3 := Lib.hid hbn
  clear hb hbn hk0 hk1
  go_wp2_with fail
  clear e0 e1 t0 t1
  refine (at_ok P (Rp.sl_below HS.out B3.out HD.out) (fun k hk => Nat.lt_of_lt_of_le (HD.out k hk) B3.out.size) he (by omega) HOK.out hPb).mono ?_; rintro en w4 ⟨r', K, N, nd, A2, n2, c2, D2, rfl, hpl, _, _, hb⟩
  obtain ⟨rfl, hKe, rfl⟩ := place_back HOK.out HQ.out HLT.out HP.out hpl
  subst hKe
  have hbn := B3.out.trans (hb.mono B3.out.size)
  have hk0 := Blk.below (show Blk _ _ _ _ from HK0.out) hbn hl0
  have hk1 := Blk.below (show Blk _ _ _ _ from HK1.out) hbn hl1
  have e0 : w4.cell? ⟨w.heap.size, 0, none⟩ = some (.int .u64 (e : Int)) := hk0.cell 0
  have e1 : w4.cell? ⟨w.heap.size, 1, none⟩ = some (.slice A l.length c) := hk0.cell 1
  have t0 : w4.cell? ⟨w.heap.size + 1, 0, none⟩ = some (.int .i64 (r' : Int)) := hk1.cell 0
  have t1 : w4.cell? ⟨w.heap.size + 1, 1, none⟩ = some (.int .i64 (K : Int)) := hk1.cell 1
  have B4 := Lib.hid hbn
  have hka0 := (Blk.below (show Blk _ _ _ _ from HK1.out) hbn hl1).alloc (.cells #[.int .i64 (r' : Int), .int .i64 (K : Int), .int .u64 (N : Int), .slice A2 n2 c2] 48)
  have u0 := hka0.cell 0
  have u1 := hka0.cell 1
  have hb5 : Below w4.heap.size w4 (w4.alloc (.cells #[.int .i64 (r' : Int), .int .i64 (K : Int), .int .u64 (N : Int), .slice A2 n2 c2] 48)) := (Below.refl _ _).alloc (Nat.le_refl _) _
  have HB5 := Lib.hid hb5
  clear hb hbn hk0 hk1 hpl hka0 hb5
  go_wp2_with fail
  clear e0 e1 t0 t1 u0 u1
  refine (lclive_any _).mono ?_; rintro en w6 ⟨rfl, hb⟩
  go_wp2_with fail
  go_ret
  have h1 := B4.out.trans (HB5.out.mono B4.out.size)
  exact ⟨rfl, HB.out.trans ((h1.trans (hb.mono h1.size)).mono hz0)⟩
set_option maxRecDepth 100000 in
set_option maxHeartbeats 4000000 in
theorem lpos_neg (r set : Int) (loc : Nat) (hok : POk (e, l)) (hr : r < 0) (hs : rpStp.sl w D A l.length c l) (hD : ∀ k, D k → k < w.heap.size) (he : e ≤ 18446744073709551615) (hl : loc ≤ 18446744073709551615) (r0 : -9223372036854775808 ≤ r) (r1 : r ≤ 9223372036854775807) (s0 : -9223372036854775808 ≤ set) (s1 : set ≤ 9223372036854775807) :
    Calls Try.prog 5 #[.agg (prjV e A l.length c), .agg #[.int .i64 r, .int .i64 set], .int .u64 (loc : Int)] w fun en w' => en = .returned (.bool true) ∧ Below w.heap.size w w' := by
  obtain ⟨_, hnc, hcm⟩ := Rp.sl_len hs
  unfold maxLen at hcm
  have hb0 : Below w.heap.size w ((w.alloc (.cells (prjV e A l.length c) 25)).alloc (.cells #[.int .i64 r, .int .i64 set] 61)) := ((Below.refl _ _).alloc (Nat.le_refl _) _).alloc (by simp) _
  have HK0 : Hid (Blk ((w.alloc (.cells (prjV e A l.length c) 25)).alloc (.cells #[.int .i64 r, .int .i64 set] 61)) w.heap.size 25 (prjV e A l.length c)) := (Blk.newAt rfl _ _).alloc _
  have HK1 : Hid (Blk ((w.alloc (.cells (prjV e A l.length c) 25)).alloc (.cells #[.int .i64 r, .int .i64 set] 61)) (w.heap.size + 1) 61 #[.int .i64 r, .int .i64 set]) := Blk.newAt (size_alloc _ _) _ _
  have HS := Lib.hid (Rp.sl_below hs hb0 hD)
  have HB := Lib.hid hb0
  have HD := Lib.hid (fun k hk => Nat.lt_of_lt_of_le (hD k hk) hb0.size)
  clear hs hD hb0
  have HOK := Lib.hid hok
  have hpa : posAt l r set loc = (0, false) := posAt_out (.inl hr)
  have HPA := Lib.hid hpa
  clear hok hpa
  go_enter Try.func5, Try.ntmps5
  go_wp2_with fail
  generalize World.alloc (World.alloc w _) _ = w0 at *
  have hl0 := (show Blk _ _ _ _ from HK0.out).lt
  have hl1 := (show Blk _ _ _ _ from HK1.out).lt
  have hz0 := HB.out.size
  have B0 : Hid (Below w0.heap.size w0 w0) := Below.refl _ _
  refine (plong_any (e := e) HS.out HD.out).mono ?_; rintro en w1 ⟨bb, rfl, hb⟩
  have hbn := hb
  have hk0 := Blk.below (show Blk _ _ _ _ from HK0.out) hbn hl0
  have hk1 := Blk.below (show Blk _ _ _ _ from HK1.out) hbn hl1
  have e0 : w1.cell? ⟨w.heap.size, 0, none⟩ = some (.int .u64 (e : Int)) := hk0.cell 0
  have e1 : w1.cell? ⟨w.heap.size, 1, none⟩ = some (.slice A l.length c) := hk0.cell 1
  have t0 : w1.cell? ⟨w.heap.size + 1, 0, none⟩ = some (.int .i64 r) := hk1.cell 0
  have t1 : w1.cell? ⟨w.heap.size + 1, 1, none⟩ = some (.int .i64 set) := hk1.cell 1
  have B1 := Lib.hid hbn
  clear hb hbn hk0 hk1
  cases bb
  case true =>
    go_wp2_with fail
    refine (lclive_any _).mono ?_; rintro en w2 ⟨rfl, hb⟩
    go_wp2_with fail
    go_ret
    exact ⟨rfl, HB.out.trans ((B1.out.trans (hb.mono B1.out.size)).mono hz0)⟩
  go_wp2_with fail
  have hc := pos_any r set loc (Rp.sl_below HS.out B1.out HD.out) (fun k hk => Nat.lt_of_lt_of_le (HD.out k hk) B1.out.size) he hl HOK.out r0 r1
  rw [HPA.out] at hc
  have HC1 := Lib.hid hc
  clear hc
  clear e0 e1 t0 t1
  refine (HC1.out).mono ?_; rintro en w2 ⟨rfl, hb⟩
  have hbn := B1.out.trans (hb.mono B1.out.size)
  have hk0 := Blk.below (show Blk _ _ _ _ from HK0.out) hbn hl0
  have hk1 := Blk.below (show Blk _ _ _ _ from HK1.out) hbn hl1
  have e0 : w2.cell? ⟨w.heap.size, 0, none⟩ = some (.int .u64 (e : Int)) := hk0.cell 0
  have e1 : w2.cell? ⟨w.heap.size, 1, none⟩ = some (.slice A l.length c) := hk0.cell 1
  have t0 : w2.cell? ⟨w.heap.size + 1, 0, none⟩ = some (.int .i64 r) := hk1.cell 0
  have t1 : w2.cell? ⟨w.heap.size + 1, 1, none⟩ = some (.int .i64 set) := hk1.cell 1
  have B2 := Lib.hid hbn
  clear hb hbn hk0 hk1
  go_wp2_with fail
  have hc := rpright_any (Rp.sl_below HS.out B2.out HD.out) (fun k hk => Nat.lt_of_lt_of_le (HD.out k hk) B2.out.size) he
  rw [dec_true HOK.out] at hc
  have HC2 := Lib.hid hc
  clear hc
  clear e0 e1 t0 t1
  refine (HC2.out).mono ?_; rintro en w3 ⟨rfl, hb⟩
  have hbn := B2.out.trans (hb.mono B2.out.size)
  have hk0 := Blk.below (show Blk _ _ _ _ from HK0.out) hbn hl0
  have hk1 := Blk.below (show Blk _ _ _ _ from HK1.out) hbn hl1
  have e0 : w3.cell? ⟨w.heap.size, 0, none⟩ = some (.int .u64 (e : Int)) := hk0.cell 0
  have e1 : w3.cell? ⟨w.heap.size, 1, none⟩ = some (.slice A l.length c) := hk0.cell 1
  have t0 : w3.cell? ⟨w.heap.size + 1, 0, none⟩ = some (.int .i64 r) := hk1.cell 0
  have t1 : w3.cell? ⟨w.heap.size + 1, 1, none⟩ = some (.int .i64 set) := hk1.cell 1
  have B3 := Lib.hid hbn
  clear hb hbn hk0 hk1
  go_wp2_with fail
  clear e0 e1 t0 t1
  refine (lclive_any _).mono ?_; rintro en w4 ⟨rfl, hb⟩
  go_wp2_with fail
  go_ret
  exact ⟨rfl, HB.out.trans ((B3.out.trans (hb.mono B3.out.size)).mono hz0)⟩
set_option maxRecDepth 100000 in
set_option maxHeartbeats 4000000 in
theorem lpos_far (r set : Int) (loc : Nat) (hok : POk (e, l)) (hr : 0 ≤ r) (hr2 : (l.length : Int) ≤ r) (hs : rpStp.sl w D A l.length c l) (hD : ∀ k, D k → k < w.heap.size) (he : e ≤ 18446744073709551615) (hl : loc ≤ 18446744073709551615) (r0 : -9223372036854775808 ≤ r) (r1 : r ≤ 9223372036854775807) (s0 : -9223372036854775808 ≤ set) (s1 : set ≤ 9223372036854775807) :
    Calls Try.prog 5 #[.agg (prjV e A l.length c), .agg #[.int .i64 r, .int .i64 set], .int .u64 (loc : Int)] w fun en w' => en = .returned (.bool true) ∧ Below w.heap.size w w' := by
  obtain ⟨_, hnc, hcm⟩ := Rp.sl_len hs
  unfold maxLen at hcm
  have hb0 : Below w.heap.size w ((w.alloc (.cells (prjV e A l.length c) 25)).alloc (.cells #[.int .i64 r, .int .i64 set] 61)) := ((Below.refl _ _).alloc (Nat.le_refl _) _).alloc (by simp) _
  have HK0 : Hid (Blk ((w.alloc (.cells (prjV e A l.length c) 25)).alloc (.cells #[.int .i64 r, .int .i64 set] 61)) w.heap.size 25 (prjV e A l.length c)) := (Blk.newAt rfl _ _).alloc _
  have HK1 : Hid (Blk ((w.alloc (.cells (prjV e A l.length c) 25)).alloc (.cells #[.int .i64 r, .int .i64 set] 61)) (w.heap.size + 1) 61 #[.int .i64 r, .int .i64 set]) := Blk.newAt (size_alloc _ _) _ _
  have HS := Lib.hid (Rp.sl_below hs hb0 hD)
  have HB := Lib.hid hb0
  have HD := Lib.hid (fun k hk => Nat.lt_of_lt_of_le (hD k hk) hb0.size)
  clear hs hD hb0
  have HOK := Lib.hid hok
  have hpa : posAt l r set loc = (0, false) := posAt_out (.inr hr2)
  have HPA := Lib.hid hpa
  clear hok hpa
  go_enter Try.func5, Try.ntmps5
  go_wp2_with fail
  generalize World.alloc (World.alloc w _) _ = w0 at *
  have hl0 := (show Blk _ _ _ _ from HK0.out).lt
  have hl1 := (show Blk _ _ _ _ from HK1.out).lt
  have hz0 := HB.out.size
  have B0 : Hid (Below w0.heap.size w0 w0) := Below.refl _ _
  refine (plong_any (e := e) HS.out HD.out).mono ?_; rintro en w1 ⟨bb, rfl, hb⟩
  have hbn := hb
  have hk0 := Blk.below (show Blk _ _ _ _ from HK0.out) hbn hl0
  have hk1 := Blk.below (show Blk _ _ _ _ from HK1.out) hbn hl1
  have e0 : w1.cell? ⟨w.heap.size, 0, none⟩ = some (.int .u64 (e : Int)) := hk0.cell 0
  have e1 : w1.cell? ⟨w.heap.size, 1, none⟩ = some (.slice A l.length c) := hk0.cell 1
  have t0 : w1.cell? ⟨w.heap.size + 1, 0, none⟩ = some (.int .i64 r) := hk1.cell 0
  have t1 : w1.cell? ⟨w.heap.size + 1, 1, none⟩ = some (.int .i64 set) := hk1.cell 1
  have B1 := Lib.hid hbn
  clear hb hbn hk0 hk1
  cases bb
  case true =>
    go_wp2_with fail
    refine (lclive_any _).mono ?_; rintro en w2 ⟨rfl, hb⟩
    go_wp2_with fail
    go_ret
    exact ⟨rfl, HB.out.trans ((B1.out.trans (hb.mono B1.out.size)).mono hz0)⟩
  go_wp2_with fail
  have hc := pos_any r set loc (Rp.sl_below HS.out B1.out HD.out) (fun k hk => Nat.lt_of_lt_of_le (HD.out k hk) B1.out.size) he hl HOK.out r0 r1
  rw [HPA.out] at hc
  have HC1 := Lib.hid hc
  clear hc
  clear e0 e1 t0 t1
  refine (HC1.out).mono ?_; rintro en w2 ⟨rfl, hb⟩
  have hbn := B1.out.trans (hb.mono B1.out.size)
  have hk0 := Blk.below (show Blk _ _ _ _ from HK0.out) hbn hl0
  have hk1 := Blk.below (show Blk _ _ _ _ from HK1.out) hbn hl1
  have e0 : w2.cell? ⟨w.heap.size, 0, none⟩ = some (.int .u64 (e : Int)) := hk0.cell 0
  have e1 : w2.cell? ⟨w.heap.size, 1, none⟩ = some (.slice A l.length c) := hk0.cell 1
  have t0 : w2.cell? ⟨w.heap.size + 1, 0, none⟩ = some (.int .i64 r) := hk1.cell 0
  have t1 : w2.cell? ⟨w.heap.size + 1, 1, none⟩ = some (.int .i64 set) := hk1.cell 1
  have B2 := Lib.hid hbn
  clear hb hbn hk0 hk1
  go_wp2_with fail
  have hc := rpright_any (Rp.sl_below HS.out B2.out HD.out) (fun k hk => Nat.lt_of_lt_of_le (HD.out k hk) B2.out.size) he
  rw [dec_true HOK.out] at hc
  have HC2 := Lib.hid hc
  clear hc
  clear e0 e1 t0 t1
  refine (HC2.out).mono ?_; rintro en w3 ⟨rfl, hb⟩
  have hbn := B2.out.trans (hb.mono B2.out.size)
  have hk0 := Blk.below (show Blk _ _ _ _ from HK0.out) hbn hl0
  have hk1 := Blk.below (show Blk _ _ _ _ from HK1.out) hbn hl1
  have e0 : w3.cell? ⟨w.heap.size, 0, none⟩ = some (.int .u64 (e : Int)) := hk0.cell 0
  have e1 : w3.cell? ⟨w.heap.size, 1, none⟩ = some (.slice A l.length c) := hk0.cell 1
  have t0 : w3.cell? ⟨w.heap.size + 1, 0, none⟩ = some (.int .i64 r) := hk1.cell 0
  have t1 : w3.cell? ⟨w.heap.size + 1, 1, none⟩ = some (.int .i64 set) := hk1.cell 1
  have B3 := Lib.hid hbn
  clear hb hbn hk0 hk1
  go_wp2_with fail
  clear e0 e1 t0 t1
  refine (lclive_any _).mono ?_; rintro en w4 ⟨rfl, hb⟩
  go_wp2_with fail
  go_ret
  exact ⟨rfl, HB.out.trans ((B3.out.trans (hb.mono B3.out.size)).mono hz0)⟩
set_option maxRecDepth 100000 in
set_option maxHeartbeats 4000000 in
theorem lpos_sneg (r set : Int) (loc : Nat) (hok : POk (e, l)) (hin : ∃ q : Nat, q < l.length ∧ r = q) (hsn : set < 0) (hs : rpStp.sl w D A l.length c l) (hD : ∀ k, D k → k < w.heap.size) (he : e ≤ 18446744073709551615) (hl : loc ≤ 18446744073709551615) (r0 : -9223372036854775808 ≤ r) (r1 : r ≤ 9223372036854775807) (s0 : -9223372036854775808 ≤ set) (s1 : set ≤ 9223372036854775807) :
    Calls Try.prog 5 #[.agg (prjV e A l.length c), .agg #[.int .i64 r, .int .i64 set], .int .u64 (loc : Int)] w fun en w' => en = .returned (.bool true) ∧ Below w.heap.size w w' := by
  obtain ⟨_, hnc, hcm⟩ := Rp.sl_len hs
  unfold maxLen at hcm
  have hb0 : Below w.heap.size w ((w.alloc (.cells (prjV e A l.length c) 25)).alloc (.cells #[.int .i64 r, .int .i64 set] 61)) := ((Below.refl _ _).alloc (Nat.le_refl _) _).alloc (by simp) _
  have HK0 : Hid (Blk ((w.alloc (.cells (prjV e A l.length c) 25)).alloc (.cells #[.int .i64 r, .int .i64 set] 61)) w.heap.size 25 (prjV e A l.length c)) := (Blk.newAt rfl _ _).alloc _
  have HK1 : Hid (Blk ((w.alloc (.cells (prjV e A l.length c) 25)).alloc (.cells #[.int .i64 r, .int .i64 set] 61)) (w.heap.size + 1) 61 #[.int .i64 r, .int .i64 set]) := Blk.newAt (size_alloc _ _) _ _
  have HS := Lib.hid (Rp.sl_below hs hb0 hD)
  have HB := Lib.hid hb0
  have HD := Lib.hid (fun k hk => Nat.lt_of_lt_of_le (hD k hk) hb0.size)
  clear hs hD hb0
  have HOK := Lib.hid hok
  obtain ⟨q, hq, rfl⟩ := hin
  have hpa0 : ∀ s, l[q]? = some s → share s set ≤ loc → posAt l (q : Int) set loc = (0, false) := fun s hs h => by rw [posAt_in set loc hs]; exact back_out h
  have hpa : posAt l (q : Int) set loc = (0, false) := hpa0 l[q] (List.getElem?_eq_getElem hq) (by rw [share_out (fun h => by omega)]; omega)
  have hsd : decide ((0 : Int) ≤ set) = false := by simp; omega
  clear hpa0
  have HPA := Lib.hid hpa
  clear hok hpa
  go_enter Try.func5, Try.ntmps5
  go_wp2_with fail
  generalize World.alloc (World.alloc w _) _ = w0 at *
  have hl0 := (show Blk _ _ _ _ from HK0.out).lt
  have hl1 := (show Blk _ _ _ _ from HK1.out).lt
  have hz0 := HB.out.size
  have B0 : Hid (Below w0.heap.size w0 w0) := Below.refl _ _
  refine (plong_any (e := e) HS.out HD.out).mono ?_; rintro en w1 ⟨bb, rfl, hb⟩
  have hbn := hb
  have hk0 := Blk.below (show Blk _ _ _ _ from HK0.out) hbn hl0
  have hk1 := Blk.below (show Blk _ _ _ _ from HK1.out) hbn hl1
  have e0 : w1.cell? ⟨w.heap.size, 0, none⟩ = some (.int .u64 (e : Int)) := hk0.cell 0
  have e1 : w1.cell? ⟨w.heap.size, 1, none⟩ = some (.slice A l.length c) := hk0.cell 1
  have t0 : w1.cell? ⟨w.heap.size + 1, 0, none⟩ = some (.int .i64 (q : Int)) := hk1.cell 0
  have t1 : w1.cell? ⟨w.heap.size + 1, 1, none⟩ = some (.int .i64 set) := hk1.cell 1
  have B1 := Lib.hid hbn
  clear hb hbn hk0 hk1
  cases bb
  case true =>
    go_wp2_with fail
    refine (lclive_any _).mono ?_; rintro en w2 ⟨rfl, hb⟩
    go_wp2_with fail
    go_ret
    exact ⟨rfl, HB.out.trans ((B1.out.trans (hb.mono B1.out.size)).mono hz0)⟩
  go_wp2_with fail
  have hc := pos_any (q : Int) set loc (Rp.sl_below HS.out B1.out HD.out) (fun k hk => Nat.lt_of_lt_of_le (HD.out k hk) B1.out.size) he hl HOK.out r0 r1
  rw [HPA.out] at hc
  have HC1 := Lib.hid hc
  clear hc
  clear e0 e1 t0 t1
  refine (HC1.out).mono ?_; rintro en w2 ⟨rfl, hb⟩
  have hbn := B1.out.trans (hb.mono B1.out.size)
  have hk0 := Blk.below (show Blk _ _ _ _ from HK0.out) hbn hl0
  have hk1 := Blk.below (show Blk _ _ _ _ from HK1.out) hbn hl1
  have e0 : w2.cell? ⟨w.heap.size, 0, none⟩ = some (.int .u64 (e : Int)) := hk0.cell 0
  have e1 : w2.cell? ⟨w.heap.size, 1, none⟩ = some (.slice A l.length c) := hk0.cell 1
  have t0 : w2.cell? ⟨w.heap.size + 1, 0, none⟩ = some (.int .i64 (q : Int)) := hk1.cell 0
  have t1 : w2.cell? ⟨w.heap.size + 1, 1, none⟩ = some (.int .i64 set) := hk1.cell 1
  have B2 := Lib.hid hbn
  clear hb hbn hk0 hk1
  go_wp2_with fail
  have hc := rpright_any (Rp.sl_below HS.out B2.out HD.out) (fun k hk => Nat.lt_of_lt_of_le (HD.out k hk) B2.out.size) he
  rw [dec_true HOK.out] at hc
  have HC2 := Lib.hid hc
  clear hc
  clear e0 e1 t0 t1
  refine (HC2.out).mono ?_; rintro en w3 ⟨rfl, hb⟩
  have hbn := B2.out.trans (hb.mono B2.out.size)
  have hk0 := Blk.below (show Blk _ _ _ _ from HK0.out) hbn hl0
  have hk1 := Blk.below (show Blk _ _ _ _ from HK1.out) hbn hl1
  have e0 : w3.cell? ⟨w.heap.size, 0, none⟩ = some (.int .u64 (e : Int)) := hk0.cell 0
  have e1 : w3.cell? ⟨w.heap.size, 1, none⟩ = some (.slice A l.length c) := hk0.cell 1
  have t0 : w3.cell? ⟨w.heap.size + 1, 0, none⟩ = some (.int .i64 (q : Int)) := hk1.cell 0
  have t1 : w3.cell? ⟨w.heap.size + 1, 1, none⟩ = some (.int .i64 set) := hk1.cell 1
  have B3 := Lib.hid hbn
  clear hb hbn hk0 hk1
  go_wp2_with fail
  clear e0 e1 t0 t1
  refine (lclive_any _).mono ?_; rintro en w4 ⟨rfl, hb⟩
  go_wp2_with fail
  go_ret
  exact ⟨rfl, HB.out.trans ((B3.out.trans (hb.mono B3.out.size)).mono hz0)⟩
set_option maxRecDepth 100000 in
set_option maxHeartbeats 4000000 in
theorem lpos_sfar (r set : Int) (loc : Nat) (hok : POk (e, l)) (hin : ∃ q : Nat, q < l.length ∧ r = q) (hsn : ∀ (s : Stp), l[r.toNat]? = some s → 0 ≤ set ∧ (s.2.2.length : Int) ≤ set) (hs : rpStp.sl w D A l.length c l) (hD : ∀ k, D k → k < w.heap.size) (he : e ≤ 18446744073709551615) (hl : loc ≤ 18446744073709551615) (r0 : -9223372036854775808 ≤ r) (r1 : r ≤ 9223372036854775807) (s0 : -9223372036854775808 ≤ set) (s1 : set ≤ 9223372036854775807) :
    Calls Try.prog 5 #[.agg (prjV e A l.length c), .agg #[.int .i64 r, .int .i64 set], .int .u64 (loc : Int)] w fun en w' => en = .returned (.bool true) ∧ Below w.heap.size w w' := by
  obtain ⟨_, hnc, hcm⟩ := Rp.sl_len hs
  unfold maxLen at hcm
  have hb0 : Below w.heap.size w ((w.alloc (.cells (prjV e A l.length c) 25)).alloc (.cells #[.int .i64 r, .int .i64 set] 61)) := ((Below.refl _ _).alloc (Nat.le_refl _) _).alloc (by simp) _
  have HK0 : Hid (Blk ((w.alloc (.cells (prjV e A l.length c) 25)).alloc (.cells #[.int .i64 r, .int .i64 set] 61)) w.heap.size 25 (prjV e A l.length c)) := (Blk.newAt rfl _ _).alloc _
  have HK1 : Hid (Blk ((w.alloc (.cells (prjV e A l.length c) 25)).alloc (.cells #[.int .i64 r, .int .i64 set] 61)) (w.heap.size + 1) 61 #[.int .i64 r, .int .i64 set]) := Blk.newAt (size_alloc _ _) _ _
  have HS := Lib.hid (Rp.sl_below hs hb0 hD)
  have HB := Lib.hid hb0
  have HD := Lib.hid (fun k hk => Nat.lt_of_lt_of_le (hD k hk) hb0.size)
  clear hs hD hb0
  have HOK := Lib.hid hok
  obtain ⟨q, hq, rfl⟩ := hin
  have hpa0 : ∀ s, l[q]? = some s → share s set ≤ loc → posAt l (q : Int) set loc = (0, false) := fun s hs h => by rw [posAt_in set loc hs]; exact back_out h
  obtain ⟨b, off, s, A2, c2, rfl, hb, hsk, g0, g1, g2, hrow, hs1, hs2⟩ := stps_at HS.out hq
  have hbz := HD.out b hb
  have hso := (HOK.out.1.2 q s (List.getElem?_eq_some_iff.1 hsk).1 hsk).1
  obtain ⟨sf, hsf⟩ : ∃ sf, sf = s.1 := ⟨_, rfl⟩
  obtain ⟨st, hst⟩ : ∃ st, st = s.2.1 := ⟨_, rfl⟩
  obtain ⟨m, hm⟩ : ∃ m, m = s.2.2.length := ⟨_, rfl⟩
  have k1 : sf < st := by rw [hsf, hst]; exact hso.1
  have k2 : st ≤ 4611686018427387904 := by rw [hst]; exact hso.2.1
  have k3 : 1 ≤ m := by rw [hm]; exact hso.2.2.1
  have k4 : m ≤ 8 := by rw [hm]; exact hso.2.2.2.1
  rw [← hsf] at g0 hs1
  rw [← hst] at g1 hs2
  rw [← hm] at g2
  have hsn2 := hsn s (by rw [Int.toNat_natCast]; exact hsk)
  have hpa : posAt l (q : Int) set loc = (0, false) := hpa0 s hsk (by rw [share_out (fun h => by omega)]; omega)
  have hsn3 : 0 ≤ set := hsn2.1
  have hsn4 : (m : Int) ≤ set := by rw [hm]; exact hsn2.2
  clear hsn hsn2
  clear hpa0 hsf hst hm hsk hrow hso
  have Zg0 := Lib.hid g0
  clear g0
  have Zg1 := Lib.hid g1
  clear g1
  have Zg2 := Lib.hid g2
  clear g2
  have Zk1 := Lib.hid k1
  clear k1
  have Zk2 := Lib.hid k2
  clear k2
  have Zk3 := Lib.hid k3
  clear k3
  have Zk4 := Lib.hid k4
  clear k4
  have Zhs1 := Lib.hid hs1
  clear hs1
  have Zhs2 := Lib.hid hs2
  clear hs2
  have Zhsn3 := Lib.hid hsn3
  clear hsn3
  have Zhsn4 := Lib.hid hsn4
  clear hsn4
  have HPA := Lib.hid hpa
  clear hok hpa
  go_enter Try.func5, Try.ntmps5
  go_wp2_with fail
  generalize World.alloc (World.alloc w _) _ = w0 at *
  have hl0 := (show Blk _ _ _ _ from HK0.out).lt
  have hl1 := (show Blk _ _ _ _ from HK1.out).lt
  have hz0 := HB.out.size
  have B0 : Hid (Below w0.heap.size w0 w0) := Below.refl _ _
  refine (plong_any (e := e) HS.out HD.out).mono ?_; rintro en w1 ⟨bb, rfl, hb⟩
  have hbn := hb
  have hk0 := Blk.below (show Blk _ _ _ _ from HK0.out) hbn hl0
  have hk1 := Blk.below (show Blk _ _ _ _ from HK1.out) hbn hl1
  have e0 : w1.cell? ⟨w.heap.size, 0, none⟩ = some (.int .u64 (e : Int)) := hk0.cell 0
  have e1 : w1.cell? ⟨w.heap.size, 1, none⟩ = some (.slice (some ⟨b, off, none⟩) l.length c) := hk0.cell 1
  have t0 : w1.cell? ⟨w.heap.size + 1, 0, none⟩ = some (.int .i64 (q : Int)) := hk1.cell 0
  have t1 : w1.cell? ⟨w.heap.size + 1, 1, none⟩ = some (.int .i64 set) := hk1.cell 1
  have B1 := Lib.hid hbn
  clear hb hbn hk0 hk1
  cases bb
  case true =>
    go_wp2_with fail
    refine (lclive_any _).mono ?_; rintro en w2 ⟨rfl, hb⟩
    go_wp2_with fail
    go_ret
    exact ⟨rfl, HB.out.trans ((B1.out.trans (hb.mono B1.out.size)).mono hz0)⟩
  go_wp2_with fail
  have hc := pos_any (q : Int) set loc (Rp.sl_below HS.out B1.out HD.out) (fun k hk => Nat.lt_of_lt_of_le (HD.out k hk) B1.out.size) he hl HOK.out r0 r1
  rw [HPA.out] at hc
  have HC1 := Lib.hid hc
  clear hc
  clear e0 e1 t0 t1
  refine (HC1.out).mono ?_; rintro en w2 ⟨rfl, hb⟩
  have hbn := B1.out.trans (hb.mono B1.out.size)
  have hk0 := Blk.below (show Blk _ _ _ _ from HK0.out) hbn hl0
  have hk1 := Blk.below (show Blk _ _ _ _ from HK1.out) hbn hl1
  have e0 : w2.cell? ⟨w.heap.size, 0, none⟩ = some (.int .u64 (e : Int)) := hk0.cell 0
  have e1 : w2.cell? ⟨w.heap.size, 1, none⟩ = some (.slice (some ⟨b, off, none⟩) l.length c) := hk0.cell 1
  have t0 : w2.cell? ⟨w.heap.size + 1, 0, none⟩ = some (.int .i64 (q : Int)) := hk1.cell 0
  have t1 : w2.cell? ⟨w.heap.size + 1, 1, none⟩ = some (.int .i64 set) := hk1.cell 1
  have B2 := Lib.hid hbn
  clear hb hbn hk0 hk1
  go_wp2_with fail
  have hc := rpright_any (Rp.sl_below HS.out B2.out HD.out) (fun k hk => Nat.lt_of_lt_of_le (HD.out k hk) B2.out.size) he
  rw [dec_true HOK.out] at hc
  have HC2 := Lib.hid hc
  clear hc
  clear e0 e1 t0 t1
  refine (HC2.out).mono ?_; rintro en w3 ⟨rfl, hb⟩
  have hbn := B2.out.trans (hb.mono B2.out.size)
  have hk0 := Blk.below (show Blk _ _ _ _ from HK0.out) hbn hl0
  have hk1 := Blk.below (show Blk _ _ _ _ from HK1.out) hbn hl1
  have e0 : w3.cell? ⟨w.heap.size, 0, none⟩ = some (.int .u64 (e : Int)) := hk0.cell 0
  have e1 : w3.cell? ⟨w.heap.size, 1, none⟩ = some (.slice (some ⟨b, off, none⟩) l.length c) := hk0.cell 1
  have t0 : w3.cell? ⟨w.heap.size + 1, 0, none⟩ = some (.int .i64 (q : Int)) := hk1.cell 0
  have t1 : w3.cell? ⟨w.heap.size + 1, 1, none⟩ = some (.int .i64 set) := hk1.cell 1
  have B3 := Lib.hid hbn
  have g0 := Zg0.out
  have g1 := Zg1.out
  have g2 := Zg2.out
  have k1 := Zk1.out
  have k2 := Zk2.out
  have k3 := Zk3.out
  have k4 := Zk4.out
  have hs1 := Zhs1.out
  have hs2 := Zhs2.out
  have hsn3 := Zhsn3.out
  have hsn4 := Zhsn4.out
  have p0 := (hbn.cell (p := ⟨b, off + q * 3, none⟩) hbz).trans g0
  have p1 := (hbn.cell (p := ⟨b, off + q * 3 + 1, none⟩) hbz).trans g1
  have p2 := (hbn.cell (p := ⟨b, off + q * 3 + 2, none⟩) hbz).trans g2
  have hal : Below w3.heap.size w3 (w3.alloc (.cells (stpV sf st A2 m c2) 31)) := (Below.refl _ _).alloc (Nat.le_refl _) _
  have hk2 := (hk1.alloc (.cells (stpV sf st A2 m c2) 31))
  have u0 := hk2.cell 0
  have u1 := hk2.cell 1
  have HAL := Lib.hid hal
  clear hb hbn hk0 hk1 hal hk2 g0 g1 g2
  go_wp2_with fail
  clear e0 e1 t0 t1 u0 u1 p0 p1 p2
  refine (lclive_any _).mono ?_; rintro en w6 ⟨rfl, hb⟩
  go_wp2_with fail
  go_ret
  have h1 := B3.out.trans (HAL.out.mono B3.out.size)
  exact ⟨rfl, HB.out.trans ((h1.trans (hb.mono h1.size)).mono hz0)⟩
set_option maxRecDepth 100000 in
set_option maxHeartbeats 4000000 in
theorem lpos_great (r set : Int) (loc : Nat) (hok : POk (e, l)) (hin : ∃ q : Nat, q < l.length ∧ r = q) (hsn : ∀ (s : Stp), l[r.toNat]? = some s → 0 ≤ set ∧ set < s.2.2.length ∧ share s set ≤ loc) (hlq : ∀ (s : Stp), l[r.toNat]? = some s → ¬ loc < (s.2.1 - s.1) / s.2.2.length + 1) (hs : rpStp.sl w D A l.length c l) (hD : ∀ k, D k → k < w.heap.size) (he : e ≤ 18446744073709551615) (hl : loc ≤ 18446744073709551615) (r0 : -9223372036854775808 ≤ r) (r1 : r ≤ 9223372036854775807) (s0 : -9223372036854775808 ≤ set) (s1 : set ≤ 9223372036854775807) :
    Calls Try.prog 5 #[.agg (prjV e A l.length c), .agg #[.int .i64 r, .int .i64 set], .int .u64 (loc : Int)] w fun en w' => en = .returned (.bool true) ∧ Below w.heap.size w w' := by
  obtain ⟨_, hnc, hcm⟩ := Rp.sl_len hs
  unfold maxLen at hcm
  have hb0 : Below w.heap.size w ((w.alloc (.cells (prjV e A l.length c) 25)).alloc (.cells #[.int .i64 r, .int .i64 set] 61)) := ((Below.refl _ _).alloc (Nat.le_refl _) _).alloc (by simp) _
  have HK0 : Hid (Blk ((w.alloc (.cells (prjV e A l.length c) 25)).alloc (.cells #[.int .i64 r, .int .i64 set] 61)) w.heap.size 25 (prjV e A l.length c)) := (Blk.newAt rfl _ _).alloc _
  have HK1 : Hid (Blk ((w.alloc (.cells (prjV e A l.length c) 25)).alloc (.cells #[.int .i64 r, .int .i64 set] 61)) (w.heap.size + 1) 61 #[.int .i64 r, .int .i64 set]) := Blk.newAt (size_alloc _ _) _ _
  have HS := Lib.hid (Rp.sl_below hs hb0 hD)
  have HB := Lib.hid hb0
  have HD := Lib.hid (fun k hk => Nat.lt_of_lt_of_le (hD k hk) hb0.size)
  clear hs hD hb0
  have HOK := Lib.hid hok
  obtain ⟨q, hq, rfl⟩ := hin
  have hpa0 : ∀ s, l[q]? = some s → share s set ≤ loc → posAt l (q : Int) set loc = (0, false) := fun s hs h => by rw [posAt_in set loc hs]; exact back_out h
  obtain ⟨b, off, s, A2, c2, rfl, hb, hsk, g0, g1, g2, hrow, hs1, hs2⟩ := stps_at HS.out hq
  have hbz := HD.out b hb
  have hso := (HOK.out.1.2 q s (List.getElem?_eq_some_iff.1 hsk).1 hsk).1
  obtain ⟨sf, hsf⟩ : ∃ sf, sf = s.1 := ⟨_, rfl⟩
  obtain ⟨st, hst⟩ : ∃ st, st = s.2.1 := ⟨_, rfl⟩
  obtain ⟨m, hm⟩ : ∃ m, m = s.2.2.length := ⟨_, rfl⟩
  have k1 : sf < st := by rw [hsf, hst]; exact hso.1
  have k2 : st ≤ 4611686018427387904 := by rw [hst]; exact hso.2.1
  have k3 : 1 ≤ m := by rw [hm]; exact hso.2.2.1
  have k4 : m ≤ 8 := by rw [hm]; exact hso.2.2.2.1
  rw [← hsf] at g0 hs1
  rw [← hst] at g1 hs2
  rw [← hm] at g2
  obtain ⟨j, rfl⟩ : ∃ j : Nat, set = j := ⟨set.toNat, by have := (hsn s (by rw [Int.toNat_natCast]; exact hsk)).1; omega⟩
  have hjm : j < m := by have := (hsn s (by rw [Int.toNat_natCast]; exact hsk)).2.1; rw [hm]; omega
  have hge : share s (j : Int) ≤ loc := (hsn s (by rw [Int.toNat_natCast]; exact hsk)).2.2
  have hpa : posAt l (q : Int) (j : Int) loc = (0, false) := hpa0 s hsk hge
  have hT : st - sf ≤ loc * m + j := by
    rw [hst, hsf, hm]
    exact back_none hso (by rw [← hm]; exact hjm) (by rw [back_out hge])
  obtain ⟨Q, hQ⟩ : ∃ Q : Nat, Q = (st - sf) / m := ⟨_, rfl⟩
  have hQe : ((st : Int) - sf) / (m : Int) = (Q : Int) := by rw [hQ, Int.natCast_ediv, Int.natCast_sub (by omega)]
  have hQl : Q ≤ 4611686018427387904 := by have := Nat.div_le_self (st - sf) m; omega
  have hnl : decide ((loc : Int) < (Q : Int) + 1) = false := by
    have := hlq s (by rw [Int.toNat_natCast]; exact hsk)
    rw [← hst, ← hsf, ← hm, ← hQ] at this
    simp; omega
  clear hsn hlq hge hT hQ
  clear hpa0 hsf hst hm hsk hrow hso
  have Zg0 := Lib.hid g0
  clear g0
  have Zg1 := Lib.hid g1
  clear g1
  have Zg2 := Lib.hid g2
  clear g2
  have Zk1 := Lib.hid k1
  clear k1
  have Zk2 := Lib.hid k2
  clear k2
  have Zk3 := Lib.hid k3
  clear k3
  have Zk4 := Lib.hid k4
  clear k4
  have Zhs1 := Lib.hid hs1
  clear hs1
  have Zhs2 := Lib.hid hs2
  clear hs2
  have ZhQe := Lib.hid hQe
  clear hQe
  have ZhQl := Lib.hid hQl
  clear hQl
  have Zhnl := Lib.hid hnl
  clear hnl
  have Zhjm := Lib.hid hjm
  clear hjm
  have HPA := Lib.hid hpa
  clear hok hpa
  go_enter Try.func5, Try.ntmps5
  go_wp2_with fail
  generalize World.alloc (World.alloc w _) _ = w0 at *
  have hl0 := (show Blk _ _ _ _ from HK0.out).lt
  have hl1 := (show Blk _ _ _ _ from HK1.out).lt
  have hz0 := HB.out.size
  have B0 : Hid (Below w0.heap.size w0 w0) := Below.refl _ _
  refine (plong_any (e := e) HS.out HD.out).mono ?_; rintro en w1 ⟨bb, rfl, hb⟩
  have hbn := hb
  have hk0 := Blk.below (show Blk _ _ _ _ from HK0.out) hbn hl0
  have hk1 := Blk.below (show Blk _ _ _ _ from HK1.out) hbn hl1
  have e0 : w1.cell? ⟨w.heap.size, 0, none⟩ = some (.int .u64 (e : Int)) := hk0.cell 0
  have e1 : w1.cell? ⟨w.heap.size, 1, none⟩ = some (.slice (some ⟨b, off, none⟩) l.length c) := hk0.cell 1
  have t0 : w1.cell? ⟨w.heap.size + 1, 0, none⟩ = some (.int .i64 (q : Int)) := hk1.cell 0
  have t1 : w1.cell? ⟨w.heap.size + 1, 1, none⟩ = some (.int .i64 (j : Int)) := hk1.cell 1
  have B1 := Lib.hid hbn
  clear hb hbn hk0 hk1
  cases bb
  case true =>
    go_wp2_with fail
    refine (lclive_any _).mono ?_; rintro en w2 ⟨rfl, hb⟩
    go_wp2_with fail
    go_ret
    exact ⟨rfl, HB.out.trans ((B1.out.trans (hb.mono B1.out.size)).mono hz0)⟩
  go_wp2_with fail
  have hc := pos_any (q : Int) (j : Int) loc (Rp.sl_below HS.out B1.out HD.out) (fun k hk => Nat.lt_of_lt_of_le (HD.out k hk) B1.out.size) he hl HOK.out r0 r1
  rw [HPA.out] at hc
  have HC1 := Lib.hid hc
  clear hc
  clear e0 e1 t0 t1
  refine (HC1.out).mono ?_; rintro en w2 ⟨rfl, hb⟩
  have hbn := B1.out.trans (hb.mono B1.out.size)
  have hk0 := Blk.below (show Blk _ _ _ _ from HK0.out) hbn hl0
  have hk1 := Blk.below (show Blk _ _ _ _ from HK1.out) hbn hl1
  have e0 : w2.cell? ⟨w.heap.size, 0, none⟩ = some (.int .u64 (e : Int)) := hk0.cell 0
  have e1 : w2.cell? ⟨w.heap.size, 1, none⟩ = some (.slice (some ⟨b, off, none⟩) l.length c) := hk0.cell 1
  have t0 : w2.cell? ⟨w.heap.size + 1, 0, none⟩ = some (.int .i64 (q : Int)) := hk1.cell 0
  have t1 : w2.cell? ⟨w.heap.size + 1, 1, none⟩ = some (.int .i64 (j : Int)) := hk1.cell 1
  have B2 := Lib.hid hbn
  clear hb hbn hk0 hk1
  go_wp2_with fail
  have hc := rpright_any (Rp.sl_below HS.out B2.out HD.out) (fun k hk => Nat.lt_of_lt_of_le (HD.out k hk) B2.out.size) he
  rw [dec_true HOK.out] at hc
  have HC2 := Lib.hid hc
  clear hc
  clear e0 e1 t0 t1
  refine (HC2.out).mono ?_; rintro en w3 ⟨rfl, hb⟩
  have hbn := B2.out.trans (hb.mono B2.out.size)
  have hk0 := Blk.below (show Blk _ _ _ _ from HK0.out) hbn hl0
  have hk1 := Blk.below (show Blk _ _ _ _ from HK1.out) hbn hl1
  have e0 : w3.cell? ⟨w.heap.size, 0, none⟩ = some (.int .u64 (e : Int)) := hk0.cell 0
  have e1 : w3.cell? ⟨w.heap.size, 1, none⟩ = some (.slice (some ⟨b, off, none⟩) l.length c) := hk0.cell 1
  have t0 : w3.cell? ⟨w.heap.size + 1, 0, none⟩ = some (.int .i64 (q : Int)) := hk1.cell 0
  have t1 : w3.cell? ⟨w.heap.size + 1, 1, none⟩ = some (.int .i64 (j : Int)) := hk1.cell 1
  have B3 := Lib.hid hbn
  have g0 := Zg0.out
  have g1 := Zg1.out
  have g2 := Zg2.out
  have k1 := Zk1.out
  have k2 := Zk2.out
  have k3 := Zk3.out
  have k4 := Zk4.out
  have hs1 := Zhs1.out
  have hs2 := Zhs2.out
  have hQe := ZhQe.out
  have hQl := ZhQl.out
  have hnl := Zhnl.out
  have hjm := Zhjm.out
  have p0 := (hbn.cell (p := ⟨b, off + q * 3, none⟩) hbz).trans g0
  have p1 := (hbn.cell (p := ⟨b, off + q * 3 + 1, none⟩) hbz).trans g1
  have p2 := (hbn.cell (p := ⟨b, off + q * 3 + 2, none⟩) hbz).trans g2
  have hal : Below w3.heap.size w3 (w3.alloc (.cells (stpV sf st A2 m c2) 31)) := (Below.refl _ _).alloc (Nat.le_refl _) _
  have hk2 := (hk1.alloc (.cells (stpV sf st A2 m c2) 31))
  have u0 := hk2.cell 0
  have u1 := hk2.cell 1
  have HAL := Lib.hid hal
  clear hb hbn hk0 hk1 hal hk2 g0 g1 g2
  go_wp2_with fail
  clear e0 e1 t0 t1 u0 u1 p0 p1 p2
  refine (lclive_any _).mono ?_; rintro en w6 ⟨rfl, hb⟩
  go_wp2_with fail
  go_ret
  have h1 := B3.out.trans (HAL.out.mono B3.out.size)
  exact ⟨rfl, HB.out.trans ((h1.trans (hb.mono h1.size)).mono hz0)⟩
set_option maxRecDepth 100000 in
set_option maxHeartbeats 4000000 in
theorem lpos_small (r set : Int) (loc : Nat) (hok : POk (e, l)) (hin : ∃ q : Nat, q < l.length ∧ r = q) (hsn : ∀ (s : Stp), l[r.toNat]? = some s → 0 ≤ set ∧ set < s.2.2.length ∧ share s set ≤ loc) (hlq : ∀ (s : Stp), l[r.toNat]? = some s → loc < (s.2.1 - s.1) / s.2.2.length + 1) (hs : rpStp.sl w D A l.length c l) (hD : ∀ k, D k → k < w.heap.size) (he : e ≤ 18446744073709551615) (hl : loc ≤ 18446744073709551615) (r0 : -9223372036854775808 ≤ r) (r1 : r ≤ 9223372036854775807) (s0 : -9223372036854775808 ≤ set) (s1 : set ≤ 9223372036854775807) :
    Calls Try.prog 5 #[.agg (prjV e A l.length c), .agg #[.int .i64 r, .int .i64 set], .int .u64 (loc : Int)] w fun en w' => en = .returned (.bool true) ∧ Below w.heap.size w w' := by
  obtain ⟨_, hnc, hcm⟩ := Rp.sl_len hs
  unfold maxLen at hcm
  have hb0 : Below w.heap.size w ((w.alloc (.cells (prjV e A l.length c) 25)).alloc (.cells #[.int .i64 r, .int .i64 set] 61)) := ((Below.refl _ _).alloc (Nat.le_refl _) _).alloc (by simp) _
  have HK0 : Hid (Blk ((w.alloc (.cells (prjV e A l.length c) 25)).alloc (.cells #[.int .i64 r, .int .i64 set] 61)) w.heap.size 25 (prjV e A l.length c)) := (Blk.newAt rfl _ _).alloc _
  have HK1 : Hid (Blk ((w.alloc (.cells (prjV e A l.length c) 25)).alloc (.cells #[.int .i64 r, .int .i64 set] 61)) (w.heap.size + 1) 61 #[.int .i64 r, .int .i64 set]) := Blk.newAt (size_alloc _ _) _ _
  have HS := Lib.hid (Rp.sl_below hs hb0 hD)
  have HB := Lib.hid hb0
  have HD := Lib.hid (fun k hk => Nat.lt_of_lt_of_le (hD k hk) hb0.size)
  clear hs hD hb0
  have HOK := Lib.hid hok
  obtain ⟨q, hq, rfl⟩ := hin
  have hpa0 : ∀ s, l[q]? = some s → share s set ≤ loc → posAt l (q : Int) set loc = (0, false) := fun s hs h => by rw [posAt_in set loc hs]; exact back_out h
  obtain ⟨b, off, s, A2, c2, rfl, hb, hsk, g0, g1, g2, hrow, hs1, hs2⟩ := stps_at HS.out hq
  have hbz := HD.out b hb
  have hso := (HOK.out.1.2 q s (List.getElem?_eq_some_iff.1 hsk).1 hsk).1
  obtain ⟨sf, hsf⟩ : ∃ sf, sf = s.1 := ⟨_, rfl⟩
  obtain ⟨st, hst⟩ : ∃ st, st = s.2.1 := ⟨_, rfl⟩
  obtain ⟨m, hm⟩ : ∃ m, m = s.2.2.length := ⟨_, rfl⟩
  have k1 : sf < st := by rw [hsf, hst]; exact hso.1
  have k2 : st ≤ 4611686018427387904 := by rw [hst]; exact hso.2.1
  have k3 : 1 ≤ m := by rw [hm]; exact hso.2.2.1
  have k4 : m ≤ 8 := by rw [hm]; exact hso.2.2.2.1
  rw [← hsf] at g0 hs1
  rw [← hst] at g1 hs2
  rw [← hm] at g2
  obtain ⟨j, rfl⟩ : ∃ j : Nat, set = j := ⟨set.toNat, by have := (hsn s (by rw [Int.toNat_natCast]; exact hsk)).1; omega⟩
  have hjm : j < m := by have := (hsn s (by rw [Int.toNat_natCast]; exact hsk)).2.1; rw [hm]; omega
  have hge : share s (j : Int) ≤ loc := (hsn s (by rw [Int.toNat_natCast]; exact hsk)).2.2
  have hpa : posAt l (q : Int) (j : Int) loc = (0, false) := hpa0 s hsk hge
  have hT : st - sf ≤ loc * m + j := by
    rw [hst, hsf, hm]
    exact back_none hso (by rw [← hm]; exact hjm) (by rw [back_out hge])
  obtain ⟨Q, hQ⟩ : ∃ Q : Nat, Q = (st - sf) / m := ⟨_, rfl⟩
  have hQe : ((st : Int) - sf) / (m : Int) = (Q : Int) := by rw [hQ, Int.natCast_ediv, Int.natCast_sub (by omega)]
  have hQl : Q ≤ 4611686018427387904 := by have := Nat.div_le_self (st - sf) m; omega
  have hlq2 := hlq s (by rw [Int.toNat_natCast]; exact hsk)
  rw [← hst, ← hsf, ← hm, ← hQ] at hlq2
  have hnl : decide ((loc : Int) < (Q : Int) + 1) = true := by simp; omega
  obtain ⟨M, hM⟩ : ∃ M : Nat, M = loc * m := ⟨_, rfl⟩
  have hMl : M ≤ 4611686018427387904 := by
    have h1 : loc * m ≤ Q * m := Nat.mul_le_mul_right m (by omega)
    have h2 : Q * m ≤ st - sf := by rw [hQ]; exact Nat.div_mul_le_self _ _
    omega
  have hMe : (loc : Int) * (m : Int) = (M : Int) := by rw [hM]; simp
  have hnt : decide ((M : Int) + (j : Int) < (st : Int) - (sf : Int)) = false := by rw [← hM] at hT; simp; omega
  clear hsn hlq hge hT hQ hM hlq2
  clear hpa0 hsf hst hm hsk hrow hso
  have Zg0 := Lib.hid g0
  clear g0
  have Zg1 := Lib.hid g1
  clear g1
  have Zg2 := Lib.hid g2
  clear g2
  have Zk1 := Lib.hid k1
  clear k1
  have Zk2 := Lib.hid k2
  clear k2
  have Zk3 := Lib.hid k3
  clear k3
  have Zk4 := Lib.hid k4
  clear k4
  have Zhs1 := Lib.hid hs1
  clear hs1
  have Zhs2 := Lib.hid hs2
  clear hs2
  have ZhQe := Lib.hid hQe
  clear hQe
  have ZhQl := Lib.hid hQl
  clear hQl
  have Zhnl := Lib.hid hnl
  clear hnl
  have Zhjm := Lib.hid hjm
  clear hjm
  have ZhMl := Lib.hid hMl
  clear hMl
  have ZhMe := Lib.hid hMe
  clear hMe
  have Zhnt := Lib.hid hnt
  clear hnt
  have HPA := Lib.hid hpa
  clear hok hpa
  go_enter Try.func5, Try.ntmps5
  go_wp2_with fail
  generalize World.alloc (World.alloc w _) _ = w0 at *
  have hl0 := (show Blk _ _ _ _ from HK0.out).lt
  have hl1 := (show Blk _ _ _ _ from HK1.out).lt
  have hz0 := HB.out.size
  have B0 : Hid (Below w0.heap.size w0 w0) := Below.refl _ _
  refine (plong_any (e := e) HS.out HD.out).mono ?_; rintro en w1 ⟨bb, rfl, hb⟩
  have hbn := hb
  have hk0 := Blk.below (show Blk _ _ _ _ from HK0.out) hbn hl0
  have hk1 := Blk.below (show Blk _ _ _ _ from HK1.out) hbn hl1
  have e0 : w1.cell? ⟨w.heap.size, 0, none⟩ = some (.int .u64 (e : Int)) := hk0.cell 0
  have e1 : w1.cell? ⟨w.heap.size, 1, none⟩ = some (.slice (some ⟨b, off, none⟩) l.length c) := hk0.cell 1
  have t0 : w1.cell? ⟨w.heap.size + 1, 0, none⟩ = some (.int .i64 (q : Int)) := hk1.cell 0
  have t1 : w1.cell? ⟨w.heap.size + 1, 1, none⟩ = some (.int .i64 (j : Int)) := hk1.cell 1
  have B1 := Lib.hid hbn
  clear hb hbn hk0 hk1
  cases bb
  case true =>
    go_wp2_with fail
    refine (lclive_any _).mono ?_; rintro en w2 ⟨rfl, hb⟩
    go_wp2_with fail
    go_ret
    exact ⟨rfl, HB.out.trans ((B1.out.trans (hb.mono B1.out.size)).mono hz0)⟩
  go_wp2_with fail
  have hc := pos_any (q : Int) (j : Int) loc (Rp.sl_below HS.out B1.out HD.out) (fun k hk => Nat.lt_of_lt_of_le (HD.out k hk) B1.out.size) he hl HOK.out r0 r1
  rw [HPA.out] at hc
  have HC1 := Lib.hid hc
  clear hc
  clear e0 e1 t0 t1
  refine (HC1.out).mono ?_; rintro en w2 ⟨rfl, hb⟩
  have hbn := B1.out.trans (hb.mono B1.out.size)
  have hk0 := Blk.below (show Blk _ _ _ _ from HK0.out) hbn hl0
  have hk1 := Blk.below (show Blk _ _ _ _ from HK1.out) hbn hl1
  have e0 : w2.cell? ⟨w.heap.size, 0, none⟩ = some (.int .u64 (e : Int)) := hk0.cell 0
  have e1 : w2.cell? ⟨w.heap.size, 1, none⟩ = some (.slice (some ⟨b, off, none⟩) l.length c) := hk0.cell 1
  have t0 : w2.cell? ⟨w.heap.size + 1, 0, none⟩ = some (.int .i64 (q : Int)) := hk1.cell 0
  have t1 : w2.cell? ⟨w.heap.size + 1, 1, none⟩ = some (.int .i64 (j : Int)) := hk1.cell 1
  have B2 := Lib.hid hbn
  clear hb hbn hk0 hk1
  go_wp2_with fail
  have hc := rpright_any (Rp.sl_below HS.out B2.out HD.out) (fun k hk => Nat.lt_of_lt_of_le (HD.out k hk) B2.out.size) he
  rw [dec_true HOK.out] at hc
  have HC2 := Lib.hid hc
  clear hc
  clear e0 e1 t0 t1
  refine (HC2.out).mono ?_; rintro en w3 ⟨rfl, hb⟩
  have hbn := B2.out.trans (hb.mono B2.out.size)
  have hk0 := Blk.below (show Blk _ _ _ _ from HK0.out) hbn hl0
  have hk1 := Blk.below (show Blk _ _ _ _ from HK1.out) hbn hl1
  have e0 : w3.cell? ⟨w.heap.size, 0, none⟩ = some (.int .u64 (e : Int)) := hk0.cell 0
  have e1 : w3.cell? ⟨w.heap.size, 1, none⟩ = some (.slice (some ⟨b, off, none⟩) l.length c) := hk0.cell 1
  have t0 : w3.cell? ⟨w.heap.size + 1, 0, none⟩ = some (.int .i64 (q : Int)) := hk1.cell 0
  have t1 : w3.cell? ⟨w.heap.size + 1, 1, none⟩ = some (.int .i64 (j : Int)) := hk1.cell 1
  have B3 := Lib.hid hbn
  have g0 := Zg0.out
  have g1 := Zg1.out
  have g2 := Zg2.out
  have k1 := Zk1.out
  have k2 := Zk2.out
  have k3 := Zk3.out
  have k4 := Zk4.out
  have hs1 := Zhs1.out
  have hs2 := Zhs2.out
  have hQe := ZhQe.out
  have hQl := ZhQl.out
  have hnl := Zhnl.out
  have hjm := Zhjm.out
  have hMl := ZhMl.out
  have hMe := ZhMe.out
  have hnt := Zhnt.out
  have p0 := (hbn.cell (p := ⟨b, off + q * 3, none⟩) hbz).trans g0
  have p1 := (hbn.cell (p := ⟨b, off + q * 3 + 1, none⟩) hbz).trans g1
  have p2 := (hbn.cell (p := ⟨b, off + q * 3 + 2, none⟩) hbz).trans g2
  have hal : Below w3.heap.size w3 (w3.alloc (.cells (stpV sf st A2 m c2) 31)) := (Below.refl _ _).alloc (Nat.le_refl _) _
  have hk2 := (hk1.alloc (.cells (stpV sf st A2 m c2) 31))
  have u0 := hk2.cell 0
  have u1 := hk2.cell 1
  have HAL := Lib.hid hal
  clear hb hbn hk0 hk1 hal hk2 g0 g1 g2
  go_wp2_with fail
  clear e0 e1 t0 t1 u0 u1 p0 p1 p2
  refine (lclive_any _).mono ?_; rintro en w6 ⟨rfl, hb⟩
  go_wp2_with fail
  go_ret
  have h1 := B3.out.trans (HAL.out.mono B3.out.size)
  exact ⟨rfl, HB.out.trans ((h1.trans (hb.mono h1.size)).mono hz0)⟩
end
end Go.Proofs.Ytmdgmnaaopineaa
