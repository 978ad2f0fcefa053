/- ref30.Asked, Answered, at, Check. -/
import Derived.Test.YtlfieiiegokejaaTkG
import Derived.Test.YtlfieiiegokejaaTkN
import Derived.OwnWalk
namespace Go.Proofs.Ytlfieiiegokejaa
open Go.ChangeShapes Go.WideShapes Go.ChangeAt Go.RowKit
set_option linter.unusedVariables false
section
variable {w : World} {D : Dom} {A : Option Addr} {n c : Nat} {l : List Ms}
set_option maxRecDepth 100000 in
set_option maxHeartbeats 2000000 in
theorem rasked_any (hs : rpMs.sl w D A n c l) (hD : ∀ k, D k → k < w.heap.size) (hn1000 : n ≤ 1000) (s : Nat) {t : Nat} (ht : t ≤ n) :
    Calls Try.prog 45 #[.slice A n c, .int .i64 (t : Int), .int .u64 (s : Int)] w fun e w' => e = .returned (.int .i64 (optI (askedTo l s t))) ∧ Below w.heap.size w w' := by
  have HS := Lib.hid (show Sl rpMs w D A n c l from ⟨hs, hD⟩)
  clear hs hD
  go_enter Try.func45, Try.ntmps45
  go_wp2_with fail
  go_loopw [7] (fun v7 wr => ∃ i : Nat, i ≤ t ∧ v7 = .int .i64 (i : Int) ∧ Hid (∀ j, j < i → isReq l s j = false) ∧ Hid (Below w.heap.size w wr)) (fun v7 _ => t - (intOf v7).toNat)
  case atStart => exact ⟨0, by omega, rfl, fun j h => absurd h (Nat.not_lt_zero _), Below.refl _ _⟩
  case round =>
    obtain ⟨i, hi, rfl, hno, hbel⟩ := hrel
    by_cases hit : i < t
    case neg =>
      obtain rfl : i = t := by omega
      have hd : decide ((i : Int) < (i : Int)) = false := by simp
      go_wp2_with fail
      go_ret
      refine ⟨?_, hbel.out⟩
      rw [show askedTo l s i = none from firstTo_none.2 hno.out]; rfl
    case pos =>
      have hd : decide ((i : Int) < (t : Int)) = true := by simp; omega
      have hin : i < n := by omega
      have hkI : (0 : Int) ≤ (i : Int) := by omega
      have hkI2 : (i : Int) < (n : Int) := by omega
      have hsr := keepS HS.out hbel.out
      obtain ⟨bo, off, m, hd', hA, hDb, hm, hmi, hc⟩ := ms_at hsr.1 hsr.2 hin
      subst hA
      have hbl : bo < wr.heap.size := hsr.2 _ hDb
      have HIQ : Hid (isReq l s i = (rq m && m.sq == s)) := isReq_at hm
      have e0 : wr.cell? ⟨bo, off + i * 14, none⟩ = some (.int .i64 m.kd) := hc 0 _ rfl
      have e1 : wr.cell? ⟨bo, off + i * 14 + 1, none⟩ = some (.int .u64 (m.ep : Int)) := hc 1 _ rfl
      have e2 : wr.cell? ⟨bo, off + i * 14 + 2, none⟩ = some (.int .u64 (m.sq : Int)) := hc 2 _ rfl
      have e3 : wr.cell? ⟨bo, off + i * 14 + 3, none⟩ = some (.int .u64 (m.ps : Int)) := hc 3 _ rfl
      have e4 : wr.cell? ⟨bo, off + i * 14 + 4, none⟩ = some (.int .i64 m.ct) := hc 4 _ rfl
      have e5 : wr.cell? ⟨bo, off + i * 14 + 5, none⟩ = some (.int .i64 m.st) := hc 5 _ rfl
      have e6 : wr.cell? ⟨bo, off + i * 14 + 6, none⟩ = some (.slice hd'.A1 hd'.n1 hd'.c1) := hc 6 _ rfl
      have e7 : wr.cell? ⟨bo, off + i * 14 + 7, none⟩ = some (.slice hd'.A2 hd'.n2 hd'.c2) := hc 7 _ rfl
      have e8 : wr.cell? ⟨bo, off + i * 14 + 8, none⟩ = some (.slice hd'.A3 hd'.n3 hd'.c3) := hc 8 _ rfl
      have e9 : wr.cell? ⟨bo, off + i * 14 + 9, none⟩ = some (.int .u64 (m.se.1 : Int)) := hc 9 _ rfl
      have e10 : wr.cell? ⟨bo, off + i * 14 + 10, none⟩ = some (.int .u64 (m.se.2.1 : Int)) := hc 10 _ rfl
      have e11 : wr.cell? ⟨bo, off + i * 14 + 11, none⟩ = some (.int .u64 (m.se.2.2 : Int)) := hc 11 _ rfl
      have e12 : wr.cell? ⟨bo, off + i * 14 + 12, none⟩ = some (.int .u64 (m.pr.1 : Int)) := hc 12 _ rfl
      have e13 : wr.cell? ⟨bo, off + i * 14 + 13, none⟩ = some (.slice hd'.A4 hd'.n4 hd'.c4) := hc 13 _ rfl
      have HRQ := Lib.hid (rreq_any m hd')
      obtain ⟨rb, hrb⟩ : ∃ b, (Kd.an m.kd != 0) = b := ⟨_, rfl⟩
      rw [hrb] at HRQ
      have HRB : Hid (rq m = rb) := hrb
      obtain ⟨eb, heb⟩ : ∃ b, ((m.sq : Int) == (s : Int)) = b := ⟨_, rfl⟩
      have HEB : Hid ((m.sq == s) = eb) := by
        show _ = _
        rw [← heb]
        by_cases h : m.sq = s
        · simp [h]
        · have h1 : ((m.sq : Int) == (s : Int)) = false := by simp; omega
          have h2 : (m.sq == s) = false := by simpa using h
          rw [h1, h2]
      have e2B := e2
      clear hc hm hmi hsr hDb hrb
      go_wp2_with fail
      refine (HRQ.out _).mono ?_; rintro e w2 ⟨rfl, hb2⟩
      have y2 := (hb2.cell (p := ⟨bo, off + i * 14 + 2, none⟩) hbl).trans e2
      have HB2 := Lib.hid (stepB hbel.out hb2)
      clear hb2 e2B e0 e1 e2 e3 e4 e5 e6 e7 e8 e9 e10 e11 e12 e13
      cases rb
      case false =>
        have HN : Hid (∀ j, j < i + 1 → isReq l s j = false) := fun j hj => by
          rcases Nat.lt_or_ge j i with h | h
          · exact hno.out j h
          · obtain rfl : j = i := by omega
            rw [HIQ.out, HRB.out]; rfl
        go_wp2_with fail
        go_roundw
        case rel => exact ⟨i + 1, by omega, by go_num, HN, HB2⟩
        case measure => simp [intOf]; omega
      case true =>
        cases eb
        case false =>
          have HN : Hid (∀ j, j < i + 1 → isReq l s j = false) := fun j hj => by
            rcases Nat.lt_or_ge j i with h | h
            · exact hno.out j h
            · obtain rfl : j = i := by omega
              rw [HIQ.out, HRB.out, HEB.out]; rfl
          go_wp2_with fail
          go_roundw
          case rel => exact ⟨i + 1, by omega, by go_num, HN, HB2⟩
          case measure => simp [intOf]; omega
        case true =>
          have HF : Hid (askedTo l s t = some i) := firstTo_some.2 ⟨hit, by rw [HIQ.out, HRB.out, HEB.out]; rfl, hno.out⟩
          go_wp2_with fail
          go_ret
          refine ⟨?_, HB2.out⟩
          rw [HF.out]; rfl
set_option maxRecDepth 100000 in
set_option maxHeartbeats 2000000 in
theorem ransd_any (hs : rpMs.sl w D A n c l) (hD : ∀ k, D k → k < w.heap.size) (hn1000 : n ≤ 1000) (s : Nat) {t : Nat} (ht : t ≤ n) :
    Calls Try.prog 22 #[.slice A n c, .int .i64 (t : Int), .int .u64 (s : Int)] w fun e w' => e = .returned (.int .i64 (optI (answdTo l s t))) ∧ Below w.heap.size w w' := by
  have HS := Lib.hid (show Sl rpMs w D A n c l from ⟨hs, hD⟩)
  clear hs hD
  go_enter Try.func22, Try.ntmps22
  go_wp2_with fail
  go_loopw [7] (fun v7 wr => ∃ i : Nat, i ≤ t ∧ v7 = .int .i64 (i : Int) ∧ Hid (∀ j, j < i → isAns l s j = false) ∧ Hid (Below w.heap.size w wr)) (fun v7 _ => t - (intOf v7).toNat)
  case atStart => exact ⟨0, by omega, rfl, fun j h => absurd h (Nat.not_lt_zero _), Below.refl _ _⟩
  case round =>
    obtain ⟨i, hi, rfl, hno, hbel⟩ := hrel
    by_cases hit : i < t
    case neg =>
      obtain rfl : i = t := by omega
      have hd : decide ((i : Int) < (i : Int)) = false := by simp
      go_wp2_with fail
      go_ret
      refine ⟨?_, hbel.out⟩
      rw [show answdTo l s i = none from firstTo_none.2 hno.out]; rfl
    case pos =>
      have hd : decide ((i : Int) < (t : Int)) = true := by simp; omega
      have hin : i < n := by omega
      have hkI : (0 : Int) ≤ (i : Int) := by omega
      have hkI2 : (i : Int) < (n : Int) := by omega
      have hsr := keepS HS.out hbel.out
      obtain ⟨bo, off, m, hd', hA, hDb, hm, hmi, hc⟩ := ms_at hsr.1 hsr.2 hin
      subst hA
      have hbl : bo < wr.heap.size := hsr.2 _ hDb
      have HIQ : Hid (isAns l s i = (!rq m && m.sq == s)) := isAns_at hm
      have e0 : wr.cell? ⟨bo, off + i * 14, none⟩ = some (.int .i64 m.kd) := hc 0 _ rfl
      have e1 : wr.cell? ⟨bo, off + i * 14 + 1, none⟩ = some (.int .u64 (m.ep : Int)) := hc 1 _ rfl
      have e2 : wr.cell? ⟨bo, off + i * 14 + 2, none⟩ = some (.int .u64 (m.sq : Int)) := hc 2 _ rfl
      have e3 : wr.cell? ⟨bo, off + i * 14 + 3, none⟩ = some (.int .u64 (m.ps : Int)) := hc 3 _ rfl
      have e4 : wr.cell? ⟨bo, off + i * 14 + 4, none⟩ = some (.int .i64 m.ct) := hc 4 _ rfl
      have e5 : wr.cell? ⟨bo, off + i * 14 + 5, none⟩ = some (.int .i64 m.st) := hc 5 _ rfl
      have e6 : wr.cell? ⟨bo, off + i * 14 + 6, none⟩ = some (.slice hd'.A1 hd'.n1 hd'.c1) := hc 6 _ rfl
      have e7 : wr.cell? ⟨bo, off + i * 14 + 7, none⟩ = some (.slice hd'.A2 hd'.n2 hd'.c2) := hc 7 _ rfl
      have e8 : wr.cell? ⟨bo, off + i * 14 + 8, none⟩ = some (.slice hd'.A3 hd'.n3 hd'.c3) := hc 8 _ rfl
      have e9 : wr.cell? ⟨bo, off + i * 14 + 9, none⟩ = some (.int .u64 (m.se.1 : Int)) := hc 9 _ rfl
      have e10 : wr.cell? ⟨bo, off + i * 14 + 10, none⟩ = some (.int .u64 (m.se.2.1 : Int)) := hc 10 _ rfl
      have e11 : wr.cell? ⟨bo, off + i * 14 + 11, none⟩ = some (.int .u64 (m.se.2.2 : Int)) := hc 11 _ rfl
      have e12 : wr.cell? ⟨bo, off + i * 14 + 12, none⟩ = some (.int .u64 (m.pr.1 : Int)) := hc 12 _ rfl
      have e13 : wr.cell? ⟨bo, off + i * 14 + 13, none⟩ = some (.slice hd'.A4 hd'.n4 hd'.c4) := hc 13 _ rfl
      have HRQ := Lib.hid (rreq_any m hd')
      obtain ⟨rb, hrb⟩ : ∃ b, (Kd.an m.kd != 0) = b := ⟨_, rfl⟩
      rw [hrb] at HRQ
      have HRB : Hid (rq m = rb) := hrb
      obtain ⟨eb, heb⟩ : ∃ b, ((m.sq : Int) == (s : Int)) = b := ⟨_, rfl⟩
      have HEB : Hid ((m.sq == s) = eb) := by
        show _ = _
        rw [← heb]
        by_cases h : m.sq = s
        · simp [h]
        · have h1 : ((m.sq : Int) == (s : Int)) = false := by simp; omega
          have h2 : (m.sq == s) = false := by simpa using h
          rw [h1, h2]
      have e2B := e2
      clear hc hm hmi hsr hDb hrb
      go_wp2_with fail
      refine (HRQ.out _).mono ?_; rintro e w2 ⟨rfl, hb2⟩
      have y2 := (hb2.cell (p := ⟨bo, off + i * 14 + 2, none⟩) hbl).trans e2
      have HB2 := Lib.hid (stepB hbel.out hb2)
      clear hb2 e2B e0 e1 e2 e3 e4 e5 e6 e7 e8 e9 e10 e11 e12 e13
      cases rb
      case true =>
        have HN : Hid (∀ j, j < i + 1 → isAns l s j = false) := fun j hj => by
          rcases Nat.lt_or_ge j i with h | h
          · exact hno.out j h
          · obtain rfl : j = i := by omega
            rw [HIQ.out, HRB.out]; rfl
        go_wp2_with fail
        go_roundw
        case rel => exact ⟨i + 1, by omega, by go_num, HN, HB2⟩
        case measure => simp [intOf]; omega
      case false =>
        cases eb
        case false =>
          have HN : Hid (∀ j, j < i + 1 → isAns l s j = false) := fun j hj => by
            rcases Nat.lt_or_ge j i with h | h
            · exact hno.out j h
            · obtain rfl : j = i := by omega
              rw [HIQ.out, HRB.out, HEB.out]; rfl
          go_wp2_with fail
          go_roundw
          case rel => exact ⟨i + 1, by omega, by go_num, HN, HB2⟩
          case measure => simp [intOf]; omega
        case true =>
          have HF : Hid (answdTo l s t = some i) := firstTo_some.2 ⟨hit, by rw [HIQ.out, HRB.out, HEB.out]; rfl, hno.out⟩
          go_wp2_with fail
          go_ret
          refine ⟨?_, HB2.out⟩
          rw [HF.out]; rfl
set_option maxRecDepth 100000 in
set_option maxHeartbeats 4000000 in
theorem rat30_any (hs : rpMs.sl w D A n c l) (hD : ∀ k, D k → k < w.heap.size) (hn1000 : n ≤ 1000) {i : Nat} (hin : i < n) :
    Calls Try.prog 31 #[.slice A n c, .int .i64 (i : Int)] w fun e w' => e = .returned (.int .i64 (atC l i)) ∧ Below w.heap.size w w' := by
  have HS := Lib.hid (show Sl rpMs w D A n c l from ⟨hs, hD⟩)
  clear hs hD
  have hkI : (0 : Int) ≤ (i : Int) := by omega
  have hkI2 : (i : Int) < (n : Int) := by omega
  obtain ⟨bo, off, m, hd', hA, hDb, hm, hmi, hc⟩ := ms_at HS.out.1 HS.out.2 hin
  subst hA
  have HM := Lib.hid hm
  have e0 : w.cell? ⟨bo, off + i * 14, none⟩ = some (.int .i64 m.kd) := hc 0 _ rfl
  have e1 : w.cell? ⟨bo, off + i * 14 + 1, none⟩ = some (.int .u64 (m.ep : Int)) := hc 1 _ rfl
  have e2 : w.cell? ⟨bo, off + i * 14 + 2, none⟩ = some (.int .u64 (m.sq : Int)) := hc 2 _ rfl
  have e3 : w.cell? ⟨bo, off + i * 14 + 3, none⟩ = some (.int .u64 (m.ps : Int)) := hc 3 _ rfl
  have e4 : w.cell? ⟨bo, off + i * 14 + 4, none⟩ = some (.int .i64 m.ct) := hc 4 _ rfl
  have e5 : w.cell? ⟨bo, off + i * 14 + 5, none⟩ = some (.int .i64 m.st) := hc 5 _ rfl
  have e6 : w.cell? ⟨bo, off + i * 14 + 6, none⟩ = some (.slice hd'.A1 hd'.n1 hd'.c1) := hc 6 _ rfl
  have e7 : w.cell? ⟨bo, off + i * 14 + 7, none⟩ = some (.slice hd'.A2 hd'.n2 hd'.c2) := hc 7 _ rfl
  have e8 : w.cell? ⟨bo, off + i * 14 + 8, none⟩ = some (.slice hd'.A3 hd'.n3 hd'.c3) := hc 8 _ rfl
  have e9 : w.cell? ⟨bo, off + i * 14 + 9, none⟩ = some (.int .u64 (m.se.1 : Int)) := hc 9 _ rfl
  have e10 : w.cell? ⟨bo, off + i * 14 + 10, none⟩ = some (.int .u64 (m.se.2.1 : Int)) := hc 10 _ rfl
  have e11 : w.cell? ⟨bo, off + i * 14 + 11, none⟩ = some (.int .u64 (m.se.2.2 : Int)) := hc 11 _ rfl
  have e12 : w.cell? ⟨bo, off + i * 14 + 12, none⟩ = some (.int .u64 (m.pr.1 : Int)) := hc 12 _ rfl
  have e13 : w.cell? ⟨bo, off + i * 14 + 13, none⟩ = some (.slice hd'.A4 hd'.n4 hd'.c4) := hc 13 _ rfl
  obtain ⟨r, hr⟩ : ∃ r, atC l i = r := ⟨_, rfl⟩
  rw [hr]
  have HR : Hid (r = atM l i m) := by show _ = _; rw [← hr]; exact atC_at hm
  have hba := below1 w (.cells (msV m hd') 32)
  have HB1 := Lib.hid hba
  have HK1 := Lib.hid (blk11 w 32 (msV m hd'))
  have HI1 := Lib.hid (hmi.below hba)
  have HS1 := Lib.hid (keepS HS.out hba)
  have hbl : bo < w.heap.size := HS.out.2 _ hDb
  have HHC := Lib.hid hc
  clear hc hm hmi hDb hr hba
  go_enter Try.func31, Try.ntmps31
  go_upto_region 2 with (fail)
  clear e0 e1 e2 e3 e4 e5 e6 e7 e8 e9 e10 e11 e12 e13
  generalize World.alloc w _ = w1 at *
  have z0 : w1.cell? ⟨w.heap.size, 0, none⟩ = some (.int .i64 m.kd) := (show Blk w1 (w.heap.size) 32 (msV m hd') from HK1.out).cell 0
  have z1 : w1.cell? ⟨w.heap.size, 1, none⟩ = some (.int .u64 (m.ep : Int)) := (show Blk w1 (w.heap.size) 32 (msV m hd') from HK1.out).cell 1
  have z2 : w1.cell? ⟨w.heap.size, 2, none⟩ = some (.int .u64 (m.sq : Int)) := (show Blk w1 (w.heap.size) 32 (msV m hd') from HK1.out).cell 2
  have z3 : w1.cell? ⟨w.heap.size, 3, none⟩ = some (.int .u64 (m.ps : Int)) := (show Blk w1 (w.heap.size) 32 (msV m hd') from HK1.out).cell 3
  have z4 : w1.cell? ⟨w.heap.size, 4, none⟩ = some (.int .i64 m.ct) := (show Blk w1 (w.heap.size) 32 (msV m hd') from HK1.out).cell 4
  have z5 : w1.cell? ⟨w.heap.size, 5, none⟩ = some (.int .i64 m.st) := (show Blk w1 (w.heap.size) 32 (msV m hd') from HK1.out).cell 5
  have z6 : w1.cell? ⟨w.heap.size, 6, none⟩ = some (.slice hd'.A1 hd'.n1 hd'.c1) := (show Blk w1 (w.heap.size) 32 (msV m hd') from HK1.out).cell 6
  have z7 : w1.cell? ⟨w.heap.size, 7, none⟩ = some (.slice hd'.A2 hd'.n2 hd'.c2) := (show Blk w1 (w.heap.size) 32 (msV m hd') from HK1.out).cell 7
  have z8 : w1.cell? ⟨w.heap.size, 8, none⟩ = some (.slice hd'.A3 hd'.n3 hd'.c3) := (show Blk w1 (w.heap.size) 32 (msV m hd') from HK1.out).cell 8
  have z9 : w1.cell? ⟨w.heap.size, 9, none⟩ = some (.int .u64 (m.se.1 : Int)) := (show Blk w1 (w.heap.size) 32 (msV m hd') from HK1.out).cell 9
  have z10 : w1.cell? ⟨w.heap.size, 10, none⟩ = some (.int .u64 (m.se.2.1 : Int)) := (show Blk w1 (w.heap.size) 32 (msV m hd') from HK1.out).cell 10
  have z11 : w1.cell? ⟨w.heap.size, 11, none⟩ = some (.int .u64 (m.se.2.2 : Int)) := (show Blk w1 (w.heap.size) 32 (msV m hd') from HK1.out).cell 11
  have z12 : w1.cell? ⟨w.heap.size, 12, none⟩ = some (.int .u64 (m.pr.1 : Int)) := (show Blk w1 (w.heap.size) 32 (msV m hd') from HK1.out).cell 12
  have z13 : w1.cell? ⟨w.heap.size, 13, none⟩ = some (.slice hd'.A4 hd'.n4 hd'.c4) := (show Blk w1 (w.heap.size) 32 (msV m hd') from HK1.out).cell 13
  obtain ⟨mo, hmo⟩ : ∃ q, dec (MOk m) = q := ⟨_, rfl⟩
  have HMR := rmright_any HI1.out
  rw [hmo] at HMR
  have HMR' := Lib.hid HMR
  have HMO := Lib.hid hmo
  clear HMR hmo
  go_wp2_with fail
  refine HMR'.out.mono ?_; rintro e w2 ⟨rfl, hb2⟩
  have HB2 := Lib.hid (stepB HB1.out hb2)
  have HI2 := Lib.hid (HI1.out.below hb2)
  have HS2 := Lib.hid (keepS HS1.out hb2)
  have HK2 : Hid (Blk w2 w.heap.size 32 (msV m hd')) := Lib.hid (keepB (show Blk w1 w.heap.size 32 (msV m hd') from HK1.out) hb2)
  clear z0 z1 z2 z3 z4 z5 z6 z7 z8 z9 z10 z11 z12 z13
  clear hb2
  cases mo
  case false =>
    obtain rfl : r = 3 := by rw [HR.out]; unfold atM; rw [if_pos (of_not_dec HMO.out)]
    go_wp2_with fail
    go_ret
    exact ⟨rfl, HB2.out⟩
  case true =>
  have HOK : Hid (MOk m) := of_dec HMO.out
  have HRQ := rreq_any m hd'
  obtain ⟨rb, hrb⟩ : ∃ b, (Kd.an m.kd != 0) = b := ⟨_, rfl⟩
  rw [hrb] at HRQ
  have HRQ' := Lib.hid HRQ
  have HRB : Hid (rq m = rb) := hrb
  clear HRQ hrb
  have z0 : w2.cell? ⟨w.heap.size, 0, none⟩ = some (.int .i64 m.kd) := (show Blk w2 (w.heap.size) 32 (msV m hd') from HK2.out).cell 0
  have z1 : w2.cell? ⟨w.heap.size, 1, none⟩ = some (.int .u64 (m.ep : Int)) := (show Blk w2 (w.heap.size) 32 (msV m hd') from HK2.out).cell 1
  have z2 : w2.cell? ⟨w.heap.size, 2, none⟩ = some (.int .u64 (m.sq : Int)) := (show Blk w2 (w.heap.size) 32 (msV m hd') from HK2.out).cell 2
  have z3 : w2.cell? ⟨w.heap.size, 3, none⟩ = some (.int .u64 (m.ps : Int)) := (show Blk w2 (w.heap.size) 32 (msV m hd') from HK2.out).cell 3
  have z4 : w2.cell? ⟨w.heap.size, 4, none⟩ = some (.int .i64 m.ct) := (show Blk w2 (w.heap.size) 32 (msV m hd') from HK2.out).cell 4
  have z5 : w2.cell? ⟨w.heap.size, 5, none⟩ = some (.int .i64 m.st) := (show Blk w2 (w.heap.size) 32 (msV m hd') from HK2.out).cell 5
  have z6 : w2.cell? ⟨w.heap.size, 6, none⟩ = some (.slice hd'.A1 hd'.n1 hd'.c1) := (show Blk w2 (w.heap.size) 32 (msV m hd') from HK2.out).cell 6
  have z7 : w2.cell? ⟨w.heap.size, 7, none⟩ = some (.slice hd'.A2 hd'.n2 hd'.c2) := (show Blk w2 (w.heap.size) 32 (msV m hd') from HK2.out).cell 7
  have z8 : w2.cell? ⟨w.heap.size, 8, none⟩ = some (.slice hd'.A3 hd'.n3 hd'.c3) := (show Blk w2 (w.heap.size) 32 (msV m hd') from HK2.out).cell 8
  have z9 : w2.cell? ⟨w.heap.size, 9, none⟩ = some (.int .u64 (m.se.1 : Int)) := (show Blk w2 (w.heap.size) 32 (msV m hd') from HK2.out).cell 9
  have z10 : w2.cell? ⟨w.heap.size, 10, none⟩ = some (.int .u64 (m.se.2.1 : Int)) := (show Blk w2 (w.heap.size) 32 (msV m hd') from HK2.out).cell 10
  have z11 : w2.cell? ⟨w.heap.size, 11, none⟩ = some (.int .u64 (m.se.2.2 : Int)) := (show Blk w2 (w.heap.size) 32 (msV m hd') from HK2.out).cell 11
  have z12 : w2.cell? ⟨w.heap.size, 12, none⟩ = some (.int .u64 (m.pr.1 : Int)) := (show Blk w2 (w.heap.size) 32 (msV m hd') from HK2.out).cell 12
  have z13 : w2.cell? ⟨w.heap.size, 13, none⟩ = some (.slice hd'.A4 hd'.n4 hd'.c4) := (show Blk w2 (w.heap.size) 32 (msV m hd') from HK2.out).cell 13
  go_wp2_with fail
  refine (HRQ'.out _).mono ?_; rintro e w3 ⟨rfl, hb3⟩
  have HB3 := Lib.hid (stepB HB2.out hb3)
  have HI3 := Lib.hid (HI2.out.below hb3)
  have HS3 := Lib.hid (keepS HS2.out hb3)
  have HK3 : Hid (Blk w3 w.heap.size 32 (msV m hd')) := Lib.hid (keepB (show Blk w2 w.heap.size 32 (msV m hd') from HK2.out) hb3)
  clear z0 z1 z2 z3 z4 z5 z6 z7 z8 z9 z10 z11 z12 z13
  clear hb3
  cases rb
  case true =>
    have HRY : Hid (Late l i m.sq → r = 13) := fun hl => by
      rw [HR.out]; unfold atM; rw [if_neg (fun hh => hh HOK.out), if_pos HRB.out, if_pos hl]
    have HRN : Hid (¬ Late l i m.sq → r = 0) := fun hl => by
      rw [HR.out]; unfold atM; rw [if_neg (fun hh => hh HOK.out), if_pos HRB.out, if_neg hl]
    go_wp2_with fail
    go_loopw [6] (fun v6 wr => ∃ k : Nat, k ≤ i ∧ v6 = .int .i64 (k : Int) ∧ Hid (¬ Late l k m.sq) ∧ Hid (Below w3.heap.size w3 wr)) (fun v6 _ => i - (intOf v6).toNat)
    case atStart => exact ⟨0, by omega, rfl, fun ⟨k, _, h, _⟩ => absurd h (Nat.not_lt_zero _), Below.refl _ _⟩
    case round =>
      obtain ⟨k, hk, rfl, hnl, hbel⟩ := hrel
      by_cases hki : k < i
      case neg =>
        obtain rfl : k = i := by omega
        have hd : decide ((k : Int) < (k : Int)) = false := by simp
        obtain rfl : r = 0 := HRN.out hnl.out
        go_wp2_with fail
        go_ret
        exact ⟨rfl, stepB HB3.out hbel.out⟩
      case pos =>
        have hd : decide ((k : Int) < (i : Int)) = true := by simp; omega
        have hkn : k < n := by omega
        have hqI : (0 : Int) ≤ (k : Int) := by omega
        have hqI2 : (k : Int) < (n : Int) := by omega
        have HSR := Lib.hid (keepS HS3.out hbel.out)
        obtain ⟨bo2, off2, q, hdq, hA2, hD2, hq, hqi, hcq⟩ := ms_at HSR.out.1 HSR.out.2 hkn
        injection hA2 with hA2
        injection hA2 with e1 e2
        subst e1; subst e2
        have hbr : bo < wr.heap.size := HSR.out.2 _ hD2
        have HKR : Hid (Blk wr w.heap.size 32 (msV m hd')) := Lib.hid (keepB (show Blk w3 w.heap.size 32 (msV m hd') from HK3.out) hbel.out)
        have HQ := Lib.hid hq
        have y0 : ∀ x : Gr wr.heap.size wr, x.val.cell? ⟨bo, off + k * 14, none⟩ = some (.int .i64 q.kd) := fun x => (x.is.cell (p := ⟨bo, off + k * 14, none⟩) hbr).trans (hcq 0 _ rfl)
        have y1 : ∀ x : Gr wr.heap.size wr, x.val.cell? ⟨bo, off + k * 14 + 1, none⟩ = some (.int .u64 (q.ep : Int)) := fun x => (x.is.cell (p := ⟨bo, off + k * 14 + 1, none⟩) hbr).trans (hcq 1 _ rfl)
        have y2 : ∀ x : Gr wr.heap.size wr, x.val.cell? ⟨bo, off + k * 14 + 2, none⟩ = some (.int .u64 (q.sq : Int)) := fun x => (x.is.cell (p := ⟨bo, off + k * 14 + 2, none⟩) hbr).trans (hcq 2 _ rfl)
        have y3 : ∀ x : Gr wr.heap.size wr, x.val.cell? ⟨bo, off + k * 14 + 3, none⟩ = some (.int .u64 (q.ps : Int)) := fun x => (x.is.cell (p := ⟨bo, off + k * 14 + 3, none⟩) hbr).trans (hcq 3 _ rfl)
        have y4 : ∀ x : Gr wr.heap.size wr, x.val.cell? ⟨bo, off + k * 14 + 4, none⟩ = some (.int .i64 q.ct) := fun x => (x.is.cell (p := ⟨bo, off + k * 14 + 4, none⟩) hbr).trans (hcq 4 _ rfl)
        have y5 : ∀ x : Gr wr.heap.size wr, x.val.cell? ⟨bo, off + k * 14 + 5, none⟩ = some (.int .i64 q.st) := fun x => (x.is.cell (p := ⟨bo, off + k * 14 + 5, none⟩) hbr).trans (hcq 5 _ rfl)
        have y6 : ∀ x : Gr wr.heap.size wr, x.val.cell? ⟨bo, off + k * 14 + 6, none⟩ = some (.slice hdq.A1 hdq.n1 hdq.c1) := fun x => (x.is.cell (p := ⟨bo, off + k * 14 + 6, none⟩) hbr).trans (hcq 6 _ rfl)
        have y7 : ∀ x : Gr wr.heap.size wr, x.val.cell? ⟨bo, off + k * 14 + 7, none⟩ = some (.slice hdq.A2 hdq.n2 hdq.c2) := fun x => (x.is.cell (p := ⟨bo, off + k * 14 + 7, none⟩) hbr).trans (hcq 7 _ rfl)
        have y8 : ∀ x : Gr wr.heap.size wr, x.val.cell? ⟨bo, off + k * 14 + 8, none⟩ = some (.slice hdq.A3 hdq.n3 hdq.c3) := fun x => (x.is.cell (p := ⟨bo, off + k * 14 + 8, none⟩) hbr).trans (hcq 8 _ rfl)
        have y9 : ∀ x : Gr wr.heap.size wr, x.val.cell? ⟨bo, off + k * 14 + 9, none⟩ = some (.int .u64 (q.se.1 : Int)) := fun x => (x.is.cell (p := ⟨bo, off + k * 14 + 9, none⟩) hbr).trans (hcq 9 _ rfl)
        have y10 : ∀ x : Gr wr.heap.size wr, x.val.cell? ⟨bo, off + k * 14 + 10, none⟩ = some (.int .u64 (q.se.2.1 : Int)) := fun x => (x.is.cell (p := ⟨bo, off + k * 14 + 10, none⟩) hbr).trans (hcq 10 _ rfl)
        have y11 : ∀ x : Gr wr.heap.size wr, x.val.cell? ⟨bo, off + k * 14 + 11, none⟩ = some (.int .u64 (q.se.2.2 : Int)) := fun x => (x.is.cell (p := ⟨bo, off + k * 14 + 11, none⟩) hbr).trans (hcq 11 _ rfl)
        have y12 : ∀ x : Gr wr.heap.size wr, x.val.cell? ⟨bo, off + k * 14 + 12, none⟩ = some (.int .u64 (q.pr.1 : Int)) := fun x => (x.is.cell (p := ⟨bo, off + k * 14 + 12, none⟩) hbr).trans (hcq 12 _ rfl)
        have y13 : ∀ x : Gr wr.heap.size wr, x.val.cell? ⟨bo, off + k * 14 + 13, none⟩ = some (.slice hdq.A4 hdq.n4 hdq.c4) := fun x => (x.is.cell (p := ⟨bo, off + k * 14 + 13, none⟩) hbr).trans (hcq 13 _ rfl)
        have z2 : ∀ x : Gr wr.heap.size wr, x.val.cell? ⟨w.heap.size, 2, none⟩ = some (.int .u64 (m.sq : Int)) := fun x => (x.is.cell (p := ⟨w.heap.size, 2, none⟩) (show Blk wr (w.heap.size) 32 (msV m hd') from HKR.out).lt).trans ((show Blk wr (w.heap.size) 32 (msV m hd') from HKR.out).cell 2)
        have HQR := rreq_any q hdq
        obtain ⟨qb, hqb⟩ : ∃ b, (Kd.an q.kd != 0) = b := ⟨_, rfl⟩
        rw [hqb] at HQR
        have HQR' := Lib.hid HQR
        have HQB : Hid (rq q = qb) := hqb
        obtain ⟨lb, hlb⟩ : ∃ b, decide ((m.sq : Int) ≤ (q.sq : Int)) = b := ⟨_, rfl⟩
        have hlb2 : decide (m.sq ≤ q.sq) = lb := by rw [← hlb]; simp
        have HLB := Lib.hid hlb2
        have HNX : Hid ((qb && lb) = false → ¬ Late l (k + 1) m.sq) := fun h ⟨j, x, h1, h2, h3, h4⟩ => by
          rcases Nat.lt_or_ge j k with h5 | h5
          · exact hnl.out ⟨j, x, h5, h2, h3, h4⟩
          · obtain rfl : j = k := by omega
            rw [HQ.out] at h2
            injection h2 with h2
            subst h2
            rw [← HQB.out, ← HLB.out, h3] at h
            simp at h
            omega
        have HYS : Hid (qb = true → lb = true → Late l i m.sq) := fun h1 h2 => ⟨k, q, hki, HQ.out, HQB.out.trans h1, of_decide_eq_true (HLB.out.trans h2)⟩
        clear hcq hq hqi hD2 HQR hqb
        go_upto_region 8 with (fail)
        have hjoin : ∀ sb : Bool, sb = (qb && lb) → True := fun _ _ => trivial
        go_cut [36] (fun sx wx => sx = .bool (qb && lb) ∧ Hid (Below w3.heap.size w3 wx))
        case first =>
          cases qb
          all_goals
            refine wp_region_grow (by kernel_rfl) (by kernel_rfl) wr.heap.size ?_
            repeat (first | go_big_quiet_step ((go_at_call 17; exact Gr.call _ (Nat.le_refl _) (HQR'.out _))) | quiet_step ((go_at_call 17; exact Gr.call _ (Nat.le_refl _) (HQR'.out _))))
            refine wpQuiet_nil ?_
            rintro w5 ⟨⟨_, hb5⟩, rfl⟩
            go_wp2_with fail
            go_meet
            exact ⟨rfl, stepB hbel.out hb5⟩
        case rest =>
        obtain ⟨rfl, hbx⟩ := hcut
        obtain ⟨sb, hsb⟩ : ∃ sb, (qb && lb) = sb := ⟨_, rfl⟩
        rw [hsb]
        have HSB := Lib.hid hsb
        have HBX := Lib.hid hbx.out
        clear hsb hlb hlb2 hbx y0 y1 y2 y3 y4 y5 y6 y7 y8 y9 y10 y11 y12 y13 z2
        cases sb
        case true =>
          obtain ⟨h1, h2⟩ := (Bool.and_eq_true _ _).mp HSB.out
          obtain rfl : r = 13 := HRY.out (HYS.out h1 h2)
          clear h1 h2
          go_wp2_with fail
          go_ret
          exact ⟨rfl, stepB HB3.out HBX.out⟩
        case false =>
          have HN := Lib.hid (HNX.out HSB.out)
          go_wp2_with fail
          go_roundw
          case rel => exact ⟨k + 1, by omega, by go_num, HN, HBX⟩
          case measure => simp [intOf]; omega
  case false =>
    have HR2 : Hid (r = ansC l i m) := by
      show _ = _
      rw [HR.out]; unfold atM; rw [if_neg (fun hh => hh HOK.out), if_neg (by rw [HRB.out]; decide)]
    have k2 : w3.cell? ⟨w.heap.size, 2, none⟩ = some (.int .u64 (m.sq : Int)) := (show Blk w3 w.heap.size 32 (msV m hd') from HK3.out).cell 2
    have HAS := rasked_any HS3.out.1 HS3.out.2 hn1000 m.sq (Nat.le_of_lt hin)
    obtain ⟨ka, hka⟩ : ∃ q, askedTo l m.sq i = q := ⟨_, rfl⟩
    rw [hka] at HAS
    obtain ⟨kv, hkv⟩ : ∃ v, optI ka = v := ⟨_, rfl⟩
    rw [hkv] at HAS
    have HAS' := Lib.hid HAS
    have HKV := Lib.hid hkv
    clear hkv
    have HKA := Lib.hid hka
    clear HAS hka
    go_wp2_with fail
    refine HAS'.out.mono ?_; rintro e w4 ⟨rfl, hb4⟩
    have HB4 := Lib.hid (stepB HB3.out hb4)
    have HI4 := Lib.hid (HI3.out.below hb4)
    have HS4 := Lib.hid (keepS HS3.out hb4)
    have HK4 : Hid (Blk w4 w.heap.size 32 (msV m hd')) := Lib.hid (keepB (show Blk w3 w.heap.size 32 (msV m hd') from HK3.out) hb4)
    clear hb4 k2
    cases ka
    case none =>
      obtain rfl : r = 16 := by rw [HR2.out]; unfold ansC; rw [HKA.out]
      obtain rfl : kv = -1 := HKV.out.symm
      go_wp2_with fail
      go_ret
      exact ⟨rfl, HB4.out⟩
    case some k =>
      obtain ⟨hki, q0, hq0, _, _⟩ := asked_lt HKA.out
      obtain rfl : kv = (k : Int) := HKV.out.symm
      have hdk : decide ((k : Int) < 0) = false := by simp
      have k2 : w4.cell? ⟨w.heap.size, 2, none⟩ = some (.int .u64 (m.sq : Int)) := (show Blk w4 w.heap.size 32 (msV m hd') from HK4.out).cell 2
      have HAN := ransd_any HS4.out.1 HS4.out.2 hn1000 m.sq (Nat.le_of_lt hin)
      obtain ⟨ja, hja⟩ : ∃ q, answdTo l m.sq i = q := ⟨_, rfl⟩
      rw [hja] at HAN
      obtain ⟨jv, hjv⟩ : ∃ v, optI ja = v := ⟨_, rfl⟩
      rw [hjv] at HAN
      have HAN' := Lib.hid HAN
      have HJV := Lib.hid hjv
      clear hjv
      have HJA := Lib.hid hja
      clear HAN hja hq0
      go_wp2_with fail
      refine HAN'.out.mono ?_; rintro e w5 ⟨rfl, hb5⟩
      have HB5 := Lib.hid (stepB HB4.out hb5)
      have HI5 := Lib.hid (HI4.out.below hb5)
      have HS5 := Lib.hid (keepS HS4.out hb5)
      have HK5 : Hid (Blk w5 w.heap.size 32 (msV m hd')) := Lib.hid (keepB (show Blk w4 w.heap.size 32 (msV m hd') from HK4.out) hb5)
      clear hb5 k2
      cases ja
      case some j =>
        obtain rfl : r = 18 := by rw [HR2.out]; unfold ansC; rw [HKA.out, HJA.out]; rfl
        have hdj : decide ((0 : Int) ≤ (j : Int)) = true := by simp
        obtain rfl : jv = (j : Int) := HJV.out.symm
        go_wp2_with fail
        go_ret
        exact ⟨rfl, HB5.out⟩
      case none =>
        have hkn : k < n := by omega
        have hqI : (0 : Int) ≤ (k : Int) := by omega
        have hqI2 : (k : Int) < (n : Int) := by omega
        obtain ⟨bo2, off2, q, hdq, hA2, hD2, hq, hqi, hcq⟩ := ms_at HS5.out.1 HS5.out.2 hkn
        injection hA2 with hA2
        injection hA2 with e1 e2
        subst e1; subst e2
        have hbr : bo < w5.heap.size := HS5.out.2 _ hD2
        have HR3 : Hid (r = fitsC q m) := by
          show _ = _
          rw [HR2.out]; unfold ansC; rw [HKA.out, HJA.out]; dsimp only; rw [hq, if_neg (by decide)]
        have HFT := Lib.hid (fun u (hu : Below w5.heap.size w5 u) => rfits_any (hqi.below hu) (HI5.out.below hu))
        rw [← HR3.out] at HFT
        have y0 : ∀ x : Gr w5.heap.size w5, x.val.cell? ⟨bo, off + k * 14, none⟩ = some (.int .i64 q.kd) := fun x => (x.is.cell (p := ⟨bo, off + k * 14, none⟩) hbr).trans (hcq 0 _ rfl)
        have y1 : ∀ x : Gr w5.heap.size w5, x.val.cell? ⟨bo, off + k * 14 + 1, none⟩ = some (.int .u64 (q.ep : Int)) := fun x => (x.is.cell (p := ⟨bo, off + k * 14 + 1, none⟩) hbr).trans (hcq 1 _ rfl)
        have y2 : ∀ x : Gr w5.heap.size w5, x.val.cell? ⟨bo, off + k * 14 + 2, none⟩ = some (.int .u64 (q.sq : Int)) := fun x => (x.is.cell (p := ⟨bo, off + k * 14 + 2, none⟩) hbr).trans (hcq 2 _ rfl)
        have y3 : ∀ x : Gr w5.heap.size w5, x.val.cell? ⟨bo, off + k * 14 + 3, none⟩ = some (.int .u64 (q.ps : Int)) := fun x => (x.is.cell (p := ⟨bo, off + k * 14 + 3, none⟩) hbr).trans (hcq 3 _ rfl)
        have y4 : ∀ x : Gr w5.heap.size w5, x.val.cell? ⟨bo, off + k * 14 + 4, none⟩ = some (.int .i64 q.ct) := fun x => (x.is.cell (p := ⟨bo, off + k * 14 + 4, none⟩) hbr).trans (hcq 4 _ rfl)
        have y5 : ∀ x : Gr w5.heap.size w5, x.val.cell? ⟨bo, off + k * 14 + 5, none⟩ = some (.int .i64 q.st) := fun x => (x.is.cell (p := ⟨bo, off + k * 14 + 5, none⟩) hbr).trans (hcq 5 _ rfl)
        have y6 : ∀ x : Gr w5.heap.size w5, x.val.cell? ⟨bo, off + k * 14 + 6, none⟩ = some (.slice hdq.A1 hdq.n1 hdq.c1) := fun x => (x.is.cell (p := ⟨bo, off + k * 14 + 6, none⟩) hbr).trans (hcq 6 _ rfl)
        have y7 : ∀ x : Gr w5.heap.size w5, x.val.cell? ⟨bo, off + k * 14 + 7, none⟩ = some (.slice hdq.A2 hdq.n2 hdq.c2) := fun x => (x.is.cell (p := ⟨bo, off + k * 14 + 7, none⟩) hbr).trans (hcq 7 _ rfl)
        have y8 : ∀ x : Gr w5.heap.size w5, x.val.cell? ⟨bo, off + k * 14 + 8, none⟩ = some (.slice hdq.A3 hdq.n3 hdq.c3) := fun x => (x.is.cell (p := ⟨bo, off + k * 14 + 8, none⟩) hbr).trans (hcq 8 _ rfl)
        have y9 : ∀ x : Gr w5.heap.size w5, x.val.cell? ⟨bo, off + k * 14 + 9, none⟩ = some (.int .u64 (q.se.1 : Int)) := fun x => (x.is.cell (p := ⟨bo, off + k * 14 + 9, none⟩) hbr).trans (hcq 9 _ rfl)
        have y10 : ∀ x : Gr w5.heap.size w5, x.val.cell? ⟨bo, off + k * 14 + 10, none⟩ = some (.int .u64 (q.se.2.1 : Int)) := fun x => (x.is.cell (p := ⟨bo, off + k * 14 + 10, none⟩) hbr).trans (hcq 10 _ rfl)
        have y11 : ∀ x : Gr w5.heap.size w5, x.val.cell? ⟨bo, off + k * 14 + 11, none⟩ = some (.int .u64 (q.se.2.2 : Int)) := fun x => (x.is.cell (p := ⟨bo, off + k * 14 + 11, none⟩) hbr).trans (hcq 11 _ rfl)
        have y12 : ∀ x : Gr w5.heap.size w5, x.val.cell? ⟨bo, off + k * 14 + 12, none⟩ = some (.int .u64 (q.pr.1 : Int)) := fun x => (x.is.cell (p := ⟨bo, off + k * 14 + 12, none⟩) hbr).trans (hcq 12 _ rfl)
        have y13 : ∀ x : Gr w5.heap.size w5, x.val.cell? ⟨bo, off + k * 14 + 13, none⟩ = some (.slice hdq.A4 hdq.n4 hdq.c4) := fun x => (x.is.cell (p := ⟨bo, off + k * 14 + 13, none⟩) hbr).trans (hcq 13 _ rfl)
        have z0 : ∀ x : Gr w5.heap.size w5, x.val.cell? ⟨w.heap.size, 0, none⟩ = some (.int .i64 m.kd) := fun x => (x.is.cell (p := ⟨w.heap.size, 0, none⟩) (show Blk w5 (w.heap.size) 32 (msV m hd') from HK5.out).lt).trans ((show Blk w5 (w.heap.size) 32 (msV m hd') from HK5.out).cell 0)
        have z1 : ∀ x : Gr w5.heap.size w5, x.val.cell? ⟨w.heap.size, 1, none⟩ = some (.int .u64 (m.ep : Int)) := fun x => (x.is.cell (p := ⟨w.heap.size, 1, none⟩) (show Blk w5 (w.heap.size) 32 (msV m hd') from HK5.out).lt).trans ((show Blk w5 (w.heap.size) 32 (msV m hd') from HK5.out).cell 1)
        have z2 : ∀ x : Gr w5.heap.size w5, x.val.cell? ⟨w.heap.size, 2, none⟩ = some (.int .u64 (m.sq : Int)) := fun x => (x.is.cell (p := ⟨w.heap.size, 2, none⟩) (show Blk w5 (w.heap.size) 32 (msV m hd') from HK5.out).lt).trans ((show Blk w5 (w.heap.size) 32 (msV m hd') from HK5.out).cell 2)
        have z3 : ∀ x : Gr w5.heap.size w5, x.val.cell? ⟨w.heap.size, 3, none⟩ = some (.int .u64 (m.ps : Int)) := fun x => (x.is.cell (p := ⟨w.heap.size, 3, none⟩) (show Blk w5 (w.heap.size) 32 (msV m hd') from HK5.out).lt).trans ((show Blk w5 (w.heap.size) 32 (msV m hd') from HK5.out).cell 3)
        have z4 : ∀ x : Gr w5.heap.size w5, x.val.cell? ⟨w.heap.size, 4, none⟩ = some (.int .i64 m.ct) := fun x => (x.is.cell (p := ⟨w.heap.size, 4, none⟩) (show Blk w5 (w.heap.size) 32 (msV m hd') from HK5.out).lt).trans ((show Blk w5 (w.heap.size) 32 (msV m hd') from HK5.out).cell 4)
        have z5 : ∀ x : Gr w5.heap.size w5, x.val.cell? ⟨w.heap.size, 5, none⟩ = some (.int .i64 m.st) := fun x => (x.is.cell (p := ⟨w.heap.size, 5, none⟩) (show Blk w5 (w.heap.size) 32 (msV m hd') from HK5.out).lt).trans ((show Blk w5 (w.heap.size) 32 (msV m hd') from HK5.out).cell 5)
        have z6 : ∀ x : Gr w5.heap.size w5, x.val.cell? ⟨w.heap.size, 6, none⟩ = some (.slice hd'.A1 hd'.n1 hd'.c1) := fun x => (x.is.cell (p := ⟨w.heap.size, 6, none⟩) (show Blk w5 (w.heap.size) 32 (msV m hd') from HK5.out).lt).trans ((show Blk w5 (w.heap.size) 32 (msV m hd') from HK5.out).cell 6)
        have z7 : ∀ x : Gr w5.heap.size w5, x.val.cell? ⟨w.heap.size, 7, none⟩ = some (.slice hd'.A2 hd'.n2 hd'.c2) := fun x => (x.is.cell (p := ⟨w.heap.size, 7, none⟩) (show Blk w5 (w.heap.size) 32 (msV m hd') from HK5.out).lt).trans ((show Blk w5 (w.heap.size) 32 (msV m hd') from HK5.out).cell 7)
        have z8 : ∀ x : Gr w5.heap.size w5, x.val.cell? ⟨w.heap.size, 8, none⟩ = some (.slice hd'.A3 hd'.n3 hd'.c3) := fun x => (x.is.cell (p := ⟨w.heap.size, 8, none⟩) (show Blk w5 (w.heap.size) 32 (msV m hd') from HK5.out).lt).trans ((show Blk w5 (w.heap.size) 32 (msV m hd') from HK5.out).cell 8)
        have z9 : ∀ x : Gr w5.heap.size w5, x.val.cell? ⟨w.heap.size, 9, none⟩ = some (.int .u64 (m.se.1 : Int)) := fun x => (x.is.cell (p := ⟨w.heap.size, 9, none⟩) (show Blk w5 (w.heap.size) 32 (msV m hd') from HK5.out).lt).trans ((show Blk w5 (w.heap.size) 32 (msV m hd') from HK5.out).cell 9)
        have z10 : ∀ x : Gr w5.heap.size w5, x.val.cell? ⟨w.heap.size, 10, none⟩ = some (.int .u64 (m.se.2.1 : Int)) := fun x => (x.is.cell (p := ⟨w.heap.size, 10, none⟩) (show Blk w5 (w.heap.size) 32 (msV m hd') from HK5.out).lt).trans ((show Blk w5 (w.heap.size) 32 (msV m hd') from HK5.out).cell 10)
        have z11 : ∀ x : Gr w5.heap.size w5, x.val.cell? ⟨w.heap.size, 11, none⟩ = some (.int .u64 (m.se.2.2 : Int)) := fun x => (x.is.cell (p := ⟨w.heap.size, 11, none⟩) (show Blk w5 (w.heap.size) 32 (msV m hd') from HK5.out).lt).trans ((show Blk w5 (w.heap.size) 32 (msV m hd') from HK5.out).cell 11)
        have z12 : ∀ x : Gr w5.heap.size w5, x.val.cell? ⟨w.heap.size, 12, none⟩ = some (.int .u64 (m.pr.1 : Int)) := fun x => (x.is.cell (p := ⟨w.heap.size, 12, none⟩) (show Blk w5 (w.heap.size) 32 (msV m hd') from HK5.out).lt).trans ((show Blk w5 (w.heap.size) 32 (msV m hd') from HK5.out).cell 12)
        have z13 : ∀ x : Gr w5.heap.size w5, x.val.cell? ⟨w.heap.size, 13, none⟩ = some (.slice hd'.A4 hd'.n4 hd'.c4) := fun x => (x.is.cell (p := ⟨w.heap.size, 13, none⟩) (show Blk w5 (w.heap.size) 32 (msV m hd') from HK5.out).lt).trans ((show Blk w5 (w.heap.size) 32 (msV m hd') from HK5.out).cell 13)
        clear hcq hq hqi hD2
        obtain rfl : jv = -1 := HJV.out.symm
        go_upto_region 16 with (fail)
        refine wp_region_grow (by kernel_rfl) (by kernel_rfl) w5.heap.size ?_
        repeat (first | go_big_quiet_step ((go_at_call 10; exact Gr.call _ (Nat.le_refl _) (HFT.out _ (Gr.is _)))) | quiet_step ((go_at_call 10; exact Gr.call _ (Nat.le_refl _) (HFT.out _ (Gr.is _)))))
        refine wpQuiet_nil ?_
        rintro w6 ⟨⟨_, hb6⟩, rfl⟩
        clear y0 y1 y2 y3 y4 y5 y6 y7 y8 y9 y10 y11 y12 y13
        clear z0 z1 z2 z3 z4 z5 z6 z7 z8 z9 z10 z11 z12 z13
        go_wp2_with fail
        go_ret
        exact ⟨rfl, stepB HB5.out hb6⟩
set_option maxRecDepth 100000 in
set_option maxHeartbeats 2000000 in
theorem rcheck_any (hs : rpMs.sl w D A n c l) (hD : ∀ k, D k → k < w.heap.size) (hn1000 : n ≤ 1000) :
    Calls Try.prog 13 #[.slice A n c] w fun e w' => e = .returned (.tuple #[.int .i64 ((res l).1 : Int), .int .i64 (res l).2]) ∧ Below w.heap.size w w' := by
  have HS := Lib.hid (show Sl rpMs w D A n c l from ⟨hs, hD⟩)
  have HN := Lib.hid (Rp.sl_len hs).1
  obtain ⟨r, hr⟩ : ∃ r, res l = r := ⟨_, rfl⟩
  rw [hr]
  have HR := Lib.hid hr
  clear hs hD hr
  obtain ⟨r1, r2⟩ := r
  dsimp only
  go_enter Try.func13, Try.ntmps13
  go_wp2_with fail
  go_loopw [4] (fun v4 wr => ∃ i : Nat, i ≤ n ∧ v4 = .int .i64 (i : Int) ∧ Hid (Good l i) ∧ Hid (Below w.heap.size w wr)) (fun v4 _ => n - (intOf v4).toNat)
  case atStart => exact ⟨0, by omega, rfl, good_zero l, Below.refl _ _⟩
  case round =>
    obtain ⟨i, hi, rfl, hg, hbel⟩ := hrel
    by_cases hin : i < n
    case neg =>
      obtain rfl : i = n := by omega
      have hd : decide ((i : Int) < (i : Int)) = false := by simp
      have h := res_good (l := l) (by rw [HN.out]; exact hg.out)
      rw [HR.out, HN.out] at h
      injection h with h1 h2
      subst h1; subst h2
      go_wp2_with fail
      go_ret2
      exact ⟨rfl, hbel.out⟩
    case pos =>
      have hd : decide ((i : Int) < (n : Int)) = true := by simp; omega
      have hsr := keepS HS.out hbel.out
      have HAT := rat30_any hsr.1 hsr.2 hn1000 hin
      obtain ⟨k, hk⟩ : ∃ k, atC l i = k := ⟨_, rfl⟩
      rw [hk] at HAT
      have HAT' := Lib.hid HAT
      have HK := Lib.hid hk
      clear HAT hk hsr
      go_wp2_with fail
      refine HAT'.out.mono ?_; rintro e w2 ⟨rfl, hb2⟩
      have HB2 := Lib.hid (stepB hbel.out hb2)
      clear hb2
      by_cases h0 : k = 0
      case pos =>
        subst h0
        have HG := Lib.hid (good_succ hg.out HK.out)
        go_wp2_with fail
        go_roundw
        case rel => exact ⟨i + 1, by omega, by go_num, HG, HB2⟩
        case measure => simp [intOf]; omega
      case neg =>
        have hk0 : (k != 0) = true := by simpa using h0
        have h := res_bad hg.out (by rw [HN.out]; exact hin) HK.out h0
        rw [HR.out] at h
        injection h with h1 h2
        subst h1; subst h2
        go_wp2_with fail
        go_ret2
        exact ⟨rfl, HB2.out⟩
end
end Go.Proofs.Ytlfieiiegokejaa
