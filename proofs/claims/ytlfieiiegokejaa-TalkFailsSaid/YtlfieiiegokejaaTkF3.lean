/- The walk of TalkFails. -/
import Derived.Test.YtlfieiiegokejaaTkOp
import Derived.Test.YtlfieiiegokejaaTkZ
import Derived.Test.YtlfieiiegokejaaTkG
import Derived.Test.YtlfieiiegokejaaTkLv
import Derived.Test.YtlfieiiegokejaaTkPl
import Derived.Test.YtlfieiiegokejaaTkSm
import Derived.Deep.RegionHeld3
namespace Go.Proofs.Ytlfieiiegokejaa
open Go.ChangeShapes Go.WideShapes Go.ChangeAt Go.RowKit
set_option linter.unusedVariables false
theorem own_zeroM {w : World} {base : Nat} {e : TypeId} {z : Nat} {A : Option Addr} {n c : Nat} {xs : List Value} (h : w.ownsRow base e z (.slice A (0 + n) c) (0 + n) ([] ++ xs)) : w.ownsRow base e z (.slice A n c) n xs := by
  rw [Nat.zero_add, List.nil_append] at h; exact h
theorem own_zeroM1 {w : World} {base : Nat} {e : TypeId} {z : Nat} {A : Option Addr} {n c : Nat} {xs ys : List Value} (h : w.ownsRow base e z (.slice A (0 + n + 1) c) (0 + n + 1) ([] ++ xs ++ ys)) : w.ownsRow base e z (.slice A (n + 1) c) (n + 1) (xs ++ ys) := by
  rw [Nat.zero_add, List.nil_append] at h; exact h
/-- What talk.Fail answers. -/
inductive FailCase (q : Ms) (ep : Nat) (code : Int) : Prop
  | bad (h : ¬ (MOk q ∧ MOk (failM ep q.sq code)))
  | kind (h1 : MOk q) (h2 : MOk (failM ep q.sq code)) (h3 : rq q = false)
  | good (h1 : MOk q) (h2 : MOk (failM ep q.sq code)) (h3 : rq q = true)
section
variable {D : Dom} {A : Option Addr} {n c j ep : Nat} {code : Int} {l : List Ms} {q : Ms} {hq : Hd} {w : World}
set_option maxRecDepth 100000 in
set_option maxHeartbeats 4000000 in
theorem fails_bad1 (hs : rpMs.sl w D A n c l) (hD : ∀ k, D k → k < w.heap.size) (hj : n = j + 1) (hl : l[j]? = some q) (he : ep ≤ 18446744073709551615) (hc0 : -9223372036854775808 ≤ code) (hc1 : code ≤ 9223372036854775807) (h1 : ¬ MOk q) :
    Calls Try.prog 5 #[.slice A n c, .int .u64 (ep : Int), .int .i64 code] w fun e w' => e = .returned (.bool true) ∧ Below w.heap.size w w' := by
  have HFT : Hid (fitsC q (failM ep q.sq code) = 3) := fits_bad (fun h => h1 h.1)
  have HMQ := Lib.hid h1
  clear h1
  have HM := Lib.hid (many_any hs hD)
  have HS := Lib.hid (show Sl rpMs w D A n c l from ⟨hs, hD⟩)
  have HN := Lib.hid (Rp.sl_len hs).1
  have HJ : Hid (n = j + 1) := hj
  have HL := Lib.hid hl
  obtain ⟨bo, off, m, hd', hA, hDb, hm, hmi, hc⟩ := ms_at hs hD (show j < n by omega)
  rw [hl] at hm
  injection hm with hm
  subst hm
  subst hA
  obtain ⟨hq, hhq⟩ : ∃ h, h = hd' := ⟨_, rfl⟩
  subst hhq
  have HQ := Lib.hid hmi
  have HC : Hid (∀ (i : Nat) u, (msV q hq).toList[i]? = some u → w.cell? ⟨bo, off + j * 14 + i, none⟩ = some u) := hc
  have hbl : bo < w.heap.size := hD _ hDb
  have hj1 : j < n := by omega
  have hn0 : ((n : Int) == 0) = false := by
    rw [beq_eq_false_iff_ne]; omega
  have hsub : IntKind.i64.wrap ((n : Int) - 1) = (j : Int) := by
    have := (Rp.sl_len hs).2
    unfold maxLen at this
    rw [IntWalk.i64_in _ (by omega)]; omega
  have HSUB := Lib.hid hsub
  have hjI : (0 : Int) ≤ (j : Int) := by omega
  have hjI2 : (j : Int) < (n : Int) := by omega
  have hsq := hmi.sq1
  clear hs hc hl hj hmi hDb hsub
  go_enter Try.func5, Try.ntmps5
  go_wp2_with fail
  refine HM.out.mono ?_; rintro e w1 ⟨b1, rfl, hn1, hb1⟩
  have HB1 := Lib.hid hb1
  have HS1 := Lib.hid (keepS HS.out hb1)
  have HQ1 := Lib.hid (HQ.out.below hb1)
  have HC1 : Hid (∀ (i : Nat) u, (msV q hq).toList[i]? = some u → w1.cell? ⟨bo, off + j * 14 + i, none⟩ = some u) := fun i u hu => (hb1.cell (p := ⟨bo, off + j * 14 + i, none⟩) hbl).trans (HC.out i u hu)
  clear hb1
  cases b1
  case true =>
    go_wp2_with fail
    refine (live30_any _).mono ?_; rintro e wl ⟨rfl, hbl⟩
    have HBL := Lib.hid (stepB HB1.out hbl)
    clear hbl
    go_wp2_with fail
    go_ret
    exact ⟨rfl, HBL.out⟩
  case false =>
  have hn := hn1 rfl
  clear hn1
  have e0 : w1.cell? ⟨bo, off + j * 14, none⟩ = some (.int .i64 q.kd) := HC1.out 0 _ rfl
  have e1 : w1.cell? ⟨bo, off + j * 14 + 1, none⟩ = some (.int .u64 (q.ep : Int)) := HC1.out 1 _ rfl
  have e2 : w1.cell? ⟨bo, off + j * 14 + 2, none⟩ = some (.int .u64 (q.sq : Int)) := HC1.out 2 _ rfl
  have e3 : w1.cell? ⟨bo, off + j * 14 + 3, none⟩ = some (.int .u64 (q.ps : Int)) := HC1.out 3 _ rfl
  have e4 : w1.cell? ⟨bo, off + j * 14 + 4, none⟩ = some (.int .i64 q.ct) := HC1.out 4 _ rfl
  have e5 : w1.cell? ⟨bo, off + j * 14 + 5, none⟩ = some (.int .i64 q.st) := HC1.out 5 _ rfl
  have e6 : w1.cell? ⟨bo, off + j * 14 + 6, none⟩ = some (.slice hq.A1 hq.n1 hq.c1) := HC1.out 6 _ rfl
  have e7 : w1.cell? ⟨bo, off + j * 14 + 7, none⟩ = some (.slice hq.A2 hq.n2 hq.c2) := HC1.out 7 _ rfl
  have e8 : w1.cell? ⟨bo, off + j * 14 + 8, none⟩ = some (.slice hq.A3 hq.n3 hq.c3) := HC1.out 8 _ rfl
  have e9 : w1.cell? ⟨bo, off + j * 14 + 9, none⟩ = some (.int .u64 (q.se.1 : Int)) := HC1.out 9 _ rfl
  have e10 : w1.cell? ⟨bo, off + j * 14 + 10, none⟩ = some (.int .u64 (q.se.2.1 : Int)) := HC1.out 10 _ rfl
  have e11 : w1.cell? ⟨bo, off + j * 14 + 11, none⟩ = some (.int .u64 (q.se.2.2 : Int)) := HC1.out 11 _ rfl
  have e12 : w1.cell? ⟨bo, off + j * 14 + 12, none⟩ = some (.int .u64 (q.pr.1 : Int)) := HC1.out 12 _ rfl
  have e13 : w1.cell? ⟨bo, off + j * 14 + 13, none⟩ = some (.slice hq.A4 hq.n4 hq.c4) := HC1.out 13 _ rfl
  have hsub := HSUB.out
  have hb2 := below1 w1 (.cells (msV q hq) 32)
  have HB2 := Lib.hid (stepB HB1.out hb2)
  have KQ2 := Lib.hid (blk11 w1 32 (msV q hq))
  have HS2 := Lib.hid (keepS HS1.out hb2)
  have HQ2 := Lib.hid (HQ1.out.below hb2)
  clear hb2
  go_upto_region 4 with (fail)
  clear hsub e0 e1 e2 e3 e4 e5 e6 e7 e8 e9 e10 e11 e12 e13
  generalize hgb : w1.heap.size = gb at *
  generalize World.alloc w1 _ = w2 at *
  have hgl : gb < w2.heap.size := (show Blk w2 gb 32 (msV q hq) from KQ2.out).lt
  have z0 : w2.cell? ⟨gb, 0, none⟩ = some (.int .i64 q.kd) := (show Blk w2 (gb) 32 (msV q hq) from KQ2.out).cell 0
  have z1 : w2.cell? ⟨gb, 1, none⟩ = some (.int .u64 (q.ep : Int)) := (show Blk w2 (gb) 32 (msV q hq) from KQ2.out).cell 1
  have z2 : w2.cell? ⟨gb, 2, none⟩ = some (.int .u64 (q.sq : Int)) := (show Blk w2 (gb) 32 (msV q hq) from KQ2.out).cell 2
  have z3 : w2.cell? ⟨gb, 3, none⟩ = some (.int .u64 (q.ps : Int)) := (show Blk w2 (gb) 32 (msV q hq) from KQ2.out).cell 3
  have z4 : w2.cell? ⟨gb, 4, none⟩ = some (.int .i64 q.ct) := (show Blk w2 (gb) 32 (msV q hq) from KQ2.out).cell 4
  have z5 : w2.cell? ⟨gb, 5, none⟩ = some (.int .i64 q.st) := (show Blk w2 (gb) 32 (msV q hq) from KQ2.out).cell 5
  have z6 : w2.cell? ⟨gb, 6, none⟩ = some (.slice hq.A1 hq.n1 hq.c1) := (show Blk w2 (gb) 32 (msV q hq) from KQ2.out).cell 6
  have z7 : w2.cell? ⟨gb, 7, none⟩ = some (.slice hq.A2 hq.n2 hq.c2) := (show Blk w2 (gb) 32 (msV q hq) from KQ2.out).cell 7
  have z8 : w2.cell? ⟨gb, 8, none⟩ = some (.slice hq.A3 hq.n3 hq.c3) := (show Blk w2 (gb) 32 (msV q hq) from KQ2.out).cell 8
  have z9 : w2.cell? ⟨gb, 9, none⟩ = some (.int .u64 (q.se.1 : Int)) := (show Blk w2 (gb) 32 (msV q hq) from KQ2.out).cell 9
  have z10 : w2.cell? ⟨gb, 10, none⟩ = some (.int .u64 (q.se.2.1 : Int)) := (show Blk w2 (gb) 32 (msV q hq) from KQ2.out).cell 10
  have z11 : w2.cell? ⟨gb, 11, none⟩ = some (.int .u64 (q.se.2.2 : Int)) := (show Blk w2 (gb) 32 (msV q hq) from KQ2.out).cell 11
  have z12 : w2.cell? ⟨gb, 12, none⟩ = some (.int .u64 (q.pr.1 : Int)) := (show Blk w2 (gb) 32 (msV q hq) from KQ2.out).cell 12
  have z13 : w2.cell? ⟨gb, 13, none⟩ = some (.slice hq.A4 hq.n4 hq.c4) := (show Blk w2 (gb) 32 (msV q hq) from KQ2.out).cell 13
  have HFL : Hid (Calls Try.prog 14 #[.agg (msV q hq), .int .u64 (ep : Int), .int .i64 code] w2 fun e w' => e = .returned (.tuple #[.agg zV, .int .i64 3]) ∧ Below w2.heap.size w2 w') := by
    refine (fail_any HQ2.out he hc0 hc1).mono fun e w' h => ?_
    obtain ⟨hb, ⟨h1, rfl⟩ | ⟨r, hr0, hr, rfl⟩⟩ := h
    · exact absurd (h1.symm.trans HFT.out) (by decide)
    · obtain rfl := hr.symm.trans HFT.out
      exact ⟨rfl, hb⟩
  go_wp2_with fail
  refine HFL.out.mono ?_; rintro e w3 ⟨rfl, hb3⟩
  have HB3 := Lib.hid (stepB HB2.out hb3)
  have HS3 := Lib.hid (keepS HS2.out hb3)
  have HQ3 := Lib.hid (HQ2.out.below hb3)
  have KQ3 := Lib.hid (keepB (show Blk w2 gb 32 (msV q hq) from KQ2.out) hb3)
  have hgl3 : gb < w3.heap.size := (show Blk w3 gb 32 (msV q hq) from KQ3.out).lt
  clear z0 z1 z2 z3 z4 z5 z6 z7 z8 z9 z10 z11 z12 z13
  clear hb3 hgl
  have hb4 := below2 w3 (.cells zV 32) (.cells (failV ep q.sq code) 32)
  have HB4 := Lib.hid (stepB HB3.out hb4)
  have HS4 := Lib.hid (keepS HS3.out hb4)
  have HQ4 := Lib.hid (HQ3.out.below hb4)
  have KQ4 := Lib.hid (keepB (show Blk w3 gb 32 (msV q hq) from KQ3.out) hb4)
  have KA4 := Lib.hid (blk21 w3 32 32 zV (failV ep q.sq code))
  have KW4 := Lib.hid (blk22 w3 32 32 zV (failV ep q.sq code))
  have k2 : (w3.alloc (.cells zV 32)).cell? ⟨gb, 2, none⟩ = some (.int .u64 (q.sq : Int)) := (show Blk _ gb 32 (msV q hq) from keepB (show Blk w3 gb 32 (msV q hq) from KQ3.out) (below1 w3 _)).cell 2
  clear hb4
  go_upto_region 6 with (fail)
  clear k2
  generalize hga : w3.heap.size = ga at *
  generalize World.alloc (World.alloc w3 _) _ = w4 at *
  have z0 : w4.cell? ⟨gb, 0, none⟩ = some (.int .i64 q.kd) := (show Blk w4 (gb) 32 (msV q hq) from KQ4.out).cell 0
  have z1 : w4.cell? ⟨gb, 1, none⟩ = some (.int .u64 (q.ep : Int)) := (show Blk w4 (gb) 32 (msV q hq) from KQ4.out).cell 1
  have z2 : w4.cell? ⟨gb, 2, none⟩ = some (.int .u64 (q.sq : Int)) := (show Blk w4 (gb) 32 (msV q hq) from KQ4.out).cell 2
  have z3 : w4.cell? ⟨gb, 3, none⟩ = some (.int .u64 (q.ps : Int)) := (show Blk w4 (gb) 32 (msV q hq) from KQ4.out).cell 3
  have z4 : w4.cell? ⟨gb, 4, none⟩ = some (.int .i64 q.ct) := (show Blk w4 (gb) 32 (msV q hq) from KQ4.out).cell 4
  have z5 : w4.cell? ⟨gb, 5, none⟩ = some (.int .i64 q.st) := (show Blk w4 (gb) 32 (msV q hq) from KQ4.out).cell 5
  have z6 : w4.cell? ⟨gb, 6, none⟩ = some (.slice hq.A1 hq.n1 hq.c1) := (show Blk w4 (gb) 32 (msV q hq) from KQ4.out).cell 6
  have z7 : w4.cell? ⟨gb, 7, none⟩ = some (.slice hq.A2 hq.n2 hq.c2) := (show Blk w4 (gb) 32 (msV q hq) from KQ4.out).cell 7
  have z8 : w4.cell? ⟨gb, 8, none⟩ = some (.slice hq.A3 hq.n3 hq.c3) := (show Blk w4 (gb) 32 (msV q hq) from KQ4.out).cell 8
  have z9 : w4.cell? ⟨gb, 9, none⟩ = some (.int .u64 (q.se.1 : Int)) := (show Blk w4 (gb) 32 (msV q hq) from KQ4.out).cell 9
  have z10 : w4.cell? ⟨gb, 10, none⟩ = some (.int .u64 (q.se.2.1 : Int)) := (show Blk w4 (gb) 32 (msV q hq) from KQ4.out).cell 10
  have z11 : w4.cell? ⟨gb, 11, none⟩ = some (.int .u64 (q.se.2.2 : Int)) := (show Blk w4 (gb) 32 (msV q hq) from KQ4.out).cell 11
  have z12 : w4.cell? ⟨gb, 12, none⟩ = some (.int .u64 (q.pr.1 : Int)) := (show Blk w4 (gb) 32 (msV q hq) from KQ4.out).cell 12
  have z13 : w4.cell? ⟨gb, 13, none⟩ = some (.slice hq.A4 hq.n4 hq.c4) := (show Blk w4 (gb) 32 (msV q hq) from KQ4.out).cell 13
  have HRQ := rmright_any HQ4.out
  rw [dec_false HMQ.out] at HRQ
  have HRQ' := Lib.hid HRQ
  clear HRQ
  go_wp2_with fail
  refine HRQ'.out.mono ?_
  rintro e w5 ⟨rfl, hb⟩
  have HB5 := Lib.hid (stepB HB4.out hb)
  have KQ5 := Lib.hid (keepB (show Blk w4 (gb) 32 (msV q hq) from KQ4.out) hb)
  have KA5 := Lib.hid (keepB (show Blk w4 (ga) 32 zV from KA4.out) hb)
  have KW5 := Lib.hid (keepB (show Blk w4 ((ga + 1)) 32 (failV ep q.sq code) from KW4.out) hb)
  have HS5 := Lib.hid (keepS HS4.out hb)
  have HQ5 := Lib.hid (HQ4.out.below hb)
  clear z0 z1 z2 z3 z4 z5 z6 z7 z8 z9 z10 z11 z12 z13
  clear hb
  have z0 : w5.cell? ⟨ga, 0, none⟩ = some (.int .i64 0) := (show Blk w5 (ga) 32 zV from KA5.out).cell 0
  have z1 : w5.cell? ⟨ga, 1, none⟩ = some (.int .u64 0) := (show Blk w5 (ga) 32 zV from KA5.out).cell 1
  have z2 : w5.cell? ⟨ga, 2, none⟩ = some (.int .u64 0) := (show Blk w5 (ga) 32 zV from KA5.out).cell 2
  have z3 : w5.cell? ⟨ga, 3, none⟩ = some (.int .u64 0) := (show Blk w5 (ga) 32 zV from KA5.out).cell 3
  have z4 : w5.cell? ⟨ga, 4, none⟩ = some (.int .i64 0) := (show Blk w5 (ga) 32 zV from KA5.out).cell 4
  have z5 : w5.cell? ⟨ga, 5, none⟩ = some (.int .i64 0) := (show Blk w5 (ga) 32 zV from KA5.out).cell 5
  have z6 : w5.cell? ⟨ga, 6, none⟩ = some (.slice none 0 0) := (show Blk w5 (ga) 32 zV from KA5.out).cell 6
  have z7 : w5.cell? ⟨ga, 7, none⟩ = some (.slice none 0 0) := (show Blk w5 (ga) 32 zV from KA5.out).cell 7
  have z8 : w5.cell? ⟨ga, 8, none⟩ = some (.slice none 0 0) := (show Blk w5 (ga) 32 zV from KA5.out).cell 8
  have z9 : w5.cell? ⟨ga, 9, none⟩ = some (.int .u64 0) := (show Blk w5 (ga) 32 zV from KA5.out).cell 9
  have z10 : w5.cell? ⟨ga, 10, none⟩ = some (.int .u64 0) := (show Blk w5 (ga) 32 zV from KA5.out).cell 10
  have z11 : w5.cell? ⟨ga, 11, none⟩ = some (.int .u64 0) := (show Blk w5 (ga) 32 zV from KA5.out).cell 11
  have z12 : w5.cell? ⟨ga, 12, none⟩ = some (.int .u64 0) := (show Blk w5 (ga) 32 zV from KA5.out).cell 12
  have z13 : w5.cell? ⟨ga, 13, none⟩ = some (.slice none 0 0) := (show Blk w5 (ga) 32 zV from KA5.out).cell 13
  go_wp2_with fail
  refine (rsame_z 0 0 0 0 w5).mono ?_
  rintro e w6 ⟨rfl, hb⟩
  have HB6 := Lib.hid (stepB HB5.out hb)
  have KQ6 := Lib.hid (keepB (show Blk w5 (gb) 32 (msV q hq) from KQ5.out) hb)
  have KA6 := Lib.hid (keepB (show Blk w5 (ga) 32 zV from KA5.out) hb)
  have KW6 := Lib.hid (keepB (show Blk w5 ((ga + 1)) 32 (failV ep q.sq code) from KW5.out) hb)
  have HS6 := Lib.hid (keepS HS5.out hb)
  have HQ6 := Lib.hid (HQ5.out.below hb)
  clear z0 z1 z2 z3 z4 z5 z6 z7 z8 z9 z10 z11 z12 z13
  clear hb
  go_wp2_with fail
  refine (live30_any _).mono ?_; rintro e wl ⟨rfl, hbl⟩
  have HBL := Lib.hid (stepB HB6.out hbl)
  clear hbl
  go_wp2_with fail
  go_ret
  exact ⟨rfl, HBL.out⟩
set_option maxRecDepth 100000 in
set_option maxHeartbeats 4000000 in
theorem fails_bad2 (hs : rpMs.sl w D A n c l) (hD : ∀ k, D k → k < w.heap.size) (hj : n = j + 1) (hl : l[j]? = some q) (he : ep ≤ 18446744073709551615) (hc0 : -9223372036854775808 ≤ code) (hc1 : code ≤ 9223372036854775807) (h1 : MOk q) (h2 : ¬ MOk (failM ep q.sq code)) :
    Calls Try.prog 5 #[.slice A n c, .int .u64 (ep : Int), .int .i64 code] w fun e w' => e = .returned (.bool true) ∧ Below w.heap.size w w' := by
  have HFT : Hid (fitsC q (failM ep q.sq code) = 3) := fits_bad (fun h => h2 h.2)
  have HMQ := Lib.hid h1
  have HMF := Lib.hid h2
  clear h1 h2
  have HM := Lib.hid (many_any hs hD)
  have HS := Lib.hid (show Sl rpMs w D A n c l from ⟨hs, hD⟩)
  have HN := Lib.hid (Rp.sl_len hs).1
  have HJ : Hid (n = j + 1) := hj
  have HL := Lib.hid hl
  obtain ⟨bo, off, m, hd', hA, hDb, hm, hmi, hc⟩ := ms_at hs hD (show j < n by omega)
  rw [hl] at hm
  injection hm with hm
  subst hm
  subst hA
  obtain ⟨hq, hhq⟩ : ∃ h, h = hd' := ⟨_, rfl⟩
  subst hhq
  have HQ := Lib.hid hmi
  have HC : Hid (∀ (i : Nat) u, (msV q hq).toList[i]? = some u → w.cell? ⟨bo, off + j * 14 + i, none⟩ = some u) := hc
  have hbl : bo < w.heap.size := hD _ hDb
  have hj1 : j < n := by omega
  have hn0 : ((n : Int) == 0) = false := by
    rw [beq_eq_false_iff_ne]; omega
  have hsub : IntKind.i64.wrap ((n : Int) - 1) = (j : Int) := by
    have := (Rp.sl_len hs).2
    unfold maxLen at this
    rw [IntWalk.i64_in _ (by omega)]; omega
  have HSUB := Lib.hid hsub
  have hjI : (0 : Int) ≤ (j : Int) := by omega
  have hjI2 : (j : Int) < (n : Int) := by omega
  have hsq := hmi.sq1
  clear hs hc hl hj hmi hDb hsub
  go_enter Try.func5, Try.ntmps5
  go_wp2_with fail
  refine HM.out.mono ?_; rintro e w1 ⟨b1, rfl, hn1, hb1⟩
  have HB1 := Lib.hid hb1
  have HS1 := Lib.hid (keepS HS.out hb1)
  have HQ1 := Lib.hid (HQ.out.below hb1)
  have HC1 : Hid (∀ (i : Nat) u, (msV q hq).toList[i]? = some u → w1.cell? ⟨bo, off + j * 14 + i, none⟩ = some u) := fun i u hu => (hb1.cell (p := ⟨bo, off + j * 14 + i, none⟩) hbl).trans (HC.out i u hu)
  clear hb1
  cases b1
  case true =>
    go_wp2_with fail
    refine (live30_any _).mono ?_; rintro e wl ⟨rfl, hbl⟩
    have HBL := Lib.hid (stepB HB1.out hbl)
    clear hbl
    go_wp2_with fail
    go_ret
    exact ⟨rfl, HBL.out⟩
  case false =>
  have hn := hn1 rfl
  clear hn1
  have e0 : w1.cell? ⟨bo, off + j * 14, none⟩ = some (.int .i64 q.kd) := HC1.out 0 _ rfl
  have e1 : w1.cell? ⟨bo, off + j * 14 + 1, none⟩ = some (.int .u64 (q.ep : Int)) := HC1.out 1 _ rfl
  have e2 : w1.cell? ⟨bo, off + j * 14 + 2, none⟩ = some (.int .u64 (q.sq : Int)) := HC1.out 2 _ rfl
  have e3 : w1.cell? ⟨bo, off + j * 14 + 3, none⟩ = some (.int .u64 (q.ps : Int)) := HC1.out 3 _ rfl
  have e4 : w1.cell? ⟨bo, off + j * 14 + 4, none⟩ = some (.int .i64 q.ct) := HC1.out 4 _ rfl
  have e5 : w1.cell? ⟨bo, off + j * 14 + 5, none⟩ = some (.int .i64 q.st) := HC1.out 5 _ rfl
  have e6 : w1.cell? ⟨bo, off + j * 14 + 6, none⟩ = some (.slice hq.A1 hq.n1 hq.c1) := HC1.out 6 _ rfl
  have e7 : w1.cell? ⟨bo, off + j * 14 + 7, none⟩ = some (.slice hq.A2 hq.n2 hq.c2) := HC1.out 7 _ rfl
  have e8 : w1.cell? ⟨bo, off + j * 14 + 8, none⟩ = some (.slice hq.A3 hq.n3 hq.c3) := HC1.out 8 _ rfl
  have e9 : w1.cell? ⟨bo, off + j * 14 + 9, none⟩ = some (.int .u64 (q.se.1 : Int)) := HC1.out 9 _ rfl
  have e10 : w1.cell? ⟨bo, off + j * 14 + 10, none⟩ = some (.int .u64 (q.se.2.1 : Int)) := HC1.out 10 _ rfl
  have e11 : w1.cell? ⟨bo, off + j * 14 + 11, none⟩ = some (.int .u64 (q.se.2.2 : Int)) := HC1.out 11 _ rfl
  have e12 : w1.cell? ⟨bo, off + j * 14 + 12, none⟩ = some (.int .u64 (q.pr.1 : Int)) := HC1.out 12 _ rfl
  have e13 : w1.cell? ⟨bo, off + j * 14 + 13, none⟩ = some (.slice hq.A4 hq.n4 hq.c4) := HC1.out 13 _ rfl
  have hsub := HSUB.out
  have hb2 := below1 w1 (.cells (msV q hq) 32)
  have HB2 := Lib.hid (stepB HB1.out hb2)
  have KQ2 := Lib.hid (blk11 w1 32 (msV q hq))
  have HS2 := Lib.hid (keepS HS1.out hb2)
  have HQ2 := Lib.hid (HQ1.out.below hb2)
  clear hb2
  go_upto_region 4 with (fail)
  clear hsub e0 e1 e2 e3 e4 e5 e6 e7 e8 e9 e10 e11 e12 e13
  generalize hgb : w1.heap.size = gb at *
  generalize World.alloc w1 _ = w2 at *
  have hgl : gb < w2.heap.size := (show Blk w2 gb 32 (msV q hq) from KQ2.out).lt
  have z0 : w2.cell? ⟨gb, 0, none⟩ = some (.int .i64 q.kd) := (show Blk w2 (gb) 32 (msV q hq) from KQ2.out).cell 0
  have z1 : w2.cell? ⟨gb, 1, none⟩ = some (.int .u64 (q.ep : Int)) := (show Blk w2 (gb) 32 (msV q hq) from KQ2.out).cell 1
  have z2 : w2.cell? ⟨gb, 2, none⟩ = some (.int .u64 (q.sq : Int)) := (show Blk w2 (gb) 32 (msV q hq) from KQ2.out).cell 2
  have z3 : w2.cell? ⟨gb, 3, none⟩ = some (.int .u64 (q.ps : Int)) := (show Blk w2 (gb) 32 (msV q hq) from KQ2.out).cell 3
  have z4 : w2.cell? ⟨gb, 4, none⟩ = some (.int .i64 q.ct) := (show Blk w2 (gb) 32 (msV q hq) from KQ2.out).cell 4
  have z5 : w2.cell? ⟨gb, 5, none⟩ = some (.int .i64 q.st) := (show Blk w2 (gb) 32 (msV q hq) from KQ2.out).cell 5
  have z6 : w2.cell? ⟨gb, 6, none⟩ = some (.slice hq.A1 hq.n1 hq.c1) := (show Blk w2 (gb) 32 (msV q hq) from KQ2.out).cell 6
  have z7 : w2.cell? ⟨gb, 7, none⟩ = some (.slice hq.A2 hq.n2 hq.c2) := (show Blk w2 (gb) 32 (msV q hq) from KQ2.out).cell 7
  have z8 : w2.cell? ⟨gb, 8, none⟩ = some (.slice hq.A3 hq.n3 hq.c3) := (show Blk w2 (gb) 32 (msV q hq) from KQ2.out).cell 8
  have z9 : w2.cell? ⟨gb, 9, none⟩ = some (.int .u64 (q.se.1 : Int)) := (show Blk w2 (gb) 32 (msV q hq) from KQ2.out).cell 9
  have z10 : w2.cell? ⟨gb, 10, none⟩ = some (.int .u64 (q.se.2.1 : Int)) := (show Blk w2 (gb) 32 (msV q hq) from KQ2.out).cell 10
  have z11 : w2.cell? ⟨gb, 11, none⟩ = some (.int .u64 (q.se.2.2 : Int)) := (show Blk w2 (gb) 32 (msV q hq) from KQ2.out).cell 11
  have z12 : w2.cell? ⟨gb, 12, none⟩ = some (.int .u64 (q.pr.1 : Int)) := (show Blk w2 (gb) 32 (msV q hq) from KQ2.out).cell 12
  have z13 : w2.cell? ⟨gb, 13, none⟩ = some (.slice hq.A4 hq.n4 hq.c4) := (show Blk w2 (gb) 32 (msV q hq) from KQ2.out).cell 13
  have HFL : Hid (Calls Try.prog 14 #[.agg (msV q hq), .int .u64 (ep : Int), .int .i64 code] w2 fun e w' => e = .returned (.tuple #[.agg zV, .int .i64 3]) ∧ Below w2.heap.size w2 w') := by
    refine (fail_any HQ2.out he hc0 hc1).mono fun e w' h => ?_
    obtain ⟨hb, ⟨h1, rfl⟩ | ⟨r, hr0, hr, rfl⟩⟩ := h
    · exact absurd (h1.symm.trans HFT.out) (by decide)
    · obtain rfl := hr.symm.trans HFT.out
      exact ⟨rfl, hb⟩
  go_wp2_with fail
  refine HFL.out.mono ?_; rintro e w3 ⟨rfl, hb3⟩
  have HB3 := Lib.hid (stepB HB2.out hb3)
  have HS3 := Lib.hid (keepS HS2.out hb3)
  have HQ3 := Lib.hid (HQ2.out.below hb3)
  have KQ3 := Lib.hid (keepB (show Blk w2 gb 32 (msV q hq) from KQ2.out) hb3)
  have hgl3 : gb < w3.heap.size := (show Blk w3 gb 32 (msV q hq) from KQ3.out).lt
  clear z0 z1 z2 z3 z4 z5 z6 z7 z8 z9 z10 z11 z12 z13
  clear hb3 hgl
  have hb4 := below2 w3 (.cells zV 32) (.cells (failV ep q.sq code) 32)
  have HB4 := Lib.hid (stepB HB3.out hb4)
  have HS4 := Lib.hid (keepS HS3.out hb4)
  have HQ4 := Lib.hid (HQ3.out.below hb4)
  have KQ4 := Lib.hid (keepB (show Blk w3 gb 32 (msV q hq) from KQ3.out) hb4)
  have KA4 := Lib.hid (blk21 w3 32 32 zV (failV ep q.sq code))
  have KW4 := Lib.hid (blk22 w3 32 32 zV (failV ep q.sq code))
  have k2 : (w3.alloc (.cells zV 32)).cell? ⟨gb, 2, none⟩ = some (.int .u64 (q.sq : Int)) := (show Blk _ gb 32 (msV q hq) from keepB (show Blk w3 gb 32 (msV q hq) from KQ3.out) (below1 w3 _)).cell 2
  clear hb4
  go_upto_region 6 with (fail)
  clear k2
  generalize hga : w3.heap.size = ga at *
  generalize World.alloc (World.alloc w3 _) _ = w4 at *
  have z0 : w4.cell? ⟨gb, 0, none⟩ = some (.int .i64 q.kd) := (show Blk w4 (gb) 32 (msV q hq) from KQ4.out).cell 0
  have z1 : w4.cell? ⟨gb, 1, none⟩ = some (.int .u64 (q.ep : Int)) := (show Blk w4 (gb) 32 (msV q hq) from KQ4.out).cell 1
  have z2 : w4.cell? ⟨gb, 2, none⟩ = some (.int .u64 (q.sq : Int)) := (show Blk w4 (gb) 32 (msV q hq) from KQ4.out).cell 2
  have z3 : w4.cell? ⟨gb, 3, none⟩ = some (.int .u64 (q.ps : Int)) := (show Blk w4 (gb) 32 (msV q hq) from KQ4.out).cell 3
  have z4 : w4.cell? ⟨gb, 4, none⟩ = some (.int .i64 q.ct) := (show Blk w4 (gb) 32 (msV q hq) from KQ4.out).cell 4
  have z5 : w4.cell? ⟨gb, 5, none⟩ = some (.int .i64 q.st) := (show Blk w4 (gb) 32 (msV q hq) from KQ4.out).cell 5
  have z6 : w4.cell? ⟨gb, 6, none⟩ = some (.slice hq.A1 hq.n1 hq.c1) := (show Blk w4 (gb) 32 (msV q hq) from KQ4.out).cell 6
  have z7 : w4.cell? ⟨gb, 7, none⟩ = some (.slice hq.A2 hq.n2 hq.c2) := (show Blk w4 (gb) 32 (msV q hq) from KQ4.out).cell 7
  have z8 : w4.cell? ⟨gb, 8, none⟩ = some (.slice hq.A3 hq.n3 hq.c3) := (show Blk w4 (gb) 32 (msV q hq) from KQ4.out).cell 8
  have z9 : w4.cell? ⟨gb, 9, none⟩ = some (.int .u64 (q.se.1 : Int)) := (show Blk w4 (gb) 32 (msV q hq) from KQ4.out).cell 9
  have z10 : w4.cell? ⟨gb, 10, none⟩ = some (.int .u64 (q.se.2.1 : Int)) := (show Blk w4 (gb) 32 (msV q hq) from KQ4.out).cell 10
  have z11 : w4.cell? ⟨gb, 11, none⟩ = some (.int .u64 (q.se.2.2 : Int)) := (show Blk w4 (gb) 32 (msV q hq) from KQ4.out).cell 11
  have z12 : w4.cell? ⟨gb, 12, none⟩ = some (.int .u64 (q.pr.1 : Int)) := (show Blk w4 (gb) 32 (msV q hq) from KQ4.out).cell 12
  have z13 : w4.cell? ⟨gb, 13, none⟩ = some (.slice hq.A4 hq.n4 hq.c4) := (show Blk w4 (gb) 32 (msV q hq) from KQ4.out).cell 13
  have HRQ := rmright_any HQ4.out
  rw [dec_true HMQ.out] at HRQ
  have HRQ' := Lib.hid HRQ
  clear HRQ
  go_wp2_with fail
  refine HRQ'.out.mono ?_
  rintro e w5 ⟨rfl, hb⟩
  have HB5 := Lib.hid (stepB HB4.out hb)
  have KQ5 := Lib.hid (keepB (show Blk w4 (gb) 32 (msV q hq) from KQ4.out) hb)
  have KA5 := Lib.hid (keepB (show Blk w4 (ga) 32 zV from KA4.out) hb)
  have KW5 := Lib.hid (keepB (show Blk w4 ((ga + 1)) 32 (failV ep q.sq code) from KW4.out) hb)
  have HS5 := Lib.hid (keepS HS4.out hb)
  have HQ5 := Lib.hid (HQ4.out.below hb)
  clear z0 z1 z2 z3 z4 z5 z6 z7 z8 z9 z10 z11 z12 z13
  clear hb
  have z0 : w5.cell? ⟨(ga + 1), 0, none⟩ = some (.int .i64 14) := (show Blk w5 ((ga + 1)) 32 (failV ep q.sq code) from KW5.out).cell 0
  have z1 : w5.cell? ⟨(ga + 1), 1, none⟩ = some (.int .u64 (ep : Int)) := (show Blk w5 ((ga + 1)) 32 (failV ep q.sq code) from KW5.out).cell 1
  have z2 : w5.cell? ⟨(ga + 1), 2, none⟩ = some (.int .u64 (q.sq : Int)) := (show Blk w5 ((ga + 1)) 32 (failV ep q.sq code) from KW5.out).cell 2
  have z3 : w5.cell? ⟨(ga + 1), 3, none⟩ = some (.int .u64 0) := (show Blk w5 ((ga + 1)) 32 (failV ep q.sq code) from KW5.out).cell 3
  have z4 : w5.cell? ⟨(ga + 1), 4, none⟩ = some (.int .i64 0) := (show Blk w5 ((ga + 1)) 32 (failV ep q.sq code) from KW5.out).cell 4
  have z5 : w5.cell? ⟨(ga + 1), 5, none⟩ = some (.int .i64 code) := (show Blk w5 ((ga + 1)) 32 (failV ep q.sq code) from KW5.out).cell 5
  have z6 : w5.cell? ⟨(ga + 1), 6, none⟩ = some (.slice none 0 0) := (show Blk w5 ((ga + 1)) 32 (failV ep q.sq code) from KW5.out).cell 6
  have z7 : w5.cell? ⟨(ga + 1), 7, none⟩ = some (.slice none 0 0) := (show Blk w5 ((ga + 1)) 32 (failV ep q.sq code) from KW5.out).cell 7
  have z8 : w5.cell? ⟨(ga + 1), 8, none⟩ = some (.slice none 0 0) := (show Blk w5 ((ga + 1)) 32 (failV ep q.sq code) from KW5.out).cell 8
  have z9 : w5.cell? ⟨(ga + 1), 9, none⟩ = some (.int .u64 0) := (show Blk w5 ((ga + 1)) 32 (failV ep q.sq code) from KW5.out).cell 9
  have z10 : w5.cell? ⟨(ga + 1), 10, none⟩ = some (.int .u64 0) := (show Blk w5 ((ga + 1)) 32 (failV ep q.sq code) from KW5.out).cell 10
  have z11 : w5.cell? ⟨(ga + 1), 11, none⟩ = some (.int .u64 0) := (show Blk w5 ((ga + 1)) 32 (failV ep q.sq code) from KW5.out).cell 11
  have z12 : w5.cell? ⟨(ga + 1), 12, none⟩ = some (.int .u64 0) := (show Blk w5 ((ga + 1)) 32 (failV ep q.sq code) from KW5.out).cell 12
  have z13 : w5.cell? ⟨(ga + 1), 13, none⟩ = some (.slice none 0 0) := (show Blk w5 ((ga + 1)) 32 (failV ep q.sq code) from KW5.out).cell 13
  have HRF := rmright_any (fail_in w5 he hsq hc0 hc1)
  rw [dec_false HMF.out] at HRF
  rw [failV_eq] at HRF
  have HRF' := Lib.hid HRF
  clear HRF
  go_wp2_with fail
  refine HRF'.out.mono ?_
  rintro e w6 ⟨rfl, hb⟩
  have HB6 := Lib.hid (stepB HB5.out hb)
  have KQ6 := Lib.hid (keepB (show Blk w5 (gb) 32 (msV q hq) from KQ5.out) hb)
  have KA6 := Lib.hid (keepB (show Blk w5 (ga) 32 zV from KA5.out) hb)
  have KW6 := Lib.hid (keepB (show Blk w5 ((ga + 1)) 32 (failV ep q.sq code) from KW5.out) hb)
  have HS6 := Lib.hid (keepS HS5.out hb)
  have HQ6 := Lib.hid (HQ5.out.below hb)
  clear z0 z1 z2 z3 z4 z5 z6 z7 z8 z9 z10 z11 z12 z13
  clear hb
  have z0 : w6.cell? ⟨ga, 0, none⟩ = some (.int .i64 0) := (show Blk w6 (ga) 32 zV from KA6.out).cell 0
  have z1 : w6.cell? ⟨ga, 1, none⟩ = some (.int .u64 0) := (show Blk w6 (ga) 32 zV from KA6.out).cell 1
  have z2 : w6.cell? ⟨ga, 2, none⟩ = some (.int .u64 0) := (show Blk w6 (ga) 32 zV from KA6.out).cell 2
  have z3 : w6.cell? ⟨ga, 3, none⟩ = some (.int .u64 0) := (show Blk w6 (ga) 32 zV from KA6.out).cell 3
  have z4 : w6.cell? ⟨ga, 4, none⟩ = some (.int .i64 0) := (show Blk w6 (ga) 32 zV from KA6.out).cell 4
  have z5 : w6.cell? ⟨ga, 5, none⟩ = some (.int .i64 0) := (show Blk w6 (ga) 32 zV from KA6.out).cell 5
  have z6 : w6.cell? ⟨ga, 6, none⟩ = some (.slice none 0 0) := (show Blk w6 (ga) 32 zV from KA6.out).cell 6
  have z7 : w6.cell? ⟨ga, 7, none⟩ = some (.slice none 0 0) := (show Blk w6 (ga) 32 zV from KA6.out).cell 7
  have z8 : w6.cell? ⟨ga, 8, none⟩ = some (.slice none 0 0) := (show Blk w6 (ga) 32 zV from KA6.out).cell 8
  have z9 : w6.cell? ⟨ga, 9, none⟩ = some (.int .u64 0) := (show Blk w6 (ga) 32 zV from KA6.out).cell 9
  have z10 : w6.cell? ⟨ga, 10, none⟩ = some (.int .u64 0) := (show Blk w6 (ga) 32 zV from KA6.out).cell 10
  have z11 : w6.cell? ⟨ga, 11, none⟩ = some (.int .u64 0) := (show Blk w6 (ga) 32 zV from KA6.out).cell 11
  have z12 : w6.cell? ⟨ga, 12, none⟩ = some (.int .u64 0) := (show Blk w6 (ga) 32 zV from KA6.out).cell 12
  have z13 : w6.cell? ⟨ga, 13, none⟩ = some (.slice none 0 0) := (show Blk w6 (ga) 32 zV from KA6.out).cell 13
  go_wp2_with fail
  refine (rsame_z 0 0 0 0 w6).mono ?_
  rintro e w7 ⟨rfl, hb⟩
  have HB7 := Lib.hid (stepB HB6.out hb)
  have KQ7 := Lib.hid (keepB (show Blk w6 (gb) 32 (msV q hq) from KQ6.out) hb)
  have KA7 := Lib.hid (keepB (show Blk w6 (ga) 32 zV from KA6.out) hb)
  have KW7 := Lib.hid (keepB (show Blk w6 ((ga + 1)) 32 (failV ep q.sq code) from KW6.out) hb)
  have HS7 := Lib.hid (keepS HS6.out hb)
  have HQ7 := Lib.hid (HQ6.out.below hb)
  clear z0 z1 z2 z3 z4 z5 z6 z7 z8 z9 z10 z11 z12 z13
  clear hb
  go_wp2_with fail
  refine (live30_any _).mono ?_; rintro e wl ⟨rfl, hbl⟩
  have HBL := Lib.hid (stepB HB7.out hbl)
  clear hbl
  go_wp2_with fail
  go_ret
  exact ⟨rfl, HBL.out⟩
set_option maxRecDepth 100000 in
set_option maxHeartbeats 4000000 in
theorem fails_kind (hs : rpMs.sl w D A n c l) (hD : ∀ k, D k → k < w.heap.size) (hj : n = j + 1) (hl : l[j]? = some q) (he : ep ≤ 18446744073709551615) (hc0 : -9223372036854775808 ≤ code) (hc1 : code ≤ 9223372036854775807) (h1 : MOk q) (h2 : MOk (failM ep q.sq code)) (h3 : rq q = false) :
    Calls Try.prog 5 #[.slice A n c, .int .u64 (ep : Int), .int .i64 code] w fun e w' => e = .returned (.bool true) ∧ Below w.heap.size w w' := by
  have HFT : Hid (fitsC q (failM ep q.sq code) = 7) := fits_kind h1 h2 h3
  have HMQ := Lib.hid h1
  have HMF := Lib.hid h2
  have HRQQ := Lib.hid h3
  clear h1 h2 h3
  have HM := Lib.hid (many_any hs hD)
  have HS := Lib.hid (show Sl rpMs w D A n c l from ⟨hs, hD⟩)
  have HN := Lib.hid (Rp.sl_len hs).1
  have HJ : Hid (n = j + 1) := hj
  have HL := Lib.hid hl
  obtain ⟨bo, off, m, hd', hA, hDb, hm, hmi, hc⟩ := ms_at hs hD (show j < n by omega)
  rw [hl] at hm
  injection hm with hm
  subst hm
  subst hA
  obtain ⟨hq, hhq⟩ : ∃ h, h = hd' := ⟨_, rfl⟩
  subst hhq
  have HQ := Lib.hid hmi
  have HC : Hid (∀ (i : Nat) u, (msV q hq).toList[i]? = some u → w.cell? ⟨bo, off + j * 14 + i, none⟩ = some u) := hc
  have hbl : bo < w.heap.size := hD _ hDb
  have hj1 : j < n := by omega
  have hn0 : ((n : Int) == 0) = false := by
    rw [beq_eq_false_iff_ne]; omega
  have hsub : IntKind.i64.wrap ((n : Int) - 1) = (j : Int) := by
    have := (Rp.sl_len hs).2
    unfold maxLen at this
    rw [IntWalk.i64_in _ (by omega)]; omega
  have HSUB := Lib.hid hsub
  have hjI : (0 : Int) ≤ (j : Int) := by omega
  have hjI2 : (j : Int) < (n : Int) := by omega
  have hsq := hmi.sq1
  clear hs hc hl hj hmi hDb hsub
  go_enter Try.func5, Try.ntmps5
  go_wp2_with fail
  refine HM.out.mono ?_; rintro e w1 ⟨b1, rfl, hn1, hb1⟩
  have HB1 := Lib.hid hb1
  have HS1 := Lib.hid (keepS HS.out hb1)
  have HQ1 := Lib.hid (HQ.out.below hb1)
  have HC1 : Hid (∀ (i : Nat) u, (msV q hq).toList[i]? = some u → w1.cell? ⟨bo, off + j * 14 + i, none⟩ = some u) := fun i u hu => (hb1.cell (p := ⟨bo, off + j * 14 + i, none⟩) hbl).trans (HC.out i u hu)
  clear hb1
  cases b1
  case true =>
    go_wp2_with fail
    refine (live30_any _).mono ?_; rintro e wl ⟨rfl, hbl⟩
    have HBL := Lib.hid (stepB HB1.out hbl)
    clear hbl
    go_wp2_with fail
    go_ret
    exact ⟨rfl, HBL.out⟩
  case false =>
  have hn := hn1 rfl
  clear hn1
  have e0 : w1.cell? ⟨bo, off + j * 14, none⟩ = some (.int .i64 q.kd) := HC1.out 0 _ rfl
  have e1 : w1.cell? ⟨bo, off + j * 14 + 1, none⟩ = some (.int .u64 (q.ep : Int)) := HC1.out 1 _ rfl
  have e2 : w1.cell? ⟨bo, off + j * 14 + 2, none⟩ = some (.int .u64 (q.sq : Int)) := HC1.out 2 _ rfl
  have e3 : w1.cell? ⟨bo, off + j * 14 + 3, none⟩ = some (.int .u64 (q.ps : Int)) := HC1.out 3 _ rfl
  have e4 : w1.cell? ⟨bo, off + j * 14 + 4, none⟩ = some (.int .i64 q.ct) := HC1.out 4 _ rfl
  have e5 : w1.cell? ⟨bo, off + j * 14 + 5, none⟩ = some (.int .i64 q.st) := HC1.out 5 _ rfl
  have e6 : w1.cell? ⟨bo, off + j * 14 + 6, none⟩ = some (.slice hq.A1 hq.n1 hq.c1) := HC1.out 6 _ rfl
  have e7 : w1.cell? ⟨bo, off + j * 14 + 7, none⟩ = some (.slice hq.A2 hq.n2 hq.c2) := HC1.out 7 _ rfl
  have e8 : w1.cell? ⟨bo, off + j * 14 + 8, none⟩ = some (.slice hq.A3 hq.n3 hq.c3) := HC1.out 8 _ rfl
  have e9 : w1.cell? ⟨bo, off + j * 14 + 9, none⟩ = some (.int .u64 (q.se.1 : Int)) := HC1.out 9 _ rfl
  have e10 : w1.cell? ⟨bo, off + j * 14 + 10, none⟩ = some (.int .u64 (q.se.2.1 : Int)) := HC1.out 10 _ rfl
  have e11 : w1.cell? ⟨bo, off + j * 14 + 11, none⟩ = some (.int .u64 (q.se.2.2 : Int)) := HC1.out 11 _ rfl
  have e12 : w1.cell? ⟨bo, off + j * 14 + 12, none⟩ = some (.int .u64 (q.pr.1 : Int)) := HC1.out 12 _ rfl
  have e13 : w1.cell? ⟨bo, off + j * 14 + 13, none⟩ = some (.slice hq.A4 hq.n4 hq.c4) := HC1.out 13 _ rfl
  have hsub := HSUB.out
  have hb2 := below1 w1 (.cells (msV q hq) 32)
  have HB2 := Lib.hid (stepB HB1.out hb2)
  have KQ2 := Lib.hid (blk11 w1 32 (msV q hq))
  have HS2 := Lib.hid (keepS HS1.out hb2)
  have HQ2 := Lib.hid (HQ1.out.below hb2)
  clear hb2
  go_upto_region 4 with (fail)
  clear hsub e0 e1 e2 e3 e4 e5 e6 e7 e8 e9 e10 e11 e12 e13
  generalize hgb : w1.heap.size = gb at *
  generalize World.alloc w1 _ = w2 at *
  have hgl : gb < w2.heap.size := (show Blk w2 gb 32 (msV q hq) from KQ2.out).lt
  have z0 : w2.cell? ⟨gb, 0, none⟩ = some (.int .i64 q.kd) := (show Blk w2 (gb) 32 (msV q hq) from KQ2.out).cell 0
  have z1 : w2.cell? ⟨gb, 1, none⟩ = some (.int .u64 (q.ep : Int)) := (show Blk w2 (gb) 32 (msV q hq) from KQ2.out).cell 1
  have z2 : w2.cell? ⟨gb, 2, none⟩ = some (.int .u64 (q.sq : Int)) := (show Blk w2 (gb) 32 (msV q hq) from KQ2.out).cell 2
  have z3 : w2.cell? ⟨gb, 3, none⟩ = some (.int .u64 (q.ps : Int)) := (show Blk w2 (gb) 32 (msV q hq) from KQ2.out).cell 3
  have z4 : w2.cell? ⟨gb, 4, none⟩ = some (.int .i64 q.ct) := (show Blk w2 (gb) 32 (msV q hq) from KQ2.out).cell 4
  have z5 : w2.cell? ⟨gb, 5, none⟩ = some (.int .i64 q.st) := (show Blk w2 (gb) 32 (msV q hq) from KQ2.out).cell 5
  have z6 : w2.cell? ⟨gb, 6, none⟩ = some (.slice hq.A1 hq.n1 hq.c1) := (show Blk w2 (gb) 32 (msV q hq) from KQ2.out).cell 6
  have z7 : w2.cell? ⟨gb, 7, none⟩ = some (.slice hq.A2 hq.n2 hq.c2) := (show Blk w2 (gb) 32 (msV q hq) from KQ2.out).cell 7
  have z8 : w2.cell? ⟨gb, 8, none⟩ = some (.slice hq.A3 hq.n3 hq.c3) := (show Blk w2 (gb) 32 (msV q hq) from KQ2.out).cell 8
  have z9 : w2.cell? ⟨gb, 9, none⟩ = some (.int .u64 (q.se.1 : Int)) := (show Blk w2 (gb) 32 (msV q hq) from KQ2.out).cell 9
  have z10 : w2.cell? ⟨gb, 10, none⟩ = some (.int .u64 (q.se.2.1 : Int)) := (show Blk w2 (gb) 32 (msV q hq) from KQ2.out).cell 10
  have z11 : w2.cell? ⟨gb, 11, none⟩ = some (.int .u64 (q.se.2.2 : Int)) := (show Blk w2 (gb) 32 (msV q hq) from KQ2.out).cell 11
  have z12 : w2.cell? ⟨gb, 12, none⟩ = some (.int .u64 (q.pr.1 : Int)) := (show Blk w2 (gb) 32 (msV q hq) from KQ2.out).cell 12
  have z13 : w2.cell? ⟨gb, 13, none⟩ = some (.slice hq.A4 hq.n4 hq.c4) := (show Blk w2 (gb) 32 (msV q hq) from KQ2.out).cell 13
  have HFL : Hid (Calls Try.prog 14 #[.agg (msV q hq), .int .u64 (ep : Int), .int .i64 code] w2 fun e w' => e = .returned (.tuple #[.agg zV, .int .i64 7]) ∧ Below w2.heap.size w2 w') := by
    refine (fail_any HQ2.out he hc0 hc1).mono fun e w' h => ?_
    obtain ⟨hb, ⟨h1, rfl⟩ | ⟨r, hr0, hr, rfl⟩⟩ := h
    · exact absurd (h1.symm.trans HFT.out) (by decide)
    · obtain rfl := hr.symm.trans HFT.out
      exact ⟨rfl, hb⟩
  go_wp2_with fail
  refine HFL.out.mono ?_; rintro e w3 ⟨rfl, hb3⟩
  have HB3 := Lib.hid (stepB HB2.out hb3)
  have HS3 := Lib.hid (keepS HS2.out hb3)
  have HQ3 := Lib.hid (HQ2.out.below hb3)
  have KQ3 := Lib.hid (keepB (show Blk w2 gb 32 (msV q hq) from KQ2.out) hb3)
  have hgl3 : gb < w3.heap.size := (show Blk w3 gb 32 (msV q hq) from KQ3.out).lt
  clear z0 z1 z2 z3 z4 z5 z6 z7 z8 z9 z10 z11 z12 z13
  clear hb3 hgl
  have hb4 := below2 w3 (.cells zV 32) (.cells (failV ep q.sq code) 32)
  have HB4 := Lib.hid (stepB HB3.out hb4)
  have HS4 := Lib.hid (keepS HS3.out hb4)
  have HQ4 := Lib.hid (HQ3.out.below hb4)
  have KQ4 := Lib.hid (keepB (show Blk w3 gb 32 (msV q hq) from KQ3.out) hb4)
  have KA4 := Lib.hid (blk21 w3 32 32 zV (failV ep q.sq code))
  have KW4 := Lib.hid (blk22 w3 32 32 zV (failV ep q.sq code))
  have k2 : (w3.alloc (.cells zV 32)).cell? ⟨gb, 2, none⟩ = some (.int .u64 (q.sq : Int)) := (show Blk _ gb 32 (msV q hq) from keepB (show Blk w3 gb 32 (msV q hq) from KQ3.out) (below1 w3 _)).cell 2
  clear hb4
  go_upto_region 6 with (fail)
  clear k2
  generalize hga : w3.heap.size = ga at *
  generalize World.alloc (World.alloc w3 _) _ = w4 at *
  have z0 : w4.cell? ⟨gb, 0, none⟩ = some (.int .i64 q.kd) := (show Blk w4 (gb) 32 (msV q hq) from KQ4.out).cell 0
  have z1 : w4.cell? ⟨gb, 1, none⟩ = some (.int .u64 (q.ep : Int)) := (show Blk w4 (gb) 32 (msV q hq) from KQ4.out).cell 1
  have z2 : w4.cell? ⟨gb, 2, none⟩ = some (.int .u64 (q.sq : Int)) := (show Blk w4 (gb) 32 (msV q hq) from KQ4.out).cell 2
  have z3 : w4.cell? ⟨gb, 3, none⟩ = some (.int .u64 (q.ps : Int)) := (show Blk w4 (gb) 32 (msV q hq) from KQ4.out).cell 3
  have z4 : w4.cell? ⟨gb, 4, none⟩ = some (.int .i64 q.ct) := (show Blk w4 (gb) 32 (msV q hq) from KQ4.out).cell 4
  have z5 : w4.cell? ⟨gb, 5, none⟩ = some (.int .i64 q.st) := (show Blk w4 (gb) 32 (msV q hq) from KQ4.out).cell 5
  have z6 : w4.cell? ⟨gb, 6, none⟩ = some (.slice hq.A1 hq.n1 hq.c1) := (show Blk w4 (gb) 32 (msV q hq) from KQ4.out).cell 6
  have z7 : w4.cell? ⟨gb, 7, none⟩ = some (.slice hq.A2 hq.n2 hq.c2) := (show Blk w4 (gb) 32 (msV q hq) from KQ4.out).cell 7
  have z8 : w4.cell? ⟨gb, 8, none⟩ = some (.slice hq.A3 hq.n3 hq.c3) := (show Blk w4 (gb) 32 (msV q hq) from KQ4.out).cell 8
  have z9 : w4.cell? ⟨gb, 9, none⟩ = some (.int .u64 (q.se.1 : Int)) := (show Blk w4 (gb) 32 (msV q hq) from KQ4.out).cell 9
  have z10 : w4.cell? ⟨gb, 10, none⟩ = some (.int .u64 (q.se.2.1 : Int)) := (show Blk w4 (gb) 32 (msV q hq) from KQ4.out).cell 10
  have z11 : w4.cell? ⟨gb, 11, none⟩ = some (.int .u64 (q.se.2.2 : Int)) := (show Blk w4 (gb) 32 (msV q hq) from KQ4.out).cell 11
  have z12 : w4.cell? ⟨gb, 12, none⟩ = some (.int .u64 (q.pr.1 : Int)) := (show Blk w4 (gb) 32 (msV q hq) from KQ4.out).cell 12
  have z13 : w4.cell? ⟨gb, 13, none⟩ = some (.slice hq.A4 hq.n4 hq.c4) := (show Blk w4 (gb) 32 (msV q hq) from KQ4.out).cell 13
  have HRQ := rmright_any HQ4.out
  rw [dec_true HMQ.out] at HRQ
  have HRQ' := Lib.hid HRQ
  clear HRQ
  go_wp2_with fail
  refine HRQ'.out.mono ?_
  rintro e w5 ⟨rfl, hb⟩
  have HB5 := Lib.hid (stepB HB4.out hb)
  have KQ5 := Lib.hid (keepB (show Blk w4 (gb) 32 (msV q hq) from KQ4.out) hb)
  have KA5 := Lib.hid (keepB (show Blk w4 (ga) 32 zV from KA4.out) hb)
  have KW5 := Lib.hid (keepB (show Blk w4 ((ga + 1)) 32 (failV ep q.sq code) from KW4.out) hb)
  have HS5 := Lib.hid (keepS HS4.out hb)
  have HQ5 := Lib.hid (HQ4.out.below hb)
  clear z0 z1 z2 z3 z4 z5 z6 z7 z8 z9 z10 z11 z12 z13
  clear hb
  have z0 : w5.cell? ⟨(ga + 1), 0, none⟩ = some (.int .i64 14) := (show Blk w5 ((ga + 1)) 32 (failV ep q.sq code) from KW5.out).cell 0
  have z1 : w5.cell? ⟨(ga + 1), 1, none⟩ = some (.int .u64 (ep : Int)) := (show Blk w5 ((ga + 1)) 32 (failV ep q.sq code) from KW5.out).cell 1
  have z2 : w5.cell? ⟨(ga + 1), 2, none⟩ = some (.int .u64 (q.sq : Int)) := (show Blk w5 ((ga + 1)) 32 (failV ep q.sq code) from KW5.out).cell 2
  have z3 : w5.cell? ⟨(ga + 1), 3, none⟩ = some (.int .u64 0) := (show Blk w5 ((ga + 1)) 32 (failV ep q.sq code) from KW5.out).cell 3
  have z4 : w5.cell? ⟨(ga + 1), 4, none⟩ = some (.int .i64 0) := (show Blk w5 ((ga + 1)) 32 (failV ep q.sq code) from KW5.out).cell 4
  have z5 : w5.cell? ⟨(ga + 1), 5, none⟩ = some (.int .i64 code) := (show Blk w5 ((ga + 1)) 32 (failV ep q.sq code) from KW5.out).cell 5
  have z6 : w5.cell? ⟨(ga + 1), 6, none⟩ = some (.slice none 0 0) := (show Blk w5 ((ga + 1)) 32 (failV ep q.sq code) from KW5.out).cell 6
  have z7 : w5.cell? ⟨(ga + 1), 7, none⟩ = some (.slice none 0 0) := (show Blk w5 ((ga + 1)) 32 (failV ep q.sq code) from KW5.out).cell 7
  have z8 : w5.cell? ⟨(ga + 1), 8, none⟩ = some (.slice none 0 0) := (show Blk w5 ((ga + 1)) 32 (failV ep q.sq code) from KW5.out).cell 8
  have z9 : w5.cell? ⟨(ga + 1), 9, none⟩ = some (.int .u64 0) := (show Blk w5 ((ga + 1)) 32 (failV ep q.sq code) from KW5.out).cell 9
  have z10 : w5.cell? ⟨(ga + 1), 10, none⟩ = some (.int .u64 0) := (show Blk w5 ((ga + 1)) 32 (failV ep q.sq code) from KW5.out).cell 10
  have z11 : w5.cell? ⟨(ga + 1), 11, none⟩ = some (.int .u64 0) := (show Blk w5 ((ga + 1)) 32 (failV ep q.sq code) from KW5.out).cell 11
  have z12 : w5.cell? ⟨(ga + 1), 12, none⟩ = some (.int .u64 0) := (show Blk w5 ((ga + 1)) 32 (failV ep q.sq code) from KW5.out).cell 12
  have z13 : w5.cell? ⟨(ga + 1), 13, none⟩ = some (.slice none 0 0) := (show Blk w5 ((ga + 1)) 32 (failV ep q.sq code) from KW5.out).cell 13
  have HRF := rmright_any (fail_in w5 he hsq hc0 hc1)
  rw [dec_true HMF.out] at HRF
  rw [failV_eq] at HRF
  have HRF' := Lib.hid HRF
  clear HRF
  go_wp2_with fail
  refine HRF'.out.mono ?_
  rintro e w6 ⟨rfl, hb⟩
  have HB6 := Lib.hid (stepB HB5.out hb)
  have KQ6 := Lib.hid (keepB (show Blk w5 (gb) 32 (msV q hq) from KQ5.out) hb)
  have KA6 := Lib.hid (keepB (show Blk w5 (ga) 32 zV from KA5.out) hb)
  have KW6 := Lib.hid (keepB (show Blk w5 ((ga + 1)) 32 (failV ep q.sq code) from KW5.out) hb)
  have HS6 := Lib.hid (keepS HS5.out hb)
  have HQ6 := Lib.hid (HQ5.out.below hb)
  clear z0 z1 z2 z3 z4 z5 z6 z7 z8 z9 z10 z11 z12 z13
  clear hb
  have z0 : w6.cell? ⟨gb, 0, none⟩ = some (.int .i64 q.kd) := (show Blk w6 (gb) 32 (msV q hq) from KQ6.out).cell 0
  have z1 : w6.cell? ⟨gb, 1, none⟩ = some (.int .u64 (q.ep : Int)) := (show Blk w6 (gb) 32 (msV q hq) from KQ6.out).cell 1
  have z2 : w6.cell? ⟨gb, 2, none⟩ = some (.int .u64 (q.sq : Int)) := (show Blk w6 (gb) 32 (msV q hq) from KQ6.out).cell 2
  have z3 : w6.cell? ⟨gb, 3, none⟩ = some (.int .u64 (q.ps : Int)) := (show Blk w6 (gb) 32 (msV q hq) from KQ6.out).cell 3
  have z4 : w6.cell? ⟨gb, 4, none⟩ = some (.int .i64 q.ct) := (show Blk w6 (gb) 32 (msV q hq) from KQ6.out).cell 4
  have z5 : w6.cell? ⟨gb, 5, none⟩ = some (.int .i64 q.st) := (show Blk w6 (gb) 32 (msV q hq) from KQ6.out).cell 5
  have z6 : w6.cell? ⟨gb, 6, none⟩ = some (.slice hq.A1 hq.n1 hq.c1) := (show Blk w6 (gb) 32 (msV q hq) from KQ6.out).cell 6
  have z7 : w6.cell? ⟨gb, 7, none⟩ = some (.slice hq.A2 hq.n2 hq.c2) := (show Blk w6 (gb) 32 (msV q hq) from KQ6.out).cell 7
  have z8 : w6.cell? ⟨gb, 8, none⟩ = some (.slice hq.A3 hq.n3 hq.c3) := (show Blk w6 (gb) 32 (msV q hq) from KQ6.out).cell 8
  have z9 : w6.cell? ⟨gb, 9, none⟩ = some (.int .u64 (q.se.1 : Int)) := (show Blk w6 (gb) 32 (msV q hq) from KQ6.out).cell 9
  have z10 : w6.cell? ⟨gb, 10, none⟩ = some (.int .u64 (q.se.2.1 : Int)) := (show Blk w6 (gb) 32 (msV q hq) from KQ6.out).cell 10
  have z11 : w6.cell? ⟨gb, 11, none⟩ = some (.int .u64 (q.se.2.2 : Int)) := (show Blk w6 (gb) 32 (msV q hq) from KQ6.out).cell 11
  have z12 : w6.cell? ⟨gb, 12, none⟩ = some (.int .u64 (q.pr.1 : Int)) := (show Blk w6 (gb) 32 (msV q hq) from KQ6.out).cell 12
  have z13 : w6.cell? ⟨gb, 13, none⟩ = some (.slice hq.A4 hq.n4 hq.c4) := (show Blk w6 (gb) 32 (msV q hq) from KQ6.out).cell 13
  have HRR := rreq_any q hq
  rw [show (Kd.an q.kd != 0) = false from HRQQ.out] at HRR
  have HRR' := Lib.hid HRR
  clear HRR
  go_wp2_with fail
  refine (HRR'.out _).mono ?_
  rintro e w7 ⟨rfl, hb⟩
  have HB7 := Lib.hid (stepB HB6.out hb)
  have KQ7 := Lib.hid (keepB (show Blk w6 (gb) 32 (msV q hq) from KQ6.out) hb)
  have KA7 := Lib.hid (keepB (show Blk w6 (ga) 32 zV from KA6.out) hb)
  have KW7 := Lib.hid (keepB (show Blk w6 ((ga + 1)) 32 (failV ep q.sq code) from KW6.out) hb)
  have HS7 := Lib.hid (keepS HS6.out hb)
  have HQ7 := Lib.hid (HQ6.out.below hb)
  clear z0 z1 z2 z3 z4 z5 z6 z7 z8 z9 z10 z11 z12 z13
  clear hb
  have z0 : w7.cell? ⟨ga, 0, none⟩ = some (.int .i64 0) := (show Blk w7 (ga) 32 zV from KA7.out).cell 0
  have z1 : w7.cell? ⟨ga, 1, none⟩ = some (.int .u64 0) := (show Blk w7 (ga) 32 zV from KA7.out).cell 1
  have z2 : w7.cell? ⟨ga, 2, none⟩ = some (.int .u64 0) := (show Blk w7 (ga) 32 zV from KA7.out).cell 2
  have z3 : w7.cell? ⟨ga, 3, none⟩ = some (.int .u64 0) := (show Blk w7 (ga) 32 zV from KA7.out).cell 3
  have z4 : w7.cell? ⟨ga, 4, none⟩ = some (.int .i64 0) := (show Blk w7 (ga) 32 zV from KA7.out).cell 4
  have z5 : w7.cell? ⟨ga, 5, none⟩ = some (.int .i64 0) := (show Blk w7 (ga) 32 zV from KA7.out).cell 5
  have z6 : w7.cell? ⟨ga, 6, none⟩ = some (.slice none 0 0) := (show Blk w7 (ga) 32 zV from KA7.out).cell 6
  have z7 : w7.cell? ⟨ga, 7, none⟩ = some (.slice none 0 0) := (show Blk w7 (ga) 32 zV from KA7.out).cell 7
  have z8 : w7.cell? ⟨ga, 8, none⟩ = some (.slice none 0 0) := (show Blk w7 (ga) 32 zV from KA7.out).cell 8
  have z9 : w7.cell? ⟨ga, 9, none⟩ = some (.int .u64 0) := (show Blk w7 (ga) 32 zV from KA7.out).cell 9
  have z10 : w7.cell? ⟨ga, 10, none⟩ = some (.int .u64 0) := (show Blk w7 (ga) 32 zV from KA7.out).cell 10
  have z11 : w7.cell? ⟨ga, 11, none⟩ = some (.int .u64 0) := (show Blk w7 (ga) 32 zV from KA7.out).cell 11
  have z12 : w7.cell? ⟨ga, 12, none⟩ = some (.int .u64 0) := (show Blk w7 (ga) 32 zV from KA7.out).cell 12
  have z13 : w7.cell? ⟨ga, 13, none⟩ = some (.slice none 0 0) := (show Blk w7 (ga) 32 zV from KA7.out).cell 13
  go_wp2_with fail
  refine (rsame_z 0 0 0 0 w7).mono ?_
  rintro e w8 ⟨rfl, hb⟩
  have HB8 := Lib.hid (stepB HB7.out hb)
  have KQ8 := Lib.hid (keepB (show Blk w7 (gb) 32 (msV q hq) from KQ7.out) hb)
  have KA8 := Lib.hid (keepB (show Blk w7 (ga) 32 zV from KA7.out) hb)
  have KW8 := Lib.hid (keepB (show Blk w7 ((ga + 1)) 32 (failV ep q.sq code) from KW7.out) hb)
  have HS8 := Lib.hid (keepS HS7.out hb)
  have HQ8 := Lib.hid (HQ7.out.below hb)
  clear z0 z1 z2 z3 z4 z5 z6 z7 z8 z9 z10 z11 z12 z13
  clear hb
  go_wp2_with fail
  refine (live30_any _).mono ?_; rintro e wl ⟨rfl, hbl⟩
  have HBL := Lib.hid (stepB HB8.out hbl)
  clear hbl
  go_wp2_with fail
  go_ret
  exact ⟨rfl, HBL.out⟩
theorem Src_below {w w' : World} {D : Dom} {A : Option Addr} {n c : Nat} {l : List Ms} {size : Nat} {xs : List Value} {X : Prop} (h : Src w A n size xs) (_ : X) (hs : Sl rpMs w D A n c l) (hb : Below w.heap.size w w') : Src w' A n size xs := by
  refine ⟨h.1, h.2.1, fun hp => ?_⟩
  obtain ⟨a, hA, hc⟩ := h.2.2 hp
  refine ⟨a, hA, fun j u hu => ?_⟩
  have h1 := hc j u hu
  refine (hb.cell ?_).trans h1
  exact World.block_lt_of_cell? w _ h1
theorem Src.ms1 {w : World} {g : Nat} {t : TypeId} {ep sq : Nat} {code : Int} (hb : Blk w g t (failV ep sq code)) : Src w (some ⟨g, 0, none⟩) 1 14 ([(failM ep sq code, hdZ)].flatMap mc) := by
  refine ⟨rfl, fun u hu => ?_, fun _ => ⟨_, rfl, fun j u hu => ?_⟩⟩
  · obtain ⟨x, _, hx⟩ := List.mem_flatMap.1 hu
    exact mc_one x u hx
  · rw [add_plain, hb.cell, Nat.zero_add]
    have hx : (mc (failM ep sq code, hdZ))[j]? = some u := by simpa using hu
    rw [← hx]
    show (failV ep sq code)[j]? = _
    rw [← Array.getElem?_toList]; rfl
set_option maxRecDepth 100000 in
set_option maxHeartbeats 4000000 in
theorem fails_good (hs : rpMs.sl w D A n c l) (hD : ∀ k, D k → k < w.heap.size) (hj : n = j + 1) (hl : l[j]? = some q) (he : ep ≤ 18446744073709551615) (hc0 : -9223372036854775808 ≤ code) (hc1 : code ≤ 9223372036854775807) (h1 : MOk q) (h2 : MOk (failM ep q.sq code)) (h3 : rq q = true) :
    Calls Try.prog 5 #[.slice A n c, .int .u64 (ep : Int), .int .i64 code] w fun e w' => e = .returned (.bool true) ∧ Below w.heap.size w w' := by
  have HFT : Hid (fitsC q (failM ep q.sq code) = 0) := fits_good h1 h2 h3
  have HMQ := Lib.hid h1
  have HMF := Lib.hid h2
  have HRQQ := Lib.hid h3
  clear h1 h2 h3
  have HM := Lib.hid (many_any hs hD)
  have HS := Lib.hid (show Sl rpMs w D A n c l from ⟨hs, hD⟩)
  have HN := Lib.hid (Rp.sl_len hs).1
  have HJ : Hid (n = j + 1) := hj
  have HL := Lib.hid hl
  obtain ⟨bo, off, m, hd', hA, hDb, hm, hmi, hc⟩ := ms_at hs hD (show j < n by omega)
  rw [hl] at hm
  injection hm with hm
  subst hm
  subst hA
  obtain ⟨hq, hhq⟩ : ∃ h, h = hd' := ⟨_, rfl⟩
  subst hhq
  have HQ := Lib.hid hmi
  have HC : Hid (∀ (i : Nat) u, (msV q hq).toList[i]? = some u → w.cell? ⟨bo, off + j * 14 + i, none⟩ = some u) := hc
  have hbl : bo < w.heap.size := hD _ hDb
  have hj1 : j < n := by omega
  have hn0 : ((n : Int) == 0) = false := by
    rw [beq_eq_false_iff_ne]; omega
  have hsub : IntKind.i64.wrap ((n : Int) - 1) = (j : Int) := by
    have := (Rp.sl_len hs).2
    unfold maxLen at this
    rw [IntWalk.i64_in _ (by omega)]; omega
  have HSUB := Lib.hid hsub
  have hjI : (0 : Int) ≤ (j : Int) := by omega
  have hjI2 : (j : Int) < (n : Int) := by omega
  have hsq := hmi.sq1
  clear hs hc hl hj hmi hDb hsub
  go_enter Try.func5, Try.ntmps5
  go_wp2_with fail
  refine HM.out.mono ?_; rintro e w1 ⟨b1, rfl, hn1, hb1⟩
  have HB1 := Lib.hid hb1
  have HS1 := Lib.hid (keepS HS.out hb1)
  have HQ1 := Lib.hid (HQ.out.below hb1)
  have HC1 : Hid (∀ (i : Nat) u, (msV q hq).toList[i]? = some u → w1.cell? ⟨bo, off + j * 14 + i, none⟩ = some u) := fun i u hu => (hb1.cell (p := ⟨bo, off + j * 14 + i, none⟩) hbl).trans (HC.out i u hu)
  clear hb1
  cases b1
  case true =>
    go_wp2_with fail
    refine (live30_any _).mono ?_; rintro e wl ⟨rfl, hbl⟩
    have HBL := Lib.hid (stepB HB1.out hbl)
    clear hbl
    go_wp2_with fail
    go_ret
    exact ⟨rfl, HBL.out⟩
  case false =>
  have hn := hn1 rfl
  clear hn1
  have e0 : w1.cell? ⟨bo, off + j * 14, none⟩ = some (.int .i64 q.kd) := HC1.out 0 _ rfl
  have e1 : w1.cell? ⟨bo, off + j * 14 + 1, none⟩ = some (.int .u64 (q.ep : Int)) := HC1.out 1 _ rfl
  have e2 : w1.cell? ⟨bo, off + j * 14 + 2, none⟩ = some (.int .u64 (q.sq : Int)) := HC1.out 2 _ rfl
  have e3 : w1.cell? ⟨bo, off + j * 14 + 3, none⟩ = some (.int .u64 (q.ps : Int)) := HC1.out 3 _ rfl
  have e4 : w1.cell? ⟨bo, off + j * 14 + 4, none⟩ = some (.int .i64 q.ct) := HC1.out 4 _ rfl
  have e5 : w1.cell? ⟨bo, off + j * 14 + 5, none⟩ = some (.int .i64 q.st) := HC1.out 5 _ rfl
  have e6 : w1.cell? ⟨bo, off + j * 14 + 6, none⟩ = some (.slice hq.A1 hq.n1 hq.c1) := HC1.out 6 _ rfl
  have e7 : w1.cell? ⟨bo, off + j * 14 + 7, none⟩ = some (.slice hq.A2 hq.n2 hq.c2) := HC1.out 7 _ rfl
  have e8 : w1.cell? ⟨bo, off + j * 14 + 8, none⟩ = some (.slice hq.A3 hq.n3 hq.c3) := HC1.out 8 _ rfl
  have e9 : w1.cell? ⟨bo, off + j * 14 + 9, none⟩ = some (.int .u64 (q.se.1 : Int)) := HC1.out 9 _ rfl
  have e10 : w1.cell? ⟨bo, off + j * 14 + 10, none⟩ = some (.int .u64 (q.se.2.1 : Int)) := HC1.out 10 _ rfl
  have e11 : w1.cell? ⟨bo, off + j * 14 + 11, none⟩ = some (.int .u64 (q.se.2.2 : Int)) := HC1.out 11 _ rfl
  have e12 : w1.cell? ⟨bo, off + j * 14 + 12, none⟩ = some (.int .u64 (q.pr.1 : Int)) := HC1.out 12 _ rfl
  have e13 : w1.cell? ⟨bo, off + j * 14 + 13, none⟩ = some (.slice hq.A4 hq.n4 hq.c4) := HC1.out 13 _ rfl
  have hsub := HSUB.out
  have hb2 := below1 w1 (.cells (msV q hq) 32)
  have HB2 := Lib.hid (stepB HB1.out hb2)
  have KQ2 := Lib.hid (blk11 w1 32 (msV q hq))
  have HS2 := Lib.hid (keepS HS1.out hb2)
  have HQ2 := Lib.hid (HQ1.out.below hb2)
  clear hb2
  go_upto_region 4 with (fail)
  clear hsub e0 e1 e2 e3 e4 e5 e6 e7 e8 e9 e10 e11 e12 e13
  generalize hgb : w1.heap.size = gb at *
  generalize World.alloc w1 _ = w2 at *
  have hgl : gb < w2.heap.size := (show Blk w2 gb 32 (msV q hq) from KQ2.out).lt
  have z0 : w2.cell? ⟨gb, 0, none⟩ = some (.int .i64 q.kd) := (show Blk w2 (gb) 32 (msV q hq) from KQ2.out).cell 0
  have z1 : w2.cell? ⟨gb, 1, none⟩ = some (.int .u64 (q.ep : Int)) := (show Blk w2 (gb) 32 (msV q hq) from KQ2.out).cell 1
  have z2 : w2.cell? ⟨gb, 2, none⟩ = some (.int .u64 (q.sq : Int)) := (show Blk w2 (gb) 32 (msV q hq) from KQ2.out).cell 2
  have z3 : w2.cell? ⟨gb, 3, none⟩ = some (.int .u64 (q.ps : Int)) := (show Blk w2 (gb) 32 (msV q hq) from KQ2.out).cell 3
  have z4 : w2.cell? ⟨gb, 4, none⟩ = some (.int .i64 q.ct) := (show Blk w2 (gb) 32 (msV q hq) from KQ2.out).cell 4
  have z5 : w2.cell? ⟨gb, 5, none⟩ = some (.int .i64 q.st) := (show Blk w2 (gb) 32 (msV q hq) from KQ2.out).cell 5
  have z6 : w2.cell? ⟨gb, 6, none⟩ = some (.slice hq.A1 hq.n1 hq.c1) := (show Blk w2 (gb) 32 (msV q hq) from KQ2.out).cell 6
  have z7 : w2.cell? ⟨gb, 7, none⟩ = some (.slice hq.A2 hq.n2 hq.c2) := (show Blk w2 (gb) 32 (msV q hq) from KQ2.out).cell 7
  have z8 : w2.cell? ⟨gb, 8, none⟩ = some (.slice hq.A3 hq.n3 hq.c3) := (show Blk w2 (gb) 32 (msV q hq) from KQ2.out).cell 8
  have z9 : w2.cell? ⟨gb, 9, none⟩ = some (.int .u64 (q.se.1 : Int)) := (show Blk w2 (gb) 32 (msV q hq) from KQ2.out).cell 9
  have z10 : w2.cell? ⟨gb, 10, none⟩ = some (.int .u64 (q.se.2.1 : Int)) := (show Blk w2 (gb) 32 (msV q hq) from KQ2.out).cell 10
  have z11 : w2.cell? ⟨gb, 11, none⟩ = some (.int .u64 (q.se.2.2 : Int)) := (show Blk w2 (gb) 32 (msV q hq) from KQ2.out).cell 11
  have z12 : w2.cell? ⟨gb, 12, none⟩ = some (.int .u64 (q.pr.1 : Int)) := (show Blk w2 (gb) 32 (msV q hq) from KQ2.out).cell 12
  have z13 : w2.cell? ⟨gb, 13, none⟩ = some (.slice hq.A4 hq.n4 hq.c4) := (show Blk w2 (gb) 32 (msV q hq) from KQ2.out).cell 13
  have HFL : Hid (Calls Try.prog 14 #[.agg (msV q hq), .int .u64 (ep : Int), .int .i64 code] w2 fun e w' => e = .returned (.tuple #[.agg (failV ep q.sq code), .int .i64 0]) ∧ Below w2.heap.size w2 w') := by
    refine (fail_any HQ2.out he hc0 hc1).mono fun e w' h => ?_
    obtain ⟨hb, ⟨h1, rfl⟩ | ⟨r, hr0, hr, rfl⟩⟩ := h
    · exact ⟨rfl, hb⟩
    · exact absurd (hr.symm.trans HFT.out) hr0
  go_wp2_with fail
  refine HFL.out.mono ?_; rintro e w3 ⟨rfl, hb3⟩
  have HB3 := Lib.hid (stepB HB2.out hb3)
  have HS3 := Lib.hid (keepS HS2.out hb3)
  have HQ3 := Lib.hid (HQ2.out.below hb3)
  have KQ3 := Lib.hid (keepB (show Blk w2 gb 32 (msV q hq) from KQ2.out) hb3)
  have hgl3 : gb < w3.heap.size := (show Blk w3 gb 32 (msV q hq) from KQ3.out).lt
  clear z0 z1 z2 z3 z4 z5 z6 z7 z8 z9 z10 z11 z12 z13
  clear hb3 hgl
  have hb4 := below2 w3 (.cells (failV ep q.sq code) 32) (.cells (failV ep q.sq code) 32)
  have HB4 := Lib.hid (stepB HB3.out hb4)
  have HS4 := Lib.hid (keepS HS3.out hb4)
  have HQ4 := Lib.hid (HQ3.out.below hb4)
  have KQ4 := Lib.hid (keepB (show Blk w3 gb 32 (msV q hq) from KQ3.out) hb4)
  have KA4 := Lib.hid (blk21 w3 32 32 (failV ep q.sq code) (failV ep q.sq code))
  have KW4 := Lib.hid (blk22 w3 32 32 (failV ep q.sq code) (failV ep q.sq code))
  have k2 : (w3.alloc (.cells (failV ep q.sq code) 32)).cell? ⟨gb, 2, none⟩ = some (.int .u64 (q.sq : Int)) := (show Blk _ gb 32 (msV q hq) from keepB (show Blk w3 gb 32 (msV q hq) from KQ3.out) (below1 w3 _)).cell 2
  clear hb4
  go_upto_region 6 with (fail)
  clear k2
  generalize hga : w3.heap.size = ga at *
  generalize World.alloc (World.alloc w3 _) _ = w4 at *
  have z0 : w4.cell? ⟨gb, 0, none⟩ = some (.int .i64 q.kd) := (show Blk w4 (gb) 32 (msV q hq) from KQ4.out).cell 0
  have z1 : w4.cell? ⟨gb, 1, none⟩ = some (.int .u64 (q.ep : Int)) := (show Blk w4 (gb) 32 (msV q hq) from KQ4.out).cell 1
  have z2 : w4.cell? ⟨gb, 2, none⟩ = some (.int .u64 (q.sq : Int)) := (show Blk w4 (gb) 32 (msV q hq) from KQ4.out).cell 2
  have z3 : w4.cell? ⟨gb, 3, none⟩ = some (.int .u64 (q.ps : Int)) := (show Blk w4 (gb) 32 (msV q hq) from KQ4.out).cell 3
  have z4 : w4.cell? ⟨gb, 4, none⟩ = some (.int .i64 q.ct) := (show Blk w4 (gb) 32 (msV q hq) from KQ4.out).cell 4
  have z5 : w4.cell? ⟨gb, 5, none⟩ = some (.int .i64 q.st) := (show Blk w4 (gb) 32 (msV q hq) from KQ4.out).cell 5
  have z6 : w4.cell? ⟨gb, 6, none⟩ = some (.slice hq.A1 hq.n1 hq.c1) := (show Blk w4 (gb) 32 (msV q hq) from KQ4.out).cell 6
  have z7 : w4.cell? ⟨gb, 7, none⟩ = some (.slice hq.A2 hq.n2 hq.c2) := (show Blk w4 (gb) 32 (msV q hq) from KQ4.out).cell 7
  have z8 : w4.cell? ⟨gb, 8, none⟩ = some (.slice hq.A3 hq.n3 hq.c3) := (show Blk w4 (gb) 32 (msV q hq) from KQ4.out).cell 8
  have z9 : w4.cell? ⟨gb, 9, none⟩ = some (.int .u64 (q.se.1 : Int)) := (show Blk w4 (gb) 32 (msV q hq) from KQ4.out).cell 9
  have z10 : w4.cell? ⟨gb, 10, none⟩ = some (.int .u64 (q.se.2.1 : Int)) := (show Blk w4 (gb) 32 (msV q hq) from KQ4.out).cell 10
  have z11 : w4.cell? ⟨gb, 11, none⟩ = some (.int .u64 (q.se.2.2 : Int)) := (show Blk w4 (gb) 32 (msV q hq) from KQ4.out).cell 11
  have z12 : w4.cell? ⟨gb, 12, none⟩ = some (.int .u64 (q.pr.1 : Int)) := (show Blk w4 (gb) 32 (msV q hq) from KQ4.out).cell 12
  have z13 : w4.cell? ⟨gb, 13, none⟩ = some (.slice hq.A4 hq.n4 hq.c4) := (show Blk w4 (gb) 32 (msV q hq) from KQ4.out).cell 13
  have HRQ := rmright_any HQ4.out
  rw [dec_true HMQ.out] at HRQ
  have HRQ' := Lib.hid HRQ
  clear HRQ
  go_wp2_with fail
  refine HRQ'.out.mono ?_
  rintro e w5 ⟨rfl, hb⟩
  have HB5 := Lib.hid (stepB HB4.out hb)
  have KQ5 := Lib.hid (keepB (show Blk w4 (gb) 32 (msV q hq) from KQ4.out) hb)
  have KA5 := Lib.hid (keepB (show Blk w4 (ga) 32 (failV ep q.sq code) from KA4.out) hb)
  have KW5 := Lib.hid (keepB (show Blk w4 ((ga + 1)) 32 (failV ep q.sq code) from KW4.out) hb)
  have HS5 := Lib.hid (keepS HS4.out hb)
  have HQ5 := Lib.hid (HQ4.out.below hb)
  clear z0 z1 z2 z3 z4 z5 z6 z7 z8 z9 z10 z11 z12 z13
  clear hb
  have z0 : w5.cell? ⟨(ga + 1), 0, none⟩ = some (.int .i64 14) := (show Blk w5 ((ga + 1)) 32 (failV ep q.sq code) from KW5.out).cell 0
  have z1 : w5.cell? ⟨(ga + 1), 1, none⟩ = some (.int .u64 (ep : Int)) := (show Blk w5 ((ga + 1)) 32 (failV ep q.sq code) from KW5.out).cell 1
  have z2 : w5.cell? ⟨(ga + 1), 2, none⟩ = some (.int .u64 (q.sq : Int)) := (show Blk w5 ((ga + 1)) 32 (failV ep q.sq code) from KW5.out).cell 2
  have z3 : w5.cell? ⟨(ga + 1), 3, none⟩ = some (.int .u64 0) := (show Blk w5 ((ga + 1)) 32 (failV ep q.sq code) from KW5.out).cell 3
  have z4 : w5.cell? ⟨(ga + 1), 4, none⟩ = some (.int .i64 0) := (show Blk w5 ((ga + 1)) 32 (failV ep q.sq code) from KW5.out).cell 4
  have z5 : w5.cell? ⟨(ga + 1), 5, none⟩ = some (.int .i64 code) := (show Blk w5 ((ga + 1)) 32 (failV ep q.sq code) from KW5.out).cell 5
  have z6 : w5.cell? ⟨(ga + 1), 6, none⟩ = some (.slice none 0 0) := (show Blk w5 ((ga + 1)) 32 (failV ep q.sq code) from KW5.out).cell 6
  have z7 : w5.cell? ⟨(ga + 1), 7, none⟩ = some (.slice none 0 0) := (show Blk w5 ((ga + 1)) 32 (failV ep q.sq code) from KW5.out).cell 7
  have z8 : w5.cell? ⟨(ga + 1), 8, none⟩ = some (.slice none 0 0) := (show Blk w5 ((ga + 1)) 32 (failV ep q.sq code) from KW5.out).cell 8
  have z9 : w5.cell? ⟨(ga + 1), 9, none⟩ = some (.int .u64 0) := (show Blk w5 ((ga + 1)) 32 (failV ep q.sq code) from KW5.out).cell 9
  have z10 : w5.cell? ⟨(ga + 1), 10, none⟩ = some (.int .u64 0) := (show Blk w5 ((ga + 1)) 32 (failV ep q.sq code) from KW5.out).cell 10
  have z11 : w5.cell? ⟨(ga + 1), 11, none⟩ = some (.int .u64 0) := (show Blk w5 ((ga + 1)) 32 (failV ep q.sq code) from KW5.out).cell 11
  have z12 : w5.cell? ⟨(ga + 1), 12, none⟩ = some (.int .u64 0) := (show Blk w5 ((ga + 1)) 32 (failV ep q.sq code) from KW5.out).cell 12
  have z13 : w5.cell? ⟨(ga + 1), 13, none⟩ = some (.slice none 0 0) := (show Blk w5 ((ga + 1)) 32 (failV ep q.sq code) from KW5.out).cell 13
  have HRF := rmright_any (fail_in w5 he hsq hc0 hc1)
  rw [dec_true HMF.out] at HRF
  rw [failV_eq] at HRF
  have HRF' := Lib.hid HRF
  clear HRF
  go_wp2_with fail
  refine HRF'.out.mono ?_
  rintro e w6 ⟨rfl, hb⟩
  have HB6 := Lib.hid (stepB HB5.out hb)
  have KQ6 := Lib.hid (keepB (show Blk w5 (gb) 32 (msV q hq) from KQ5.out) hb)
  have KA6 := Lib.hid (keepB (show Blk w5 (ga) 32 (failV ep q.sq code) from KA5.out) hb)
  have KW6 := Lib.hid (keepB (show Blk w5 ((ga + 1)) 32 (failV ep q.sq code) from KW5.out) hb)
  have HS6 := Lib.hid (keepS HS5.out hb)
  have HQ6 := Lib.hid (HQ5.out.below hb)
  clear z0 z1 z2 z3 z4 z5 z6 z7 z8 z9 z10 z11 z12 z13
  clear hb
  have z0 : w6.cell? ⟨gb, 0, none⟩ = some (.int .i64 q.kd) := (show Blk w6 (gb) 32 (msV q hq) from KQ6.out).cell 0
  have z1 : w6.cell? ⟨gb, 1, none⟩ = some (.int .u64 (q.ep : Int)) := (show Blk w6 (gb) 32 (msV q hq) from KQ6.out).cell 1
  have z2 : w6.cell? ⟨gb, 2, none⟩ = some (.int .u64 (q.sq : Int)) := (show Blk w6 (gb) 32 (msV q hq) from KQ6.out).cell 2
  have z3 : w6.cell? ⟨gb, 3, none⟩ = some (.int .u64 (q.ps : Int)) := (show Blk w6 (gb) 32 (msV q hq) from KQ6.out).cell 3
  have z4 : w6.cell? ⟨gb, 4, none⟩ = some (.int .i64 q.ct) := (show Blk w6 (gb) 32 (msV q hq) from KQ6.out).cell 4
  have z5 : w6.cell? ⟨gb, 5, none⟩ = some (.int .i64 q.st) := (show Blk w6 (gb) 32 (msV q hq) from KQ6.out).cell 5
  have z6 : w6.cell? ⟨gb, 6, none⟩ = some (.slice hq.A1 hq.n1 hq.c1) := (show Blk w6 (gb) 32 (msV q hq) from KQ6.out).cell 6
  have z7 : w6.cell? ⟨gb, 7, none⟩ = some (.slice hq.A2 hq.n2 hq.c2) := (show Blk w6 (gb) 32 (msV q hq) from KQ6.out).cell 7
  have z8 : w6.cell? ⟨gb, 8, none⟩ = some (.slice hq.A3 hq.n3 hq.c3) := (show Blk w6 (gb) 32 (msV q hq) from KQ6.out).cell 8
  have z9 : w6.cell? ⟨gb, 9, none⟩ = some (.int .u64 (q.se.1 : Int)) := (show Blk w6 (gb) 32 (msV q hq) from KQ6.out).cell 9
  have z10 : w6.cell? ⟨gb, 10, none⟩ = some (.int .u64 (q.se.2.1 : Int)) := (show Blk w6 (gb) 32 (msV q hq) from KQ6.out).cell 10
  have z11 : w6.cell? ⟨gb, 11, none⟩ = some (.int .u64 (q.se.2.2 : Int)) := (show Blk w6 (gb) 32 (msV q hq) from KQ6.out).cell 11
  have z12 : w6.cell? ⟨gb, 12, none⟩ = some (.int .u64 (q.pr.1 : Int)) := (show Blk w6 (gb) 32 (msV q hq) from KQ6.out).cell 12
  have z13 : w6.cell? ⟨gb, 13, none⟩ = some (.slice hq.A4 hq.n4 hq.c4) := (show Blk w6 (gb) 32 (msV q hq) from KQ6.out).cell 13
  have HRR := rreq_any q hq
  rw [show (Kd.an q.kd != 0) = true from HRQQ.out] at HRR
  have HRR' := Lib.hid HRR
  clear HRR
  go_wp2_with fail
  refine (HRR'.out _).mono ?_
  rintro e w7 ⟨rfl, hb⟩
  have HB7 := Lib.hid (stepB HB6.out hb)
  have KQ7 := Lib.hid (keepB (show Blk w6 (gb) 32 (msV q hq) from KQ6.out) hb)
  have KA7 := Lib.hid (keepB (show Blk w6 (ga) 32 (failV ep q.sq code) from KA6.out) hb)
  have KW7 := Lib.hid (keepB (show Blk w6 ((ga + 1)) 32 (failV ep q.sq code) from KW6.out) hb)
  have HS7 := Lib.hid (keepS HS6.out hb)
  have HQ7 := Lib.hid (HQ6.out.below hb)
  clear z0 z1 z2 z3 z4 z5 z6 z7 z8 z9 z10 z11 z12 z13
  clear hb
  have z0 : w7.cell? ⟨ga, 0, none⟩ = some (.int .i64 14) := (show Blk w7 (ga) 32 (failV ep q.sq code) from KA7.out).cell 0
  have z1 : w7.cell? ⟨ga, 1, none⟩ = some (.int .u64 (ep : Int)) := (show Blk w7 (ga) 32 (failV ep q.sq code) from KA7.out).cell 1
  have z2 : w7.cell? ⟨ga, 2, none⟩ = some (.int .u64 (q.sq : Int)) := (show Blk w7 (ga) 32 (failV ep q.sq code) from KA7.out).cell 2
  have z3 : w7.cell? ⟨ga, 3, none⟩ = some (.int .u64 0) := (show Blk w7 (ga) 32 (failV ep q.sq code) from KA7.out).cell 3
  have z4 : w7.cell? ⟨ga, 4, none⟩ = some (.int .i64 0) := (show Blk w7 (ga) 32 (failV ep q.sq code) from KA7.out).cell 4
  have z5 : w7.cell? ⟨ga, 5, none⟩ = some (.int .i64 code) := (show Blk w7 (ga) 32 (failV ep q.sq code) from KA7.out).cell 5
  have z6 : w7.cell? ⟨ga, 6, none⟩ = some (.slice none 0 0) := (show Blk w7 (ga) 32 (failV ep q.sq code) from KA7.out).cell 6
  have z7 : w7.cell? ⟨ga, 7, none⟩ = some (.slice none 0 0) := (show Blk w7 (ga) 32 (failV ep q.sq code) from KA7.out).cell 7
  have z8 : w7.cell? ⟨ga, 8, none⟩ = some (.slice none 0 0) := (show Blk w7 (ga) 32 (failV ep q.sq code) from KA7.out).cell 8
  have z9 : w7.cell? ⟨ga, 9, none⟩ = some (.int .u64 0) := (show Blk w7 (ga) 32 (failV ep q.sq code) from KA7.out).cell 9
  have z10 : w7.cell? ⟨ga, 10, none⟩ = some (.int .u64 0) := (show Blk w7 (ga) 32 (failV ep q.sq code) from KA7.out).cell 10
  have z11 : w7.cell? ⟨ga, 11, none⟩ = some (.int .u64 0) := (show Blk w7 (ga) 32 (failV ep q.sq code) from KA7.out).cell 11
  have z12 : w7.cell? ⟨ga, 12, none⟩ = some (.int .u64 0) := (show Blk w7 (ga) 32 (failV ep q.sq code) from KA7.out).cell 12
  have z13 : w7.cell? ⟨ga, 13, none⟩ = some (.slice none 0 0) := (show Blk w7 (ga) 32 (failV ep q.sq code) from KA7.out).cell 13
  have y0 : w7.cell? ⟨(ga + 1), 0, none⟩ = some (.int .i64 14) := (show Blk w7 ((ga + 1)) 32 (failV ep q.sq code) from KW7.out).cell 0
  have y1 : w7.cell? ⟨(ga + 1), 1, none⟩ = some (.int .u64 (ep : Int)) := (show Blk w7 ((ga + 1)) 32 (failV ep q.sq code) from KW7.out).cell 1
  have y2 : w7.cell? ⟨(ga + 1), 2, none⟩ = some (.int .u64 (q.sq : Int)) := (show Blk w7 ((ga + 1)) 32 (failV ep q.sq code) from KW7.out).cell 2
  have y3 : w7.cell? ⟨(ga + 1), 3, none⟩ = some (.int .u64 0) := (show Blk w7 ((ga + 1)) 32 (failV ep q.sq code) from KW7.out).cell 3
  have y4 : w7.cell? ⟨(ga + 1), 4, none⟩ = some (.int .i64 0) := (show Blk w7 ((ga + 1)) 32 (failV ep q.sq code) from KW7.out).cell 4
  have y5 : w7.cell? ⟨(ga + 1), 5, none⟩ = some (.int .i64 code) := (show Blk w7 ((ga + 1)) 32 (failV ep q.sq code) from KW7.out).cell 5
  have y6 : w7.cell? ⟨(ga + 1), 6, none⟩ = some (.slice none 0 0) := (show Blk w7 ((ga + 1)) 32 (failV ep q.sq code) from KW7.out).cell 6
  have y7 : w7.cell? ⟨(ga + 1), 7, none⟩ = some (.slice none 0 0) := (show Blk w7 ((ga + 1)) 32 (failV ep q.sq code) from KW7.out).cell 7
  have y8 : w7.cell? ⟨(ga + 1), 8, none⟩ = some (.slice none 0 0) := (show Blk w7 ((ga + 1)) 32 (failV ep q.sq code) from KW7.out).cell 8
  have y9 : w7.cell? ⟨(ga + 1), 9, none⟩ = some (.int .u64 0) := (show Blk w7 ((ga + 1)) 32 (failV ep q.sq code) from KW7.out).cell 9
  have y10 : w7.cell? ⟨(ga + 1), 10, none⟩ = some (.int .u64 0) := (show Blk w7 ((ga + 1)) 32 (failV ep q.sq code) from KW7.out).cell 10
  have y11 : w7.cell? ⟨(ga + 1), 11, none⟩ = some (.int .u64 0) := (show Blk w7 ((ga + 1)) 32 (failV ep q.sq code) from KW7.out).cell 11
  have y12 : w7.cell? ⟨(ga + 1), 12, none⟩ = some (.int .u64 0) := (show Blk w7 ((ga + 1)) 32 (failV ep q.sq code) from KW7.out).cell 12
  have y13 : w7.cell? ⟨(ga + 1), 13, none⟩ = some (.slice none 0 0) := (show Blk w7 ((ga + 1)) 32 (failV ep q.sq code) from KW7.out).cell 13
  go_wp2_with fail
  refine (rsame_z 14 ep q.sq code w7).mono ?_
  rintro e w8 ⟨rfl, hb⟩
  have HB8 := Lib.hid (stepB HB7.out hb)
  have KQ8 := Lib.hid (keepB (show Blk w7 (gb) 32 (msV q hq) from KQ7.out) hb)
  have KA8 := Lib.hid (keepB (show Blk w7 (ga) 32 (failV ep q.sq code) from KA7.out) hb)
  have KW8 := Lib.hid (keepB (show Blk w7 ((ga + 1)) 32 (failV ep q.sq code) from KW7.out) hb)
  have HS8 := Lib.hid (keepS HS7.out hb)
  have HQ8 := Lib.hid (HQ7.out.below hb)
  clear z0 z1 z2 z3 z4 z5 z6 z7 z8 z9 z10 z11 z12 z13 y0 y1 y2 y3 y4 y5 y6 y7 y8 y9 y10 y11 y12 y13
  clear hb
  have z0 : w8.cell? ⟨gb, 0, none⟩ = some (.int .i64 q.kd) := (show Blk w8 (gb) 32 (msV q hq) from KQ8.out).cell 0
  have z1 : w8.cell? ⟨gb, 1, none⟩ = some (.int .u64 (q.ep : Int)) := (show Blk w8 (gb) 32 (msV q hq) from KQ8.out).cell 1
  have z2 : w8.cell? ⟨gb, 2, none⟩ = some (.int .u64 (q.sq : Int)) := (show Blk w8 (gb) 32 (msV q hq) from KQ8.out).cell 2
  have z3 : w8.cell? ⟨gb, 3, none⟩ = some (.int .u64 (q.ps : Int)) := (show Blk w8 (gb) 32 (msV q hq) from KQ8.out).cell 3
  have z4 : w8.cell? ⟨gb, 4, none⟩ = some (.int .i64 q.ct) := (show Blk w8 (gb) 32 (msV q hq) from KQ8.out).cell 4
  have z5 : w8.cell? ⟨gb, 5, none⟩ = some (.int .i64 q.st) := (show Blk w8 (gb) 32 (msV q hq) from KQ8.out).cell 5
  have z6 : w8.cell? ⟨gb, 6, none⟩ = some (.slice hq.A1 hq.n1 hq.c1) := (show Blk w8 (gb) 32 (msV q hq) from KQ8.out).cell 6
  have z7 : w8.cell? ⟨gb, 7, none⟩ = some (.slice hq.A2 hq.n2 hq.c2) := (show Blk w8 (gb) 32 (msV q hq) from KQ8.out).cell 7
  have z8 : w8.cell? ⟨gb, 8, none⟩ = some (.slice hq.A3 hq.n3 hq.c3) := (show Blk w8 (gb) 32 (msV q hq) from KQ8.out).cell 8
  have z9 : w8.cell? ⟨gb, 9, none⟩ = some (.int .u64 (q.se.1 : Int)) := (show Blk w8 (gb) 32 (msV q hq) from KQ8.out).cell 9
  have z10 : w8.cell? ⟨gb, 10, none⟩ = some (.int .u64 (q.se.2.1 : Int)) := (show Blk w8 (gb) 32 (msV q hq) from KQ8.out).cell 10
  have z11 : w8.cell? ⟨gb, 11, none⟩ = some (.int .u64 (q.se.2.2 : Int)) := (show Blk w8 (gb) 32 (msV q hq) from KQ8.out).cell 11
  have z12 : w8.cell? ⟨gb, 12, none⟩ = some (.int .u64 (q.pr.1 : Int)) := (show Blk w8 (gb) 32 (msV q hq) from KQ8.out).cell 12
  have z13 : w8.cell? ⟨gb, 13, none⟩ = some (.slice hq.A4 hq.n4 hq.c4) := (show Blk w8 (gb) 32 (msV q hq) from KQ8.out).cell 13
  have y0 : w8.cell? ⟨ga, 0, none⟩ = some (.int .i64 14) := (show Blk w8 (ga) 32 (failV ep q.sq code) from KA8.out).cell 0
  have y1 : w8.cell? ⟨ga, 1, none⟩ = some (.int .u64 (ep : Int)) := (show Blk w8 (ga) 32 (failV ep q.sq code) from KA8.out).cell 1
  have y2 : w8.cell? ⟨ga, 2, none⟩ = some (.int .u64 (q.sq : Int)) := (show Blk w8 (ga) 32 (failV ep q.sq code) from KA8.out).cell 2
  have y3 : w8.cell? ⟨ga, 3, none⟩ = some (.int .u64 0) := (show Blk w8 (ga) 32 (failV ep q.sq code) from KA8.out).cell 3
  have y4 : w8.cell? ⟨ga, 4, none⟩ = some (.int .i64 0) := (show Blk w8 (ga) 32 (failV ep q.sq code) from KA8.out).cell 4
  have y5 : w8.cell? ⟨ga, 5, none⟩ = some (.int .i64 code) := (show Blk w8 (ga) 32 (failV ep q.sq code) from KA8.out).cell 5
  have y6 : w8.cell? ⟨ga, 6, none⟩ = some (.slice none 0 0) := (show Blk w8 (ga) 32 (failV ep q.sq code) from KA8.out).cell 6
  have y7 : w8.cell? ⟨ga, 7, none⟩ = some (.slice none 0 0) := (show Blk w8 (ga) 32 (failV ep q.sq code) from KA8.out).cell 7
  have y8 : w8.cell? ⟨ga, 8, none⟩ = some (.slice none 0 0) := (show Blk w8 (ga) 32 (failV ep q.sq code) from KA8.out).cell 8
  have y9 : w8.cell? ⟨ga, 9, none⟩ = some (.int .u64 0) := (show Blk w8 (ga) 32 (failV ep q.sq code) from KA8.out).cell 9
  have y10 : w8.cell? ⟨ga, 10, none⟩ = some (.int .u64 0) := (show Blk w8 (ga) 32 (failV ep q.sq code) from KA8.out).cell 10
  have y11 : w8.cell? ⟨ga, 11, none⟩ = some (.int .u64 0) := (show Blk w8 (ga) 32 (failV ep q.sq code) from KA8.out).cell 11
  have y12 : w8.cell? ⟨ga, 12, none⟩ = some (.int .u64 0) := (show Blk w8 (ga) 32 (failV ep q.sq code) from KA8.out).cell 12
  have y13 : w8.cell? ⟨ga, 13, none⟩ = some (.slice none 0 0) := (show Blk w8 (ga) 32 (failV ep q.sq code) from KA8.out).cell 13
  have HKF := kfits_any HQ8.out (fail_in w8 he hsq hc0 hc1)
  rw [HFT.out, failV_eq] at HKF
  have HKF' := Lib.hid HKF
  clear HKF
  go_wp2_with fail
  refine HKF'.out.mono ?_
  rintro e w9 ⟨rfl, hb⟩
  have HB9 := Lib.hid (stepB HB8.out hb)
  have KQ9 := Lib.hid (keepB (show Blk w8 (gb) 32 (msV q hq) from KQ8.out) hb)
  have KA9 := Lib.hid (keepB (show Blk w8 (ga) 32 (failV ep q.sq code) from KA8.out) hb)
  have KW9 := Lib.hid (keepB (show Blk w8 ((ga + 1)) 32 (failV ep q.sq code) from KW8.out) hb)
  have HS9 := Lib.hid (keepS HS8.out hb)
  have HQ9 := Lib.hid (HQ8.out.below hb)
  clear z0 z1 z2 z3 z4 z5 z6 z7 z8 z9 z10 z11 z12 z13 y0 y1 y2 y3 y4 y5 y6 y7 y8 y9 y10 y11 y12 y13
  clear hb
  have HO := Lib.hid (open_any HS9.out.1 HS9.out.2 (by omega))
  go_wp2_with fail
  refine HO.out.mono ?_
  rintro e w10 ⟨hb, ho⟩
  have HB10 := Lib.hid (stepB HB9.out hb)
  have KQ10 := Lib.hid (keepB (show Blk w9 (gb) 32 (msV q hq) from KQ9.out) hb)
  have KA10 := Lib.hid (keepB (show Blk w9 (ga) 32 (failV ep q.sq code) from KA9.out) hb)
  have KW10 := Lib.hid (keepB (show Blk w9 ((ga + 1)) 32 (failV ep q.sq code) from KW9.out) hb)
  have HS10 := Lib.hid (keepS HS9.out hb)
  have HQ10 := Lib.hid (HQ9.out.below hb)
  clear hb
  rcases ho with ⟨Ao, co, rfl, hr0, hg, hoo⟩ | ⟨rfl, hr0⟩
  rotate_left
  · clear hr0
    go_wp2_with fail
    refine (live30_any _).mono ?_; rintro e wl ⟨rfl, hbl⟩
    have HBL := Lib.hid (stepB HB10.out hbl)
    clear hbl
    go_wp2_with fail
    go_ret
    exact ⟨rfl, HBL.out⟩
  have hln := HN.out
  have HG : Hid (Good l n) := by have h := hg; rw [hln] at h; exact h
  rw [hln]
  obtain ⟨on, hon⟩ : ∃ on, (opnL l (prsOf l n n)).length = on := ⟨_, rfl⟩
  rw [hon]
  have HON := Lib.hid hon
  clear hr0 hg hoo hon hln
  obtain ⟨L, hL⟩ : ∃ L, L = l ++ [failM ep q.sq code] := ⟨_, rfl⟩
  have HLE := Lib.hid hL
  have HCL : Hid (Good L (n + 1) ∧ (opnL L (prsOf L (n + 1) (n + 1))).length + 1 = on) := by
    have hl' : l.length = j + 1 := by rw [HN.out, HJ.out]
    have hg : Good l (j + 1) := by have h := HG.out; rw [HJ.out] at h; exact h
    have h := fail_closes hl' HL.out HRQQ.out hg HMF.out HFT.out
    show _ ∧ _
    rw [← HON.out, HJ.out, HLE.out]
    exact h
  obtain ⟨un, hun⟩ : ∃ un, (opnL L (prsOf L (n + 1) (n + 1))).length = un := ⟨_, rfl⟩
  have HUN := Lib.hid hun
  have hou : un + 1 = on := by rw [← hun]; exact HCL.out.2
  have HOU := Lib.hid hou
  have hu13 : un ≤ 13 := by
    rw [← hun]
    have h1 := opn_len L (prsOf L (n + 1) (n + 1))
    rw [prs_len] at h1
    have h2 := rqs_len L (n + 1)
    omega
  clear hL hun hou
  have hsb : IntKind.i64.wrap ((on : Int) - 1) = (un : Int) := by
    have h1 := HOU.out
    rw [IntWalk.i64_in _ (by omega)]; omega
  have HSB := Lib.hid hsb
  clear hsb
  have k0 : w10.cell? ⟨ga, 0, none⟩ = some (.int .i64 14) := (show Blk w10 (ga) 32 (failV ep q.sq code) from KA10.out).cell 0
  have k1 : w10.cell? ⟨ga, 1, none⟩ = some (.int .u64 (ep : Int)) := (show Blk w10 (ga) 32 (failV ep q.sq code) from KA10.out).cell 1
  have k2 : w10.cell? ⟨ga, 2, none⟩ = some (.int .u64 (q.sq : Int)) := (show Blk w10 (ga) 32 (failV ep q.sq code) from KA10.out).cell 2
  have k3 : w10.cell? ⟨ga, 3, none⟩ = some (.int .u64 0) := (show Blk w10 (ga) 32 (failV ep q.sq code) from KA10.out).cell 3
  have k4 : w10.cell? ⟨ga, 4, none⟩ = some (.int .i64 0) := (show Blk w10 (ga) 32 (failV ep q.sq code) from KA10.out).cell 4
  have k5 : w10.cell? ⟨ga, 5, none⟩ = some (.int .i64 code) := (show Blk w10 (ga) 32 (failV ep q.sq code) from KA10.out).cell 5
  have k6 : w10.cell? ⟨ga, 6, none⟩ = some (.slice none 0 0) := (show Blk w10 (ga) 32 (failV ep q.sq code) from KA10.out).cell 6
  have k7 : w10.cell? ⟨ga, 7, none⟩ = some (.slice none 0 0) := (show Blk w10 (ga) 32 (failV ep q.sq code) from KA10.out).cell 7
  have k8 : w10.cell? ⟨ga, 8, none⟩ = some (.slice none 0 0) := (show Blk w10 (ga) 32 (failV ep q.sq code) from KA10.out).cell 8
  have k9 : w10.cell? ⟨ga, 9, none⟩ = some (.int .u64 0) := (show Blk w10 (ga) 32 (failV ep q.sq code) from KA10.out).cell 9
  have k10 : w10.cell? ⟨ga, 10, none⟩ = some (.int .u64 0) := (show Blk w10 (ga) 32 (failV ep q.sq code) from KA10.out).cell 10
  have k11 : w10.cell? ⟨ga, 11, none⟩ = some (.int .u64 0) := (show Blk w10 (ga) 32 (failV ep q.sq code) from KA10.out).cell 11
  have k12 : w10.cell? ⟨ga, 12, none⟩ = some (.int .u64 0) := (show Blk w10 (ga) 32 (failV ep q.sq code) from KA10.out).cell 12
  have k13 : w10.cell? ⟨ga, 13, none⟩ = some (.slice none 0 0) := (show Blk w10 (ga) 32 (failV ep q.sq code) from KA10.out).cell 13
  obtain ⟨lp, hlp1, hlp2, hlp3⟩ := Src.ms HS10.out.1 HS10.out.2
  have HP1 := Lib.hid hlp1
  have HP2 := Lib.hid hlp2
  have hgaw : ga < w10.heap.size := (show Blk w10 ga 32 (failV ep q.sq code) from KA10.out).lt
  have HLP : Hid (∀ u : World, Below w10.heap.size w10 u → Src u (some ⟨bo, off, none⟩) n 14 (lp.flatMap mc)) := fun u hu => Src_below hlp3 (Rp.sl_nil rpU8 u D none 0 (by decide)) HS10.out hu
  clear hlp1 hlp2 hlp3
  have hbd : Below w10.heap.size w10 (w10.drew.alloc (.cells #[] 32)) := ((Below.refl _ w10).drew).alloc (Nat.le_refl _) _
  have hbd2 : Below w10.heap.size w10 ((w10.drew.alloc (.cells #[] 32)).alloc (.cells (failV ep q.sq code) 32)) := hbd.alloc hbd.size _
  have hbe : Below w10.heap.size w10 (w10.drew.alloc (.cells (failV ep q.sq code) 32)) := ((Below.refl _ w10).drew).alloc (Nat.le_refl _) _
  have hbd3 : Below w10.heap.size w10 ((w10.drew.alloc (.cells (failV ep q.sq code) 32)).alloc (.cells #[] 32)) := hbe.alloc hbe.size _
  have HM0 := Lib.hid (World.ownsRow_made (e := 32) (size := 14) (base := w10.heap.size) w10.drew #[] 0 (Nat.le_refl _) (by decide) rfl)
  have hz1 : (w10.drew.alloc (.cells (failV ep q.sq code) 32)).heap.size = w10.heap.size + 1 := by simp
  have hz2 : (w10.drew.alloc (.cells #[] 32)).heap.size = w10.heap.size + 1 := by simp
  have hm3 := World.ownsRow_made (e := 32) (size := 14) (base := w10.heap.size) (w10.drew.alloc (.cells (failV ep q.sq code) 32)) #[] 0 (by simp) (by decide) rfl
  rw [hz1] at hm3
  have HM3 := Lib.hid hm3
  have hx2 := Blk.new (w10.drew.alloc (.cells #[] 32)) 32 (failV ep q.sq code)
  rw [hz2] at hx2
  have HX2 := Lib.hid hx2
  clear hz1 hz2 hm3 hx2
  have HX3 := Lib.hid ((Blk.new w10.drew 32 (failV ep q.sq code)).alloc (.cells #[] 32))
  have HSR := Lib.hid (HLP.out _ hbd)
  have HSR2 := Lib.hid (HLP.out _ hbd2)
  have HSR3 := Lib.hid (HLP.out _ hbd3)
  have HBD := Lib.hid hbd
  have HBD2 := Lib.hid hbd2
  have HBD3 := Lib.hid hbd3
  have HOPN : Hid (∀ (u : World) (A3 : Option Addr) (c3 : Nat), Below w10.heap.size w10 u → u.ownsRow w10.heap.size 32 14 (.slice A3 (n + 1) c3) (n + 1) (lp.flatMap mc ++ [(failM ep q.sq code, hdZ)].flatMap mc) → Calls Try.prog 18 #[.slice A3 (n + 1) c3] u fun e w' => (∃ (A5 : Option Addr) (c5 : Nat), e = .returned (.tuple #[.slice A5 un c5, .bool true])) ∧ Below u.heap.size u w') := fun u A3 c3 hu ho => by
    rw [← List.flatMap_append] at ho
    have hsl := own_ms (D := D) ho (fun p hp => by
      rcases List.mem_append.1 hp with hp | hp
      · exact (HP2.out p hp).below hu
      · obtain rfl := List.mem_singleton.1 hp
        exact (fail_in u he hsq hc0 hc1).more (fun k h => h.elim) (fun k hk => Nat.lt_of_lt_of_le (HS10.out.2 k hk) hu.size))
    have e : (lp ++ [(failM ep q.sq code, hdZ)]).map (·.1) = L := by rw [List.map_append, HP1.out, HLE.out]; rfl
    rw [e] at hsl
    have hLn : L.length = n + 1 := (Rp.sl_len hsl).1
    refine (open_any hsl (fun k hk => ?_) (by omega)).mono fun e w' h => ?_
    · rcases hk with hk | hk
      · exact Nat.lt_of_lt_of_le (HS10.out.2 k hk) hu.size
      · exact (ho.lt k hk.symm).2
    · obtain ⟨hb, ⟨A5, c5, rfl, _, _, _⟩ | ⟨_, hk⟩⟩ := h
      · rw [hLn, HUN.out]; exact ⟨⟨A5, c5, rfl⟩, hb⟩
      · exact absurd (by rw [res_good (by rw [hLn]; exact HCL.out.1)]) hk
  clear hbd hbe hbd2 hbd3
  go_upto_region 16 with (fail)
  go_cut [14, 15] (fun s14 s15 wx => ∃ (A5 : Option Addr) (c5 : Nat), s14 = .slice A5 un c5 ∧ s15 = .bool true ∧ Hid (Below w10.heap.size w10 wx))
  case first =>
    go_region_held3 (fun w' => w'.cell? ⟨ga, 0, none⟩ = some (.int .i64 14) ∧ w'.cell? ⟨ga, 1, none⟩ = some (.int .u64 (ep : Int)) ∧ w'.cell? ⟨ga, 2, none⟩ = some (.int .u64 (q.sq : Int)) ∧ w'.cell? ⟨ga, 3, none⟩ = some (.int .u64 0) ∧ w'.cell? ⟨ga, 4, none⟩ = some (.int .i64 0) ∧ w'.cell? ⟨ga, 5, none⟩ = some (.int .i64 code) ∧ w'.cell? ⟨ga, 6, none⟩ = some (.slice none 0 0) ∧ w'.cell? ⟨ga, 7, none⟩ = some (.slice none 0 0) ∧ w'.cell? ⟨ga, 8, none⟩ = some (.slice none 0 0) ∧ w'.cell? ⟨ga, 9, none⟩ = some (.int .u64 0) ∧ w'.cell? ⟨ga, 10, none⟩ = some (.int .u64 0) ∧ w'.cell? ⟨ga, 11, none⟩ = some (.int .u64 0) ∧ w'.cell? ⟨ga, 12, none⟩ = some (.int .u64 0) ∧ w'.cell? ⟨ga, 13, none⟩ = some (.slice none 0 0))
        (first | with_reducible exact ⟨k0, k1, k2, k3, k4, k5, k6, k7, k8, k9, k10, k11, k12, k13⟩ | go_keep)
        (first
         | (refine step_app rfl (.tmp 96) (.tmp 97) _ rfl elemMs (by rfl) HM0.out (by rfl) HSR.out (by unfold maxLen; omega) (by omega) (by simp <;> omega) ?_; intro A2 c2 w22 ho2 hg2 hat2
            have hb2 : Below w10.heap.size w10 w22 := HBD.out.grown hg2 HBD.out.size (fun jj hjj => by have e : jj = w10.heap.size := (by injection hjj with hjj; exact hjj.symm); omega)
            have KA22 := Lib.hid (keepB (show Blk w10 ga 32 (failV ep q.sq code) from KA10.out) hb2)
            have HB22 := Lib.hid hb2
            have HO2 := Lib.hid (own_zeroM ho2)
            have hz12 : w10.heap.size ≤ w22.heap.size := hb2.size
  
            have k0 : w22.cell? ⟨ga, 0, none⟩ = some (.int .i64 14) := (show Blk w22 (ga) 32 (failV ep q.sq code) from KA22.out).cell 0
            have k1 : w22.cell? ⟨ga, 1, none⟩ = some (.int .u64 (ep : Int)) := (show Blk w22 (ga) 32 (failV ep q.sq code) from KA22.out).cell 1
            have k2 : w22.cell? ⟨ga, 2, none⟩ = some (.int .u64 (q.sq : Int)) := (show Blk w22 (ga) 32 (failV ep q.sq code) from KA22.out).cell 2
            have k3 : w22.cell? ⟨ga, 3, none⟩ = some (.int .u64 0) := (show Blk w22 (ga) 32 (failV ep q.sq code) from KA22.out).cell 3
            have k4 : w22.cell? ⟨ga, 4, none⟩ = some (.int .i64 0) := (show Blk w22 (ga) 32 (failV ep q.sq code) from KA22.out).cell 4
            have k5 : w22.cell? ⟨ga, 5, none⟩ = some (.int .i64 code) := (show Blk w22 (ga) 32 (failV ep q.sq code) from KA22.out).cell 5
            have k6 : w22.cell? ⟨ga, 6, none⟩ = some (.slice none 0 0) := (show Blk w22 (ga) 32 (failV ep q.sq code) from KA22.out).cell 6
            have k7 : w22.cell? ⟨ga, 7, none⟩ = some (.slice none 0 0) := (show Blk w22 (ga) 32 (failV ep q.sq code) from KA22.out).cell 7
            have k8 : w22.cell? ⟨ga, 8, none⟩ = some (.slice none 0 0) := (show Blk w22 (ga) 32 (failV ep q.sq code) from KA22.out).cell 8
            have k9 : w22.cell? ⟨ga, 9, none⟩ = some (.int .u64 0) := (show Blk w22 (ga) 32 (failV ep q.sq code) from KA22.out).cell 9
            have k10 : w22.cell? ⟨ga, 10, none⟩ = some (.int .u64 0) := (show Blk w22 (ga) 32 (failV ep q.sq code) from KA22.out).cell 10
            have k11 : w22.cell? ⟨ga, 11, none⟩ = some (.int .u64 0) := (show Blk w22 (ga) 32 (failV ep q.sq code) from KA22.out).cell 11
            have k12 : w22.cell? ⟨ga, 12, none⟩ = some (.int .u64 0) := (show Blk w22 (ga) 32 (failV ep q.sq code) from KA22.out).cell 12
            have k13 : w22.cell? ⟨ga, 13, none⟩ = some (.slice none 0 0) := (show Blk w22 (ga) 32 (failV ep q.sq code) from KA22.out).cell 13
            clear ho2 hg2 hat2 hb2)
         | (refine step_app rfl (.tmp 96) (.tmp 97) _ rfl elemMs (by rfl) (HM0.out.alloc (.cells (failV ep q.sq code) 32)) (by rfl) HSR2.out (by unfold maxLen; omega) (by omega) (by simp <;> omega) ?_; intro A2 c2 w22 ho2 hg2 hat2
            have hb2 : Below w10.heap.size w10 w22 := HBD2.out.grown hg2 HBD2.out.size (fun jj hjj => by have e : jj = w10.heap.size := (by injection hjj with hjj; exact hjj.symm); omega)
            have KA22 := Lib.hid (keepB (show Blk w10 ga 32 (failV ep q.sq code) from KA10.out) hb2)
            have HB22 := Lib.hid hb2
            have HO2 := Lib.hid ho2
            have hz12 : w10.heap.size ≤ w22.heap.size := hb2.size
            have HX := Lib.hid (HX2.out.grown hg2 (fun e => by injection e with e; simp at e))
  
            have k0 : w22.cell? ⟨ga, 0, none⟩ = some (.int .i64 14) := (show Blk w22 (ga) 32 (failV ep q.sq code) from KA22.out).cell 0
            have k1 : w22.cell? ⟨ga, 1, none⟩ = some (.int .u64 (ep : Int)) := (show Blk w22 (ga) 32 (failV ep q.sq code) from KA22.out).cell 1
            have k2 : w22.cell? ⟨ga, 2, none⟩ = some (.int .u64 (q.sq : Int)) := (show Blk w22 (ga) 32 (failV ep q.sq code) from KA22.out).cell 2
            have k3 : w22.cell? ⟨ga, 3, none⟩ = some (.int .u64 0) := (show Blk w22 (ga) 32 (failV ep q.sq code) from KA22.out).cell 3
            have k4 : w22.cell? ⟨ga, 4, none⟩ = some (.int .i64 0) := (show Blk w22 (ga) 32 (failV ep q.sq code) from KA22.out).cell 4
            have k5 : w22.cell? ⟨ga, 5, none⟩ = some (.int .i64 code) := (show Blk w22 (ga) 32 (failV ep q.sq code) from KA22.out).cell 5
            have k6 : w22.cell? ⟨ga, 6, none⟩ = some (.slice none 0 0) := (show Blk w22 (ga) 32 (failV ep q.sq code) from KA22.out).cell 6
            have k7 : w22.cell? ⟨ga, 7, none⟩ = some (.slice none 0 0) := (show Blk w22 (ga) 32 (failV ep q.sq code) from KA22.out).cell 7
            have k8 : w22.cell? ⟨ga, 8, none⟩ = some (.slice none 0 0) := (show Blk w22 (ga) 32 (failV ep q.sq code) from KA22.out).cell 8
            have k9 : w22.cell? ⟨ga, 9, none⟩ = some (.int .u64 0) := (show Blk w22 (ga) 32 (failV ep q.sq code) from KA22.out).cell 9
            have k10 : w22.cell? ⟨ga, 10, none⟩ = some (.int .u64 0) := (show Blk w22 (ga) 32 (failV ep q.sq code) from KA22.out).cell 10
            have k11 : w22.cell? ⟨ga, 11, none⟩ = some (.int .u64 0) := (show Blk w22 (ga) 32 (failV ep q.sq code) from KA22.out).cell 11
            have k12 : w22.cell? ⟨ga, 12, none⟩ = some (.int .u64 0) := (show Blk w22 (ga) 32 (failV ep q.sq code) from KA22.out).cell 12
            have k13 : w22.cell? ⟨ga, 13, none⟩ = some (.slice none 0 0) := (show Blk w22 (ga) 32 (failV ep q.sq code) from KA22.out).cell 13
            clear ho2 hg2 hat2 hb2)
         | (refine step_app rfl (.tmp 96) (.tmp 97) _ rfl elemMs (by rfl) HM3.out (by rfl) HSR3.out (by unfold maxLen; omega) (by omega) (by simp <;> omega) ?_; intro A2 c2 w22 ho2 hg2 hat2
            have hb2 : Below w10.heap.size w10 w22 := HBD3.out.grown hg2 HBD3.out.size (fun jj hjj => by have e : jj = w10.heap.size + 1 := (by injection hjj with hjj; exact hjj.symm); omega)
            have KA22 := Lib.hid (keepB (show Blk w10 ga 32 (failV ep q.sq code) from KA10.out) hb2)
            have HB22 := Lib.hid hb2
            have HO2 := Lib.hid ho2
            have hz12 : w10.heap.size ≤ w22.heap.size := hb2.size
            have HX := Lib.hid (HX3.out.grown hg2 (fun e => by injection e with e; simp at e))
  
            have k0 : w22.cell? ⟨ga, 0, none⟩ = some (.int .i64 14) := (show Blk w22 (ga) 32 (failV ep q.sq code) from KA22.out).cell 0
            have k1 : w22.cell? ⟨ga, 1, none⟩ = some (.int .u64 (ep : Int)) := (show Blk w22 (ga) 32 (failV ep q.sq code) from KA22.out).cell 1
            have k2 : w22.cell? ⟨ga, 2, none⟩ = some (.int .u64 (q.sq : Int)) := (show Blk w22 (ga) 32 (failV ep q.sq code) from KA22.out).cell 2
            have k3 : w22.cell? ⟨ga, 3, none⟩ = some (.int .u64 0) := (show Blk w22 (ga) 32 (failV ep q.sq code) from KA22.out).cell 3
            have k4 : w22.cell? ⟨ga, 4, none⟩ = some (.int .i64 0) := (show Blk w22 (ga) 32 (failV ep q.sq code) from KA22.out).cell 4
            have k5 : w22.cell? ⟨ga, 5, none⟩ = some (.int .i64 code) := (show Blk w22 (ga) 32 (failV ep q.sq code) from KA22.out).cell 5
            have k6 : w22.cell? ⟨ga, 6, none⟩ = some (.slice none 0 0) := (show Blk w22 (ga) 32 (failV ep q.sq code) from KA22.out).cell 6
            have k7 : w22.cell? ⟨ga, 7, none⟩ = some (.slice none 0 0) := (show Blk w22 (ga) 32 (failV ep q.sq code) from KA22.out).cell 7
            have k8 : w22.cell? ⟨ga, 8, none⟩ = some (.slice none 0 0) := (show Blk w22 (ga) 32 (failV ep q.sq code) from KA22.out).cell 8
            have k9 : w22.cell? ⟨ga, 9, none⟩ = some (.int .u64 0) := (show Blk w22 (ga) 32 (failV ep q.sq code) from KA22.out).cell 9
            have k10 : w22.cell? ⟨ga, 10, none⟩ = some (.int .u64 0) := (show Blk w22 (ga) 32 (failV ep q.sq code) from KA22.out).cell 10
            have k11 : w22.cell? ⟨ga, 11, none⟩ = some (.int .u64 0) := (show Blk w22 (ga) 32 (failV ep q.sq code) from KA22.out).cell 11
            have k12 : w22.cell? ⟨ga, 12, none⟩ = some (.int .u64 0) := (show Blk w22 (ga) 32 (failV ep q.sq code) from KA22.out).cell 12
            have k13 : w22.cell? ⟨ga, 13, none⟩ = some (.slice none 0 0) := (show Blk w22 (ga) 32 (failV ep q.sq code) from KA22.out).cell 13
            clear ho2 hg2 hat2 hb2)
         | (refine step_app rfl (.tmp 98) (.tmp 100) _ rfl elemMs (by rfl) (HO2.out.alloc _) (by rfl) (Src.ms1 (blk11 w22 32 (failV ep q.sq code))) (by unfold maxLen; omega) (by omega) (by simp; omega) ?_; intro A3 c3 w33 ho3 hg3 hat3
            have hk3 := (KA22.out.alloc (.cells (failV ep q.sq code) 32)).grown hg3 (fun e => by
              have h1 := (HO2.out.lt _ e.symm).1
              omega)
            have k0 : w33.cell? ⟨ga, 0, none⟩ = some (.int .i64 14) := (show Blk w33 (ga) 32 (failV ep q.sq code) from hk3).cell 0
            have k1 : w33.cell? ⟨ga, 1, none⟩ = some (.int .u64 (ep : Int)) := (show Blk w33 (ga) 32 (failV ep q.sq code) from hk3).cell 1
            have k2 : w33.cell? ⟨ga, 2, none⟩ = some (.int .u64 (q.sq : Int)) := (show Blk w33 (ga) 32 (failV ep q.sq code) from hk3).cell 2
            have k3 : w33.cell? ⟨ga, 3, none⟩ = some (.int .u64 0) := (show Blk w33 (ga) 32 (failV ep q.sq code) from hk3).cell 3
            have k4 : w33.cell? ⟨ga, 4, none⟩ = some (.int .i64 0) := (show Blk w33 (ga) 32 (failV ep q.sq code) from hk3).cell 4
            have k5 : w33.cell? ⟨ga, 5, none⟩ = some (.int .i64 code) := (show Blk w33 (ga) 32 (failV ep q.sq code) from hk3).cell 5
            have k6 : w33.cell? ⟨ga, 6, none⟩ = some (.slice none 0 0) := (show Blk w33 (ga) 32 (failV ep q.sq code) from hk3).cell 6
            have k7 : w33.cell? ⟨ga, 7, none⟩ = some (.slice none 0 0) := (show Blk w33 (ga) 32 (failV ep q.sq code) from hk3).cell 7
            have k8 : w33.cell? ⟨ga, 8, none⟩ = some (.slice none 0 0) := (show Blk w33 (ga) 32 (failV ep q.sq code) from hk3).cell 8
            have k9 : w33.cell? ⟨ga, 9, none⟩ = some (.int .u64 0) := (show Blk w33 (ga) 32 (failV ep q.sq code) from hk3).cell 9
            have k10 : w33.cell? ⟨ga, 10, none⟩ = some (.int .u64 0) := (show Blk w33 (ga) 32 (failV ep q.sq code) from hk3).cell 10
            have k11 : w33.cell? ⟨ga, 11, none⟩ = some (.int .u64 0) := (show Blk w33 (ga) 32 (failV ep q.sq code) from hk3).cell 11
            have k12 : w33.cell? ⟨ga, 12, none⟩ = some (.int .u64 0) := (show Blk w33 (ga) 32 (failV ep q.sq code) from hk3).cell 12
            have k13 : w33.cell? ⟨ga, 13, none⟩ = some (.slice none 0 0) := (show Blk w33 (ga) 32 (failV ep q.sq code) from hk3).cell 13
            have HO3 := Lib.hid ho3
            have hb3 : Below w10.heap.size w10 w33 := (HB22.out.alloc HB22.out.size (.cells (failV ep q.sq code) 32)).grown hg3 (HB22.out.alloc HB22.out.size (.cells (failV ep q.sq code) 32)).size (fun jj hjj => (HO2.out.lt jj hjj).1)
            have HC3 := Lib.hid hb3
            have HK33 := Lib.hid hk3
            have HCALL := Lib.hid (HOPN.out w33 A3 c3 hb3 HO3.out)
            clear hk3 ho3 hg3 hat3 hb3)
         | (refine step_app rfl (.tmp 98) (.tmp 100) _ rfl elemMs (by rfl) HO2.out (by rfl) (Src.ms1 HX.out) (by unfold maxLen; omega) (by omega) (by first | omega | (simp; omega)) ?_; intro A3 c3 w33 ho3 hg3 hat3
            have hk3 := KA22.out.grown hg3 (fun e => by
              have h1 := (HO2.out.lt _ e.symm).1
              omega)
            have k0 : w33.cell? ⟨ga, 0, none⟩ = some (.int .i64 14) := (show Blk w33 (ga) 32 (failV ep q.sq code) from hk3).cell 0
            have k1 : w33.cell? ⟨ga, 1, none⟩ = some (.int .u64 (ep : Int)) := (show Blk w33 (ga) 32 (failV ep q.sq code) from hk3).cell 1
            have k2 : w33.cell? ⟨ga, 2, none⟩ = some (.int .u64 (q.sq : Int)) := (show Blk w33 (ga) 32 (failV ep q.sq code) from hk3).cell 2
            have k3 : w33.cell? ⟨ga, 3, none⟩ = some (.int .u64 0) := (show Blk w33 (ga) 32 (failV ep q.sq code) from hk3).cell 3
            have k4 : w33.cell? ⟨ga, 4, none⟩ = some (.int .i64 0) := (show Blk w33 (ga) 32 (failV ep q.sq code) from hk3).cell 4
            have k5 : w33.cell? ⟨ga, 5, none⟩ = some (.int .i64 code) := (show Blk w33 (ga) 32 (failV ep q.sq code) from hk3).cell 5
            have k6 : w33.cell? ⟨ga, 6, none⟩ = some (.slice none 0 0) := (show Blk w33 (ga) 32 (failV ep q.sq code) from hk3).cell 6
            have k7 : w33.cell? ⟨ga, 7, none⟩ = some (.slice none 0 0) := (show Blk w33 (ga) 32 (failV ep q.sq code) from hk3).cell 7
            have k8 : w33.cell? ⟨ga, 8, none⟩ = some (.slice none 0 0) := (show Blk w33 (ga) 32 (failV ep q.sq code) from hk3).cell 8
            have k9 : w33.cell? ⟨ga, 9, none⟩ = some (.int .u64 0) := (show Blk w33 (ga) 32 (failV ep q.sq code) from hk3).cell 9
            have k10 : w33.cell? ⟨ga, 10, none⟩ = some (.int .u64 0) := (show Blk w33 (ga) 32 (failV ep q.sq code) from hk3).cell 10
            have k11 : w33.cell? ⟨ga, 11, none⟩ = some (.int .u64 0) := (show Blk w33 (ga) 32 (failV ep q.sq code) from hk3).cell 11
            have k12 : w33.cell? ⟨ga, 12, none⟩ = some (.int .u64 0) := (show Blk w33 (ga) 32 (failV ep q.sq code) from hk3).cell 12
            have k13 : w33.cell? ⟨ga, 13, none⟩ = some (.slice none 0 0) := (show Blk w33 (ga) 32 (failV ep q.sq code) from hk3).cell 13
            have HO3 := Lib.hid (own_zeroM1 ho3)
            have hb3 : Below w10.heap.size w10 w33 := (HB22.out).grown hg3 (HB22.out).size (fun jj hjj => (HO2.out.lt jj hjj).1)
            have HC3 := Lib.hid hb3
            have HK33 := Lib.hid hk3
            have HCALL := Lib.hid (HOPN.out w33 A3 c3 hb3 HO3.out)
            clear hk3 ho3 hg3 hat3 hb3)
         | (go_at_call 18; refine HCALL.out.mono ?_; rintro e w44 ⟨⟨A5, c5, rfl⟩, hb44⟩
            have HC4 := Lib.hid (stepB HC3.out hb44)
            have hk4 := keepB HK33.out hb44
            have k0 : w44.cell? ⟨ga, 0, none⟩ = some (.int .i64 14) := (show Blk w44 (ga) 32 (failV ep q.sq code) from hk4).cell 0
            have k1 : w44.cell? ⟨ga, 1, none⟩ = some (.int .u64 (ep : Int)) := (show Blk w44 (ga) 32 (failV ep q.sq code) from hk4).cell 1
            have k2 : w44.cell? ⟨ga, 2, none⟩ = some (.int .u64 (q.sq : Int)) := (show Blk w44 (ga) 32 (failV ep q.sq code) from hk4).cell 2
            have k3 : w44.cell? ⟨ga, 3, none⟩ = some (.int .u64 0) := (show Blk w44 (ga) 32 (failV ep q.sq code) from hk4).cell 3
            have k4 : w44.cell? ⟨ga, 4, none⟩ = some (.int .i64 0) := (show Blk w44 (ga) 32 (failV ep q.sq code) from hk4).cell 4
            have k5 : w44.cell? ⟨ga, 5, none⟩ = some (.int .i64 code) := (show Blk w44 (ga) 32 (failV ep q.sq code) from hk4).cell 5
            have k6 : w44.cell? ⟨ga, 6, none⟩ = some (.slice none 0 0) := (show Blk w44 (ga) 32 (failV ep q.sq code) from hk4).cell 6
            have k7 : w44.cell? ⟨ga, 7, none⟩ = some (.slice none 0 0) := (show Blk w44 (ga) 32 (failV ep q.sq code) from hk4).cell 7
            have k8 : w44.cell? ⟨ga, 8, none⟩ = some (.slice none 0 0) := (show Blk w44 (ga) 32 (failV ep q.sq code) from hk4).cell 8
            have k9 : w44.cell? ⟨ga, 9, none⟩ = some (.int .u64 0) := (show Blk w44 (ga) 32 (failV ep q.sq code) from hk4).cell 9
            have k10 : w44.cell? ⟨ga, 10, none⟩ = some (.int .u64 0) := (show Blk w44 (ga) 32 (failV ep q.sq code) from hk4).cell 10
            have k11 : w44.cell? ⟨ga, 11, none⟩ = some (.int .u64 0) := (show Blk w44 (ga) 32 (failV ep q.sq code) from hk4).cell 11
            have k12 : w44.cell? ⟨ga, 12, none⟩ = some (.int .u64 0) := (show Blk w44 (ga) 32 (failV ep q.sq code) from hk4).cell 12
            have k13 : w44.cell? ⟨ga, 13, none⟩ = some (.slice none 0 0) := (show Blk w44 (ga) 32 (failV ep q.sq code) from hk4).cell 13
            clear hb44 hk4))
    all_goals
      go_wp2_with fail
      go_meet
      exact ⟨A5, c5, rfl, rfl, HC4⟩
  case rest =>
  obtain ⟨A5, c5, rfl, rfl, HC4⟩ := hcut
  obtain ⟨wz, hwz⟩ : ∃ wz, wz = wc := ⟨_, rfl⟩
  subst hwz
  clear HM0 HM3 HX2 HX3 HSR HSR2 HSR3 HBD HBD2 HBD3
  have HBZ := Lib.hid (stepB HB10.out HC4.out)
  have hsb := HSB.out
  clear k0 k1 k2 k3 k4 k5 k6 k7 k8 k9 k10 k11 k12 k13
  go_wp2_with fail
  refine (live30_any _).mono ?_; rintro e wl ⟨rfl, hbl⟩
  have HBL := Lib.hid (stepB HBZ.out hbl)
  clear hbl
  go_wp2_with fail
  go_ret
  exact ⟨rfl, HBL.out⟩
end
set_option maxRecDepth 100000 in
theorem talkFails_any (A : Option Addr) (n c : Nat) (l : List Ms) (ep code : Int) (w : World) (hs : rpMs.sl w (lt w.heap.size) A n c l) (he0 : 0 ≤ ep) (he1 : ep ≤ 18446744073709551615) (hc0 : -9223372036854775808 ≤ code) (hc1 : code ≤ 9223372036854775807) :
    Calls Try.prog 5 #[.slice A n c, .int .u64 ep, .int .i64 code] w fun e w' => e = .returned (.bool true) ∧ Below w.heap.size w w' := by
  obtain ⟨ep', rfl⟩ := Int.eq_ofNat_of_zero_le he0
  have he : ep' ≤ 18446744073709551615 := by omega
  rcases Nat.eq_zero_or_pos n with h0 | h0
  · subst h0
    have HM := Lib.hid (many_any hs (fun k hk => hk))
    clear hs
    go_enter Try.func5, Try.ntmps5
    go_wp2_with fail
    refine HM.out.mono ?_; rintro e w1 ⟨b1, rfl, hn1, hb1⟩
    have HB1 := Lib.hid hb1
    clear hb1 hn1
    cases b1
    all_goals
      go_wp2_with fail
      refine (live30_any _).mono ?_; rintro e wl ⟨rfl, hbl⟩
      have HBL := Lib.hid (stepB HB1.out hbl)
      clear hbl
      go_wp2_with fail
      go_ret
      exact ⟨rfl, HBL.out⟩
  · obtain ⟨j, hj⟩ : ∃ j, n = j + 1 := ⟨n - 1, by omega⟩
    have hlen := (Rp.sl_len hs).1
    obtain ⟨q, hq⟩ : ∃ q, l[j]? = some q := ⟨_, List.getElem?_eq_getElem (by omega)⟩
    by_cases h1 : MOk q
    · by_cases h2 : MOk (failM ep' q.sq code)
      · cases h3 : rq q with
        | false => exact fails_kind hs (fun k hk => hk) hj hq he hc0 hc1 h1 h2 h3
        | true => exact fails_good hs (fun k hk => hk) hj hq he hc0 hc1 h1 h2 h3
      · exact fails_bad2 hs (fun k hk => hk) hj hq he hc0 hc1 h1 h2
    · exact fails_bad1 hs (fun k hk => hk) hj hq he hc0 hc1 h1
end Go.Proofs.Ytlfieiiegokejaa
