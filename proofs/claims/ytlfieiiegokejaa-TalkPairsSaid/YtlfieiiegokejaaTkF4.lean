/- The walk of TalkPairs. -/
import Derived.Test.YtlfieiiegokejaaTkOp
import Derived.Test.YtlfieiiegokejaaTkZ
import Derived.Test.YtlfieiiegokejaaTkX
import Derived.Test.YtlfieiiegokejaaTkLv
import Derived.Test.YtlfieiiegokejaaTkPl
import Derived.Test.YtlfieiiegokejaaTkEa
namespace Go.Proofs.Ytlfieiiegokejaa
open Go.ChangeShapes Go.WideShapes Go.ChangeAt Go.RowKit
set_option linter.unusedVariables false
def topOf : Option Nat → Nat
  | none => 0
  | some x => (x + 1) % 18446744073709551616
theorem top_lt (o : Option Nat) : topOf o < 18446744073709551616 := by
  cases o with
  | none => decide
  | some x => exact Nat.mod_lt _ (by decide)
/-- What the program tells of messages that are no talk. -/
def NoTalk (l : List Ms) : Prop := (res l).2 ≠ 0
set_option maxRecDepth 100000 in
set_option maxHeartbeats 4000000 in
theorem talkPairs_any (A : Option Addr) (n c : Nat) (l : List Ms) (w : World) (hs : rpMs.sl w (lt w.heap.size) A n c l) :
    Calls Try.prog 6 #[.slice A n c] w fun e w' => e = .returned (.bool true) ∧ Below w.heap.size w w' := by
  have HM := Lib.hid (many_any hs (fun _ h => h))
  have HS := Lib.hid (show Sl rpMs w (lt w.heap.size) A n c l from ⟨hs, fun _ h => h⟩)
  have HN := Lib.hid (Rp.sl_len hs).1
  clear hs
  go_enter Try.func6, Try.ntmps6
  go_wp2_with fail
  refine HM.out.mono ?_; rintro e w1 ⟨b1, rfl, hn1, hb1⟩
  have HB1 := Lib.hid hb1
  have HS1 := Lib.hid (keepS HS.out hb1)
  clear hb1
  cases b1
  case true =>
    clear hn1
    go_wp2_with fail
    refine (live30_any _).mono ?_; rintro e wl ⟨rfl, hbl⟩
    have HBL := Lib.hid (stepB HB1.out hbl)
    clear hbl
    go_wp2_with fail
    go_ret
    exact ⟨rfl, HBL.out⟩
  case false =>
  have hn := hn1 rfl
  clear hn1
  obtain ⟨r1, r2, hr⟩ : ∃ (r1 : Nat) (r2 : Int), res l = (r1, r2) := ⟨_, _, rfl⟩
  have HR := Lib.hid hr
  have HC := rcheck_any HS1.out.1 HS1.out.2 (by omega)
  rw [hr] at HC
  have HC2 := Lib.hid HC
  clear HC hr
  go_wp2_with fail
  refine HC2.out.mono ?_; rintro e w2 ⟨rfl, hb2⟩
  have HB2 := Lib.hid (stepB HB1.out hb2)
  have HS2 := Lib.hid (keepS HS1.out hb2)
  clear hb2
  have HPR := Lib.hid (pairs_any HS2.out.1 HS2.out.2 (by omega))
  by_cases h0 : r2 = 0
  case neg =>
    have hd0 : (r2 != 0) = true := by simpa using h0
    have HNO : Hid ((res l).2 ≠ 0) := by show _ ≠ _; rw [HR.out]; exact h0
    clear h0
    go_wp2_with fail
    refine HPR.out.mono ?_; rintro e w3 ⟨hb3, ⟨A', c', _, hk, _, _⟩ | ⟨rfl, _⟩⟩
    · exact absurd hk HNO.out
    have HB3 := Lib.hid (stepB HB2.out hb3)
    have HS3 := Lib.hid (keepS HS2.out hb3)
    clear hb3
    have HO := Lib.hid (open_any HS3.out.1 HS3.out.2 (by omega))
    go_wp2_with fail
    refine HO.out.mono ?_; rintro e w4 ⟨hb4, ⟨A', c', _, hk, _, _⟩ | ⟨rfl, _⟩⟩
    · exact absurd hk HNO.out
    have HB4 := Lib.hid (stepB HB3.out hb4)
    have HS4 := Lib.hid (keepS HS3.out hb4)
    clear hb4
    have HX := Lib.hid (next_any HS4.out.1 HS4.out.2 (by omega))
    go_wp2_with fail
    refine HX.out.mono ?_; rintro e w5 ⟨hb5, ⟨rfl, _⟩ | ⟨_, hg, _⟩ | ⟨_, _, _, hg, _⟩⟩
    rotate_left
    · exact absurd (by rw [res_good hg]) HNO.out
    · exact absurd (by rw [res_good hg]) HNO.out
    have HB5 := Lib.hid (stepB HB4.out hb5)
    have HS5 := Lib.hid (keepS HS4.out hb5)
    clear hb5
    have HQ := Lib.hid (quiet_any HS5.out.1 HS5.out.2 (by omega))
    go_wp2_with fail
    refine HQ.out.mono ?_; rintro e w6 ⟨hb6, ⟨q, _, hk, _, _⟩ | ⟨rfl, _⟩⟩
    · exact absurd hk HNO.out
    have HB6 := Lib.hid (stepB HB5.out hb6)
    clear hb6
    go_wp2_with fail
    refine (live30_any _).mono ?_; rintro e wl ⟨rfl, hbl⟩
    have HBL := Lib.hid (stepB HB6.out hbl)
    clear hbl
    go_wp2_with fail
    go_ret
    exact ⟨rfl, HBL.out⟩
  case pos =>
  subst h0
  go_wp2_with fail
  refine HPR.out.mono ?_; rintro e w3 ⟨hb3, ⟨Ap, cp, rfl, hk, hg, hop⟩ | ⟨_, hk⟩⟩
  rotate_left
  · exact absurd (by rw [HR.out]) hk
  have hln := HN.out
  have HG : Hid (Good l n) := by have h := hg; rw [hln] at h; exact h
  have HB3 := Lib.hid (stepB HB2.out hb3)
  have HS3 := Lib.hid (keepS HS2.out hb3)
  obtain ⟨ps, hps⟩ : ∃ ps, prsOf l n n = ps := ⟨_, rfl⟩
  rw [hln, hps] at hop
  rw [hln, hps]
  have HPS := Lib.hid hps
  have HOP3 := Lib.hid (prIn_own hop)
  clear hb3 hk hg hop hps hln
  have HO := Lib.hid (open_any HS3.out.1 HS3.out.2 (by omega))
  go_wp2_with fail
  refine HO.out.mono ?_; rintro e w4 ⟨hb4, ⟨Ao, co, rfl, hk, hg, hoo⟩ | ⟨_, hk⟩⟩
  rotate_left
  · exact absurd (by rw [HR.out]) hk
  have hln := HN.out
  have HB4 := Lib.hid (stepB HB3.out hb4)
  have HS4 := Lib.hid (keepS HS3.out hb4)
  have HOP4 := Lib.hid (HOP3.out.below hb4)
  rw [hln, HPS.out] at hoo
  rw [hln, HPS.out]
  obtain ⟨on, hon⟩ : ∃ on, (opnL l ps).length = on := ⟨_, rfl⟩
  rw [hon] at hoo
  rw [hon]
  have HON := Lib.hid hon
  have HOO4 := Lib.hid (show Sl rpU64 w4 (fun k => some k = (Value.slice Ao on co).ownBlock) Ao on co (opnL l ps) from ⟨own_u64 hoo (opn64 HS4.out.1 HS4.out.2), fun k hk => (hoo.lt k hk.symm).2⟩)
  clear hb4 hk hg hoo hon hln
  have HX := Lib.hid (next_any HS4.out.1 HS4.out.2 (by omega))
  go_wp2_with fail
  refine HX.out.mono ?_; rintro e w5 ⟨hb5, hnx⟩
  have hnx' : ∃ may : Bool, e = .returned (.tuple #[.int .u64 (topOf (lastTo l n) : Int), .bool may]) ∧ (may = true ↔ (lastTo l n = none ∨ 0 < topOf (lastTo l n))) := by
    have hln := HN.out
    rw [hln] at hnx
    rcases hnx with ⟨_, hk⟩ | ⟨rfl, _, h⟩ | ⟨x, y, rfl, _, h, hy⟩
    · exact absurd (by rw [HR.out]) hk
    · exact ⟨true, by rw [h]; rfl, by rw [h]; simp⟩
    · refine ⟨y != 0, by rw [h, hy]; rfl, ?_⟩
      rw [h]
      have e : topOf (some x) = y := hy.symm
      rw [e]
      simp; omega
  obtain ⟨may, rfl, hmay⟩ := hnx'
  have HMAY := Lib.hid hmay
  have HB5 := Lib.hid (stepB HB4.out hb5)
  have HS5 := Lib.hid (keepS HS4.out hb5)
  have HOP5 := Lib.hid (HOP4.out.below hb5)
  have HOO5 := Lib.hid (keepS HOO4.out hb5)
  obtain ⟨nx, hnx0⟩ : ∃ nx, nx = topOf (lastTo l n) := ⟨_, rfl⟩
  rw [← hnx0]
  have HNX := Lib.hid hnx0
  have hnx64 : nx < 18446744073709551616 := by rw [hnx0]; exact top_lt _
  clear hb5 hnx hmay hnx0
  have HPN : Hid (ps.length ≤ 12) := by
    show _ ≤ _
    rw [← HPS.out, prs_len]
    have := rqs_len l n
    omega
  have hpn := HPN.out
  have hono : on ≤ 12 := by
    have h1 := HON.out
    have h2 := opn_len l ps
    omega
  go_wp2_with fail
  go_loopw [11, 12, 13, 14] (fun v11 v12 v13 v14 wr => ∃ i k o t : Nat, i ≤ n ∧ k ≤ i ∧ o ≤ k ∧ t < 18446744073709551616 ∧ v11 = .int .i64 (k : Int) ∧ v12 = .int .i64 (o : Int) ∧ v13 = .int .u64 (t : Int) ∧ v14 = .int .i64 (i : Int) ∧
    Hid (k = (rqs l i).length) ∧ Hid (o = (opnL l (ps.take k)).length) ∧ Hid (t = topOf (lastTo l i)) ∧ Hid (Below w5.heap.size w5 wr)) (fun _ _ _ v14 _ => n - (intOf v14).toNat)
  case atStart => exact ⟨0, 0, 0, 0, by omega, by omega, by omega, by decide, rfl, rfl, rfl, rfl, rfl, rfl, rfl, Below.refl _ _⟩
  case round =>
    obtain ⟨i, k, o, t, hi, hki, hok, ht, rfl, rfl, rfl, rfl, HK, HO2, HT, hbel⟩ := hrel
    by_cases hin : i < n
    case neg =>
      obtain rfl : i = n := by omega
      have hd : decide ((i : Int) < (i : Int)) = false := by simp
      have HKL : Hid (k = ps.length) := by show k = _; rw [← HPS.out, prs_len]; exact HK.out
      have hkl := HKL.out
      have HOL : Hid (o = on) := by
        show o = on
        rw [HO2.out, HKL.out, List.take_of_length_le (Nat.le_refl _), HON.out]
      have HTN : Hid (t = nx) := by show t = nx; rw [HT.out, HNX.out]
      have HS6 := Lib.hid (keepS HS5.out hbel.out)
      have HQ := Lib.hid (quiet_any HS6.out.1 HS6.out.2 (by omega))
      have HKZ : Hid (lastTo l i = none ↔ k = 0) := by show _ ↔ _; rw [HK.out]; exact last_rqs l i
      have hmk : may = (decide (k = 0) || decide (0 < nx)) := by
        have h := HMAY.out
        rw [HKZ.out, ← HNX.out] at h
        cases may with
        | true =>
          rcases h.1 rfl with h1 | h1
          · simp [h1]
          · simp [h1]
        | false =>
          have h2 : ¬ (k = 0 ∨ 0 < nx) := fun h3 => (by have := h.2 h3; cases this)
          have h3 : ¬ k = 0 := fun e => h2 (.inl e)
          have h4 : ¬ 0 < nx := fun e => h2 (.inr e)
          simp [h3, h4]
      have HB6 := Lib.hid (stepB HB5.out hbel.out)
      have HMK := Lib.hid hmk
      have hE1 := HOL.out
      have hE2 := HTN.out
      subst hE1; subst hE2
      clear hkl hmk hbel
      have hkk : ((k : Int) == (ps.length : Int)) = true := by have := HKL.out; simp; omega
      by_cases hk0 : k = 0
      · have hq0 : ((k : Int) == 0) = true := by simp; omega
        have hmt : may = true := by rw [HMK.out]; simp [hk0]
        have hoz : o = 0 := by omega
        subst hmt
        have hoq : ((o : Int) == 0) = true := by simp; omega
        have HOZ := Lib.hid hoz
        clear hk0 hoz
        go_wp2_with fail
        refine HQ.out.mono ?_; rintro e w6 ⟨hb6, ⟨q, rfl, _, _, hqi⟩ | ⟨_, hk⟩⟩
        rotate_left
        · exact absurd (by rw [HR.out]) hk
        have hqt : q = true := hqi.2 (by
          have hln := HN.out
          rw [hln, HPS.out]
          exact List.eq_nil_of_length_eq_zero (by rw [HON.out]; exact HOZ.out))
        subst hqt
        have HB7 := Lib.hid (stepB HB6.out hb6)
        clear hb6 hqi
        go_wp2_with fail
        refine (live30_any _).mono ?_; rintro e wl ⟨rfl, hbl⟩
        have HBL := Lib.hid (stepB HB7.out hbl)
        clear hbl
        go_wp2_with fail
        go_ret
        exact ⟨rfl, HBL.out⟩
      · have hq0 : ((k : Int) == 0) = false := by simp; omega
        obtain ⟨z, hz⟩ : ∃ z, decide (0 < t) = z := ⟨_, rfl⟩
        have hz2 : decide ((0 : Int) < (t : Int)) = z := by rw [← hz]; apply decide_eq_decide.2; omega
        have hmt : may = z := by rw [HMK.out, ← hz]; simp [hk0]
        subst hmt
        obtain ⟨z2, hz3⟩ : ∃ z2, ((o : Int) == 0) = z2 := ⟨_, rfl⟩
        have HZ3 := Lib.hid hz3
        clear hk0
        go_wp2_with fail
        refine HQ.out.mono ?_; rintro e w6 ⟨hb6, ⟨q, rfl, _, _, hqi⟩ | ⟨_, hk⟩⟩
        rotate_left
        · exact absurd (by rw [HR.out]) hk
        have hqt : q = z2 := by
          have hln := HN.out
          rw [hln, HPS.out, ← List.length_eq_zero_iff, HON.out] at hqi
          rw [← HZ3.out]
          cases q with
          | true => have := hqi.1 rfl; simp; omega
          | false =>
            symm
            rw [beq_eq_false_iff_ne]
            intro h
            have := hqi.2 (by omega)
            cases this
        subst hqt
        have HB7 := Lib.hid (stepB HB6.out hb6)
        clear hb6 hqi
        go_wp2_with fail
        refine (live30_any _).mono ?_; rintro e wl ⟨rfl, hbl⟩
        have HBL := Lib.hid (stepB HB7.out hbl)
        clear hbl
        go_wp2_with fail
        go_ret
        exact ⟨rfl, HBL.out⟩
    case pos =>
      have hd : decide ((i : Int) < (n : Int)) = true := by simp; omega
      have hiI : (0 : Int) ≤ (i : Int) := by omega
      have hiI2 : (i : Int) < (n : Int) := by omega
      have hsr := keepS HS5.out hbel.out
      obtain ⟨bo, off, m, hd', hA, hDb, hm, hmi, hc⟩ := ms_at hsr.1 hsr.2 hin
      subst hA
      have hbl : bo < wr.heap.size := hsr.2 _ hDb
      have HMM := Lib.hid hm
      have HSR := Lib.hid hsr
      have e0 : wr.cell? ⟨bo, off + i * 14, none⟩ = some (.int .i64 m.kd) := hc 0 _ rfl
      have e1 : wr.cell? ⟨bo, off + i * 14 + 1, none⟩ = some (.int .u64 (m.ep : Int)) := hc 1 _ rfl
      have e2 : wr.cell? ⟨bo, off + i * 14 + 2, none⟩ = some (.int .u64 (m.sq : Int)) := hc 2 _ rfl
      have e3 : wr.cell? ⟨bo, off + i * 14 + 3, none⟩ = some (.int .u64 (m.ps : Int)) := hc 3 _ rfl
      have e4 : wr.cell? ⟨bo, off + i * 14 + 4, none⟩ = some (.int .i64 m.ct) := hc 4 _ rfl
      have e5 : wr.cell? ⟨bo, off + i * 14 + 5, none⟩ = some (.int .i64 m.st) := hc 5 _ rfl
      have e6 : wr.cell? ⟨bo, off + i * 14 + 6, none⟩ = some (.slice hd'.A1 hd'.n1 hd'.c1) := hc 6 _ rfl
      have e7 : wr.cell? ⟨bo, off + i * 14 + 7, none⟩ = some (.slice hd'.A2 hd'.n2 hd'.c2) := hc 7 _ rfl
      have e8 : wr.cell? ⟨bo, off + i * 14 + 8, none⟩ = some (.slice hd'.A3 hd'.n3 hd'.c3) := hc 8 _ rfl
      have e9 : wr.cell? ⟨bo, off + i * 14 + 9, none⟩ = some (.int .u64 (m.se.1 : Int)) := hc 9 _ rfl
      have e10 : wr.cell? ⟨bo, off + i * 14 + 10, none⟩ = some (.int .u64 (m.se.2.1 : Int)) := hc 10 _ rfl
      have e11 : wr.cell? ⟨bo, off + i * 14 + 11, none⟩ = some (.int .u64 (m.se.2.2 : Int)) := hc 11 _ rfl
      have e12 : wr.cell? ⟨bo, off + i * 14 + 12, none⟩ = some (.int .u64 (m.pr.1 : Int)) := hc 12 _ rfl
      have e13 : wr.cell? ⟨bo, off + i * 14 + 13, none⟩ = some (.slice hd'.A4 hd'.n4 hd'.c4) := hc 13 _ rfl
      have HMI := Lib.hid hmi
      have hsq := hmi.sq1
      obtain ⟨rb, hrb⟩ : ∃ rb, (Kd.an m.kd != 0) = rb := ⟨_, rfl⟩
      have HRQ := rreq_any m hd'
      rw [hrb] at HRQ
      have HRQ' := Lib.hid HRQ
      have HRB : Hid (rq m = rb) := hrb
      clear hc hm hmi hsr hDb hrb HRQ
      go_wp2_with fail
      refine (HRQ'.out _).mono ?_; rintro e w6 ⟨rfl, hb6⟩
      have HB6 := Lib.hid (stepB hbel.out hb6)
      have HMI6 := Lib.hid (HMI.out.below hb6)
      have HSR6 := Lib.hid (keepS HSR.out hb6)
      have hz6 := hb6.size
      have f0 : w6.cell? ⟨bo, off + i * 14, none⟩ = some (.int .i64 m.kd) := (hb6.cell (p := ⟨bo, off + i * 14, none⟩) hbl).trans e0
      have f1 : w6.cell? ⟨bo, off + i * 14 + 1, none⟩ = some (.int .u64 (m.ep : Int)) := (hb6.cell (p := ⟨bo, off + i * 14 + 1, none⟩) hbl).trans e1
      have f2 : w6.cell? ⟨bo, off + i * 14 + 2, none⟩ = some (.int .u64 (m.sq : Int)) := (hb6.cell (p := ⟨bo, off + i * 14 + 2, none⟩) hbl).trans e2
      have f3 : w6.cell? ⟨bo, off + i * 14 + 3, none⟩ = some (.int .u64 (m.ps : Int)) := (hb6.cell (p := ⟨bo, off + i * 14 + 3, none⟩) hbl).trans e3
      have f4 : w6.cell? ⟨bo, off + i * 14 + 4, none⟩ = some (.int .i64 m.ct) := (hb6.cell (p := ⟨bo, off + i * 14 + 4, none⟩) hbl).trans e4
      have f5 : w6.cell? ⟨bo, off + i * 14 + 5, none⟩ = some (.int .i64 m.st) := (hb6.cell (p := ⟨bo, off + i * 14 + 5, none⟩) hbl).trans e5
      have f6 : w6.cell? ⟨bo, off + i * 14 + 6, none⟩ = some (.slice hd'.A1 hd'.n1 hd'.c1) := (hb6.cell (p := ⟨bo, off + i * 14 + 6, none⟩) hbl).trans e6
      have f7 : w6.cell? ⟨bo, off + i * 14 + 7, none⟩ = some (.slice hd'.A2 hd'.n2 hd'.c2) := (hb6.cell (p := ⟨bo, off + i * 14 + 7, none⟩) hbl).trans e7
      have f8 : w6.cell? ⟨bo, off + i * 14 + 8, none⟩ = some (.slice hd'.A3 hd'.n3 hd'.c3) := (hb6.cell (p := ⟨bo, off + i * 14 + 8, none⟩) hbl).trans e8
      have f9 : w6.cell? ⟨bo, off + i * 14 + 9, none⟩ = some (.int .u64 (m.se.1 : Int)) := (hb6.cell (p := ⟨bo, off + i * 14 + 9, none⟩) hbl).trans e9
      have f10 : w6.cell? ⟨bo, off + i * 14 + 10, none⟩ = some (.int .u64 (m.se.2.1 : Int)) := (hb6.cell (p := ⟨bo, off + i * 14 + 10, none⟩) hbl).trans e10
      have f11 : w6.cell? ⟨bo, off + i * 14 + 11, none⟩ = some (.int .u64 (m.se.2.2 : Int)) := (hb6.cell (p := ⟨bo, off + i * 14 + 11, none⟩) hbl).trans e11
      have f12 : w6.cell? ⟨bo, off + i * 14 + 12, none⟩ = some (.int .u64 (m.pr.1 : Int)) := (hb6.cell (p := ⟨bo, off + i * 14 + 12, none⟩) hbl).trans e12
      have f13 : w6.cell? ⟨bo, off + i * 14 + 13, none⟩ = some (.slice hd'.A4 hd'.n4 hd'.c4) := (hb6.cell (p := ⟨bo, off + i * 14 + 13, none⟩) hbl).trans e13
      clear e0 e1 e2 e3 e4 e5 e6 e7 e8 e9 e10 e11 e12 e13
      have hbl6 : bo < w6.heap.size := by omega
      clear hb6 hbl
      have HPK := Lib.hid (HOP5.out.below HB6.out)
      have HOK := Lib.hid (keepS HOO5.out HB6.out)
      cases rb
      case false =>
        have HK2 : Hid (k = (rqs l (i + 1)).length) := by
          show _ = _
          rw [rqs, if_neg (by rw [isRq_at HMM.out, HRB.out]; decide)]; exact HK.out
        have HT2 : Hid (t = topOf (lastTo l (i + 1))) := by
          show _ = _
          rw [lastTo_ans HMM.out HRB.out]; exact HT.out
        clear f0 f1 f2 f3 f4 f5 f6 f7 f8 f9 f10 f11 f12 f13
        go_wp2_with fail
        go_roundw
        case rel => exact ⟨i + 1, k, o, t, by omega, by omega, by omega, ht, rfl, rfl, rfl, by go_num, HK2, HO2, HT2, HB6⟩
        case measure => simp [intOf]; omega
      case true =>
      have HP0 : Hid (ps[k]? = some (i, ansI l n i)) := by
        show _ = _
        rw [← HPS.out, HK.out]; exact pair_at hin HMM.out HRB.out
      have hkp : k < ps.length := (List.getElem?_eq_some_iff.1 HP0.out).1
      have hkd : decide ((ps.length : Int) ≤ (k : Int)) = false := by simp; omega
      have hkI : (0 : Int) ≤ (k : Int) := by omega
      have hkI2 : (k : Int) < (ps.length : Int) := by omega
      have HAI : Hid (ansI l n i = optI (answdTo l m.sq n)) := by show _ = _; unfold ansI; rw [HMM.out]
      have HK2 : Hid (k + 1 = (rqs l (i + 1)).length) := by
        show _ = _
        rw [rqs, if_pos (by rw [isRq_at HMM.out, HRB.out]), List.length_append, ← HK.out]; rfl
      obtain ⟨t2, ht2⟩ : ∃ t2 : Nat, t2 = (m.sq + 1) % 18446744073709551616 := ⟨_, rfl⟩
      have ht64 : t2 < 18446744073709551616 := by omega
      have HT2 : Hid (t2 = topOf (lastTo l (i + 1))) := by
        show _ = _
        rw [lastTo_req HMM.out HRB.out]; exact ht2
      have hwr : IntKind.u64.wrap ((m.sq : Int) + 1) = (t2 : Int) := by
        rw [ht2]
        rcases Nat.lt_or_ge (m.sq + 1) 18446744073709551616 with h1 | h1
        · rw [IntWalk.u64_in _ (by omega), Nat.mod_eq_of_lt h1]; omega
        · have e : m.sq = 18446744073709551615 := by omega
          rw [e]; decide
      have HWR := Lib.hid hwr
      clear ht2 hwr
      have HAN := ransd_any HSR6.out.1 HSR6.out.2 (by omega) m.sq (t := n) (Nat.le_refl n)
      have HMIX := Lib.hid hsq
      obtain ⟨oa, hoa⟩ : ∃ oa, answdTo l m.sq n = oa := ⟨_, rfl⟩
      rw [hoa] at HAN
      have HOA := Lib.hid hoa
      have HANH := Lib.hid HAN
      clear HAN hoa hsq
      cases oa
      case none =>
        have HAM : Hid (Calls Try.prog 22 #[.slice (some ⟨bo, off, none⟩) n c, .int .i64 (n : Int), .int .u64 (m.sq : Int)] w6 fun e w' => e = .returned (.int .i64 (-1)) ∧ Below w6.heap.size w6 w') := HANH.out
        have HP1 : Hid (ps[k]? = some (i, -1)) := by
          show _ = _
          rw [HP0.out, HAI.out, HOA.out]; rfl
        go_wp2_with fail
        refine HAM.out.mono ?_; rintro e w7 ⟨rfl, hb7⟩
        have HB7 := Lib.hid (stepB HB6.out hb7)
        have hz7 := hb7.size
        have hbl7 : bo < w7.heap.size := by omega
        have HPK7 := Lib.hid (HPK.out.below hb7)
        have HOK7 := Lib.hid (keepS HOK.out hb7)
        have m2 : w7.cell? ⟨bo, off + i * 14 + 2, none⟩ = some (.int .u64 (m.sq : Int)) := (hb7.cell (p := ⟨bo, off + i * 14 + 2, none⟩) hbl6).trans f2
        clear f0 f1 f2 f3 f4 f5 f6 f7 f8 f9 f10 f11 f12 f13
        clear hb7
        obtain ⟨g, rfl, hgl, z0, z1⟩ := HPK7.out.2 k _ HP1.out
        have k0 : ∀ x : Gr w7.heap.size w7, x.val.cell? ⟨g, k * 2, none⟩ = some (.int .i64 (i : Int)) := fun x => (x.is.cell (p := ⟨g, k * 2, none⟩) hgl).trans z0
        have k1 : ∀ x : Gr w7.heap.size w7, x.val.cell? ⟨g, k * 2 + 1, none⟩ = some (.int .i64 (-1)) := fun x => (x.is.cell (p := ⟨g, k * 2 + 1, none⟩) hgl).trans z1
        have k2 : ∀ x : Gr w7.heap.size w7, x.val.cell? ⟨g, 0 + k * 2, none⟩ = some (.int .i64 (i : Int)) := fun x => by rw [Nat.zero_add]; exact k0 x
        have k3 : ∀ x : Gr w7.heap.size w7, x.val.cell? ⟨g, 0 + k * 2 + 1, none⟩ = some (.int .i64 (-1)) := fun x => by rw [Nat.zero_add]; exact k1 x
        have hneq := arr_neq (i : Int) (-1)
        have hgua := arr_guard
        clear z0 z1
        go_upto_region 15 with (fail)
        refine wp_region_grow (by kernel_rfl) (by kernel_rfl) w7.heap.size ?_
        repeat (first | go_big_quiet_step (fail) | quiet_step (fail))
        refine wpQuiet_nil ?_
        rintro w8 ⟨⟨_, hb8⟩, rfl⟩
        have HB8 := Lib.hid (stepB HB7.out hb8)
        have HOK8 := Lib.hid (keepS HOK7.out hb8)
        have m3 : w8.cell? ⟨bo, off + i * 14 + 2, none⟩ = some (.int .u64 (m.sq : Int)) := (hb8.cell (p := ⟨bo, off + i * 14 + 2, none⟩) hbl7).trans m2
        have hz8 := hb8.size
        have hbl8 : bo < w8.heap.size := by omega
        have HOA8 := Lib.hid (opn_at HP1.out (by decide) HMM.out)
        clear k0 k1 k2 k3 hb8 hneq hgua m2
        have hoL : o < on := by
          have h1 := (List.getElem?_eq_some_iff.1 HOA8.out).1
          rw [← HO2.out, HON.out] at h1; exact h1
        obtain ⟨b2, off2, y, rfl, hb2D, hy, gy, hy64⟩ := u64_at HOK8.out.1 hoL
        have hyq : y = m.sq := by
          have h := HOA8.out
          rw [← HO2.out, hy] at h
          injection h
        subst hyq
        have hb2l : b2 < w8.heap.size := HOK8.out.2 _ hb2D
        have hod : decide ((on : Int) ≤ (o : Int)) = false := by simp; omega
        have hoI : (0 : Int) ≤ (o : Int) := by omega
        have hoI2 : (o : Int) < (on : Int) := by omega
        have n0 : ∀ x : Gr w8.heap.size w8, x.val.cell? ⟨bo, off + i * 14 + 2, none⟩ = some (.int .u64 (m.sq : Int)) := fun x => (x.is.cell (p := ⟨bo, off + i * 14 + 2, none⟩) hbl8).trans m3
        have n1 : ∀ x : Gr w8.heap.size w8, x.val.cell? ⟨b2, off2 + o, none⟩ = some (.int .u64 (m.sq : Int)) := fun x => (x.is.cell (p := ⟨b2, off2 + o, none⟩) hb2l).trans gy
        clear hy gy hb2D
        go_upto_region 18 with (fail)
        refine wp_region_grow (by kernel_rfl) (by kernel_rfl) w8.heap.size ?_
        repeat (first | go_big_quiet_step (fail) | quiet_step (fail))
        refine wpQuiet_nil ?_
        rintro w9 ⟨⟨_, hb9⟩, rfl⟩
        have HB9 := Lib.hid (stepB HB8.out hb9)
        have m4 : w9.cell? ⟨bo, off + i * 14 + 2, none⟩ = some (.int .u64 (m.sq : Int)) := (hb9.cell (p := ⟨bo, off + i * 14 + 2, none⟩) hbl8).trans m3
        have HO3 : Hid (o + 1 = (opnL l (ps.take (k + 1))).length) := by
          show _ = _
          rw [opn_succ HP1.out HMM.out, if_pos (by decide), List.length_append, ← HO2.out]; rfl
        have hwr := HWR.out
        clear n0 n1 hb9 m3
        go_wp2_with fail
        go_roundw
        case rel => exact ⟨i + 1, k + 1, o + 1, t2, by omega, by omega, by omega, ht64, by go_num, by go_num, rfl, by go_num, HK2, HO3, HT2, HB9⟩
        case measure => clear hwr; simp [intOf]; omega
      case some a =>
        obtain ⟨x, hx, hia, han, hft⟩ := pair_ans HG.out hin HMM.out HRB.out HOA.out
        have HAM : Hid (Calls Try.prog 22 #[.slice (some ⟨bo, off, none⟩) n c, .int .i64 (n : Int), .int .u64 (m.sq : Int)] w6 fun e w' => e = .returned (.int .i64 (a : Int)) ∧ Below w6.heap.size w6 w') := HANH.out
        have HP1 : Hid (ps[k]? = some (i, (a : Int))) := by
          show _ = _
          rw [HP0.out, HAI.out, HOA.out]; rfl
        go_wp2_with fail
        refine HAM.out.mono ?_; rintro e w7 ⟨rfl, hb7⟩
        have HB7 := Lib.hid (stepB HB6.out hb7)
        have hz7 := hb7.size
        have hbl7 : bo < w7.heap.size := by omega
        have HPK7 := Lib.hid (HPK.out.below hb7)
        have HMI7 := Lib.hid (HMI6.out.below hb7)
        have HSR7 := Lib.hid (keepS HSR6.out hb7)
        have h0 : w7.cell? ⟨bo, off + i * 14, none⟩ = some (.int .i64 m.kd) := (hb7.cell (p := ⟨bo, off + i * 14, none⟩) hbl6).trans f0
        have h1 : w7.cell? ⟨bo, off + i * 14 + 1, none⟩ = some (.int .u64 (m.ep : Int)) := (hb7.cell (p := ⟨bo, off + i * 14 + 1, none⟩) hbl6).trans f1
        have h2 : w7.cell? ⟨bo, off + i * 14 + 2, none⟩ = some (.int .u64 (m.sq : Int)) := (hb7.cell (p := ⟨bo, off + i * 14 + 2, none⟩) hbl6).trans f2
        have h3 : w7.cell? ⟨bo, off + i * 14 + 3, none⟩ = some (.int .u64 (m.ps : Int)) := (hb7.cell (p := ⟨bo, off + i * 14 + 3, none⟩) hbl6).trans f3
        have h4 : w7.cell? ⟨bo, off + i * 14 + 4, none⟩ = some (.int .i64 m.ct) := (hb7.cell (p := ⟨bo, off + i * 14 + 4, none⟩) hbl6).trans f4
        have h5 : w7.cell? ⟨bo, off + i * 14 + 5, none⟩ = some (.int .i64 m.st) := (hb7.cell (p := ⟨bo, off + i * 14 + 5, none⟩) hbl6).trans f5
        have h6 : w7.cell? ⟨bo, off + i * 14 + 6, none⟩ = some (.slice hd'.A1 hd'.n1 hd'.c1) := (hb7.cell (p := ⟨bo, off + i * 14 + 6, none⟩) hbl6).trans f6
        have h7 : w7.cell? ⟨bo, off + i * 14 + 7, none⟩ = some (.slice hd'.A2 hd'.n2 hd'.c2) := (hb7.cell (p := ⟨bo, off + i * 14 + 7, none⟩) hbl6).trans f7
        have h8 : w7.cell? ⟨bo, off + i * 14 + 8, none⟩ = some (.slice hd'.A3 hd'.n3 hd'.c3) := (hb7.cell (p := ⟨bo, off + i * 14 + 8, none⟩) hbl6).trans f8
        have h9 : w7.cell? ⟨bo, off + i * 14 + 9, none⟩ = some (.int .u64 (m.se.1 : Int)) := (hb7.cell (p := ⟨bo, off + i * 14 + 9, none⟩) hbl6).trans f9
        have h10 : w7.cell? ⟨bo, off + i * 14 + 10, none⟩ = some (.int .u64 (m.se.2.1 : Int)) := (hb7.cell (p := ⟨bo, off + i * 14 + 10, none⟩) hbl6).trans f10
        have h11 : w7.cell? ⟨bo, off + i * 14 + 11, none⟩ = some (.int .u64 (m.se.2.2 : Int)) := (hb7.cell (p := ⟨bo, off + i * 14 + 11, none⟩) hbl6).trans f11
        have h12 : w7.cell? ⟨bo, off + i * 14 + 12, none⟩ = some (.int .u64 (m.pr.1 : Int)) := (hb7.cell (p := ⟨bo, off + i * 14 + 12, none⟩) hbl6).trans f12
        have h13 : w7.cell? ⟨bo, off + i * 14 + 13, none⟩ = some (.slice hd'.A4 hd'.n4 hd'.c4) := (hb7.cell (p := ⟨bo, off + i * 14 + 13, none⟩) hbl6).trans f13
        clear f0 f1 f2 f3 f4 f5 f6 f7 f8 f9 f10 f11 f12 f13
        clear hb7
        obtain ⟨g, rfl, hgl, z0, z1⟩ := HPK7.out.2 k _ HP1.out
        have k0 : ∀ x : Gr w7.heap.size w7, x.val.cell? ⟨g, k * 2, none⟩ = some (.int .i64 (i : Int)) := fun x => (x.is.cell (p := ⟨g, k * 2, none⟩) hgl).trans z0
        have k1 : ∀ x : Gr w7.heap.size w7, x.val.cell? ⟨g, k * 2 + 1, none⟩ = some (.int .i64 (a : Int)) := fun x => (x.is.cell (p := ⟨g, k * 2 + 1, none⟩) hgl).trans z1
        have k2 : ∀ x : Gr w7.heap.size w7, x.val.cell? ⟨g, 0 + k * 2, none⟩ = some (.int .i64 (i : Int)) := fun x => by rw [Nat.zero_add]; exact k0 x
        have k3 : ∀ x : Gr w7.heap.size w7, x.val.cell? ⟨g, 0 + k * 2 + 1, none⟩ = some (.int .i64 (a : Int)) := fun x => by rw [Nat.zero_add]; exact k1 x
        have hneq := arr_neq (i : Int) (a : Int)
        have hgua := arr_guard
        clear z0 z1
        obtain ⟨bo2, off2, x2, hdx, hA2, hDb2, hx2, hxi, hcx⟩ := ms_at HSR7.out.1 HSR7.out.2 han
        injection hA2 with hA2
        injection hA2 with hA3 hA4
        subst hA3; subst hA4
        rw [hx] at hx2
        injection hx2 with hx2
        subst hx2
        have HXI := Lib.hid hxi
        have p0 : ∀ u : Gr w7.heap.size w7, u.val.cell? ⟨bo, off + i * 14, none⟩ = some (.int .i64 m.kd) := fun u => (u.is.cell (p := ⟨bo, off + i * 14, none⟩) hbl7).trans (h0)
        have p1 : ∀ u : Gr w7.heap.size w7, u.val.cell? ⟨bo, off + i * 14 + 1, none⟩ = some (.int .u64 (m.ep : Int)) := fun u => (u.is.cell (p := ⟨bo, off + i * 14 + 1, none⟩) hbl7).trans (h1)
        have p2 : ∀ u : Gr w7.heap.size w7, u.val.cell? ⟨bo, off + i * 14 + 2, none⟩ = some (.int .u64 (m.sq : Int)) := fun u => (u.is.cell (p := ⟨bo, off + i * 14 + 2, none⟩) hbl7).trans (h2)
        have p3 : ∀ u : Gr w7.heap.size w7, u.val.cell? ⟨bo, off + i * 14 + 3, none⟩ = some (.int .u64 (m.ps : Int)) := fun u => (u.is.cell (p := ⟨bo, off + i * 14 + 3, none⟩) hbl7).trans (h3)
        have p4 : ∀ u : Gr w7.heap.size w7, u.val.cell? ⟨bo, off + i * 14 + 4, none⟩ = some (.int .i64 m.ct) := fun u => (u.is.cell (p := ⟨bo, off + i * 14 + 4, none⟩) hbl7).trans (h4)
        have p5 : ∀ u : Gr w7.heap.size w7, u.val.cell? ⟨bo, off + i * 14 + 5, none⟩ = some (.int .i64 m.st) := fun u => (u.is.cell (p := ⟨bo, off + i * 14 + 5, none⟩) hbl7).trans (h5)
        have p6 : ∀ u : Gr w7.heap.size w7, u.val.cell? ⟨bo, off + i * 14 + 6, none⟩ = some (.slice hd'.A1 hd'.n1 hd'.c1) := fun u => (u.is.cell (p := ⟨bo, off + i * 14 + 6, none⟩) hbl7).trans (h6)
        have p7 : ∀ u : Gr w7.heap.size w7, u.val.cell? ⟨bo, off + i * 14 + 7, none⟩ = some (.slice hd'.A2 hd'.n2 hd'.c2) := fun u => (u.is.cell (p := ⟨bo, off + i * 14 + 7, none⟩) hbl7).trans (h7)
        have p8 : ∀ u : Gr w7.heap.size w7, u.val.cell? ⟨bo, off + i * 14 + 8, none⟩ = some (.slice hd'.A3 hd'.n3 hd'.c3) := fun u => (u.is.cell (p := ⟨bo, off + i * 14 + 8, none⟩) hbl7).trans (h8)
        have p9 : ∀ u : Gr w7.heap.size w7, u.val.cell? ⟨bo, off + i * 14 + 9, none⟩ = some (.int .u64 (m.se.1 : Int)) := fun u => (u.is.cell (p := ⟨bo, off + i * 14 + 9, none⟩) hbl7).trans (h9)
        have p10 : ∀ u : Gr w7.heap.size w7, u.val.cell? ⟨bo, off + i * 14 + 10, none⟩ = some (.int .u64 (m.se.2.1 : Int)) := fun u => (u.is.cell (p := ⟨bo, off + i * 14 + 10, none⟩) hbl7).trans (h10)
        have p11 : ∀ u : Gr w7.heap.size w7, u.val.cell? ⟨bo, off + i * 14 + 11, none⟩ = some (.int .u64 (m.se.2.2 : Int)) := fun u => (u.is.cell (p := ⟨bo, off + i * 14 + 11, none⟩) hbl7).trans (h11)
        have p12 : ∀ u : Gr w7.heap.size w7, u.val.cell? ⟨bo, off + i * 14 + 12, none⟩ = some (.int .u64 (m.pr.1 : Int)) := fun u => (u.is.cell (p := ⟨bo, off + i * 14 + 12, none⟩) hbl7).trans (h12)
        have p13 : ∀ u : Gr w7.heap.size w7, u.val.cell? ⟨bo, off + i * 14 + 13, none⟩ = some (.slice hd'.A4 hd'.n4 hd'.c4) := fun u => (u.is.cell (p := ⟨bo, off + i * 14 + 13, none⟩) hbl7).trans (h13)
        have q0 : ∀ u : Gr w7.heap.size w7, u.val.cell? ⟨bo, off + a * 14, none⟩ = some (.int .i64 x.kd) := fun u => (u.is.cell (p := ⟨bo, off + a * 14, none⟩) hbl7).trans (hcx 0 _ rfl)
        have q1 : ∀ u : Gr w7.heap.size w7, u.val.cell? ⟨bo, off + a * 14 + 1, none⟩ = some (.int .u64 (x.ep : Int)) := fun u => (u.is.cell (p := ⟨bo, off + a * 14 + 1, none⟩) hbl7).trans (hcx 1 _ rfl)
        have q2 : ∀ u : Gr w7.heap.size w7, u.val.cell? ⟨bo, off + a * 14 + 2, none⟩ = some (.int .u64 (x.sq : Int)) := fun u => (u.is.cell (p := ⟨bo, off + a * 14 + 2, none⟩) hbl7).trans (hcx 2 _ rfl)
        have q3 : ∀ u : Gr w7.heap.size w7, u.val.cell? ⟨bo, off + a * 14 + 3, none⟩ = some (.int .u64 (x.ps : Int)) := fun u => (u.is.cell (p := ⟨bo, off + a * 14 + 3, none⟩) hbl7).trans (hcx 3 _ rfl)
        have q4 : ∀ u : Gr w7.heap.size w7, u.val.cell? ⟨bo, off + a * 14 + 4, none⟩ = some (.int .i64 x.ct) := fun u => (u.is.cell (p := ⟨bo, off + a * 14 + 4, none⟩) hbl7).trans (hcx 4 _ rfl)
        have q5 : ∀ u : Gr w7.heap.size w7, u.val.cell? ⟨bo, off + a * 14 + 5, none⟩ = some (.int .i64 x.st) := fun u => (u.is.cell (p := ⟨bo, off + a * 14 + 5, none⟩) hbl7).trans (hcx 5 _ rfl)
        have q6 : ∀ u : Gr w7.heap.size w7, u.val.cell? ⟨bo, off + a * 14 + 6, none⟩ = some (.slice hdx.A1 hdx.n1 hdx.c1) := fun u => (u.is.cell (p := ⟨bo, off + a * 14 + 6, none⟩) hbl7).trans (hcx 6 _ rfl)
        have q7 : ∀ u : Gr w7.heap.size w7, u.val.cell? ⟨bo, off + a * 14 + 7, none⟩ = some (.slice hdx.A2 hdx.n2 hdx.c2) := fun u => (u.is.cell (p := ⟨bo, off + a * 14 + 7, none⟩) hbl7).trans (hcx 7 _ rfl)
        have q8 : ∀ u : Gr w7.heap.size w7, u.val.cell? ⟨bo, off + a * 14 + 8, none⟩ = some (.slice hdx.A3 hdx.n3 hdx.c3) := fun u => (u.is.cell (p := ⟨bo, off + a * 14 + 8, none⟩) hbl7).trans (hcx 8 _ rfl)
        have q9 : ∀ u : Gr w7.heap.size w7, u.val.cell? ⟨bo, off + a * 14 + 9, none⟩ = some (.int .u64 (x.se.1 : Int)) := fun u => (u.is.cell (p := ⟨bo, off + a * 14 + 9, none⟩) hbl7).trans (hcx 9 _ rfl)
        have q10 : ∀ u : Gr w7.heap.size w7, u.val.cell? ⟨bo, off + a * 14 + 10, none⟩ = some (.int .u64 (x.se.2.1 : Int)) := fun u => (u.is.cell (p := ⟨bo, off + a * 14 + 10, none⟩) hbl7).trans (hcx 10 _ rfl)
        have q11 : ∀ u : Gr w7.heap.size w7, u.val.cell? ⟨bo, off + a * 14 + 11, none⟩ = some (.int .u64 (x.se.2.2 : Int)) := fun u => (u.is.cell (p := ⟨bo, off + a * 14 + 11, none⟩) hbl7).trans (hcx 11 _ rfl)
        have q12 : ∀ u : Gr w7.heap.size w7, u.val.cell? ⟨bo, off + a * 14 + 12, none⟩ = some (.int .u64 (x.pr.1 : Int)) := fun u => (u.is.cell (p := ⟨bo, off + a * 14 + 12, none⟩) hbl7).trans (hcx 12 _ rfl)
        have q13 : ∀ u : Gr w7.heap.size w7, u.val.cell? ⟨bo, off + a * 14 + 13, none⟩ = some (.slice hdx.A4 hdx.n4 hdx.c4) := fun u => (u.is.cell (p := ⟨bo, off + a * 14 + 13, none⟩) hbl7).trans (hcx 13 _ rfl)
        have HRF : Hid (∀ u : Gr w7.heap.size w7, Calls Try.prog 10 #[.agg (msV m hd'), .agg (msV x hdx)] u.val fun e w' => e = .returned (.int .i64 0) ∧ Below u.val.heap.size u.val w') := fun u => by
          have h := rfits_any (HMI7.out.below u.is) (HXI.out.below u.is)
          rw [hft] at h; exact h
        have ha0 : decide ((0 : Int) ≤ (a : Int)) = true := by simp
        have ha1 : decide ((a : Int) < (i : Int)) = false := by simp; omega
        have ha0' : decide ((a : Int) < (0 : Int)) = false := by simp
        have ha2 : decide (a < i) = false := by simp; omega
        have haI : (0 : Int) ≤ (a : Int) := by omega
        have haI2 : (a : Int) < (n : Int) := by omega
        clear hx hft hxi hcx hDb2
        go_upto_region 15 with (fail)
        refine wp_region_grow (by kernel_rfl) (by kernel_rfl) w7.heap.size ?_
        repeat (first | go_big_quiet_step ((go_at_call 10; exact Gr.call _ (Nat.le_refl _) (HRF.out _))) | quiet_step ((go_at_call 10; exact Gr.call _ (Nat.le_refl _) (HRF.out _))))
        refine wpQuiet_nil ?_
        rintro w8 ⟨⟨_, hb8⟩, rfl⟩
        have HB8 := Lib.hid (stepB HB7.out hb8)
        have m3 : w8.cell? ⟨bo, off + i * 14 + 2, none⟩ = some (.int .u64 (m.sq : Int)) := (hb8.cell (p := ⟨bo, off + i * 14 + 2, none⟩) hbl7).trans h2
        clear k0 k1 k2 k3 hb8 hneq hgua
        clear h0 h1 h2 h3 h4 h5 h6 h7 h8 h9 h10 h11 h12 h13 p0 p1 p2 p3 p4 p5 p6 p7 p8 p9 p10 p11 p12 p13 q0 q1 q2 q3 q4 q5 q6 q7 q8 q9 q10 q11 q12 q13
        have HO3 : Hid (o = (opnL l (ps.take (k + 1))).length) := by
          show _ = _
          rw [opn_succ HP1.out HMM.out, if_neg (by omega), List.append_nil]; exact HO2.out
        have hwr := HWR.out
        go_wp2_with fail
        go_roundw
        case rel => exact ⟨i + 1, k + 1, o, t2, by omega, by omega, by omega, ht64, by go_num, rfl, rfl, by go_num, HK2, HO3, HT2, HB8⟩
        case measure => clear hwr; simp [intOf]; omega
end Go.Proofs.Ytlfieiiegokejaa
