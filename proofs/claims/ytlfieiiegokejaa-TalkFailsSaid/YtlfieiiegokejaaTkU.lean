/- A talk is gone through: talk.goes. -/
import Derived.Test.YtlfieiiegokejaaTkA
import Derived.Test.YtlfieiiegokejaaTkJ
import Derived.OwnWalk
namespace Go.Proofs.Ytlfieiiegokejaa
open Go.ChangeShapes Go.WideShapes Go.ChangeAt Go.RowKit
set_option linter.unusedVariables false
theorem askIn_iff {l : List Ms} {ps : List Pr2} {s : Nat} : AskIn l ps s ps.length ↔ ∃ (p k : Nat) (a : Int) (q : Ms), ps[p]? = some (k, a) ∧ l[k]? = some q ∧ q.sq = s := by
  constructor
  · rintro ⟨p, ⟨k, a⟩, h1, h2, h3⟩
    unfold eqSq at h3
    cases hq : l[k]? with
    | none => rw [hq] at h3; cases h3
    | some q => rw [hq] at h3; exact ⟨p, k, a, q, h2, hq, by simpa using h3⟩
  · rintro ⟨p, k, a, q, h1, h2, h3⟩
    exact ⟨p, (k, a), (List.getElem?_eq_some_iff.1 h1).1, h1, by unfold eqSq; rw [h2]; simpa using h3⟩
/-- The log behind the first i messages, if they are good. -/
def LogOf (w : World) (base : Nat) (l : List Ms) (i b : Nat) : Prop :=
  ∃ A c bm ps f last begun, LogIn w base b A c bm ps f last begun ∧ LogIs l i ps f last begun
theorem rows_zero (w : World) (base : Nat) (e : TypeId) (size : Nat) : w.ownsRow base e size (.slice none 0 0) 0 [] := World.ownsRow_nil _ _ _ _
section
variable {w : World} {D : Dom} {A : Option Addr} {n c : Nat} {l : List Ms}
/-- What talk.goes tells. -/
def GoesIs (w : World) (l : List Ms) (e : Ending) (w' : World) : Prop :=
  Below w.heap.size w w' ∧ ((∃ b, e = .returned (.tuple #[.pointer (some ⟨b, 0, none⟩), .int .i64 (l.length : Int), .int .i64 0]) ∧ Good l l.length ∧ LogOf w' w.heap.size l l.length b) ∨
    ∃ (i : Nat) (k : Int), e = .returned (.tuple #[.pointer none, .int .i64 (i : Int), .int .i64 k]) ∧ k ≠ 0 ∧ res l = (i, k))
set_option maxRecDepth 100000 in
set_option maxHeartbeats 4000000 in
theorem goes_any (hs : rpMs.sl w D A n c l) (hD : ∀ k, D k → k < w.heap.size) (hn : n ≤ 1000) :
    Calls Try.prog 30 #[.slice A n c] w (GoesIs w l) := by
  have HN := Lib.hid (Rp.sl_len hs).1
  have HS := Lib.hid (show Sl rpMs w D A n c l from ⟨hs, hD⟩)
  have HDM := Lib.hid hD
  clear hs hD
  have hmm := @run_makeMap Try.prog
  have hb0 : Below w.heap.size w ((w.alloc (.map #[] 0)).alloc (.cells (logV none 0 0 w.heap.size 0 false) 75)) := below2 w _ _
  have hl0 : LogIn ((w.alloc (.map #[] 0)).alloc (.cells (logV none 0 0 w.heap.size 0 false) 75)) w.heap.size (w.heap.size + 1) none 0 w.heap.size [] (fun _ => none) 0 false := by
    have hb := Blk.new (w.alloc (.map #[] 0)) 75 (logV none 0 0 w.heap.size 0 false)
    have e : (w.alloc (.map #[] 0)).heap.size = w.heap.size + 1 := by simp
    rw [e] at hb
    exact ⟨by omega, Nat.le_refl _, hb, rows_zero _ _ _ _, (mapOf_made w).below (below1 _ _) (by simp), by omega⟩
  have HB0 := Lib.hid hb0
  have HL0 := Lib.hid hl0
  clear hb0 hl0
  go_enter Try.func30, Try.ntmps30
  go_upto_region 2 with (fail)
  generalize World.alloc (World.alloc w _) _ = w0 at *
  clear hmm
  go_wp2_with fail
  go_loopw [14] (fun v14 wr => ∃ (i : Nat) (A' : Option Addr) (c' bm : Nat) (ps : List Pr2) (f : Nat → Option Nat) (last : Nat) (begun : Bool), i ≤ n ∧ v14 = .int .i64 (i : Int) ∧ Hid (LogIn wr w.heap.size (w.heap.size + 1) A' c' bm ps f last begun) ∧ Hid (LogIs l i ps f last begun) ∧ Hid (Good l i) ∧ Hid (Below w.heap.size w wr)) (fun v14 _ => n - (intOf v14).toNat)
  case atStart => exact ⟨0, none, 0, w.heap.size, [], (fun _ => none), 0, false, by omega, rfl, HL0, log_zero l, good_zero l, HB0⟩
  case round =>
    clear HL0 HB0
    obtain ⟨i, A', c', bm, ps, f, last, begun, hi, rfl, HLI, HIS, HG, hbel⟩ := hrel
    have hzr := hbel.out.size
    by_cases hin : i < n
    case neg =>
      obtain rfl : i = n := by omega
      have hd : decide ((i : Int) < (i : Int)) = false := by simp
      go_wp2_with fail
      go_ret3
      have hln := HN.out
      refine ⟨hbel.out, .inl ⟨w.heap.size + 1, by rw [hln]; rfl, by rw [hln]; exact HG.out, ⟨A', c', bm, ps, f, last, begun, HLI.out, by rw [hln]; exact HIS.out⟩⟩⟩
    case pos =>
      have hd : decide ((i : Int) < (n : Int)) = true := by simp; omega
      have hkI : (0 : Int) ≤ (i : Int) := by omega
      have hkI2 : (i : Int) < (n : Int) := by omega
      have hsr := keepS HS.out hbel.out
      obtain ⟨bo, off, m, hd', hA, hDb, hm, hmi, hc⟩ := ms_at hsr.1 hsr.2 hin
      subst hA
      have HM := Lib.hid hm
      have HR : Hid (rpMs.sl wr D (some ⟨bo, off, none⟩) n c l) := hsr.1
      have e0 : wr.cell? ⟨bo, off + i * 14, none⟩ = some (.int .i64 m.kd) := hc 0 _ rfl
      have e1 : wr.cell? ⟨bo, off + i * 14 + 1, none⟩ = some (.int .u64 (m.ep : Int)) := hc 1 _ rfl
      have e2 : wr.cell? ⟨bo, off + i * 14 + 2, none⟩ = some (.int .u64 (m.sq : Int)) := hc 2 _ rfl
      have e3 : wr.cell? ⟨bo, off + i * 14 + 3, none⟩ = some (.int .u64 (m.ps : Int)) := hc 3 _ rfl
      have e4 : wr.cell? ⟨bo, off + i * 14 + 4, none⟩ = some (.int .i64 m.ct) := hc 4 _ rfl
      have e5 : wr.cell? ⟨bo, off + i * 14 + 5, none⟩ = some (.int .i64 m.st) := hc 5 _ rfl
      have e6 : wr.cell? ⟨bo, off + i * 14 + 6, none⟩ = some (.slice hd'.A1 hd'.n1 hd'.c1) := hc 6 _ rfl
      have e7 : wr.cell? ⟨bo, off + i * 14 + 7, none⟩ = some (.slice hd'.A2 hd'.n2 hd'.c2) := hc 7 _ rfl
      have e8 : wr.cell? ⟨bo, off + i * 14 + 8, none⟩ = some (.slice hd'.A3 hd'.n3 hd'.c3) := hc 8 _ rfl
      have e9 : wr.cell? ⟨bo, off + i * 14 + 9, none⟩ = some (.int .u64 (m.se.1 : Int)) := hc 9 _ rfl
      have e10 : wr.cell? ⟨bo, off + i * 14 + 10, none⟩ = some (.int .u64 (m.se.2.1 : Int)) := hc 10 _ rfl
      have e11 : wr.cell? ⟨bo, off + i * 14 + 11, none⟩ = some (.int .u64 (m.se.2.2 : Int)) := hc 11 _ rfl
      have e12 : wr.cell? ⟨bo, off + i * 14 + 12, none⟩ = some (.int .u64 (m.pr.1 : Int)) := hc 12 _ rfl
      have e13 : wr.cell? ⟨bo, off + i * 14 + 13, none⟩ = some (.slice hd'.A4 hd'.n4 hd'.c4) := hc 13 _ rfl
      have hba := below1 wr (.cells (msV m hd') 32)
      have HB1 := Lib.hid (stepB hbel.out hba)
      have HK1 := Lib.hid (blk11 wr 32 (msV m hd'))
      have HL1 := Lib.hid (HLI.out.below hba)
      have HI1 := Lib.hid (hmi.below hba)
      have HR1 := Lib.hid (Rp.sl_below HR.out hba hsr.2)
      have HAT : Hid (atC l i = atM l i m) := atC_at hm
      have HIL : Hid (i < l.length) := by show _ < _; rw [HN.out]; exact hin
      have HPS := Lib.hid HIS.out.len
      have HPL : Hid (∀ x ∈ ps, x.1 < n) := fun x hx => by
        obtain ⟨p, hp⟩ := List.getElem?_of_mem hx
        have := (HIS.out.ps_lt (p := p) (k := x.1) (a := x.2) hp).1
        omega
      clear hc hba hm hmi hsr hDb
      go_upto_region 7 with (fail)
      clear e0 e1 e2 e3 e4 e5 e6 e7 e8 e9 e10 e11 e12 e13
      generalize World.alloc wr _ = w1 at *
      have z0 : w1.cell? ⟨wr.heap.size, 0, none⟩ = some (.int .i64 m.kd) := (show Blk w1 (wr.heap.size) 32 (msV m hd') from HK1.out).cell 0
      have z1 : w1.cell? ⟨wr.heap.size, 1, none⟩ = some (.int .u64 (m.ep : Int)) := (show Blk w1 (wr.heap.size) 32 (msV m hd') from HK1.out).cell 1
      have z2 : w1.cell? ⟨wr.heap.size, 2, none⟩ = some (.int .u64 (m.sq : Int)) := (show Blk w1 (wr.heap.size) 32 (msV m hd') from HK1.out).cell 2
      have z3 : w1.cell? ⟨wr.heap.size, 3, none⟩ = some (.int .u64 (m.ps : Int)) := (show Blk w1 (wr.heap.size) 32 (msV m hd') from HK1.out).cell 3
      have z4 : w1.cell? ⟨wr.heap.size, 4, none⟩ = some (.int .i64 m.ct) := (show Blk w1 (wr.heap.size) 32 (msV m hd') from HK1.out).cell 4
      have z5 : w1.cell? ⟨wr.heap.size, 5, none⟩ = some (.int .i64 m.st) := (show Blk w1 (wr.heap.size) 32 (msV m hd') from HK1.out).cell 5
      have z6 : w1.cell? ⟨wr.heap.size, 6, none⟩ = some (.slice hd'.A1 hd'.n1 hd'.c1) := (show Blk w1 (wr.heap.size) 32 (msV m hd') from HK1.out).cell 6
      have z7 : w1.cell? ⟨wr.heap.size, 7, none⟩ = some (.slice hd'.A2 hd'.n2 hd'.c2) := (show Blk w1 (wr.heap.size) 32 (msV m hd') from HK1.out).cell 7
      have z8 : w1.cell? ⟨wr.heap.size, 8, none⟩ = some (.slice hd'.A3 hd'.n3 hd'.c3) := (show Blk w1 (wr.heap.size) 32 (msV m hd') from HK1.out).cell 8
      have z9 : w1.cell? ⟨wr.heap.size, 9, none⟩ = some (.int .u64 (m.se.1 : Int)) := (show Blk w1 (wr.heap.size) 32 (msV m hd') from HK1.out).cell 9
      have z10 : w1.cell? ⟨wr.heap.size, 10, none⟩ = some (.int .u64 (m.se.2.1 : Int)) := (show Blk w1 (wr.heap.size) 32 (msV m hd') from HK1.out).cell 10
      have z11 : w1.cell? ⟨wr.heap.size, 11, none⟩ = some (.int .u64 (m.se.2.2 : Int)) := (show Blk w1 (wr.heap.size) 32 (msV m hd') from HK1.out).cell 11
      have z12 : w1.cell? ⟨wr.heap.size, 12, none⟩ = some (.int .u64 (m.pr.1 : Int)) := (show Blk w1 (wr.heap.size) 32 (msV m hd') from HK1.out).cell 12
      have z13 : w1.cell? ⟨wr.heap.size, 13, none⟩ = some (.slice hd'.A4 hd'.n4 hd'.c4) := (show Blk w1 (wr.heap.size) 32 (msV m hd') from HK1.out).cell 13
      obtain ⟨mo, hmo⟩ : ∃ q, dec (MOk m) = q := ⟨_, rfl⟩
      have HMR := mright_any HI1.out
      rw [hmo] at HMR
      have HMR' := Lib.hid HMR
      have HMO := Lib.hid hmo
      clear HMR hmo
      have hz1 : wr.heap.size < w1.heap.size := (show Blk w1 wr.heap.size 32 (msV m hd') from HK1.out).lt
      go_wp2_with fail
      refine HMR'.out.mono ?_; rintro e w2 ⟨rfl, hb2⟩
      have HB2 := Lib.hid (stepB HB1.out hb2)
      have HL2 := Lib.hid (HL1.out.below hb2)
      have HI2 := Lib.hid (HI1.out.below hb2)
      have HR2 := Lib.hid (Rp.sl_below HR1.out hb2 (fun k hk => Nat.lt_of_lt_of_le (HDM.out k hk) HB1.out.size))
      have HK2 : Hid (Blk w2 wr.heap.size 32 (msV m hd')) := Lib.hid (keepB (show Blk w1 wr.heap.size 32 (msV m hd') from HK1.out) hb2)
      clear z0 z1 z2 z3 z4 z5 z6 z7 z8 z9 z10 z11 z12 z13
      clear hb2
      cases mo
      case false =>
        have HBAD : Hid (res l = (i, 3)) := res_bad HG.out HIL.out (by rw [HAT.out]; unfold atM; rw [if_pos (of_not_dec HMO.out)]) (by decide)
        go_wp2_with fail
        go_ret3
        exact ⟨HB2.out, .inr ⟨i, 3, rfl, by decide, HBAD.out⟩⟩
      case true =>
      have HOK : Hid (MOk m) := of_dec HMO.out
      have z0 : w2.cell? ⟨wr.heap.size, 0, none⟩ = some (.int .i64 m.kd) := (show Blk w2 wr.heap.size 32 (msV m hd') from HK2.out).cell 0
      obtain ⟨rb, hrb⟩ : ∃ q, (Kd.an m.kd != 0) = q := ⟨_, rfl⟩
      have HKR := krequest_any m.kd
      rw [hrb] at HKR
      have HKR' := Lib.hid HKR
      have HRB : Hid (rq m = rb) := hrb
      clear HKR hrb
      go_wp2_with fail
      refine (HKR'.out _).mono ?_; rintro e w3 ⟨rfl, hb3⟩
      have HB3 := Lib.hid (stepB HB2.out hb3)
      have HL3 := Lib.hid (HL2.out.below hb3)
      have HI3 := Lib.hid (HI2.out.below hb3)
      have HR3 := Lib.hid (Rp.sl_below HR2.out hb3 (fun k hk => Nat.lt_of_lt_of_le (HDM.out k hk) HB2.out.size))
      have HK3 : Hid (Blk w3 wr.heap.size 32 (msV m hd')) := Lib.hid (keepB (show Blk w2 wr.heap.size 32 (msV m hd') from HK2.out) hb3)
      clear z0 hb3
      cases rb
      case true =>
        have z0 : w3.cell? ⟨wr.heap.size, 0, none⟩ = some (.int .i64 m.kd) := (show Blk w3 (wr.heap.size) 32 (msV m hd') from HK3.out).cell 0
        have z1 : w3.cell? ⟨wr.heap.size, 1, none⟩ = some (.int .u64 (m.ep : Int)) := (show Blk w3 (wr.heap.size) 32 (msV m hd') from HK3.out).cell 1
        have z2 : w3.cell? ⟨wr.heap.size, 2, none⟩ = some (.int .u64 (m.sq : Int)) := (show Blk w3 (wr.heap.size) 32 (msV m hd') from HK3.out).cell 2
        have z3 : w3.cell? ⟨wr.heap.size, 3, none⟩ = some (.int .u64 (m.ps : Int)) := (show Blk w3 (wr.heap.size) 32 (msV m hd') from HK3.out).cell 3
        have z4 : w3.cell? ⟨wr.heap.size, 4, none⟩ = some (.int .i64 m.ct) := (show Blk w3 (wr.heap.size) 32 (msV m hd') from HK3.out).cell 4
        have z5 : w3.cell? ⟨wr.heap.size, 5, none⟩ = some (.int .i64 m.st) := (show Blk w3 (wr.heap.size) 32 (msV m hd') from HK3.out).cell 5
        have z6 : w3.cell? ⟨wr.heap.size, 6, none⟩ = some (.slice hd'.A1 hd'.n1 hd'.c1) := (show Blk w3 (wr.heap.size) 32 (msV m hd') from HK3.out).cell 6
        have z7 : w3.cell? ⟨wr.heap.size, 7, none⟩ = some (.slice hd'.A2 hd'.n2 hd'.c2) := (show Blk w3 (wr.heap.size) 32 (msV m hd') from HK3.out).cell 7
        have z8 : w3.cell? ⟨wr.heap.size, 8, none⟩ = some (.slice hd'.A3 hd'.n3 hd'.c3) := (show Blk w3 (wr.heap.size) 32 (msV m hd') from HK3.out).cell 8
        have z9 : w3.cell? ⟨wr.heap.size, 9, none⟩ = some (.int .u64 (m.se.1 : Int)) := (show Blk w3 (wr.heap.size) 32 (msV m hd') from HK3.out).cell 9
        have z10 : w3.cell? ⟨wr.heap.size, 10, none⟩ = some (.int .u64 (m.se.2.1 : Int)) := (show Blk w3 (wr.heap.size) 32 (msV m hd') from HK3.out).cell 10
        have z11 : w3.cell? ⟨wr.heap.size, 11, none⟩ = some (.int .u64 (m.se.2.2 : Int)) := (show Blk w3 (wr.heap.size) 32 (msV m hd') from HK3.out).cell 11
        have z12 : w3.cell? ⟨wr.heap.size, 12, none⟩ = some (.int .u64 (m.pr.1 : Int)) := (show Blk w3 (wr.heap.size) 32 (msV m hd') from HK3.out).cell 12
        have z13 : w3.cell? ⟨wr.heap.size, 13, none⟩ = some (.slice hd'.A4 hd'.n4 hd'.c4) := (show Blk w3 (wr.heap.size) 32 (msV m hd') from HK3.out).cell 13
        have hsq := HI3.out.sq1
        by_cases hlate : begun = true ∧ m.sq ≤ last
        case pos =>
          obtain ⟨rfl, hle⟩ := hlate
          have HA := Lib.hid (asks_late (m := m) (h := hd') HL3.out i hle)
          have HBAD : Hid (res l = (i, 13)) := res_bad HG.out HIL.out (by
            rw [HAT.out]; unfold atM
            rw [if_neg (fun hh => hh HOK.out), if_pos HRB.out, if_pos ((HIS.out.late HG.out m.sq).2 ⟨rfl, hle⟩)]) (by decide)
          clear hle
          go_wp2_with fail
          refine HA.out.mono ?_; rintro e w4 ⟨rfl, hb4⟩
          have HB4 := Lib.hid (stepB HB3.out hb4)
          clear hb4
          go_wp2_with fail
          go_ret3
          exact ⟨HB4.out, .inr ⟨i, 13, rfl, by decide, HBAD.out⟩⟩
        case neg =>
          have HNL : Hid (¬ Late l i m.sq) := fun h => hlate ((HIS.out.late HG.out m.sq).1 h)
          have HA := Lib.hid (asks_ok (m := m) (h := hd') HL3.out i hsq (by have := HPS.out; omega) (fun hbg => by
            rcases Nat.lt_or_ge last m.sq with h1 | h1
            · exact h1
            · exact absurd ⟨hbg, h1⟩ hlate))
          have HG2 := Lib.hid (good_succ HG.out (by
            rw [HAT.out]; unfold atM
            rw [if_neg (fun hh => hh HOK.out), if_pos HRB.out, if_neg HNL.out]))
          clear hlate
          go_wp2_with fail
          refine HA.out.mono ?_; rintro e w4 ⟨rfl, ⟨A4, c4, hl4⟩, hb4⟩
          have HB4 : Hid (Below w.heap.size w w4) := Lib.hid (HB3.out.trans hb4)
          have HL4 := Lib.hid hl4
          have HIS4 := Lib.hid (HIS.out.req HG.out HM.out HRB.out HNL.out)
          clear hl4 hb4 z0 z1 z2 z3 z4 z5 z6 z7 z8 z9 z10 z11 z12 z13
          go_wp2_with fail
          go_roundw
          case rel => exact ⟨i + 1, A4, c4, bm, _, _, _, _, by omega, by go_num, HL4, HIS4, HG2, HB4⟩
          case measure => simp [intOf]; omega
      case false =>
        have HAI : Hid (AnsIn w3 D (some ⟨bo, off, none⟩) n c l i m w.heap.size (w.heap.size + 1) A' c' bm ps f last begun) := ⟨HR3.out, HDM.out, hin, HM.out, HL3.out, by have := HPS.out; omega, HPL.out⟩
        obtain ⟨fm, hfm⟩ : ∃ q, f m.sq = q := ⟨_, rfl⟩
        cases fm
        case none =>
          have HA := Lib.hid (answers_none HAI.out hfm)
          have HAM := Lib.hid (HIS.out.none_open HG.out hfm HOK.out HRB.out)
          clear hfm
          go_wp2_with fail
          refine HA.out.mono ?_; rintro e w4 ⟨r, rfl, hr, hb4⟩
          have HB4 := Lib.hid (stepB HB3.out hb4)
          have HRR : Hid (atC l i = r ∧ r ≠ 0) := by
            show _ ∧ _
            rw [HAT.out, HAM.out]
            rcases hr with ⟨h1, rfl⟩ | ⟨h1, rfl⟩
            · rw [if_pos (askIn_iff.1 h1)]; exact ⟨rfl, by decide⟩
            · rw [if_neg (fun h => h1 (askIn_iff.2 h))]; exact ⟨rfl, by decide⟩
          have hr0 : (r != 0) = true := by simpa using HRR.out.2
          have HBAD : Hid (res l = (i, r)) := res_bad HG.out HIL.out HRR.out.1 HRR.out.2
          clear hb4 hr
          go_wp2_with fail
          go_ret3
          exact ⟨HB4.out, .inr ⟨i, r, rfl, HRR.out.2, HBAD.out⟩⟩
        case some p =>
          obtain ⟨k, q, hp, hki, hq, hqs, ham⟩ := HIS.out.is_open HG.out hfm HOK.out HRB.out
          have HAM : Hid (atC l i = fitsC q m) := HAT.out.trans ham
          by_cases h0 : fitsC q m = 0
          case neg =>
            have HA := answers_bad HAI.out hfm hp hq h0
            have HBAD : Hid (res l = (i, fitsC q m)) := res_bad HG.out HIL.out HAM.out h0
            obtain ⟨r, hr⟩ : ∃ r, fitsC q m = r := ⟨_, rfl⟩
            rw [hr] at HA HBAD h0
            have HA' := Lib.hid HA
            have hr0 : (r != 0) = true := by simpa using h0
            have HR0 := Lib.hid h0
            clear hr h0 HA hp hq hqs ham hfm
            go_wp2_with fail
            refine HA'.out.mono ?_; rintro e w4 ⟨rfl, hb4⟩
            have HB4 := Lib.hid (stepB HB3.out hb4)
            clear hb4
            go_wp2_with fail
            go_ret3
            exact ⟨HB4.out, .inr ⟨i, r, rfl, HR0.out, HBAD.out⟩⟩
          case pos =>
            have HA := Lib.hid (answers_ok HAI.out hfm hp hq h0)
            have HG2 := Lib.hid (good_succ HG.out (HAM.out.trans h0))
            have HIS4 := Lib.hid (HIS.out.ans HG.out HM.out HRB.out hfm hp hq hqs)
            clear h0 hp hq hqs ham hfm
            go_wp2_with fail
            refine HA.out.mono ?_; rintro e w4 ⟨rfl, hl4, hb4⟩
            have HB4 : Hid (Below w.heap.size w w4) := Lib.hid (HB3.out.trans hb4)
            have HL4 := Lib.hid hl4
            clear hl4 hb4
            go_wp2_with fail
            go_roundw
            case rel => exact ⟨i + 1, A', c', bm, _, _, _, _, by omega, by go_num, HL4, HIS4, HG2, HB4⟩
            case measure => simp [intOf]; omega
end
end Go.Proofs.Ytlfieiiegokejaa
