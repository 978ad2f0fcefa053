/- The reference's Nodes. -/
import Derived.Test.YtkhomkklamegmaaSnX
namespace Go.Proofs.Ytkhomkklamegmaa
open Go.ChangeShapes Go.WideShapes Go.ChangeAt Go.RowKit
set_option linter.unusedVariables false
theorem take_next {l : List Sea} {k : Nat} {s : Sea} (h : l[k]? = some s) : l.take (k + 1) = l.take k ++ [s] := by rw [List.take_add_one, h]; rfl
theorem nodes_next {l : List Sea} {k ep : Nat} {s : Sea} (h : l[k]? = some s) : nodesOf (l.take (k + 1)) ep = if sok ep s = true then nodesOf (l.take k) ep ++ [s.2.1] else nodesOf (l.take k) ep := by
  rw [take_next h]
  unfold nodesOf
  rw [oks_snoc]
  split <;> simp
theorem fresh_next {l : List Sea} {k ep : Nat} {s : Sea} (h : l[k]? = some s) : fresh (l.take (k + 1)) ep = if sok ep s = true ∧ s.2.1 ∉ fresh (l.take k) ep then fresh (l.take k) ep ++ [s.2.1] else fresh (l.take k) ep := by
  rw [take_next h, fresh_snoc]
theorem tail_next {l : List Sea} {k ep : Nat} {s : Sea} (h : l[k]? = some s) : tailOf (l.take (k + 1)) ep = if sok ep s = true then max (tailOf (l.take k) ep) s.2.2 else tailOf (l.take k) ep := by
  rw [take_next h]
  unfold tailOf
  rw [oks_snoc]
  split
  · rw [maxs_snoc]
  · rfl
section
variable {w : World} {D : Dom} {A : Option Addr} {n c : Nat} {l : List Sea} {ep : Nat}
set_option maxRecDepth 100000 in
set_option maxHeartbeats 4000000 in
theorem rnodes_any (hs : rpSeaN.sl w D A n c l) (hD : ∀ k, D k → k < w.heap.size) (hn : n ≤ 1000) (hep : ep < 18446744073709551616) :
    Calls Try.prog 24 #[.slice A n c, .int .u64 (ep : Int)] w fun e w' => e = .returned (.tuple #[.int .i64 ((fresh l ep).length : Int), .int .u64 (tailOf l ep : Int)]) ∧ Below w.heap.size w w' := by
  have hlen := (Rp.sl_len hs).1
  have HS := Lib.hid (show Sl rpSeaN w D A n c l from ⟨hs, hD⟩)
  have HD := Lib.hid hD
  have HN := Lib.hid hlen
  have HLT := Lib.hid (sea_lt hs)
  clear hs hD hlen
  go_enter Try.func24, Try.ntmps24
  go_wp2_with fail
  go_loopw [6, 7, 8] (fun vn vt vi wr => ∃ (k N T : Nat), k ≤ n ∧ N ≤ k ∧ vn = .int .i64 N ∧ vt = .int .u64 T ∧ vi = .int .i64 k ∧ Hid (N = (fresh (l.take k) ep).length) ∧ Hid (T = tailOf (l.take k) ep) ∧ Hid (Below w.heap.size w wr)) (fun _ _ vi _ => n - (intOf vi).toNat)
  case atStart => exact ⟨0, 0, 0, by omega, by omega, rfl, rfl, rfl, rfl, rfl, Below.refl _ _⟩
  case round =>
    obtain ⟨k, N, T, hk, hNk, rfl, rfl, rfl, hN, hT, hb⟩ := hrel
    by_cases hkn : k < n
    case neg =>
      obtain rfl : k = n := by omega
      have hd : decide (k < k) = false := by simp
      have e : l.take k = l := List.take_of_length_le (by rw [HN.out]; exact Nat.le_refl _)
      rw [e] at hN hT
      clear e
      go_wp2_with fail
      go_ret2
      exact ⟨(by rw [← hN.out, ← hT.out]; rfl), hb.out⟩
    case pos =>
      have hd : decide (k < n) = true := by simpa using hkn
      have hkI : (k : Int) < (n : Int) := by omega
      obtain ⟨b, off, s, rfl, hDb, hx, g0, g1, g2, h1, h2, h3⟩ := sea_at HS.out.1 hkn
      have hbb : b < w.heap.size := HD.out b hDb
      have HG0 := Lib.hid g0
      have HG1 := Lib.hid g1
      have HG2 := Lib.hid g2
      have c0 := (hb.out.cell (p := ⟨b, off + k * 3, none⟩) hbb).trans g0
      have c1 := (hb.out.cell (p := ⟨b, off + k * 3 + 1, none⟩) hbb).trans g1
      have c2 := (hb.out.cell (p := ⟨b, off + k * 3 + 2, none⟩) hbb).trans g2
      have HX := Lib.hid hx
      have hsr := fun w => rsright_any s w
      have HSR := Lib.hid hsr
      clear g0 g1 g2 hx hDb hsr
      cases hq : seaOk s
      case false =>
        have hno : sok ep s = false := by unfold sok; rw [hq]; rfl
        have HF : Hid (N = (fresh (l.take (k + 1)) ep).length) := by show N = _; rw [fresh_next HX.out, hno, if_neg (by simp)]; exact hN.out
        have HT : Hid (T = tailOf (l.take (k + 1)) ep) := by show T = _; rw [tail_next HX.out, hno, if_neg (by simp)]; exact hT.out
        rw [hq] at HSR
        clear hq hno
        go_wp2_with fail
        refine (HSR.out _).mono ?_; rintro e w1 ⟨rfl, hb1⟩
        have HB1 := Lib.hid (stepB hb.out hb1)
        clear hb1 c0 c1 c2
        go_wp2_with fail
        go_roundw
        case rel => exact ⟨k + 1, N, T, by omega, by omega, rfl, rfl, by go_num, HF, HT, HB1⟩
        case measure => simp [intOf]; omega
      case true =>
        rw [hq] at HSR
        by_cases hee : s.1 = ep
        case neg =>
          have hno : sok ep s = false := by unfold sok; simp [hee]
          have HF : Hid (N = (fresh (l.take (k + 1)) ep).length) := by show N = _; rw [fresh_next HX.out, hno, if_neg (by simp)]; exact hN.out
          have HT : Hid (T = tailOf (l.take (k + 1)) ep) := by show T = _; rw [tail_next HX.out, hno, if_neg (by simp)]; exact hT.out
          have hde : ((s.1 : Int) != (ep : Int)) = true := by simp; omega
          clear hq hno hee
          go_wp2_with fail
          refine (HSR.out _).mono ?_; rintro e w1 ⟨rfl, hb1⟩
          have HB1 := Lib.hid (stepB hb.out hb1)
          have hb1' := stepB hb.out hb1
          clear c0 c1 c2
          have c0 := (hb1'.cell (p := ⟨b, off + k * 3, none⟩) hbb).trans HG0.out
          clear hb1 hb1'
          go_wp2_with fail
          go_roundw
          case rel => exact ⟨k + 1, N, T, by omega, by omega, rfl, rfl, by go_num, HF, HT, HB1⟩
          case measure => clear hde; simp [intOf]; omega
        case pos =>
          have hyes : sok ep s = true := by unfold sok; simp [hee, hq]
          have HY := Lib.hid hyes
          have hde : ((s.1 : Int) != (ep : Int)) = false := by simp; omega
          clear hq hyes hee
          go_wp2_with fail
          refine (HSR.out _).mono ?_; rintro e w1 ⟨rfl, hb1⟩
          have HB1 := Lib.hid (stepB hb.out hb1)
          have hb1' := stepB hb.out hb1
          clear c0 c1 c2
          have c0 := (hb1'.cell (p := ⟨b, off + k * 3, none⟩) hbb).trans HG0.out
          clear hb1 hb1'
          go_wp2_with fail
          clear hde c0
          go_loopw [9, 10] (fun vf vj wr => ∃ (i : Nat) (qf : Bool), i ≤ k ∧ vf = .bool qf ∧ vj = .int .i64 i ∧ Hid (qf = true ↔ s.2.1 ∉ nodesOf (l.take i) ep) ∧ Hid (Below w.heap.size w wr)) (fun _ vj _ => k - (intOf vj).toNat)
          case atStart => exact ⟨0, true, Nat.zero_le _, rfl, rfl, by show true = true ↔ _; simp [nodesOf, oks], HB1⟩
          case round =>
            obtain ⟨i, qf, hik, rfl, rfl, hqf, hb⟩ := hrel
            by_cases hikk : i < k
            case neg =>
              obtain rfl : i = k := by omega
              have hdi : decide (i < i) = false := by simp
              have c2 := (hb.out.cell (p := ⟨b, off + i * 3 + 2, none⟩) hbb).trans HG2.out
              have HFR : Hid (fresh (l.take (i + 1)) ep = if qf = true then fresh (l.take i) ep ++ [s.2.1] else fresh (l.take i) ep) := by
                show fresh (l.take (i + 1)) ep = _
                rw [fresh_next HX.out, HY.out]
                by_cases hqq : qf = true
                · rw [if_pos hqq, if_pos ⟨rfl, fun h => hqf.out.1 hqq (((fresh_mem ep _).2 _).1 h)⟩]
                · rw [if_neg hqq, if_neg (fun h => hqq (hqf.out.2 (fun h2 => h.2 (((fresh_mem ep _).2 _).2 h2))))]
              have HTR : Hid (tailOf (l.take (i + 1)) ep = max T s.2.2) := by
                show tailOf (l.take (i + 1)) ep = _
                rw [tail_next HX.out, HY.out, if_pos rfl, ← hT.out]
              by_cases hgt : T < s.2.2
              all_goals
                (first | (have hdt : decide (T < s.2.2) = true := by simpa using hgt) | (have hdt : decide (T < s.2.2) = false := by simpa using hgt))
                cases qf
                case false =>
                  have HF : Hid (N = (fresh (l.take (i + 1)) ep).length) := by show N = _; rw [HFR.out, if_neg (by decide)]; exact hN.out
                  go_wp2_with fail
                  go_roundw
                  case rel => exact ⟨i + 1, N, _, by omega, by omega, rfl, rfl, by go_num, HF, by rw [HTR.out]; show _ = _; omega, hb⟩
                  case measure => clear hdt; simp [intOf]; omega
                case true =>
                  have HF : Hid (N + 1 = (fresh (l.take (i + 1)) ep).length) := by show N + 1 = _; rw [HFR.out, if_pos rfl, List.length_append, ← hN.out]; rfl
                  go_wp2_with fail
                  go_roundw
                  case rel => exact ⟨i + 1, N + 1, _, by omega, by omega, by go_num, rfl, by go_num, HF, by rw [HTR.out]; show _ = _; omega, hb⟩
                  case measure => clear hdt; simp [intOf]; omega
            case pos =>
              have hdi : decide (i < k) = true := by simpa using hikk
              have hin : i < n := by omega
              obtain ⟨b', off', t, hA, hDb, hx, g0, g1, g2, t1, t2, t3⟩ := sea_at HS.out.1 hin
              injection hA with hA
              injection hA with hA1 hA2
              subst hA1; subst hA2
              have HBR := hb
              have hzr := hb.out.size
              have e0 : ∀ q : Gr wr.heap.size wr, q.val.cell? ⟨b, off + i * 3, none⟩ = some (.int .u64 (t.1 : Int)) := fun q => (q.is.cell (p := ⟨b, off + i * 3, none⟩) (by show b < _; omega)).trans ((hb.out.cell (p := ⟨b, off + i * 3, none⟩) hbb).trans g0)
              have e1 : ∀ q : Gr wr.heap.size wr, q.val.cell? ⟨b, off + i * 3 + 1, none⟩ = some (.int .u64 (t.2.1 : Int)) := fun q => (q.is.cell (p := ⟨b, off + i * 3 + 1, none⟩) (by show b < _; omega)).trans ((hb.out.cell (p := ⟨b, off + i * 3 + 1, none⟩) hbb).trans g1)
              have e2 : ∀ q : Gr wr.heap.size wr, q.val.cell? ⟨b, off + i * 3 + 2, none⟩ = some (.int .u64 (t.2.2 : Int)) := fun q => (q.is.cell (p := ⟨b, off + i * 3 + 2, none⟩) (by show b < _; omega)).trans ((hb.out.cell (p := ⟨b, off + i * 3 + 2, none⟩) hbb).trans g2)
              have e3 : ∀ q : Gr wr.heap.size wr, q.val.cell? ⟨b, off + k * 3 + 1, none⟩ = some (.int .u64 (s.2.1 : Int)) := fun q => (q.is.cell (p := ⟨b, off + k * 3 + 1, none⟩) (by show b < _; omega)).trans ((hb.out.cell (p := ⟨b, off + k * 3 + 1, none⟩) hbb).trans HG1.out)
              have hnx := nodes_next (ep := ep) hx
              have hrt := fun w => rsright_any t w
              have HRT := Lib.hid hrt
              have HNX := Lib.hid hnx
              clear g0 g1 g2 hx hDb hrt hnx
              cases hq : seaOk t
              case false =>
                have HQ : Hid (qf = true ↔ s.2.1 ∉ nodesOf (l.take (i + 1)) ep) := by
                  show qf = true ↔ _
                  rw [HNX.out, if_neg (by unfold sok; rw [hq]; simp)]; exact hqf.out
                rw [hq] at HRT
                clear hq
                go_wp2_with fail
                refine wp_region_grow (by kernel_rfl) (by kernel_rfl) wr.heap.size ?_
                repeat (first | go_big_quiet_step ((go_at_call 14; exact Gr.call _ (Nat.le_refl _) (HRT.out _))) | quiet_step ((go_at_call 14; exact Gr.call _ (Nat.le_refl _) (HRT.out _))))
                refine wpQuiet_nil ?_
                rintro w6 ⟨⟨_, hb6⟩, rfl⟩
                have HB6 := Lib.hid (stepB HBR.out hb6)
                clear e0 e1 e2 e3 hb6
                go_wp2_with fail
                go_roundw
                case rel => exact ⟨i + 1, qf, hikk, rfl, by go_num, HQ, HB6⟩
                case measure => simp [intOf]; omega
              case true =>
                rw [hq] at HRT
                by_cases hee : t.1 = ep
                case neg =>
                  have HQ : Hid (qf = true ↔ s.2.1 ∉ nodesOf (l.take (i + 1)) ep) := by
                    show qf = true ↔ _
                    rw [HNX.out, if_neg (by unfold sok; simp [hee])]; exact hqf.out
                  have hde : ((t.1 : Int) == (ep : Int)) = false := by simp; omega
                  clear hq hee
                  go_wp2_with fail
                  refine wp_region_grow (by kernel_rfl) (by kernel_rfl) wr.heap.size ?_
                  repeat (first | go_big_quiet_step ((go_at_call 14; exact Gr.call _ (Nat.le_refl _) (HRT.out _))) | quiet_step ((go_at_call 14; exact Gr.call _ (Nat.le_refl _) (HRT.out _))))
                  refine wpQuiet_nil ?_
                  rintro w6 ⟨⟨_, hb6⟩, rfl⟩
                  have HB6 := Lib.hid (stepB HBR.out hb6)
                  clear e0 e1 e2 e3 hb6
                  go_wp2_with fail
                  go_roundw
                  case rel => exact ⟨i + 1, qf, hikk, rfl, by go_num, HQ, HB6⟩
                  case measure => clear hde; simp [intOf]; omega
                case pos =>
                  have hde : ((t.1 : Int) == (ep : Int)) = true := by simp; omega
                  have hyes : sok ep t = true := by unfold sok; simp [hee, hq]
                  rw [hyes, if_pos rfl] at HNX
                  clear hq hee hyes
                  by_cases hnn : t.2.1 = s.2.1
                  case pos =>
                    have hdn : ((t.2.1 : Int) == (s.2.1 : Int)) = true := by simp; omega
                    have HQ : Hid (false = true ↔ s.2.1 ∉ nodesOf (l.take (i + 1)) ep) := by
                      show false = true ↔ _
                      rw [HNX.out, hnn]; simp
                    clear hnn
                    go_wp2_with fail
                    refine wp_region_grow (by kernel_rfl) (by kernel_rfl) wr.heap.size ?_
                    repeat (first | go_big_quiet_step ((go_at_call 14; exact Gr.call _ (Nat.le_refl _) (HRT.out _))) | quiet_step ((go_at_call 14; exact Gr.call _ (Nat.le_refl _) (HRT.out _))))
                    refine wpQuiet_nil ?_
                    rintro w6 ⟨⟨_, hb6⟩, rfl⟩
                    have HB6 := Lib.hid (stepB HBR.out hb6)
                    clear e0 e1 e2 e3 hb6
                    go_wp2_with fail
                    go_roundw
                    case rel => exact ⟨i + 1, false, hikk, rfl, by go_num, HQ, HB6⟩
                    case measure => clear hde hdn; simp [intOf]; omega
                  case neg =>
                    have hdn : ((t.2.1 : Int) == (s.2.1 : Int)) = false := by simp; omega
                    have HQ : Hid (qf = true ↔ s.2.1 ∉ nodesOf (l.take (i + 1)) ep) := by
                      show qf = true ↔ _
                      rw [HNX.out, hqf.out, List.mem_append, List.mem_singleton]
                      exact ⟨fun h h2 => h2.elim h (fun e => hnn e.symm), fun h h2 => h (.inl h2)⟩
                    clear hnn
                    go_wp2_with fail
                    refine wp_region_grow (by kernel_rfl) (by kernel_rfl) wr.heap.size ?_
                    repeat (first | go_big_quiet_step ((go_at_call 14; exact Gr.call _ (Nat.le_refl _) (HRT.out _))) | quiet_step ((go_at_call 14; exact Gr.call _ (Nat.le_refl _) (HRT.out _))))
                    refine wpQuiet_nil ?_
                    rintro w6 ⟨⟨_, hb6⟩, rfl⟩
                    have HB6 := Lib.hid (stepB HBR.out hb6)
                    clear e0 e1 e2 e3 hb6
                    go_wp2_with fail
                    go_roundw
                    case rel => exact ⟨i + 1, qf, hikk, rfl, by go_num, HQ, HB6⟩
                    case measure => clear hde hdn; simp [intOf]; omega
end
end Go.Proofs.Ytkhomkklamegmaa
