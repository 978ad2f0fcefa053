/- The walk of the law SealTails. -/
import Derived.Test.YtkhomkklamegmaaSnY
import Derived.Test.YtkhomkklamegmaaSealL
namespace Go.Proofs.Ytkhomkklamegmaa
open Go.ChangeShapes Go.WideShapes Go.ChangeAt Go.RowKit
set_option linter.unusedVariables false
def SMet (q : Bool) (x : Nat) (l : List Nat) : Prop := q = true ↔ x ∈ l
section
variable {w : World} {D : Dom} {A : Option Addr} {n c : Nat} {l : List Sea} {ep : Nat} {q : Int}
set_option maxRecDepth 100000 in
set_option maxHeartbeats 8000000 in
theorem sealTails_short (hs : rpSeaN.sl w D A n c l) (hD : ∀ k, D k → k < w.heap.size) (hn : n ≤ 100) (hep : ep < 18446744073709551616) (hq0 : -9223372036854775808 ≤ q) (hq1 : q ≤ 9223372036854775807) :
    Calls Try.prog 5 #[.slice A n c, .int .u64 (ep : Int), .int .i64 q] w fun e w' => e = .returned (.bool true) ∧ Below w.heap.size w w' := by
  have hlen := (Rp.sl_len hs).1
  have hdn : decide ((100 : Int) < (n : Int)) = false := by simp; omega
  have HS0 := Lib.hid (show Sl rpSeaN w D A n c l from ⟨hs, hD⟩)
  have HN := Lib.hid hlen
  have HLT := Lib.hid (nodesOf_lt (e := ep) (sea_lt hs))
  have hno := snodes_any (ep := ep) hs hD (by omega) hep
  have HNO := Lib.hid hno
  clear hs hD hlen hno
  go_enter Try.func5, Try.ntmps5
  go_wp2_with fail
  refine HNO.out.mono ?_; rintro e w1 ⟨A1, c1, r, rfl, ho, hr, hm, hb⟩
  have hlm := rising_len hr hm
  obtain ⟨m, hmm⟩ : ∃ m, m = r.length := ⟨_, rfl⟩
  obtain ⟨F, hF⟩ : ∃ F, F = (fresh l ep).length := ⟨_, rfl⟩
  obtain ⟨T, hT⟩ : ∃ T, T = tailOf l ep := ⟨_, rfl⟩
  have hmF : m = F := by omega
  have hFn : F ≤ 100 := by have := fresh_le l ep; have := HN.out; omega
  rw [← hmm] at ho
  rw [← hmm]
  have HRL := Lib.hid (own_u64 ho (fun x hx => HLT.out x ((hm x).1 hx)))
  have HOL : Hid (∀ k, (fun k => some k = (Value.slice A1 m c1).ownBlock) k → k < w1.heap.size) := fun k hk => own_lt ho hk
  have HS1 := Lib.hid (keepS HS0.out hb)
  have HB1 := Lib.hid hb
  have HRP := Lib.hid hr
  have HM := Lib.hid hm
  have HFF := Lib.hid hF
  have HTT := Lib.hid hT
  clear ho hr hm hb hlm hmm hF hT
  go_wp2_with fail
  refine (rnodes_any (ep := ep) HS1.out.1 HS1.out.2 (by omega) hep).mono ?_; rintro e w2 ⟨rfl, hb⟩
  rw [← HFF.out, ← HTT.out]
  have HS2 := Lib.hid (keepS HS1.out hb)
  have HR2 := Lib.hid (keepS (show Sl rpU64 w1 _ A1 m c1 r from ⟨HRL.out, HOL.out⟩) hb)
  have HB2 := Lib.hid (stepB HB1.out hb)
  clear hb
  go_wp2_with fail
  refine (stail_any (ep := ep) (q := q) HS2.out.1 HS2.out.2 (by omega) hep).mono ?_; rintro e w5 ⟨rfl, hb⟩
  have HS := Lib.hid (keepS HS2.out hb)
  have HR := Lib.hid (keepS HR2.out hb)
  have HB5 := Lib.hid (stepB HB2.out hb)
  clear hb
  subst hmF
  have hmm1 : ((m : Int) != (m : Int)) = false := by simp
  cases hk : known l ep q
  case true =>
    rw [tailQ_yes hk, ← HTT.out]
    have hkq : 1 ≤ q ∧ q ≤ (m : Int) := by unfold known at hk; rw [← HFF.out] at hk; simpa using hk
    have hd1 : decide ((1 : Int) ≤ q) = true := by simpa using hkq.1
    have hd2 : decide (q ≤ (m : Int)) = true := by simpa using hkq.2
    have hTT : ((T : Int) != (T : Int)) = false := by simp
    clear hk hkq
    go_wp2_with fail
    go_loopw [12] (fun vi wr => ∃ i : Nat, i ≤ m ∧ vi = .int .i64 i ∧ Hid (Below w5.heap.size w5 wr)) (fun vi _ => m - (intOf vi).toNat)
    case atStart => exact ⟨0, Nat.zero_le _, rfl, Below.refl _ _⟩
    case round =>
      obtain ⟨i, him, rfl, hb⟩ := hrel
      by_cases himm : i < m
      case neg =>
        obtain rfl : i = m := by omega
        have hdi : decide (i < i) = false := by simp
        go_wp2_with fail
        refine (slive_any _).mono ?_; rintro e w6 ⟨rfl, hb6⟩
        go_wp2_with fail
        go_ret
        exact ⟨rfl, stepB (stepB HB5.out hb.out) hb6⟩
      case pos =>
        have hdi : decide (i < m) = true := by simpa using himm
        obtain ⟨gb, go, x, rfl, hDg, hxr, gx, hx64⟩ := u64_at HR.out.1 himm
        have hgl := HR.out.2 _ hDg
        have hxm : x ∈ nodesOf l ep := (HM.out x).1 (List.mem_of_getElem? hxr)
        have HXM := Lib.hid hxm
        have HXR := Lib.hid hxr
        have HGX := Lib.hid gx
        clear hxm hxr gx hDg
        go_wp2_with fail
        obtain ⟨ws, hws⟩ : ∃ ws, ws = wr := ⟨_, rfl⟩
        subst hws
        go_loopw [13, 14] (fun vf vj wr => ∃ (k : Nat) (qf : Bool), k ≤ n ∧ vf = .bool qf ∧ vj = .int .i64 k ∧ Hid (SMet qf x (nodesOf (l.take k) ep)) ∧ Hid (Below w5.heap.size w5 wr)) (fun _ vj _ => n - (intOf vj).toNat)
        case atStart => exact ⟨0, false, Nat.zero_le _, rfl, rfl, by show false = true ↔ _; simp [nodesOf, oks], hb⟩
        case round =>
          clear hb
          obtain ⟨k, qf, hkn', rfl, rfl, hqf, hb⟩ := hrel
          by_cases hkn : k < n
          case neg =>
            obtain rfl : k = n := by omega
            have hdk : decide (k < k) = false := by simp
            have hqt : qf = true := hqf.out.2 (by rw [List.take_of_length_le (by rw [HN.out]; exact Nat.le_refl _)]; exact HXM.out)
            subst hqt
            have c0 := (hb.out.cell (p := ⟨gb, go + i, none⟩) hgl).trans HGX.out
            by_cases hi0 : i = 0
            case pos =>
              subst hi0
              go_wp2_with fail
              go_quiet (fail)
              go_wp2_with fail
              go_roundw
              case rel => exact ⟨0 + 1, himm, by go_num, ⟨hb.out.os, hb.out.tape, hb.out.output, hb.out.size, hb.out.block⟩⟩
              case measure => simp [intOf]; omega
            case neg =>
              obtain ⟨j, hj⟩ : ∃ j, j = i - 1 := ⟨_, rfl⟩
              have hjm : j < m := by omega
              obtain ⟨gb', go', y, hA, hDg', hyr, gy, hy64⟩ := u64_at HR.out.1 hjm
              injection hA with hA
              injection hA with hA1 hA2
              subst hA1; subst hA2
              have c1 := (hb.out.cell (p := ⟨gb, go + j, none⟩) hgl).trans gy
              have hyx : y < x := by
                have h1 := List.pairwise_iff_getElem.1 HRP.out j i (List.getElem?_eq_some_iff.1 hyr).1 (List.getElem?_eq_some_iff.1 HXR.out).1 (by omega)
                rw [(List.getElem?_eq_some_iff.1 hyr).2, (List.getElem?_eq_some_iff.1 HXR.out).2] at h1
                exact h1
              have hle : decide (x ≤ y) = false := by simp; omega
              have hi1 : decide ((0 : Int) < (i : Int)) = true := by simp; omega
              have hi1' : decide (0 < i) = true := by simp; omega
              have y1 : IntKind.i64.wrap ((i : Int) - 1) = (j : Int) := by rw [IntWalk.i64_in _ (by omega)]; omega
              have hjI : (j : Int) < (m : Int) := by clear y1; omega
              clear hyr gy hDg' hj hi0
              go_wp2_with fail
              go_quiet (fail)
              go_wp2_with fail
              go_roundw
              case rel => exact ⟨i + 1, himm, by go_num, ⟨hb.out.os, hb.out.tape, hb.out.output, hb.out.size, hb.out.block⟩⟩
              case measure => clear y1 hle; simp [intOf]; omega
          case pos =>
            have hdk : decide (k < n) = true := by simpa using hkn
            obtain ⟨b, off, t, hA, hDb, hx, g0, g1, g2, t1, t2, t3⟩ := sea_at HS.out.1 hkn
            subst hA
            have hbb := HS.out.2 _ hDb
            have HBR := hb
            have hzr := hb.out.size
            have e0 : ∀ q : Gr wr.heap.size wr, q.val.cell? ⟨b, off + k * 3, none⟩ = some (.int .u64 (t.1 : Int)) := fun q => (q.is.cell (p := ⟨b, off + k * 3, none⟩) (by show b < _; omega)).trans ((hb.out.cell (p := ⟨b, off + k * 3, none⟩) hbb).trans g0)
            have e1 : ∀ q : Gr wr.heap.size wr, q.val.cell? ⟨b, off + k * 3 + 1, none⟩ = some (.int .u64 (t.2.1 : Int)) := fun q => (q.is.cell (p := ⟨b, off + k * 3 + 1, none⟩) (by show b < _; omega)).trans ((hb.out.cell (p := ⟨b, off + k * 3 + 1, none⟩) hbb).trans g1)
            have e2 : ∀ q : Gr wr.heap.size wr, q.val.cell? ⟨b, off + k * 3 + 2, none⟩ = some (.int .u64 (t.2.2 : Int)) := fun q => (q.is.cell (p := ⟨b, off + k * 3 + 2, none⟩) (by show b < _; omega)).trans ((hb.out.cell (p := ⟨b, off + k * 3 + 2, none⟩) hbb).trans g2)
            have e3 : ∀ q : Gr wr.heap.size wr, q.val.cell? ⟨gb, go + i, none⟩ = some (.int .u64 (x : Int)) := fun q => (q.is.cell (p := ⟨gb, go + i, none⟩) (by show gb < _; omega)).trans ((hb.out.cell (p := ⟨gb, go + i, none⟩) hgl).trans HGX.out)
            have hiI : (i : Int) < (m : Int) := by omega
            have hnx := nodes_next (ep := ep) hx
            have hrt := fun w => rsright_any t w
            have HRT := Lib.hid hrt
            have HNX := Lib.hid hnx
            clear g0 g1 g2 hx hDb hrt hnx
            cases qf
            case true =>
              have HQ : Hid (SMet true x (nodesOf (l.take (k + 1)) ep)) := by
                show true = true ↔ _
                have h := hqf.out.1 rfl
                rw [HNX.out]
                split
                · exact ⟨fun _ => List.mem_append_left _ h, fun _ => rfl⟩
                · exact ⟨fun _ => h, fun _ => rfl⟩
              go_wp2_with fail
              refine wp_region_grow (by kernel_rfl) (by kernel_rfl) wr.heap.size ?_
              repeat (first | go_big_quiet_step ((go_at_call 14; exact Gr.call _ (Nat.le_refl _) (HRT.out _))) | quiet_step ((go_at_call 14; exact Gr.call _ (Nat.le_refl _) (HRT.out _))))
              refine wpQuiet_nil ?_
              rintro w6 ⟨⟨_, hb6⟩, rfl⟩
              have HB6 := Lib.hid (stepB HBR.out hb6)
              clear e0 e1 e2 e3 hb6
              go_wp2_with fail
              go_roundw
              case rel => exact ⟨k + 1, true, hkn, rfl, by go_num, HQ, HB6⟩
              case measure => simp [intOf]; omega
            case false =>
              have HNQ : Hid (x ∉ nodesOf (l.take k) ep) := fun h => by have := hqf.out.2 h; cases this
              cases hq : seaOk t
              case false =>
                have HQ : Hid (SMet false x (nodesOf (l.take (k + 1)) ep)) := by
                  show false = true ↔ _
                  rw [HNX.out, if_neg (by unfold sok; rw [hq]; simp)]; exact hqf.out
                rw [hq] at HRT
                clear hq
                go_wp2_with fail
                refine wp_region_grow (by kernel_rfl) (by kernel_rfl) wr.heap.size ?_
                repeat (first | go_big_quiet_step ((go_at_call 14; exact Gr.call _ (Nat.le_refl _) (HRT.out _))) | quiet_step ((go_at_call 14; exact Gr.call _ (Nat.le_refl _) (HRT.out _))))
                refine wpQuiet_nil ?_
                rintro w6 ⟨⟨_, hb6⟩, rfl⟩
                have HB6 := Lib.hid (stepB HBR.out hb6)
                clear e0 e1 e2 e3 hb6
                go_wp2_with fail
                go_roundw
                case rel => exact ⟨k + 1, false, hkn, rfl, by go_num, HQ, HB6⟩
                case measure => simp [intOf]; omega
              case true =>
                rw [hq] at HRT
                by_cases hee : t.1 = ep
                case neg =>
                  have HQ : Hid (SMet false x (nodesOf (l.take (k + 1)) ep)) := by
                    show false = true ↔ _
                    rw [HNX.out, if_neg (by unfold sok; simp [hee])]; exact hqf.out
                  have hde : ((t.1 : Int) == (ep : Int)) = false := by simp; omega
                  clear hq hee
                  go_wp2_with fail
                  refine wp_region_grow (by kernel_rfl) (by kernel_rfl) wr.heap.size ?_
                  repeat (first | go_big_quiet_step ((go_at_call 14; exact Gr.call _ (Nat.le_refl _) (HRT.out _))) | quiet_step ((go_at_call 14; exact Gr.call _ (Nat.le_refl _) (HRT.out _))))
                  refine wpQuiet_nil ?_
                  rintro w6 ⟨⟨_, hb6⟩, rfl⟩
                  have HB6 := Lib.hid (stepB HBR.out hb6)
                  clear e0 e1 e2 e3 hb6
                  go_wp2_with fail
                  go_roundw
                  case rel => exact ⟨k + 1, false, hkn, rfl, by go_num, HQ, HB6⟩
                  case measure => clear hde; simp [intOf]; omega
                case pos =>
                  have hde : ((t.1 : Int) == (ep : Int)) = true := by simp; omega
                  have hyes : sok ep t = true := by unfold sok; simp [hee, hq]
                  rw [hyes, if_pos rfl] at HNX
                  clear hq hee hyes
                  by_cases hnn : t.2.1 = x
                  case pos =>
                    have hdn : ((t.2.1 : Int) == (x : Int)) = true := by simp; omega
                    have HQ : Hid (SMet true x (nodesOf (l.take (k + 1)) ep)) := by
                      show true = true ↔ _
                      rw [HNX.out, hnn]; simp
                    clear hnn
                    go_wp2_with fail
                    refine wp_region_grow (by kernel_rfl) (by kernel_rfl) wr.heap.size ?_
                    repeat (first | go_big_quiet_step ((go_at_call 14; exact Gr.call _ (Nat.le_refl _) (HRT.out _))) | quiet_step ((go_at_call 14; exact Gr.call _ (Nat.le_refl _) (HRT.out _))))
                    refine wpQuiet_nil ?_
                    rintro w6 ⟨⟨_, hb6⟩, rfl⟩
                    have HB6 := Lib.hid (stepB HBR.out hb6)
                    clear e0 e1 e2 e3 hb6
                    go_wp2_with fail
                    go_roundw
                    case rel => exact ⟨k + 1, true, hkn, rfl, by go_num, HQ, HB6⟩
                    case measure => clear hde hdn; simp [intOf]; omega
                  case neg =>
                    have hdn : ((t.2.1 : Int) == (x : Int)) = false := by simp; omega
                    have HQ : Hid (SMet false x (nodesOf (l.take (k + 1)) ep)) := by
                      show false = true ↔ _
                      rw [HNX.out, List.mem_append, List.mem_singleton]
                      exact ⟨fun h => (by cases h), fun h => h.elim (fun h => absurd h HNQ.out) (fun e => absurd e.symm hnn)⟩
                    clear hnn
                    go_wp2_with fail
                    refine wp_region_grow (by kernel_rfl) (by kernel_rfl) wr.heap.size ?_
                    repeat (first | go_big_quiet_step ((go_at_call 14; exact Gr.call _ (Nat.le_refl _) (HRT.out _))) | quiet_step ((go_at_call 14; exact Gr.call _ (Nat.le_refl _) (HRT.out _))))
                    refine wpQuiet_nil ?_
                    rintro w6 ⟨⟨_, hb6⟩, rfl⟩
                    have HB6 := Lib.hid (stepB HBR.out hb6)
                    clear e0 e1 e2 e3 hb6
                    go_wp2_with fail
                    go_roundw
                    case rel => exact ⟨k + 1, false, hkn, rfl, by go_num, HQ, HB6⟩
                    case measure => clear hde hdn; simp [intOf]; omega
  case false =>
    rw [tailQ_no hk]
    have hkq : ¬ (1 ≤ q ∧ q ≤ (m : Int)) := by unfold known at hk; rw [← HFF.out] at hk; simpa using hk
    by_cases hq1' : 1 ≤ q
    case pos =>
      have hd1 : decide ((1 : Int) ≤ q) = true := by simpa using hq1'
      have hd2 : decide (q ≤ (m : Int)) = false := by simp; omega
      clear hk hkq
      go_wp2_with fail
      go_loopw [12] (fun vi wr => ∃ i : Nat, i ≤ m ∧ vi = .int .i64 i ∧ Hid (Below w5.heap.size w5 wr)) (fun vi _ => m - (intOf vi).toNat)
      case atStart => exact ⟨0, Nat.zero_le _, rfl, Below.refl _ _⟩
      case round =>
        obtain ⟨i, him, rfl, hb⟩ := hrel
        by_cases himm : i < m
        case neg =>
          obtain rfl : i = m := by omega
          have hdi : decide (i < i) = false := by simp
          go_wp2_with fail
          refine (slive_any _).mono ?_; rintro e w6 ⟨rfl, hb6⟩
          go_wp2_with fail
          go_ret
          exact ⟨rfl, stepB (stepB HB5.out hb.out) hb6⟩
        case pos =>
          have hdi : decide (i < m) = true := by simpa using himm
          obtain ⟨gb, go, x, rfl, hDg, hxr, gx, hx64⟩ := u64_at HR.out.1 himm
          have hgl := HR.out.2 _ hDg
          have hxm : x ∈ nodesOf l ep := (HM.out x).1 (List.mem_of_getElem? hxr)
          have HXM := Lib.hid hxm
          have HXR := Lib.hid hxr
          have HGX := Lib.hid gx
          clear hxm hxr gx hDg
          go_wp2_with fail
          obtain ⟨ws, hws⟩ : ∃ ws, ws = wr := ⟨_, rfl⟩
          subst hws
          go_loopw [13, 14] (fun vf vj wr => ∃ (k : Nat) (qf : Bool), k ≤ n ∧ vf = .bool qf ∧ vj = .int .i64 k ∧ Hid (SMet qf x (nodesOf (l.take k) ep)) ∧ Hid (Below w5.heap.size w5 wr)) (fun _ vj _ => n - (intOf vj).toNat)
          case atStart => exact ⟨0, false, Nat.zero_le _, rfl, rfl, by show false = true ↔ _; simp [nodesOf, oks], hb⟩
          case round =>
            clear hb
            obtain ⟨k, qf, hkn', rfl, rfl, hqf, hb⟩ := hrel
            by_cases hkn : k < n
            case neg =>
              obtain rfl : k = n := by omega
              have hdk : decide (k < k) = false := by simp
              have hqt : qf = true := hqf.out.2 (by rw [List.take_of_length_le (by rw [HN.out]; exact Nat.le_refl _)]; exact HXM.out)
              subst hqt
              have c0 := (hb.out.cell (p := ⟨gb, go + i, none⟩) hgl).trans HGX.out
              by_cases hi0 : i = 0
              case pos =>
                subst hi0
                go_wp2_with fail
                go_quiet (fail)
                go_wp2_with fail
                go_roundw
                case rel => exact ⟨0 + 1, himm, by go_num, ⟨hb.out.os, hb.out.tape, hb.out.output, hb.out.size, hb.out.block⟩⟩
                case measure => simp [intOf]; omega
              case neg =>
                obtain ⟨j, hj⟩ : ∃ j, j = i - 1 := ⟨_, rfl⟩
                have hjm : j < m := by omega
                obtain ⟨gb', go', y, hA, hDg', hyr, gy, hy64⟩ := u64_at HR.out.1 hjm
                injection hA with hA
                injection hA with hA1 hA2
                subst hA1; subst hA2
                have c1 := (hb.out.cell (p := ⟨gb, go + j, none⟩) hgl).trans gy
                have hyx : y < x := by
                  have h1 := List.pairwise_iff_getElem.1 HRP.out j i (List.getElem?_eq_some_iff.1 hyr).1 (List.getElem?_eq_some_iff.1 HXR.out).1 (by omega)
                  rw [(List.getElem?_eq_some_iff.1 hyr).2, (List.getElem?_eq_some_iff.1 HXR.out).2] at h1
                  exact h1
                have hle : decide (x ≤ y) = false := by simp; omega
                have hi1 : decide ((0 : Int) < (i : Int)) = true := by simp; omega
                have hi1' : decide (0 < i) = true := by simp; omega
                have y1 : IntKind.i64.wrap ((i : Int) - 1) = (j : Int) := by rw [IntWalk.i64_in _ (by omega)]; omega
                have hjI : (j : Int) < (m : Int) := by clear y1; omega
                clear hyr gy hDg' hj hi0
                go_wp2_with fail
                go_quiet (fail)
                go_wp2_with fail
                go_roundw
                case rel => exact ⟨i + 1, himm, by go_num, ⟨hb.out.os, hb.out.tape, hb.out.output, hb.out.size, hb.out.block⟩⟩
                case measure => clear y1 hle; simp [intOf]; omega
            case pos =>
              have hdk : decide (k < n) = true := by simpa using hkn
              obtain ⟨b, off, t, hA, hDb, hx, g0, g1, g2, t1, t2, t3⟩ := sea_at HS.out.1 hkn
              subst hA
              have hbb := HS.out.2 _ hDb
              have HBR := hb
              have hzr := hb.out.size
              have e0 : ∀ q : Gr wr.heap.size wr, q.val.cell? ⟨b, off + k * 3, none⟩ = some (.int .u64 (t.1 : Int)) := fun q => (q.is.cell (p := ⟨b, off + k * 3, none⟩) (by show b < _; omega)).trans ((hb.out.cell (p := ⟨b, off + k * 3, none⟩) hbb).trans g0)
              have e1 : ∀ q : Gr wr.heap.size wr, q.val.cell? ⟨b, off + k * 3 + 1, none⟩ = some (.int .u64 (t.2.1 : Int)) := fun q => (q.is.cell (p := ⟨b, off + k * 3 + 1, none⟩) (by show b < _; omega)).trans ((hb.out.cell (p := ⟨b, off + k * 3 + 1, none⟩) hbb).trans g1)
              have e2 : ∀ q : Gr wr.heap.size wr, q.val.cell? ⟨b, off + k * 3 + 2, none⟩ = some (.int .u64 (t.2.2 : Int)) := fun q => (q.is.cell (p := ⟨b, off + k * 3 + 2, none⟩) (by show b < _; omega)).trans ((hb.out.cell (p := ⟨b, off + k * 3 + 2, none⟩) hbb).trans g2)
              have e3 : ∀ q : Gr wr.heap.size wr, q.val.cell? ⟨gb, go + i, none⟩ = some (.int .u64 (x : Int)) := fun q => (q.is.cell (p := ⟨gb, go + i, none⟩) (by show gb < _; omega)).trans ((hb.out.cell (p := ⟨gb, go + i, none⟩) hgl).trans HGX.out)
              have hiI : (i : Int) < (m : Int) := by omega
              have hnx := nodes_next (ep := ep) hx
              have hrt := fun w => rsright_any t w
              have HRT := Lib.hid hrt
              have HNX := Lib.hid hnx
              clear g0 g1 g2 hx hDb hrt hnx
              cases qf
              case true =>
                have HQ : Hid (SMet true x (nodesOf (l.take (k + 1)) ep)) := by
                  show true = true ↔ _
                  have h := hqf.out.1 rfl
                  rw [HNX.out]
                  split
                  · exact ⟨fun _ => List.mem_append_left _ h, fun _ => rfl⟩
                  · exact ⟨fun _ => h, fun _ => rfl⟩
                go_wp2_with fail
                refine wp_region_grow (by kernel_rfl) (by kernel_rfl) wr.heap.size ?_
                repeat (first | go_big_quiet_step ((go_at_call 14; exact Gr.call _ (Nat.le_refl _) (HRT.out _))) | quiet_step ((go_at_call 14; exact Gr.call _ (Nat.le_refl _) (HRT.out _))))
                refine wpQuiet_nil ?_
                rintro w6 ⟨⟨_, hb6⟩, rfl⟩
                have HB6 := Lib.hid (stepB HBR.out hb6)
                clear e0 e1 e2 e3 hb6
                go_wp2_with fail
                go_roundw
                case rel => exact ⟨k + 1, true, hkn, rfl, by go_num, HQ, HB6⟩
                case measure => simp [intOf]; omega
              case false =>
                have HNQ : Hid (x ∉ nodesOf (l.take k) ep) := fun h => by have := hqf.out.2 h; cases this
                cases hq : seaOk t
                case false =>
                  have HQ : Hid (SMet false x (nodesOf (l.take (k + 1)) ep)) := by
                    show false = true ↔ _
                    rw [HNX.out, if_neg (by unfold sok; rw [hq]; simp)]; exact hqf.out
                  rw [hq] at HRT
                  clear hq
                  go_wp2_with fail
                  refine wp_region_grow (by kernel_rfl) (by kernel_rfl) wr.heap.size ?_
                  repeat (first | go_big_quiet_step ((go_at_call 14; exact Gr.call _ (Nat.le_refl _) (HRT.out _))) | quiet_step ((go_at_call 14; exact Gr.call _ (Nat.le_refl _) (HRT.out _))))
                  refine wpQuiet_nil ?_
                  rintro w6 ⟨⟨_, hb6⟩, rfl⟩
                  have HB6 := Lib.hid (stepB HBR.out hb6)
                  clear e0 e1 e2 e3 hb6
                  go_wp2_with fail
                  go_roundw
                  case rel => exact ⟨k + 1, false, hkn, rfl, by go_num, HQ, HB6⟩
                  case measure => simp [intOf]; omega
                case true =>
                  rw [hq] at HRT
                  by_cases hee : t.1 = ep
                  case neg =>
                    have HQ : Hid (SMet false x (nodesOf (l.take (k + 1)) ep)) := by
                      show false = true ↔ _
                      rw [HNX.out, if_neg (by unfold sok; simp [hee])]; exact hqf.out
                    have hde : ((t.1 : Int) == (ep : Int)) = false := by simp; omega
                    clear hq hee
                    go_wp2_with fail
                    refine wp_region_grow (by kernel_rfl) (by kernel_rfl) wr.heap.size ?_
                    repeat (first | go_big_quiet_step ((go_at_call 14; exact Gr.call _ (Nat.le_refl _) (HRT.out _))) | quiet_step ((go_at_call 14; exact Gr.call _ (Nat.le_refl _) (HRT.out _))))
                    refine wpQuiet_nil ?_
                    rintro w6 ⟨⟨_, hb6⟩, rfl⟩
                    have HB6 := Lib.hid (stepB HBR.out hb6)
                    clear e0 e1 e2 e3 hb6
                    go_wp2_with fail
                    go_roundw
                    case rel => exact ⟨k + 1, false, hkn, rfl, by go_num, HQ, HB6⟩
                    case measure => clear hde; simp [intOf]; omega
                  case pos =>
                    have hde : ((t.1 : Int) == (ep : Int)) = true := by simp; omega
                    have hyes : sok ep t = true := by unfold sok; simp [hee, hq]
                    rw [hyes, if_pos rfl] at HNX
                    clear hq hee hyes
                    by_cases hnn : t.2.1 = x
                    case pos =>
                      have hdn : ((t.2.1 : Int) == (x : Int)) = true := by simp; omega
                      have HQ : Hid (SMet true x (nodesOf (l.take (k + 1)) ep)) := by
                        show true = true ↔ _
                        rw [HNX.out, hnn]; simp
                      clear hnn
                      go_wp2_with fail
                      refine wp_region_grow (by kernel_rfl) (by kernel_rfl) wr.heap.size ?_
                      repeat (first | go_big_quiet_step ((go_at_call 14; exact Gr.call _ (Nat.le_refl _) (HRT.out _))) | quiet_step ((go_at_call 14; exact Gr.call _ (Nat.le_refl _) (HRT.out _))))
                      refine wpQuiet_nil ?_
                      rintro w6 ⟨⟨_, hb6⟩, rfl⟩
                      have HB6 := Lib.hid (stepB HBR.out hb6)
                      clear e0 e1 e2 e3 hb6
                      go_wp2_with fail
                      go_roundw
                      case rel => exact ⟨k + 1, true, hkn, rfl, by go_num, HQ, HB6⟩
                      case measure => clear hde hdn; simp [intOf]; omega
                    case neg =>
                      have hdn : ((t.2.1 : Int) == (x : Int)) = false := by simp; omega
                      have HQ : Hid (SMet false x (nodesOf (l.take (k + 1)) ep)) := by
                        show false = true ↔ _
                        rw [HNX.out, List.mem_append, List.mem_singleton]
                        exact ⟨fun h => (by cases h), fun h => h.elim (fun h => absurd h HNQ.out) (fun e => absurd e.symm hnn)⟩
                      clear hnn
                      go_wp2_with fail
                      refine wp_region_grow (by kernel_rfl) (by kernel_rfl) wr.heap.size ?_
                      repeat (first | go_big_quiet_step ((go_at_call 14; exact Gr.call _ (Nat.le_refl _) (HRT.out _))) | quiet_step ((go_at_call 14; exact Gr.call _ (Nat.le_refl _) (HRT.out _))))
                      refine wpQuiet_nil ?_
                      rintro w6 ⟨⟨_, hb6⟩, rfl⟩
                      have HB6 := Lib.hid (stepB HBR.out hb6)
                      clear e0 e1 e2 e3 hb6
                      go_wp2_with fail
                      go_roundw
                      case rel => exact ⟨k + 1, false, hkn, rfl, by go_num, HQ, HB6⟩
                      case measure => clear hde hdn; simp [intOf]; omega
    case neg =>
      have hd1 : decide ((1 : Int) ≤ q) = false := by simpa using hq1'
      clear hk hkq
      go_wp2_with fail
      go_loopw [12] (fun vi wr => ∃ i : Nat, i ≤ m ∧ vi = .int .i64 i ∧ Hid (Below w5.heap.size w5 wr)) (fun vi _ => m - (intOf vi).toNat)
      case atStart => exact ⟨0, Nat.zero_le _, rfl, Below.refl _ _⟩
      case round =>
        obtain ⟨i, him, rfl, hb⟩ := hrel
        by_cases himm : i < m
        case neg =>
          obtain rfl : i = m := by omega
          have hdi : decide (i < i) = false := by simp
          go_wp2_with fail
          refine (slive_any _).mono ?_; rintro e w6 ⟨rfl, hb6⟩
          go_wp2_with fail
          go_ret
          exact ⟨rfl, stepB (stepB HB5.out hb.out) hb6⟩
        case pos =>
          have hdi : decide (i < m) = true := by simpa using himm
          obtain ⟨gb, go, x, rfl, hDg, hxr, gx, hx64⟩ := u64_at HR.out.1 himm
          have hgl := HR.out.2 _ hDg
          have hxm : x ∈ nodesOf l ep := (HM.out x).1 (List.mem_of_getElem? hxr)
          have HXM := Lib.hid hxm
          have HXR := Lib.hid hxr
          have HGX := Lib.hid gx
          clear hxm hxr gx hDg
          go_wp2_with fail
          obtain ⟨ws, hws⟩ : ∃ ws, ws = wr := ⟨_, rfl⟩
          subst hws
          go_loopw [13, 14] (fun vf vj wr => ∃ (k : Nat) (qf : Bool), k ≤ n ∧ vf = .bool qf ∧ vj = .int .i64 k ∧ Hid (SMet qf x (nodesOf (l.take k) ep)) ∧ Hid (Below w5.heap.size w5 wr)) (fun _ vj _ => n - (intOf vj).toNat)
          case atStart => exact ⟨0, false, Nat.zero_le _, rfl, rfl, by show false = true ↔ _; simp [nodesOf, oks], hb⟩
          case round =>
            clear hb
            obtain ⟨k, qf, hkn', rfl, rfl, hqf, hb⟩ := hrel
            by_cases hkn : k < n
            case neg =>
              obtain rfl : k = n := by omega
              have hdk : decide (k < k) = false := by simp
              have hqt : qf = true := hqf.out.2 (by rw [List.take_of_length_le (by rw [HN.out]; exact Nat.le_refl _)]; exact HXM.out)
              subst hqt
              have c0 := (hb.out.cell (p := ⟨gb, go + i, none⟩) hgl).trans HGX.out
              by_cases hi0 : i = 0
              case pos =>
                subst hi0
                go_wp2_with fail
                go_quiet (fail)
                go_wp2_with fail
                go_roundw
                case rel => exact ⟨0 + 1, himm, by go_num, ⟨hb.out.os, hb.out.tape, hb.out.output, hb.out.size, hb.out.block⟩⟩
                case measure => simp [intOf]; omega
              case neg =>
                obtain ⟨j, hj⟩ : ∃ j, j = i - 1 := ⟨_, rfl⟩
                have hjm : j < m := by omega
                obtain ⟨gb', go', y, hA, hDg', hyr, gy, hy64⟩ := u64_at HR.out.1 hjm
                injection hA with hA
                injection hA with hA1 hA2
                subst hA1; subst hA2
                have c1 := (hb.out.cell (p := ⟨gb, go + j, none⟩) hgl).trans gy
                have hyx : y < x := by
                  have h1 := List.pairwise_iff_getElem.1 HRP.out j i (List.getElem?_eq_some_iff.1 hyr).1 (List.getElem?_eq_some_iff.1 HXR.out).1 (by omega)
                  rw [(List.getElem?_eq_some_iff.1 hyr).2, (List.getElem?_eq_some_iff.1 HXR.out).2] at h1
                  exact h1
                have hle : decide (x ≤ y) = false := by simp; omega
                have hi1 : decide ((0 : Int) < (i : Int)) = true := by simp; omega
                have hi1' : decide (0 < i) = true := by simp; omega
                have y1 : IntKind.i64.wrap ((i : Int) - 1) = (j : Int) := by rw [IntWalk.i64_in _ (by omega)]; omega
                have hjI : (j : Int) < (m : Int) := by clear y1; omega
                clear hyr gy hDg' hj hi0
                go_wp2_with fail
                go_quiet (fail)
                go_wp2_with fail
                go_roundw
                case rel => exact ⟨i + 1, himm, by go_num, ⟨hb.out.os, hb.out.tape, hb.out.output, hb.out.size, hb.out.block⟩⟩
                case measure => clear y1 hle; simp [intOf]; omega
            case pos =>
              have hdk : decide (k < n) = true := by simpa using hkn
              obtain ⟨b, off, t, hA, hDb, hx, g0, g1, g2, t1, t2, t3⟩ := sea_at HS.out.1 hkn
              subst hA
              have hbb := HS.out.2 _ hDb
              have HBR := hb
              have hzr := hb.out.size
              have e0 : ∀ q : Gr wr.heap.size wr, q.val.cell? ⟨b, off + k * 3, none⟩ = some (.int .u64 (t.1 : Int)) := fun q => (q.is.cell (p := ⟨b, off + k * 3, none⟩) (by show b < _; omega)).trans ((hb.out.cell (p := ⟨b, off + k * 3, none⟩) hbb).trans g0)
              have e1 : ∀ q : Gr wr.heap.size wr, q.val.cell? ⟨b, off + k * 3 + 1, none⟩ = some (.int .u64 (t.2.1 : Int)) := fun q => (q.is.cell (p := ⟨b, off + k * 3 + 1, none⟩) (by show b < _; omega)).trans ((hb.out.cell (p := ⟨b, off + k * 3 + 1, none⟩) hbb).trans g1)
              have e2 : ∀ q : Gr wr.heap.size wr, q.val.cell? ⟨b, off + k * 3 + 2, none⟩ = some (.int .u64 (t.2.2 : Int)) := fun q => (q.is.cell (p := ⟨b, off + k * 3 + 2, none⟩) (by show b < _; omega)).trans ((hb.out.cell (p := ⟨b, off + k * 3 + 2, none⟩) hbb).trans g2)
              have e3 : ∀ q : Gr wr.heap.size wr, q.val.cell? ⟨gb, go + i, none⟩ = some (.int .u64 (x : Int)) := fun q => (q.is.cell (p := ⟨gb, go + i, none⟩) (by show gb < _; omega)).trans ((hb.out.cell (p := ⟨gb, go + i, none⟩) hgl).trans HGX.out)
              have hiI : (i : Int) < (m : Int) := by omega
              have hnx := nodes_next (ep := ep) hx
              have hrt := fun w => rsright_any t w
              have HRT := Lib.hid hrt
              have HNX := Lib.hid hnx
              clear g0 g1 g2 hx hDb hrt hnx
              cases qf
              case true =>
                have HQ : Hid (SMet true x (nodesOf (l.take (k + 1)) ep)) := by
                  show true = true ↔ _
                  have h := hqf.out.1 rfl
                  rw [HNX.out]
                  split
                  · exact ⟨fun _ => List.mem_append_left _ h, fun _ => rfl⟩
                  · exact ⟨fun _ => h, fun _ => rfl⟩
                go_wp2_with fail
                refine wp_region_grow (by kernel_rfl) (by kernel_rfl) wr.heap.size ?_
                repeat (first | go_big_quiet_step ((go_at_call 14; exact Gr.call _ (Nat.le_refl _) (HRT.out _))) | quiet_step ((go_at_call 14; exact Gr.call _ (Nat.le_refl _) (HRT.out _))))
                refine wpQuiet_nil ?_
                rintro w6 ⟨⟨_, hb6⟩, rfl⟩
                have HB6 := Lib.hid (stepB HBR.out hb6)
                clear e0 e1 e2 e3 hb6
                go_wp2_with fail
                go_roundw
                case rel => exact ⟨k + 1, true, hkn, rfl, by go_num, HQ, HB6⟩
                case measure => simp [intOf]; omega
              case false =>
                have HNQ : Hid (x ∉ nodesOf (l.take k) ep) := fun h => by have := hqf.out.2 h; cases this
                cases hq : seaOk t
                case false =>
                  have HQ : Hid (SMet false x (nodesOf (l.take (k + 1)) ep)) := by
                    show false = true ↔ _
                    rw [HNX.out, if_neg (by unfold sok; rw [hq]; simp)]; exact hqf.out
                  rw [hq] at HRT
                  clear hq
                  go_wp2_with fail
                  refine wp_region_grow (by kernel_rfl) (by kernel_rfl) wr.heap.size ?_
                  repeat (first | go_big_quiet_step ((go_at_call 14; exact Gr.call _ (Nat.le_refl _) (HRT.out _))) | quiet_step ((go_at_call 14; exact Gr.call _ (Nat.le_refl _) (HRT.out _))))
                  refine wpQuiet_nil ?_
                  rintro w6 ⟨⟨_, hb6⟩, rfl⟩
                  have HB6 := Lib.hid (stepB HBR.out hb6)
                  clear e0 e1 e2 e3 hb6
                  go_wp2_with fail
                  go_roundw
                  case rel => exact ⟨k + 1, false, hkn, rfl, by go_num, HQ, HB6⟩
                  case measure => simp [intOf]; omega
                case true =>
                  rw [hq] at HRT
                  by_cases hee : t.1 = ep
                  case neg =>
                    have HQ : Hid (SMet false x (nodesOf (l.take (k + 1)) ep)) := by
                      show false = true ↔ _
                      rw [HNX.out, if_neg (by unfold sok; simp [hee])]; exact hqf.out
                    have hde : ((t.1 : Int) == (ep : Int)) = false := by simp; omega
                    clear hq hee
                    go_wp2_with fail
                    refine wp_region_grow (by kernel_rfl) (by kernel_rfl) wr.heap.size ?_
                    repeat (first | go_big_quiet_step ((go_at_call 14; exact Gr.call _ (Nat.le_refl _) (HRT.out _))) | quiet_step ((go_at_call 14; exact Gr.call _ (Nat.le_refl _) (HRT.out _))))
                    refine wpQuiet_nil ?_
                    rintro w6 ⟨⟨_, hb6⟩, rfl⟩
                    have HB6 := Lib.hid (stepB HBR.out hb6)
                    clear e0 e1 e2 e3 hb6
                    go_wp2_with fail
                    go_roundw
                    case rel => exact ⟨k + 1, false, hkn, rfl, by go_num, HQ, HB6⟩
                    case measure => clear hde; simp [intOf]; omega
                  case pos =>
                    have hde : ((t.1 : Int) == (ep : Int)) = true := by simp; omega
                    have hyes : sok ep t = true := by unfold sok; simp [hee, hq]
                    rw [hyes, if_pos rfl] at HNX
                    clear hq hee hyes
                    by_cases hnn : t.2.1 = x
                    case pos =>
                      have hdn : ((t.2.1 : Int) == (x : Int)) = true := by simp; omega
                      have HQ : Hid (SMet true x (nodesOf (l.take (k + 1)) ep)) := by
                        show true = true ↔ _
                        rw [HNX.out, hnn]; simp
                      clear hnn
                      go_wp2_with fail
                      refine wp_region_grow (by kernel_rfl) (by kernel_rfl) wr.heap.size ?_
                      repeat (first | go_big_quiet_step ((go_at_call 14; exact Gr.call _ (Nat.le_refl _) (HRT.out _))) | quiet_step ((go_at_call 14; exact Gr.call _ (Nat.le_refl _) (HRT.out _))))
                      refine wpQuiet_nil ?_
                      rintro w6 ⟨⟨_, hb6⟩, rfl⟩
                      have HB6 := Lib.hid (stepB HBR.out hb6)
                      clear e0 e1 e2 e3 hb6
                      go_wp2_with fail
                      go_roundw
                      case rel => exact ⟨k + 1, true, hkn, rfl, by go_num, HQ, HB6⟩
                      case measure => clear hde hdn; simp [intOf]; omega
                    case neg =>
                      have hdn : ((t.2.1 : Int) == (x : Int)) = false := by simp; omega
                      have HQ : Hid (SMet false x (nodesOf (l.take (k + 1)) ep)) := by
                        show false = true ↔ _
                        rw [HNX.out, List.mem_append, List.mem_singleton]
                        exact ⟨fun h => (by cases h), fun h => h.elim (fun h => absurd h HNQ.out) (fun e => absurd e.symm hnn)⟩
                      clear hnn
                      go_wp2_with fail
                      refine wp_region_grow (by kernel_rfl) (by kernel_rfl) wr.heap.size ?_
                      repeat (first | go_big_quiet_step ((go_at_call 14; exact Gr.call _ (Nat.le_refl _) (HRT.out _))) | quiet_step ((go_at_call 14; exact Gr.call _ (Nat.le_refl _) (HRT.out _))))
                      refine wpQuiet_nil ?_
                      rintro w6 ⟨⟨_, hb6⟩, rfl⟩
                      have HB6 := Lib.hid (stepB HBR.out hb6)
                      clear e0 e1 e2 e3 hb6
                      go_wp2_with fail
                      go_roundw
                      case rel => exact ⟨k + 1, false, hkn, rfl, by go_num, HQ, HB6⟩
                      case measure => clear hde hdn; simp [intOf]; omega
end
theorem sealTails_any (A : Option Addr) (n c : Nat) (l : List Sea) (ep q : Int) (w : World) (hs : rpSeaN.sl w (lt w.heap.size) A n c l) (he0 : 0 ≤ ep) (he1 : ep ≤ 18446744073709551615) (hq0 : -9223372036854775808 ≤ q) (hq1 : q ≤ 9223372036854775807) :
    Calls Try.prog 5 #[.slice A n c, .int .u64 ep, .int .i64 q] w fun e w' => e = .returned (.bool true) ∧ Below w.heap.size w w' := by
  by_cases hn : 100 < n
  · have hdn : decide ((100 : Int) < (n : Int)) = true := by simp; omega
    have HLV := Lib.hid (slive_any w)
    clear hs
    go_enter Try.func5, Try.ntmps5
    go_wp2_with fail
    refine HLV.out.mono ?_; rintro e w1 ⟨rfl, hb⟩
    go_wp2_with fail
    go_ret
    exact ⟨rfl, hb⟩
  · obtain ⟨x, rfl⟩ : ∃ x : Nat, ep = x := ⟨ep.toNat, by omega⟩
    exact sealTails_short hs (fun k hk => hk) (by omega) (by omega) hq0 hq1
end Go.Proofs.Ytkhomkklamegmaa
