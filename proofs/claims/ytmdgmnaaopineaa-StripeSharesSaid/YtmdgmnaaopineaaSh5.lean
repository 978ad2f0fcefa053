/- The walk of the law StripeShares. -/
import Derived.Test.YtmdgmnaaopineaaSh4
import Derived.Test.YtmdgmnaaopineaaStp4
import Derived.Test.YtmdgmnaaopineaaStp5
import Derived.Test.YtmdgmnaaopineaaStpL
namespace Go.Proofs.Ytmdgmnaaopineaa
open Go.ChangeShapes Go.WideShapes Go.ChangeAt Go.RowKit
set_option linter.unusedVariables false
section
variable {D : Dom} {A : Option Addr} {n c f t x : Nat} {sets : List (List Nat)} {w : World}
set_option maxRecDepth 100000 in
set_option maxHeartbeats 8000000 in
theorem stripeShares_any (hs : (rpSlice rpU64).sl w D A n c sets) (hD : ∀ k, D k → k < w.heap.size) (hf : f ≤ 18446744073709551615) (ht : t ≤ 18446744073709551615) :
    Calls Try.prog 13 #[.agg (stpV f t A n c), .int .u64 (x : Int)] w fun e w' => e = .returned (.bool true) ∧ Below w.heap.size w w' := by
  have hb0 := below1 w (.cells (stpV f t A n c) 31)
  have HS := Lib.hid (keepS (show Sl (rpSlice rpU64) w D A n c sets from ⟨hs, hD⟩) hb0)
  have hlen := (Rp.sl_len hs).1
  have HLV := Lib.hid (fun w => slive_any w)
  have HB := Lib.hid hb0
  have HK := Lib.hid (blk11 w 31 (stpV f t A n c))
  have HN := Lib.hid hlen
  clear hs hD hb0 hlen
  go_enter Try.func13, Try.ntmps13
  go_upto_region 1 with (fail)
  generalize World.alloc w _ = w0 at *
  have k0 := (show Blk w0 w.heap.size 31 _ from HK.out).cell 0
  have k1 := (show Blk w0 w.heap.size 31 _ from HK.out).cell 1
  have k2 := (show Blk w0 w.heap.size 31 _ from HK.out).cell 2
  go_wp2_with fail
  refine (long_any HS.out.1 HS.out.2).mono ?_; rintro e w1 ⟨b, rfl, hlong, hb⟩
  have HS1 := Lib.hid (keepS HS.out hb)
  have HB1 := Lib.hid (stepB HB.out hb)
  have HK1 := Lib.hid (keepB (show Blk w0 w.heap.size 31 _ from HK.out) hb)
  clear k0 k1 k2 hb
  have k0 := HK1.out.cell 0
  have k1 := HK1.out.cell 1
  have k2 := HK1.out.cell 2
  clear hlong
  cases b
  case true =>
    go_wp2_with fail
    refine (HLV.out _).mono ?_; rintro e w9 ⟨rfl, hb⟩
    go_wp2_with fail
    go_ret
    exact ⟨rfl, stepB HB1.out hb⟩
  case false =>
    have hrt := rright_any (f := f) (t := t) HS1.out.1 HS1.out.2 hf ht
    by_cases hok : SOk (f, t, sets)
    case neg =>
      rw [dec_false hok] at hrt
      have HRT := Lib.hid hrt
      clear hrt hok
      go_wp2_with fail
      refine HRT.out.mono ?_; rintro e w2 ⟨rfl, hb2⟩
      go_wp2_with fail
      refine (HLV.out _).mono ?_; rintro e w9 ⟨rfl, hb⟩
      go_wp2_with fail
      go_ret
      exact ⟨rfl, stepB (stepB HB1.out hb2) hb⟩
    case pos =>
      rw [dec_true hok] at hrt
      have HRT := Lib.hid hrt
      have HOK := Lib.hid hok
      have hft : f < t := hok.1
      have ht62 : t ≤ 4611686018427387904 := hok.2.1
      have h1n : 1 ≤ n := by have h : 1 ≤ sets.length := hok.2.2.1; have := HN.out; omega
      have hn8 : n ≤ 8 := by have h : sets.length ≤ 8 := hok.2.2.2.1; have := HN.out; omega
      have HFL := Lib.hid (sok_flat hok)
      clear hrt hok
      go_wp2_with fail
      refine HRT.out.mono ?_; rintro e w2 ⟨rfl, hb2⟩
      have HS2 := Lib.hid (keepS HS1.out hb2)
      have HB2 := Lib.hid (stepB HB1.out hb2)
      have HK2 := Lib.hid (keepB HK1.out hb2)
      clear hb2 k0 k1 k2
      go_upto_region 3 with (fail)
      obtain ⟨a, ha⟩ : ∃ a, t = f + a := ⟨t - f, by omega⟩
      have HSH : Hid (∀ (j : Nat) (u : World), j < n → Below w2.heap.size w2 u → Calls Try.prog 65 #[.agg (stpV f t A n c), .int .i64 (j : Int)] u fun e w' => e = .returned (.int .u64 (((a + n - 1 - j) / n : Nat) : Int)) ∧ Below u.heap.size u w') := fun j u hj hu => by
        have h := share_any (f := f) (t := t) (j : Int) (keepS HS2.out hu).1 (keepS HS2.out hu).2 hf ht
        rw [share_in HOK.out (by show j < sets.length; rw [HN.out]; exact hj)] at h
        dsimp only at h
        rw [HN.out, show t - f = a by omega] at h
        exact h
      have q0 : ∀ q : Gr w2.heap.size w2, q.val.cell? ⟨w.heap.size, 0, none⟩ = some (.int .u64 (f : Int)) := fun q => (q.is.cell (p := ⟨w.heap.size, 0, none⟩) HK2.out.lt).trans (HK2.out.cell 0)
      have q1 : ∀ q : Gr w2.heap.size w2, q.val.cell? ⟨w.heap.size, 1, none⟩ = some (.int .u64 (t : Int)) := fun q => (q.is.cell (p := ⟨w.heap.size, 1, none⟩) HK2.out.lt).trans (HK2.out.cell 1)
      have q2 : ∀ q : Gr w2.heap.size w2, q.val.cell? ⟨w.heap.size, 2, none⟩ = some (.slice A n c) := fun q => (q.is.cell (p := ⟨w.heap.size, 2, none⟩) HK2.out.lt).trans (HK2.out.cell 2)
      have HS0 : Hid (∀ u, Below w2.heap.size w2 u → Calls Try.prog 65 #[.agg (stpV f t A n c), .int .i64 0] u fun e w' => e = .returned (.int .u64 (((a + n - 1 - 0) / n : Nat) : Int)) ∧ Below u.heap.size u w') := fun u hu => HSH.out 0 u (by omega) hu
      have HQ0 := Lib.hid (part_near (a := a) (m := n) (j := 0) (by omega))
      obtain ⟨X0, hX0⟩ : ∃ X0, X0 = (a + n - 1 - 0) / n := ⟨_, rfl⟩
      rw [← hX0] at HS0 HQ0
      clear hX0
      have HTF := Lib.hid ha
      clear ha
      refine wp_region_grow (by kernel_rfl) (by kernel_rfl) w2.heap.size ?_
      repeat (quiet_step ((go_at_call 65; exact Gr.call _ (Nat.le_refl _) (HS0.out _ (Gr.is _)))))
      refine wpQuiet_nil ?_
      rintro w3 ⟨⟨_, hb3⟩, rfl⟩
      have HS3 := Lib.hid (keepS HS2.out hb3)
      have HB3 := Lib.hid (stepB HB2.out hb3)
      have HK3 := Lib.hid (keepB HK2.out hb3)
      have HB23 := Lib.hid hb3
      clear q0 q1 q2 hb3
      go_wp2_with fail
      have HNI : Hid ((a / n : Nat) ≤ 4611686018427387904 ∧ a ≤ 4611686018427387904) := ⟨Nat.le_trans (Nat.div_le_self _ _) (by have := HTF.out; omega), by have := HTF.out; omega⟩
      obtain ⟨Q, hQ⟩ : ∃ Q, Q = a / n := ⟨_, rfl⟩
      rw [← hQ] at HQ0 HNI
      have HQQ := Lib.hid hQ
      clear hQ
      go_loopw [5, 6, 7, 8, 9, 10, 11] (fun v5 v6 v7 v8 v9 v10 v11 wr => ∃ (k S lo hi : Nat) (A5 : Option Addr) (c5 wh : Nat) (mt : Bool), k ≤ n ∧ v5 = .int .u64 (S : Int) ∧ v6 = .int .u64 (lo : Int) ∧ v7 = .int .u64 (hi : Int) ∧ v8 = .slice A5 (all sets k).length c5 ∧ v9 = .int .i64 (wh : Int) ∧ v10 = .bool mt ∧ v11 = .int .i64 (k : Int) ∧ Hid (S = sumTo a n k) ∧ Hid (Q ≤ lo ∧ hi ≤ Q + 1 ∧ lo ≤ Q + 1) ∧ Hid (wr.ownsRow w3.heap.size 22 1 (.slice A5 (all sets k).length c5) (all sets k).length ((all sets k).map uv)) ∧ Hid (AtSet sets x k wh mt) ∧ Hid (Below w3.heap.size w3 wr)) (fun _ _ _ _ _ _ v11 _ => n - (intOf v11).toNat)
      case atStart =>
        exact ⟨0, 0, X0, X0, none, 0, 0, false, Nat.zero_le _, rfl, rfl, rfl, rfl, rfl, rfl, rfl, (by show 0 = _; unfold sumTo; simp), ⟨HQ0.out.1, HQ0.out.2, HQ0.out.2⟩, World.ownsRow_nil _ _ _ _, atSet_zero _ _, Below.refl _ _⟩
      case round =>
        obtain ⟨k, S, lo, hi, A5, c5, wh, mt, hkn', rfl, rfl, rfl, rfl, rfl, rfl, rfl, hS, hlh, hrow, hat, hb⟩ := hrel
        have HKR := Lib.hid (keepB HK3.out hb.out)
        have k0 := HKR.out.cell 0
        have k1 := HKR.out.cell 1
        have k2 := HKR.out.cell 2
        by_cases hkn : k < n
        case pos =>
          have hd : decide (k < n) = true := by simpa using hkn
          have hsh := HSH.out k wr hkn (HB23.out.trans (hb.out.mono HB23.out.size))
          obtain ⟨X, hX⟩ : ∃ X, X = (a + n - 1 - k) / n := ⟨_, rfl⟩
          have hnear := part_near (a := a) hkn
          have hS1 : S + X = sumTo a n (k + 1) := by rw [sumTo_succ hkn, hS.out, hX]
          have hSle : S + X ≤ a := by rw [hS1]; exact sumTo_le (by omega) hkn
          rw [← hX, ← HQQ.out] at hnear
          rw [← hX] at hsh
          have HSX := Lib.hid hsh
          have HS1' := Lib.hid hS1
          have HNE := Lib.hid hnear
          have hw : IntKind.u64.wrap ((S : Int) + (X : Int)) = ((S + X : Nat) : Int) := by have := HNI.out.2; rw [IntWalk.u64_in _ (by omega)]; omega
          clear hsh hX hS1 hSle hnear
          go_wp2_with fail
          refine HSX.out.mono ?_; rintro e w5 ⟨rfl, hb5⟩
          have HBR := Lib.hid (hb.out.trans (hb5.mono hb.out.size))
          have HKR5 := Lib.hid (keepB HKR.out hb5)
          have HROW5 := Lib.hid (keepO hrow.out hb5)
          clear k0 k1 k2 hb5
          have k2 := HKR5.out.cell 2
          go_upto_region 11 with (fail)
          go_cut [6, 7] from 29 to 62 (fun s6 s7 wx => ∃ lo' hi' : Nat, s6 = .int .u64 (lo' : Int) ∧ s7 = .int .u64 (hi' : Int) ∧ wx = w5 ∧ Hid (Q ≤ lo' ∧ hi' ≤ Q + 1 ∧ lo' ≤ Q + 1))
          case first =>
            have e1 := HNE.out
            have e2 := hlh.out
            by_cases g1 : X < lo
            case pos =>
              have d1 : decide ((X : Int) < (lo : Int)) = true := by simp; omega
              have d2 : decide (X < lo) = true := by simpa using g1
              by_cases g2 : hi < X
              case pos =>
                have d3 : decide ((hi : Int) < (X : Int)) = true := by simp; omega
                have d4 : decide (hi < X) = true := by simpa using g2
                go_wp2_with fail
                all_goals (go_meet; first | exact ⟨X, X, rfl, rfl, rfl, by omega, by omega, by omega⟩ | omega)
              case neg =>
                have d3 : decide ((hi : Int) < (X : Int)) = false := by simp; omega
                have d4 : decide (hi < X) = false := by simpa using g2
                go_wp2_with fail
                all_goals (go_meet; first | exact ⟨X, hi, rfl, rfl, rfl, by omega, by omega, by omega⟩ | omega)
            case neg =>
              have d1 : decide ((X : Int) < (lo : Int)) = false := by simp; omega
              have d2 : decide (X < lo) = false := by simpa using g1
              by_cases g2 : hi < X
              case pos =>
                have d3 : decide ((hi : Int) < (X : Int)) = true := by simp; omega
                have d4 : decide (hi < X) = true := by simpa using g2
                go_wp2_with fail
                all_goals (go_meet; first | exact ⟨lo, X, rfl, rfl, rfl, by omega, by omega, by omega⟩ | omega)
              case neg =>
                have d3 : decide ((hi : Int) < (X : Int)) = false := by simp; omega
                have d4 : decide (hi < X) = false := by simpa using g2
                go_wp2_with fail
                all_goals (go_meet; first | exact ⟨lo, hi, rfl, rfl, rfl, by omega, by omega, by omega⟩ | omega)
          case rest =>
            obtain ⟨lo', hi', rfl, rfl, hwx, hlh'⟩ := hcut
            subst hwx
            have HKC := Lib.hid (show Blk wc w.heap.size 31 (stpV f t A n c) from HKR5.out)
            clear k2
            have k2 := HKC.out.cell 2
            obtain ⟨b, off, l, A3, c3, rfl, hbD, hx, hcell, hl⟩ := rows_at (keepS HS3.out HBR.out).1 hkn
            obtain ⟨m, hm⟩ : ∃ m, m = (all sets k).length := ⟨_, rfl⟩
            have hm64 : m ≤ 64 := by rw [hm]; exact Nat.le_trans (all_le sets k) HFL.out
            have HROW6 : Hid (wc.ownsRow w3.heap.size 22 1 (.slice A5 m c5) m ((all sets k).map uv)) := by rw [hm]; exact HROW5.out
            rw [← hm]
            have hl64 : l.length ≤ 64 := by
              have h1 := all_le sets (k + 1)
              rw [all_succ hx, List.length_append] at h1
              have := HFL.out; omega
            have HSR := Lib.hid (Src.u64 hl)
            have HL := Lib.hid (show Sl rpU64 wc _ A3 l.length c3 l from ⟨hl, (keepS HS3.out HBR.out).2⟩)
            have HX := Lib.hid hx
            have HMM := Lib.hid hm
            have hz5 := HBR.out.size
            have hkI : (0 : Int) ≤ (k : Int) := by omega
            have hkI2 : (k : Int) < (n : Int) := by omega
            have hb3lt : b < w3.heap.size := HS3.out.2 b hbD
            have hcb : b < wc.heap.size := (keepS HS3.out HBR.out).2 b hbD
            clear hl hx hbD hm
            go_wp2_with (at_builtin; refine wpList_app rfl (.tmp 48) (.tmp 53) _ rfl elemC8 rfl HROW6.out rfl HSR.out (by unfold maxLen; omega) (by omega) hz5 ?_; intro A6 c6 w6 ho6 hg6 hat6
                         have HO6 := Lib.hid ho6
                         have hb6 : Below w3.heap.size w3 w6 := HBR.out.grown hg6 hz5 (fun q hq => (HROW6.out.lt q hq).1)
                         have HB6 := Lib.hid hb6
                         have HK6 := Lib.hid (keepB HK3.out hb6)
                         have k2 := HK6.out.cell 2
                         have hcell6 := (hb6.cell (p := ⟨b, off + k, none⟩) hb3lt).trans ((HBR.out.cell (p := ⟨b, off + k, none⟩) hb3lt).symm.trans hcell)
                         have HHAS := Lib.hid (has_any x (Rp.sl_keep HL.out.1 (fun q hq => (hb6.block q (HS3.out.2 q hq)).trans (HBR.out.block q (HS3.out.2 q hq)).symm : Same _ wc w6)))
                         clear ho6 hg6 hat6 hb6)
            refine HHAS.out.mono ?_; rintro e w7 ⟨rfl, rfl⟩
            have HLN : Hid ((all sets (k + 1)).length = m + l.length) := by show _ = _; rw [all_succ HX.out, List.length_append, HMM.out]
            have HOO : Hid (w6.ownsRow w3.heap.size 22 1 (.slice A6 (all sets (k + 1)).length c6) (all sets (k + 1)).length ((all sets (k + 1)).map uv)) := by
              show w6.ownsRow _ _ _ _ _ _
              rw [HLN.out, all_succ HX.out, List.map_append]; exact HO6.out
            clear k2 hcell hcell6 hcb hb3lt
            by_cases hm : x ∈ l
            case pos =>
              rw [dec_true hm]
              have HAT := Lib.hid (atSet_yes HX.out hm)
              clear hm
              go_wp2_with fail
              go_roundw
              case rel => exact ⟨k + 1, S + X, lo', hi', A6, c6, k, true, hkn, by go_num, rfl, rfl, by rw [HLN.out], rfl, rfl, by go_num, HS1', hlh', HOO, HAT, HB6⟩
              case measure => clear hw; simp [intOf]; omega
            case neg =>
              rw [dec_false hm]
              have HAT := Lib.hid (atSet_no hat.out HX.out hm)
              clear hm
              go_wp2_with fail
              go_roundw
              case rel => exact ⟨k + 1, S + X, lo', hi', A6, c6, wh, mt, hkn, by go_num, rfl, rfl, by rw [HLN.out], rfl, rfl, by go_num, HS1', hlh', HOO, HAT, HB6⟩
              case measure => clear hw; simp [intOf]; omega
        case neg =>
          have hd : decide (k < n) = false := by simpa using hkn
          obtain rfl : k = n := by omega
          have HF : Hid (all sets k = sets.flatten) := all_full HN.out
          have HSA : Hid (S = a) := by show S = a; rw [hS.out]; exact sumTo_all (by omega)
          obtain ⟨M, hM⟩ : ∃ M, M = (all sets k).length := ⟨_, rfl⟩
          rw [← hM] at hrow
          rw [← hM]
          have HM : Hid (M = (all sets k).length) := hM
          have hM64 : M ≤ 64 := by rw [hM, HF.out]; exact HFL.out
          have hnd := stnodes_any (keepS HS3.out hb.out).1 (keepS HS3.out hb.out).2 HOK.out hf ht
          have HND := Lib.hid hnd
          clear hM hnd
          go_wp2_with fail
          refine HND.out.mono ?_; rintro e w7 ⟨A7, c7, r, rfl, hor, hp, hrs, hb7⟩
          have HRL : Hid (r.length = M) := by show r.length = M; rw [hp.length_eq, HM.out, HF.out]
          rw [HRL.out] at hor
          rw [HRL.out]
          have HOR := Lib.hid hor
          have HPP := Lib.hid hp
          have HRS := Lib.hid hrs
          have HB7 := Lib.hid (hb.out.trans (hb7.mono hb.out.size))
          have HK7 := Lib.hid (keepB HKR.out hb7)
          have HAL := Lib.hid (keepO hrow.out hb7)
          have hst := stset_any (x := x) (keepS HS3.out HB7.out).1 (keepS HS3.out HB7.out).2 HOK.out hf ht
          have HST := Lib.hid hst
          clear k0 k1 k2 hor hp hrs hb7 hst
          have k0 := HK7.out.cell 0
          have k1 := HK7.out.cell 1
          have k2 := HK7.out.cell 2
          go_wp2_with fail
          refine HST.out.mono ?_; rintro e w8 ⟨wh', mt', rfl, hat', hb8⟩
          obtain ⟨ewh, emt⟩ := atSet_unique HOK.out hat' (show AtSet sets x sets.length wh mt by rw [HN.out]; exact hat.out)
          subst ewh; subst emt
          have HB8 := Lib.hid (HB7.out.trans (hb8.mono HB7.out.size))
          have HK8 := Lib.hid (keepB HK7.out hb8)
          have HOR8 := Lib.hid (keepO HOR.out hb8)
          have HAL8 := Lib.hid (keepO HAL.out hb8)
          clear k0 k1 k2 hb8 hat'
          have k0 := HK8.out.cell 0
          have k1 := HK8.out.cell 1
          have k2 := HK8.out.cell 2
          have HLT : Hid (∀ y ∈ sets.flatten, y < 18446744073709551616) := fun y hy => by
            obtain ⟨l, hl, hyl⟩ := List.mem_flatten.1 hy
            obtain ⟨j, hj⟩ := List.getElem?_of_mem hl
            obtain ⟨_, _, l', A4, c4, _, _, hx, _, hl4⟩ := rows_at HS3.out.1 (k := j) (by have := (List.getElem?_eq_some_iff.1 hj).1; have := HN.out; omega)
            rw [hj] at hx
            injection hx with hx
            subst hx
            exact u64_lt hl4 y hyl
          have HR8 : Hid (Sl rpU64 w8 (fun k => some k = (Value.slice A7 M c7).ownBlock) A7 M c7 r) := ⟨own_u64 HOR8.out (fun y hy => HLT.out y (HPP.out.mem_iff.1 hy)), own_dom HOR8.out⟩
          have HA8 : Hid (Sl rpU64 w8 (fun k => some k = (Value.slice A5 M c5).ownBlock) A5 M c5 (all sets k)) := ⟨own_u64 HAL8.out (fun y hy => HLT.out y (by rw [← HF.out]; exact hy)), own_dom HAL8.out⟩
          have hri := rises_ref HR8.out.1 HR8.out.2
          rw [dec_true HRS.out] at hri
          have HRI := Lib.hid hri
          have q1 : ((S : Int) != IntKind.u64.wrap ((t : Int) - (f : Int))) = false := by
            have h1 := HSA.out; have h2 := HTF.out
            rw [IntWalk.u64_in _ (by omega)]; simp; omega
          have q1' : IntKind.u64.wrap ((t : Int) - (f : Int)) = (S : Int) := by
            have h1 := HSA.out; have h2 := HTF.out
            rw [IntWalk.u64_in _ (by omega)]; omega
          have hlo := hlh.out
          have hq62 := HNI.out.1
          have q2 : IntKind.u64.wrap ((lo : Int) + 1) = ((lo + 1 : Nat) : Int) := by rw [IntWalk.u64_in _ (by omega)]; omega
          have q3 : decide (((lo + 1 : Nat) : Int) < (hi : Int)) = false := by simp; omega
          have q4 : decide (lo + 1 < hi) = false := by simp; omega
          have q5 : decide ((lo : Int) + 1 < (hi : Int)) = false := by simp; omega
          clear hri hlo hq62
          cases mt'
          all_goals
            go_wp2_with fail
            refine HRI.out.mono ?_; rintro e w9 ⟨rfl, hb9⟩
            have HR9 := Lib.hid (keepS HR8.out hb9)
            have HA9 := Lib.hid (keepS HA8.out hb9)
            have HB9 := Lib.hid (stepB HB3.out (HB8.out.trans (hb9.mono HB8.out.size)))
            clear k0 k1 k2 hb9 q1 q1' q2 q3 q4 q5
            go_wp2_with fail
            go_loopw [16] (fun vi wr => ∃ j : Nat, j ≤ M ∧ vi = .int .i64 (j : Int) ∧ wr = w9) (fun vi _ => M - (intOf vi).toNat)
            case atStart => exact ⟨0, Nat.zero_le _, rfl, rfl⟩
            case round =>
              obtain ⟨j, hjM', rfl, hw⟩ := hrel
              subst hw
              by_cases hjM : j < M
              case pos =>
                have hd2 : decide (j < M) = true := by simpa using hjM
                obtain ⟨b, off, y, hA, hDb, hy, gy, _⟩ := u64_at HA9.out.1 hjM
                have hmem : y ∈ r := by
                  have h := List.mem_of_getElem? hy
                  rw [HF.out] at h
                  exact HPP.out.mem_iff.2 h
                have hh := has_any y HR9.out.1
                rw [dec_true hmem] at hh
                have HH := Lib.hid hh
                have hj0 : (0 : Int) ≤ (j : Int) := by omega
                have hj1 : (j : Int) < (M : Int) := by omega
                subst hA
                clear hy hDb hmem hh
                go_wp2_with fail
                refine HH.out.mono ?_; rintro e w10 ⟨rfl, rfl⟩
                go_wp2_with fail
                go_roundw
                case rel => exact ⟨j + 1, hjM, by go_num, trivial⟩
                case measure => simp [intOf]; omega
              case neg =>
                have hd2 : decide (j < M) = false := by simpa using hjM
                obtain rfl : j = M := by omega
                go_wp2_with fail
                refine (HLV.out _).mono ?_; rintro e w10 ⟨rfl, hb10⟩
                go_wp2_with fail
                go_ret
                exact ⟨rfl, stepB HB9.out hb10⟩
end
end Go.Proofs.Ytmdgmnaaopineaa
