/- The document's Chained. -/
import Derived.Test.YtcbmnfjbmkpfiaaPkCf
import Derived.Test.YtcbmnfjbmkpfiaaPkCm
import Derived.Test.YtcbmnfjbmkpfiaaPkK
namespace Go.Proofs.Ytcbmnfjbmkpfiaa
open Go.ChangeShapes Go.WideShapes Go.ChangeAt Go.RowKit
set_option linter.unusedVariables false
theorem near_hit {b s j : Nat} {es : List Ent} {e : Ent} {y : Lnk} (he : es[j]? = some e) (hy : e.1[idxOf e.1 s]? = some y) : nearE b es s (j + 1) = some (extL y (posN b j)).2 := by
  rw [nearE, he]
  simp only
  rw [← fnd_find, hy]
theorem near_miss {b s j : Nat} {es : List Ent} {e : Ent} (he : es[j]? = some e) (hy : ¬ idxOf e.1 s < e.1.length) : nearE b es s (j + 1) = nearE b es s j := by
  rw [nearE, he]
  simp only
  rw [← fnd_find, List.getElem?_eq_none (by omega)]
theorem idx_key {l : List Lnk} {s : Nat} {x : Lnk} (h : l[idxOf l s]? = some x) : x.1 = s := by
  rw [fnd_find] at h
  have := List.find?_some h
  exact beq_iff_eq.1 this
section
variable {D : Dom} {A : Option Addr} {n c ep b : Nat} {es : List Ent} {w : World}
set_option maxRecDepth 100000 in
set_option maxHeartbeats 8000000 in
theorem rchained_any (hs : rpEnt.sl w D A n c es) (hD : ∀ k, D k → k < w.heap.size) (hC : CBd es) (hT : totL es ≤ 100000) (he : ep ≤ 18446744073709551615) (hb : b ≤ 18446744073709551615) :
    Calls Try.prog 18 #[.agg (batV ep b A n c)] w fun e w' => e = .returned (.bool (chG ep b es)) ∧ Below w.heap.size w w' := by
  have hb1 := below1 w (.cells (batV ep b A n c) 25)
  have HB1 := Lib.hid hb1
  have K1 := Lib.hid (blk11 w 25 (batV ep b A n c))
  have HS1 := Lib.hid (keepS (show Sl rpEnt w D A n c es from ⟨hs, hD⟩) hb1)
  have HN := Lib.hid (Rp.sl_len hs).1
  have HC := Lib.hid hC
  have hn30 : n ≤ 30 := by rw [← HN.out]; exact hC.1
  have HT := Lib.hid hT
  have HHE := Lib.hid he
  have HHB := Lib.hid hb
  obtain ⟨r, hr⟩ : ∃ r, chG ep b es = r := ⟨_, rfl⟩
  rw [hr]
  have HR : Hid (r = true ↔ BatOk ep b es ∧ ChOk (lkB b 0 es)) := by
    show _ ↔ _
    rw [← hr]; exact chG_iff
  obtain ⟨q, hq⟩ : ∃ q, dec (BatOk ep b es) = q := ⟨_, rfl⟩
  have HQ := Lib.hid hq
  clear hs hD hb1 hC hT he hb hr hq
  go_enter Try.func18, Try.ntmps18
  go_upto_region 1 with (fail)
  obtain ⟨gz, hgz⟩ : ∃ gz, gz = w.heap.size := ⟨_, rfl⟩
  rw [← hgz] at K1 ⊢
  have HGZ := Lib.hid hgz
  clear hgz
  generalize World.alloc w _ = w1 at *
  have k0 := (show Blk w1 gz 25 (batV ep b A n c) from K1.out).cell 0
  have k1 := (show Blk w1 gz 25 (batV ep b A n c) from K1.out).cell 1
  have k2 := (show Blk w1 gz 25 (batV ep b A n c) from K1.out).cell 2
  have hbr := rbright_any (ep := ep) (b := b) HS1.out.1 HS1.out.2 (by omega) HT.out HHE.out HHB.out
  rw [HQ.out] at hbr
  have HBR := Lib.hid hbr
  clear hbr
  go_wp2_with fail
  refine HBR.out.mono ?_; rintro e w2 ⟨rfl, hb2⟩
  have HB2 := Lib.hid (stepB HB1.out hb2)
  have K2 := Lib.hid (keepB (show Blk w1 gz 25 (batV ep b A n c) from K1.out) hb2)
  have S2 := Lib.hid (keepS HS1.out hb2)
  clear hb2 k0 k1 k2
  cases q
  case false =>
    have hrf : r = false := by
      rw [Bool.eq_false_iff]
      intro h
      exact of_not_dec HQ.out (HR.out.1 h).1
    subst hrf
    go_wp2_with fail
    go_ret
    exact ⟨rfl, HB2.out⟩
  case true =>
  have hbo := of_dec HQ.out
  have HBO := Lib.hid hbo
  have HUP : Hid (∀ e ∈ es, UpTo e.1 e.1.length) := fun e he => by
    obtain ⟨i, hi⟩ := List.getElem?_of_mem he
    exact (hbo.2.2 i e hi).2.1
  have hbn : b + n ≤ 4611686018427387904 := by have := hbo.2.1.2.2.2; have := HN.out; omega
  clear hbo
  go_wp2_with fail
  go_loopw [3] (fun v3 wr => ∃ (i : Nat), i ≤ n ∧ v3 = .int .i64 (i : Int) ∧ Hid (ChOk (lkB b 0 (es.take i))) ∧ Hid (Blk wr gz 25 (batV ep b A n c)) ∧ Hid (Sl rpEnt wr D A n c es) ∧ Hid (Below w.heap.size w wr)) (fun v3 _ => n - (intOf v3).toNat)
  case atStart => exact ⟨0, by omega, rfl, chOk_nil, K2.out, S2.out, HB2.out⟩
  case round =>
    clear K1 HS1 HB1 HBR K2 S2 HB2
    obtain ⟨i, hi, rfl, hch, hk1, hsl, hbel⟩ := hrel
    have z2 := (show Blk wr gz 25 (batV ep b A n c) from hk1.out).cell 2
    by_cases hin : i < n
    case neg =>
      obtain rfl : i = n := by omega
      have hd : decide ((i : Int) < (i : Int)) = false := by simp
      have hrt : r = true := by
        refine HR.out.2 ⟨HBO.out, ?_⟩
        have h := hch.out
        rw [List.take_of_length_le (by have := HN.out; omega)] at h
        exact h
      subst hrt
      go_wp2_with fail
      go_ret
      exact ⟨rfl, hbel.out⟩
    case pos =>
      have hd : decide ((i : Int) < (n : Int)) = true := by simp; omega
      have hiI : (0 : Int) ≤ (i : Int) := by omega
      have hiI2 : (i : Int) < (n : Int) := by omega
      obtain ⟨x, hx⟩ : ∃ x, es[i]? = some x := ⟨_, List.getElem?_eq_getElem (by have := HN.out; omega)⟩
      obtain ⟨xL, xd⟩ := x
      have HX := Lib.hid hx
      obtain ⟨xn, hxn⟩ : ∃ xn, xn = xL.length := ⟨_, rfl⟩
      have HXN := Lib.hid hxn
      have hxn50 : xn ≤ 50 := by rw [hxn]; exact (HC.out.2 _ (List.mem_of_getElem? hx)).1
      clear hx hxn
      have HC0 : Hid (ChOk (lkB b 0 (es.take i) ++ (xL.take 0).map (fun x => (posN b i, x)))) := by
        show ChOk _
        rw [List.take_zero, List.map_nil, List.append_nil]
        exact hch.out
      clear hch
      go_wp2_with fail
      obtain ⟨ws, hws⟩ : ∃ ws, ws = wr := ⟨_, rfl⟩
      subst hws
      clear z2
      go_loopw [4] (fun v4 wr => ∃ (k : Nat), k ≤ xn ∧ v4 = .int .i64 (k : Int) ∧ Hid (ChOk (lkB b 0 (es.take i) ++ (xL.take k).map (fun x => (posN b i, x)))) ∧ Hid (Blk wr gz 25 (batV ep b A n c)) ∧ Hid (Sl rpEnt wr D A n c es) ∧ Hid (Below w.heap.size w wr)) (fun v4 _ => xn - (intOf v4).toNat)
      case atStart => exact ⟨0, by omega, rfl, HC0.out, hk1.out, hsl.out, hbel.out⟩
      case round =>
        clear hk1 hsl hbel HC0
        obtain ⟨k, hk, rfl, hch, hk1, hsl, hbel⟩ := hrel
        have hsr := hsl.out
        obtain ⟨bo, off, x, A3, c3, B3, d3, rfl, hbD, hx, g0, g1, hrow, hdat⟩ := ent_at hsr.1 hin
        rw [HX.out] at hx
        injection hx with hx
        subst hx
        simp only at g0 g1 hrow
        rw [← HXN.out] at g0 hrow
        have HDB := Lib.hid (hsr.2 _ hbD)
        have z2 := (show Blk wr gz 25 (batV ep b (some ⟨bo, off, none⟩) n c) from hk1.out).cell 2
        clear g1 hdat
        by_cases hkn : k < xn
        case neg =>
          obtain rfl : k = xn := by omega
          have hd2 : decide ((k : Int) < (k : Int)) = false := by simp
          have HE : Hid (ChOk (lkB b 0 (es.take (i + 1)))) := by
            have h := hch.out
            rw [List.take_of_length_le (l := xL) (by have := HXN.out; omega)] at h
            show ChOk _
            rw [lkB_take HX.out]; exact h
          clear hrow hbD hsr
          go_wp2_with fail
          go_roundw
          case rel => exact ⟨i + 1, by omega, by go_num, HE, hk1, hsl, hbel⟩
          case measure => simp [intOf]; omega
        case pos =>
          have hd2 : decide ((k : Int) < (xn : Int)) = true := by simp; omega
          have hkI : (0 : Int) ≤ (k : Int) := by omega
          have hkI2 : (k : Int) < (xn : Int) := by omega
          obtain ⟨bo2, off2, y, A4, c4, rfl, hyD, hy, q0, q1, hyr, hy64⟩ := lnk_at hrow hkn
          obtain ⟨ys, yl⟩ := y
          simp only at q0 q1 hyr hy64
          have HY := Lib.hid hy
          obtain ⟨yn, hyn⟩ : ∃ yn, yn = yl.length := ⟨_, rfl⟩
          rw [← hyn] at q1 hyr
          have hba := below1 wr (.cells (lkV ys A4 yn c4) 57)
          have HBA := Lib.hid (stepB hbel.out hba)
          have KY := Lib.hid (blk11 wr 57 (lkV ys A4 yn c4))
          have KZ := Lib.hid (keepB (show Blk wr gz 25 (batV ep b (some ⟨bo, off, none⟩) n c) from hk1.out) hba)
          have SE := Lib.hid (keepS hsl.out hba)
          have SY := Lib.hid (keepS (show Sl rpU64 wr D A4 yn c4 yl from ⟨hyr, hsr.2⟩) hba)
          clear hyr hy hyD hrow hyn hba hbD hsr hk1 hsl hbel
          go_upto_region 10 with (fail)
          obtain ⟨gy, hgy⟩ : ∃ gy, gy = wr.heap.size := ⟨_, rfl⟩
          rw [← hgy] at KY ⊢
          clear hgy g0 q0 q1 z2
          obtain ⟨wt, hwt⟩ : ∃ wt, wt = wr := ⟨_, rfl⟩
          subst hwt
          generalize World.alloc wt _ = w4 at *
          go_wp2_with fail
          go_loopw [6] (fun v6 wr => ∃ (m : Nat), m ≤ i ∧ v6 = .int .i64 ((m : Int) - 1) ∧ Hid (nearE b es ys i = nearE b es ys m) ∧ Hid (Blk wr gz 25 (batV ep b (some ⟨bo, off, none⟩) n c)) ∧ Hid (Blk wr gy 57 (lkV ys A4 yn c4)) ∧ Hid (Sl rpEnt wr D (some ⟨bo, off, none⟩) n c es) ∧ Hid (Sl rpU64 wr D A4 yn c4 yl) ∧ Hid (Below w.heap.size w wr)) (fun v6 _ => (intOf v6 + 1).toNat)
          case atStart => exact ⟨i, by omega, by go_num, rfl, KZ.out, KY.out, SE.out, SY.out, HBA.out⟩
          case round =>
            clear KZ KY SE SY HBA
            obtain ⟨m, hm, rfl, hnear, hk1, hky, hsl, hsy, hbel⟩ := hrel
            rcases m with _ | j
            case zero =>
              have hd3 : decide ((-1 : Int) ≥ 0) = false := by decide
              have HE : Hid (ChOk (lkB b 0 (es.take i) ++ (xL.take (k + 1)).map (fun x => (posN b i, x)))) :=
                (ch_step HUP.out HX.out HY.out).2 ⟨hch.out, fun l hl => by
                  have h := hnear.out
                  rw [nearE] at h
                  rw [h] at hl
                  cases hl⟩
              go_wp2_with fail
              go_roundw
              case rel => exact ⟨k + 1, by omega, by go_num, HE, hk1, hsl, hbel⟩
              case measure => simp [intOf]; omega
            case succ =>
              rw [show (((j + 1 : Nat) : Int) - 1) = (j : Int) by omega]
              have hd3 : decide ((j : Int) ≥ 0) = true := by simp
              have hjI : (0 : Int) ≤ (j : Int) := by omega
              have hjI2 : (j : Int) < (n : Int) := by omega
              obtain ⟨bo', off', x, A5, c5, B5, d5, hA', hbD, hx, g0, g1, hrow, hdat⟩ := ent_at hsl.out.1 (show j < n by omega)
              injection hA' with hA'
              injection hA' with e1 e2 _
              subst e1; subst e2
              obtain ⟨eL, ed⟩ := x
              have HEJ := Lib.hid hx
              simp only at g0 g1 hrow
              obtain ⟨en, hen⟩ : ∃ en, en = eL.length := ⟨_, rfl⟩
              rw [← hen] at g0 hrow
              have HEN := Lib.hid hen
              have hen50 : en ≤ 50 := by rw [hen]; exact (HC.out.2 _ (List.mem_of_getElem? hx)).1
              have HROW := Lib.hid (show Sl rpLnk wr D A5 en c5 eL from ⟨hrow, hsl.out.2⟩)
              have z2 := (show Blk wr gz 25 (batV ep b (some ⟨bo, off, none⟩) n c) from hk1.out).cell 2
              have y0 := (show Blk wr gy 57 (lkV ys A4 yn c4) from hky.out).cell 0
              have G0 := Lib.hid g0
              have HDJ := Lib.hid (hsl.out.2 _ hbD)
              clear hbD hx g1 hrow hdat hen
              go_upto_region 13 with (fail)
              obtain ⟨R, hR⟩ : ∃ R, rfI eL ys = R := ⟨_, rfl⟩
              have HRR := Lib.hid hR
              clear hR
              go_cut [7] (fun v7 wx => v7 = .int .i64 R ∧ Hid (Below wr.heap.size wr wx))
              case first =>
                have hbe : Below wr.heap.size wr wr.drew := (Below.refl _ wr).drew
                have z2d := (hbe.cell (p := ⟨gz, 2, none⟩) (show Blk wr gz 25 _ from hk1.out).lt).trans z2
                have y0d := (hbe.cell (p := ⟨gy, 0, none⟩) (show Blk wr gy 57 _ from hky.out).lt).trans y0
                have g0d := (hbe.cell (p := ⟨bo, off + j * 2, none⟩) HDJ.out).trans g0
                have HSD := Lib.hid (keepS HROW.out hbe)
                have HBE := Lib.hid hbe
                have hfi := rfind_any (s := ys) HSD.out.1 HSD.out.2 (by omega) hy64
                rw [HRR.out] at hfi
                have HFI := Lib.hid hfi
                clear hbe hfi
                go_region_held3 (fun w' => w'.cell? ⟨gz, 2, none⟩ = some (.slice (some ⟨bo, off, none⟩) n c) ∧ w'.cell? ⟨gy, 0, none⟩ = some (.int .u64 (ys : Int)) ∧ w'.cell? ⟨bo, off + j * 2, none⟩ = some (.slice A5 en c5))
                  (first | exact ⟨z2, y0, g0⟩ | exact ⟨z2d, y0d, g0d⟩ | exact ⟨u0, u1, u2⟩)
                  ((go_at_call 41
                    refine (HFI.out).mono ?_
                    rintro e w7 ⟨rfl, hb7⟩
                    have HB7 := Lib.hid (stepB HBE.out hb7)
                    have u0 := (HB7.out.cell (p := ⟨gz, 2, none⟩) (show Blk wr gz 25 _ from hk1.out).lt).trans z2
                    have u1 := (HB7.out.cell (p := ⟨gy, 0, none⟩) (show Blk wr gy 57 _ from hky.out).lt).trans y0
                    have u2 := (HB7.out.cell (p := ⟨bo, off + j * 2, none⟩) HDJ.out).trans g0
                    clear hb7))
                go_wp2_with fail
                go_meet
                exact ⟨rfl, HB7⟩
              case rest =>
              obtain ⟨rfl, HB7⟩ := hcut
              obtain ⟨w7, hw7⟩ : ∃ w7, w7 = wc := ⟨_, rfl⟩
              subst hw7
              have K7 := Lib.hid (keepB (show Blk wr gz 25 (batV ep b (some ⟨bo, off, none⟩) n c) from hk1.out) HB7.out)
              have Y7 := Lib.hid (keepB (show Blk wr gy 57 (lkV ys A4 yn c4) from hky.out) HB7.out)
              have S7 := Lib.hid (keepS hsl.out HB7.out)
              have SY7 := Lib.hid (keepS hsy.out HB7.out)
              have RO7 := Lib.hid (keepS HROW.out HB7.out)
              have G7 := Lib.hid ((HB7.out.cell (p := ⟨bo, off + j * 2, none⟩) HDJ.out).trans G0.out)
              have HB70 := Lib.hid (stepB hbel.out HB7.out)
              have HDJ7 := Lib.hid (Nat.lt_of_lt_of_le HDJ.out HB7.out.size)
              clear hk1 hky hsl hsy hbel g0 z2 y0 G0 HROW HB7
              by_cases hfound : idxOf eL ys < en
              case neg =>
                have hR1 : R = -1 := by
                  rw [← HRR.out]; unfold rfI; rw [if_neg (by rw [← HEN.out]; exact hfound)]
                subst hR1
                have HNE : Hid (nearE b es ys i = nearE b es ys j) := hnear.out.trans (near_miss HEJ.out (by show ¬ _ < eL.length; rw [← HEN.out]; exact hfound))
                go_wp2_with fail
                go_roundw
                case rel => exact ⟨j, by omega, by go_num, HNE, K7, Y7, S7, SY7, HB70⟩
                case measure => first | (simp [intOf]; done) | (simp [intOf]; omega)
              case pos =>
                obtain ⟨ri, hri⟩ : ∃ ri, ri = idxOf eL ys := ⟨_, rfl⟩
                have hR1 : R = (ri : Int) := by
                  rw [← HRR.out]; unfold rfI; rw [if_pos (by rw [← HEN.out]; exact hfound), hri]
                subst hR1
                rw [← hri] at hfound
                have hd4 : decide ((ri : Int) < 0) = false := by simp
                obtain ⟨bo5, off5, y2, A6, c6, rfl, hyD, hy2, q0, q1, hyr2, hy264⟩ := lnk_at RO7.out.1 hfound
                obtain ⟨ys2, yl2⟩ := y2
                simp only at q0 q1 hyr2 hy264
                have hys : ys2 = ys := idx_key (l := eL) (s := ys) (x := (ys2, yl2)) (by rw [← hri]; exact hy2)
                subst hys
                have HNH : Hid (nearE b es ys2 (j + 1) = some (extL (ys2, yl2) (posN b j)).2) := near_hit HEJ.out (by rw [← hri]; exact hy2)
                obtain ⟨p, hp⟩ : ∃ p, p = posN b j := ⟨_, rfl⟩
                rw [← hp] at HNH
                have hpe : p = b + j := by rw [hp]; unfold posN; omega
                have HP := Lib.hid hpe
                have hiw : IntKind.u64.wrap (j : Int) = (j : Int) := IntWalk.u64_in _ (by omega)
                have hpw : IntKind.u64.wrap ((b : Int) + (j : Int)) = (p : Int) := by rw [IntWalk.u64_in _ (by omega)]; omega
                obtain ⟨n6, hn6⟩ : ∃ n6, n6 = yl2.length := ⟨_, rfl⟩
                rw [← hn6] at q1 hyr2
                have HN6 := Lib.hid (show n6 ≤ 1000 by rw [hn6]; exact (HC.out.2 _ (List.mem_of_getElem? HEJ.out)).2 _ (List.mem_of_getElem? hy2))
                have HYR := Lib.hid (show Sl rpU64 w7 D A6 n6 c6 yl2 from ⟨hyr2, RO7.out.2⟩)
                have HDY := Lib.hid (RO7.out.2 _ hyD)
                have hp62 : p ≤ 4611686018427387904 := by omega
                clear hyr2 hy2 hyD hn6 hp hpe hri
                have z1 := (show Blk w7 gz 25 (batV ep b (some ⟨bo, off, none⟩) n c) from K7.out).cell 1
                have z2 := (show Blk w7 gz 25 (batV ep b (some ⟨bo, off, none⟩) n c) from K7.out).cell 2
                have g0 : w7.cell? ⟨bo, off + j * 2, none⟩ = some (.slice (some ⟨bo5, off5, none⟩) en c5) := G7.out
                go_upto_region 15 with (fail)
                go_cut [8] (fun v8 wx => ∃ (gw : Nat) (A9 : Option Addr) (n9 c9 : Nat), v8 = .pointer (some ⟨gw, 0, none⟩) ∧ Hid (Blk wx gw 57 (lkV ys2 A9 n9 c9)) ∧ Hid (Row64 wx w7.heap.size A9 n9 c9 (extL (ys2, yl2) p).2) ∧ Hid (Below w7.heap.size w7 wx))
                case first =>
                  have hbe : Below w7.heap.size w7 w7.drew := (Below.refl _ w7).drew
                  have hba : Below w7.heap.size w7 (w7.drew.alloc (.cells #[.int .u64 0, .slice none 0 0] 57)) := hbe.alloc (Nat.le_refl _) _
                  have HLAY : Hid (∀ u, Below w7.heap.size w7 u → u.cell? ⟨gz, 2, none⟩ = some (.slice (some ⟨bo, off, none⟩) n c) ∧ u.cell? ⟨gz, 1, none⟩ = some (.int .u64 (b : Int)) ∧ u.cell? ⟨bo, off + j * 2, none⟩ = some (.slice (some ⟨bo5, off5, none⟩) en c5) ∧ u.cell? ⟨bo5, off5 + ri * 2, none⟩ = some (.int .u64 (ys2 : Int)) ∧ u.cell? ⟨bo5, off5 + ri * 2 + 1, none⟩ = some (.slice A6 n6 c6)) := fun u hu =>
                    ⟨(hu.cell (p := ⟨gz, 2, none⟩) (show Blk w7 gz 25 _ from K7.out).lt).trans z2, (hu.cell (p := ⟨gz, 1, none⟩) (show Blk w7 gz 25 _ from K7.out).lt).trans z1, (hu.cell (p := ⟨bo, off + j * 2, none⟩) HDJ7.out).trans g0, (hu.cell (p := ⟨bo5, off5 + ri * 2, none⟩) HDY.out).trans q0, (hu.cell (p := ⟨bo5, off5 + ri * 2 + 1, none⟩) HDY.out).trans q1⟩
                  have HS1 := Lib.hid (keepS HYR.out hbe)
                  have HS2 := Lib.hid (keepS HYR.out hba)
                  have HX1 := Lib.hid (rextend_any (s := ys2) (p := p) HS1.out.1 HS1.out.2 (by have := HN6.out; omega) (by omega))
                  have HX2 := Lib.hid (rextend_any (s := ys2) (p := p) HS2.out.1 HS2.out.2 (by have := HN6.out; omega) (by omega))
                  have HBE := Lib.hid hbe
                  have HBA := Lib.hid hba
                  have t0 := HLAY.out _ (Below.refl _ w7)
                  have t1 := HLAY.out _ hbe
                  have t2 := HLAY.out _ hba
                  clear hbe hba
                  go_region_held3 (fun w' => w'.cell? ⟨gz, 2, none⟩ = some (.slice (some ⟨bo, off, none⟩) n c) ∧ w'.cell? ⟨gz, 1, none⟩ = some (.int .u64 (b : Int)) ∧ w'.cell? ⟨bo, off + j * 2, none⟩ = some (.slice (some ⟨bo5, off5, none⟩) en c5) ∧ w'.cell? ⟨bo5, off5 + ri * 2, none⟩ = some (.int .u64 (ys2 : Int)) ∧ w'.cell? ⟨bo5, off5 + ri * 2 + 1, none⟩ = some (.slice A6 n6 c6))
                    (first | exact t0 | exact t1 | exact t2 | exact t3 | exact t4 | exact t5)
                    (first
                     | (go_at_call 43
                        with_reducible refine (HX1.out).mono ?_
                        rintro e w8 ⟨A9, n9, c9, rfl, hr9, hb9⟩
                        have HB9 := Lib.hid (stepB HBE.out hb9)
                        have HR9 := Lib.hid hr9
                        have t3 := HLAY.out _ HB9.out
                        have t4 := HLAY.out _ (stepB HB9.out (below1 w8 (.cells #[.int .u64 0, .slice none 0 0] 57)))
                        have t5 := HLAY.out _ (stepB HB9.out (below1 w8 (.cells (lkV ys2 A9 n9 c9) 57)))
                        have hw1 := below1 w8 (.cells (lkV ys2 A9 n9 c9) 57)
                        have HFIN := Lib.hid (And.intro (blk11 w8 57 (lkV ys2 A9 n9 c9)) (And.intro (Row64.below (Row64.lo hr9 HBE.out.size) hw1) (stepB HB9.out hw1)))
                        clear hb9 hr9 hw1)
                     | (go_at_call 43
                        refine (HX2.out).mono ?_
                        rintro e w8 ⟨A9, n9, c9, rfl, hr9, hb9⟩
                        have HB9 := Lib.hid (stepB HBA.out hb9)
                        have K9 := Lib.hid (keepB (show Blk (w7.drew.alloc (.cells #[.int .u64 0, .slice none 0 0] 57)) w7.heap.size 57 #[.int .u64 0, .slice none 0 0] from Blk.new w7.drew _ _) hb9)
                        have p0 := (show Blk w8 w7.heap.size 57 #[.int .u64 0, .slice none 0 0] from K9.out).cell 0
                        have p1 := (show Blk w8 w7.heap.size 57 #[.int .u64 0, .slice none 0 0] from K9.out).cell 1
                        have pf0 := (show Blk w8 w7.heap.size 57 #[.int .u64 0, .slice none 0 0] from K9.out).frozen 0
                        have pf1 := (show Blk w8 w7.heap.size 57 #[.int .u64 0, .slice none 0 0] from K9.out).frozen 1
                        have HR9 := Lib.hid hr9
                        have t3 := HLAY.out _ HB9.out
                        have kk1 : Blk (w8.setCell ⟨w7.heap.size, 0, none⟩ (.int .u64 (ys2 : Int))) w7.heap.size 57 #[.int .u64 (ys2 : Int), .slice none 0 0] := (show Blk w8 w7.heap.size 57 #[.int .u64 0, .slice none 0 0] from K9.out).put 0 _
                        have kk2 : Blk ((w8.setCell ⟨w7.heap.size, 0, none⟩ (.int .u64 (ys2 : Int))).setCell ⟨w7.heap.size, 1, none⟩ (.slice A9 n9 c9)) w7.heap.size 57 (lkV ys2 A9 n9 c9) := kk1.put 1 _
                        have bb2 : Below w7.heap.size w7 ((w8.setCell ⟨w7.heap.size, 0, none⟩ (.int .u64 (ys2 : Int))).setCell ⟨w7.heap.size, 1, none⟩ (.slice A9 n9 c9)) := (HB9.out.setCell (p := ⟨w7.heap.size, 0, none⟩) (Nat.le_refl _) _).setCell (p := ⟨w7.heap.size, 1, none⟩) (Nat.le_refl _) _
                        have t5 := HLAY.out _ bb2
                        have HFIN := Lib.hid (And.intro kk2 (And.intro (Row64.put (Row64.put (Row64.lo hr9 HBA.out.size) (show Blk w8 w7.heap.size 57 _ from K9.out) (by decide) (a := ⟨w7.heap.size, 0, none⟩) rfl (.int .u64 (ys2 : Int))) kk1 (by decide) (a := ⟨w7.heap.size, 1, none⟩) rfl (.slice A9 n9 c9)) bb2))
                        clear hb9 hr9 kk1 kk2 bb2))
                  all_goals
                    go_wp2_with fail
                    go_meet
                    obtain ⟨f1, f2, f3⟩ := HFIN.out
                    exact ⟨_, A9, n9, c9, rfl, f1, f2, f3⟩
                case rest =>
                obtain ⟨gw, A9, n9, c9, rfl, KW, RW9, HB9⟩ := hcut
                obtain ⟨w9, hw9⟩ : ∃ w9, w9 = wc := ⟨_, rfl⟩
                subst hw9
                have K9 := Lib.hid (keepB (show Blk w7 gz 25 (batV ep b (some ⟨bo, off, none⟩) n c) from K7.out) HB9.out)
                have Y9 := Lib.hid (keepB (show Blk w7 gy 57 (lkV ys2 A4 yn c4) from Y7.out) HB9.out)
                have S9 := Lib.hid (keepS S7.out HB9.out)
                have SY9 := Lib.hid (keepS SY7.out HB9.out)
                have HB90 := Lib.hid (stepB HB70.out HB9.out)
                have e1 := (show Blk w9 gw 57 (lkV ys2 A9 n9 c9) from KW.out).cell 1
                have e2 := (show Blk w9 gy 57 (lkV ys2 A4 yn c4) from Y9.out).cell 1
                have hsm := same5_any RW9.out.rd SY9.out.1 (fun k hk => hk) SY9.out.2
                obtain ⟨sm, hsme⟩ : ∃ sm, dec ((extL (ys2, yl2) p).2 = yl) = sm := ⟨_, rfl⟩
                rw [hsme] at hsm
                have HSME := Lib.hid hsme
                have HSM := Lib.hid hsm
                clear hsm hsme z1 z2 g0 q0 q1
                go_wp2_with fail
                refine HSM.out.mono ?_; rintro e w10 ⟨rfl, hb10⟩
                have HB10 := Lib.hid (stepB HB90.out hb10)
                have K10 := Lib.hid (keepB (show Blk w9 gz 25 (batV ep b (some ⟨bo, off, none⟩) n c) from K9.out) hb10)
                have S10 := Lib.hid (keepS S9.out hb10)
                clear hb10 e1 e2
                cases sm
                case false =>
                  have hrf : r = false := by
                    rw [Bool.eq_false_iff]
                    intro h
                    have h1 := (HR.out.1 h).2
                    obtain ⟨R', hR'⟩ := lkB_all (b := b) HX.out HY.out
                    rw [hR'] at h1
                    have h2 : ChOk (lkB b 0 (es.take i) ++ (xL.take (k + 1)).map (fun x => (posN b i, x))) := by
                      rw [List.take_add_one, HY.out, Option.toList_some, List.map_append, ← List.append_assoc]
                      refine ChOk.pre (B := R') ?_
                      rw [List.append_assoc]
                      exact h1
                    have h3 := ((ch_step HUP.out HX.out HY.out).1 h2).2 (extL (ys2, yl2) p).2 (hnear.out.trans HNH.out)
                    exact of_not_dec HSME.out h3
                  subst hrf
                  go_wp2_with fail
                  go_ret
                  exact ⟨rfl, HB10.out⟩
                case true =>
                  have HE : Hid (ChOk (lkB b 0 (es.take i) ++ (xL.take (k + 1)).map (fun x => (posN b i, x)))) :=
                    (ch_step HUP.out HX.out HY.out).2 ⟨hch.out, fun l hl => by
                      have h := hnear.out.trans HNH.out
                      rw [h] at hl
                      injection hl with hl
                      rw [← hl]
                      exact of_dec HSME.out⟩
                  go_wp2_with fail
                  go_roundw
                  case rel => exact ⟨k + 1, by omega, by go_num, HE, K10, S10, HB10⟩
                  case measure => simp [intOf]; omega
end
end Go.Proofs.Ytcbmnfjbmkpfiaa
