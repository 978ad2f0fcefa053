/-
  The law of this claim, a further part of its proof (3): the parts PsR, StrV, StrX, StpP, StpQ, PrM, PrPut.
-/
import Derived.Test.YtmdgmnaaopineaaStrR
import Derived.Test.YtmdgmnaaopineaaPut
import Derived.RegionTactic
import Derived.Test.YtmdgmnaaopineaaVarR
import Derived.Test.YtmdgmnaaopineaaStp3
import Derived.Test.YtmdgmnaaopineaaStrM
import Derived.Test.YtmdgmnaaopineaaPrj
import Derived.Test.YtmdgmnaaopineaaQQSW2
/- ref20.Swap. -/
namespace Go.Proofs.Ytmdgmnaaopineaa
open Go.ChangeShapes Go.WideShapes Go.ChangeAt Go.RowKit
set_option linter.unusedVariables false
/-- Whether the node was met up to the set k of the stripe i. -/
def MetTo (l : List Stp) (old i k : Nat) (q : Bool) : Prop := q = true ↔ ∃ (j : Nat) (s : Stp) (m : Nat) (o : List Nat), l[j]? = some s ∧ s.2.2[m]? = some o ∧ old ∈ o ∧ (j < i ∨ (j = i ∧ m < k))
theorem metTo_zero (l : List Stp) (old : Nat) : MetTo l old 0 0 false := ⟨fun h => (by cases h), fun ⟨j, s, m, o, _, _, _, h⟩ => by omega⟩
theorem metTo_yes {l : List Stp} {old i k : Nat} {s : Stp} {o : List Nat} (hs : l[i]? = some s) (ho : s.2.2[k]? = some o) (hm : old ∈ o) : MetTo l old i (k + 1) true := ⟨fun _ => ⟨i, s, k, o, hs, ho, hm, .inr ⟨rfl, by omega⟩⟩, fun _ => rfl⟩
theorem metTo_no {l : List Stp} {old i k : Nat} {q : Bool} {s : Stp} {o : List Nat} (h : MetTo l old i k q) (hs : l[i]? = some s) (ho : s.2.2[k]? = some o) (hm : old ∉ o) : MetTo l old i (k + 1) q := by
  refine h.trans ⟨fun ⟨j, s', m, o', a, b, c, d⟩ => ⟨j, s', m, o', a, b, c, by omega⟩, fun ⟨j, s', m, o', a, b, c, d⟩ => ?_⟩
  by_cases e : j = i ∧ m = k
  · obtain ⟨rfl, rfl⟩ := e
    rw [hs] at a
    injection a with a
    subst a
    rw [ho] at b
    injection b with b
    subst b
    exact absurd c hm
  · exact ⟨j, s', m, o', a, b, c, by omega⟩
theorem metTo_row {l : List Stp} {old i k : Nat} {q : Bool} {s : Stp} (h : MetTo l old i k q) (hs : l[i]? = some s) (hk : s.2.2.length = k) : MetTo l old (i + 1) 0 q := by
  refine h.trans ⟨fun ⟨j, s', m, o', a, b, c, d⟩ => ⟨j, s', m, o', a, b, c, by omega⟩, fun ⟨j, s', m, o', a, b, c, d⟩ => ?_⟩
  refine ⟨j, s', m, o', a, b, c, ?_⟩
  rcases Nat.lt_or_ge j i with h1 | h1
  · exact .inl h1
  · obtain rfl : j = i := by omega
    rw [hs] at a
    injection a with a
    subst a
    have := (List.getElem?_eq_some_iff.1 b).1
    exact .inr ⟨rfl, by omega⟩
theorem metTo_end {l : List Stp} {old n : Nat} {q : Bool} (h : MetTo l old n 0 q) (hn : l.length = n) : q = true ↔ Met l old := by
  refine h.trans ⟨fun ⟨j, s', m, o', a, b, c, d⟩ => ⟨j, s', m, o', a, b, c⟩, fun ⟨j, s', m, o', a, b, c⟩ => ⟨j, s', m, o', a, b, c, .inl (by have := (List.getElem?_eq_some_iff.1 a).1; omega)⟩⟩
section
variable {D : Dom} {A : Option Addr} {n c e old node : Nat} {l : List Stp} {w : World}
set_option maxRecDepth 100000 in
set_option maxHeartbeats 8000000 in
theorem rswap_any (hs : rpStp.sl w D A n c l) (hD : ∀ k, D k → k < w.heap.size) (he : e ≤ 18446744073709551615) (hold : old ≤ 18446744073709551615) (hnd : node ≤ 18446744073709551615) :
    Calls Try.prog 74 #[.agg (prjV e A n c), .int .u64 (old : Int), .int .u64 (node : Int)] w (SwapIs (e, l) old node w) := by
  have H : Hid ((Try.prog.info? 25).map (·.size) = some 2) := by unfold Hid; kernel_rfl
  have hb := below2 w (.cells (prjV e A n c) 25) (.cells (prjV 0 none 0 0) 25)
  have hlen := (Rp.sl_len hs).1
  have HN := Lib.hid hlen
  have K1 := Lib.hid (blk21 w 25 25 (prjV e A n c) (prjV 0 none 0 0))
  have K4 := Lib.hid (blk22 w 25 25 (prjV e A n c) (prjV 0 none 0 0))
  have HB := Lib.hid hb
  have HS := Lib.hid (keepS (show Sl rpStp w D A n c l from ⟨hs, hD⟩) hb)
  have hr := rpright_any (e := e) (Rp.sl_below hs hb hD) (fun k hk => Nat.lt_of_lt_of_le (hD k hk) hb.size) he
  clear hs hD
  by_cases hok : POk (e, l)
  case neg =>
    rw [dec_false hok] at hr
    have HR := Lib.hid hr
    have HNO := Lib.hid (swapP_no (old := old) (node := node) hok)
    clear hr hok hb hlen
    go_enter Try.func74, Try.ntmps74
    go_upto_region 1 with (fail)
    generalize World.alloc (World.alloc w _) _ = w0 at *
    have p0 := (show Blk w0 w.heap.size 25 _ from K1.out).cell 0
    have p1 := (show Blk w0 w.heap.size 25 _ from K1.out).cell 1
    go_wp2_with fail
    refine HR.out.mono ?_; rintro en w1 ⟨rfl, hb1⟩
    have HB1 := Lib.hid (stepB HB.out hb1)
    have K41 := Lib.hid (keepB (show Blk w0 (w.heap.size + 1) 25 _ from K4.out) hb1)
    clear hb1 p0 p1
    go_wp2_with (refine wpList_put_row rfl 25 (.tmp 6) (.tmp 15) rfl (w.heap.size + 1) _ rfl rfl 25 _ (show Blk _ _ _ _ from K41.out) H.out rfl (by simp [Value.oneCell']) ?_; intro w9 hblk hgr)
    have hbz : Below w.heap.size w w9 := HB1.out.grown hgr HB1.out.size (fun k hk => by injection hk with hk; omega)
    have f0 := hblk.cell 0
    have f1 := hblk.cell 1
    exact bodyPost_ret (v := .tuple #[.agg (prjV 0 none 0 0), .int .i64 3]) (by simp [results, Try.results74, go_sem, f0, f1]) rfl (swapIs_zero HNO.out hbz)
  rw [dec_true hok] at hr
  have HR := Lib.hid hr
  have HOK := Lib.hid hok
  have HEO := Lib.hid hok.1.1.1
  have hn64 : n ≤ 64 := by have := hok.1.1.2.2; simp only at this; omega
  clear hr hok hb hlen
  go_enter Try.func74, Try.ntmps74
  go_upto_region 1 with (fail)
  generalize World.alloc (World.alloc w _) _ = w0 at *
  have p0 := (show Blk w0 w.heap.size 25 _ from K1.out).cell 0
  have p1 := (show Blk w0 w.heap.size 25 _ from K1.out).cell 1
  go_wp2_with fail
  refine HR.out.mono ?_; rintro en w2 ⟨rfl, hb1⟩
  have HB2 := Lib.hid (stepB HB.out hb1)
  have K12 := Lib.hid (keepB (show Blk w0 w.heap.size 25 _ from K1.out) hb1)
  have K42 := Lib.hid (keepB (show Blk w0 (w.heap.size + 1) 25 _ from K4.out) hb1)
  have HS2 := Lib.hid (keepS HS.out hb1)
  clear p0 p1 hb1
  have p1 := (show Blk w2 w.heap.size 25 _ from K12.out).cell 1
  have p0 := (show Blk w2 w.heap.size 25 _ from K12.out).cell 0
  obtain ⟨e2, he2⟩ : ∃ e2, e2 = e + 1 := ⟨_, rfl⟩
  have he264 : e2 ≤ 18446744073709551615 := by have := HEO.out.2; omega
  have HE2 := Lib.hid he2
  have HLE : Hid (∀ s ∈ l, s.2.2.length ≤ 1000 ∧ ∀ (j : Nat) y, s.2.2[j]? = some y → y.length ≤ 1000) := pOk_len2 HOK.out
  clear he2
  go_wp2_with fail
  refine (rcopiedq_any HS2.out.1 HS2.out.2 (by omega) HLE.out HE2.out he264).mono ?_; rintro en w3 ⟨A4, c4, rfl, ho3, hb3⟩
  obtain ⟨go, hgo⟩ : ∃ go, go = w3.heap.size := ⟨_, rfl⟩
  have hba := below1 w3 (.cells (prjV e2 A4 n c4) 25)
  have hbw := stepB hb3 hba
  have HB4 := Lib.hid (stepB HB2.out hbw)
  have K44 := Lib.hid (keepB (show Blk w2 (w.heap.size + 1) 25 _ from K42.out) hbw)
  have HG4 := Lib.hid (blk11 w3 25 (prjV e2 A4 n c4))
  have HO4 := Lib.hid (ho3.below hba)
  have hz3 := hb3.size
  have hz2 := HB2.out.size
  have hl42 := (show Blk w2 (w.heap.size + 1) 25 _ from K42.out).lt
  clear hb3 ho3 hba hbw p0 p1
  rw [← hgo] at HG4
  have HGO := Lib.hid hgo
  have hgo1 : w2.heap.size ≤ go := by omega
  clear hgo
  go_upto_region 4 with (fail)
  try rw [← HGO.out]
  generalize World.alloc w3 _ = w4 at *
  obtain ⟨bs, hbs⟩ : ∃ bs, bs = w2.heap.size := ⟨_, rfl⟩
  rw [← hbs] at HO4 hgo1 hl42 hz2
  clear hbs hz3 HGO
  have REL0 : Hid (Upd (swS old node) l 0 l) := Upd.zero _ _
  go_wp2_with fail
  go_loopw [9, 10] (fun v9 v10 wr => ∃ (i : Nat) (q : Bool) (L : List Stp), i ≤ n ∧ v9 = .bool q ∧ v10 = .int .i64 (i : Int) ∧ Hid (MetTo l old i 0 q) ∧ Hid (Upd (swS old node) l i L) ∧ Hid (OQ wr bs A4 n c4 L) ∧ Hid (Blk wr go 25 (prjV e2 A4 n c4)) ∧ Hid (Blk wr (w.heap.size + 1) 25 (prjV 0 none 0 0)) ∧ Hid (Below w.heap.size w wr)) (fun _ v10 _ => n - (intOf v10).toNat)
  case atStart => exact ⟨0, false, l, by omega, rfl, rfl, metTo_zero _ _, REL0, HO4.out, HG4.out, K44.out, HB4.out⟩
  case round =>
    clear HO4 HG4 K44 HB4
    obtain ⟨i, q, L, hi, rfl, rfl, hmt, hupd, hoq, hkg, hkr, hbel⟩ := hrel
    obtain ⟨wo, hwo⟩ : ∃ wo, wo = wr := ⟨_, rfl⟩
    subst hwo
    have g1 := (show Blk wo go 25 _ from hkg.out).cell 1
    by_cases hin : i < n
    case neg =>
      obtain rfl : i = n := by omega
      have hd : decide ((i : Int) < (i : Int)) = false := by simp
      have HL : Hid (L = swL old node l) := hupd.out.all (by have := HN.out; omega)
      have hme := metTo_end hmt.out HN.out
      cases q
      case false =>
        have HG := Lib.hid (swapP_16 (p := (e, l)) (node := node) HOK.out (fun h => by have := hme.2 h; cases this))
        clear hme
        go_wp2_with (refine wpList_put_row rfl 25 (.tmp 6) (.tmp 69) rfl (w.heap.size + 1) _ rfl rfl 25 _ (show Blk _ _ _ _ from hkr.out) H.out rfl (by simp [Value.oneCell']) ?_; intro w9 hblk hgr)
        have hbz : Below w.heap.size w w9 := hbel.out.grown hgr hbel.out.size (fun k hk => by injection hk with hk; omega)
        have f0 := hblk.cell 0
        have f1 := hblk.cell 1
        exact bodyPost_ret (v := .tuple #[.agg (prjV 0 none 0 0), .int .i64 16]) (by simp [results, Try.results74, go_sem, f0, f1]) rfl (swapIs_zero HG.out hbz)
      case true =>
        have HM := Lib.hid (hme.1 rfl)
        have HSL := Lib.hid (OL.sl hoq.out.os)
        have g0 := (show Blk wo go 25 _ from hkg.out).cell 0
        clear hme
        by_cases hee : EOk e2
        case neg =>
          have HG := Lib.hid (swapP_18 (p := (e, l)) (node := node) HOK.out HM.out (by rw [← HE2.out]; exact hee))
          have HEN := Lib.hid (rends_bad 18 HSL.out (fun k hk => hk) he264 (.inl ⟨hee, rfl⟩))
          clear hee
          go_wp2_with fail
          refine HEN.out.mono ?_; rintro en w8 ⟨rfl, hb8⟩
          have K48 := Lib.hid (keepB (show Blk wo (w.heap.size + 1) 25 _ from hkr.out) hb8)
          have HB8 := Lib.hid (stepB hbel.out hb8)
          clear hb8 g0 g1
          go_wp2_with (refine wpList_put_row rfl 25 (.tmp 6) (.tmp 72) rfl (w.heap.size + 1) _ rfl rfl 25 _ (show Blk _ _ _ _ from K48.out) H.out rfl (by simp [Value.oneCell']) ?_; intro w9 hblk hgr)
          have hbz : Below w.heap.size w w9 := HB8.out.grown hgr HB8.out.size (fun k hk => by injection hk with hk; omega)
          have f0 := hblk.cell 0
          have f1 := hblk.cell 1
          exact bodyPost_ret (v := .tuple #[.agg (prjV 0 none 0 0), .int .i64 18]) (by simp [results, Try.results74, go_sem, f0, f1]) rfl (swapIs_zero HG.out hbz)
        case pos =>
          by_cases hpp : POk (e2, swL old node l)
          case neg =>
            have HG := Lib.hid (swapP_3 (p := (e, l)) HOK.out HM.out (by rw [← HE2.out]; exact hee) (by rw [← HE2.out]; exact hpp))
            have HEN := Lib.hid (rends_bad 3 HSL.out (fun k hk => hk) he264 (.inr ⟨hee, (by rw [HL.out]; exact hpp), rfl⟩))
            clear hee hpp
            go_wp2_with fail
            refine HEN.out.mono ?_; rintro en w8 ⟨rfl, hb8⟩
            have K48 := Lib.hid (keepB (show Blk wo (w.heap.size + 1) 25 _ from hkr.out) hb8)
            have HB8 := Lib.hid (stepB hbel.out hb8)
            clear hb8 g0 g1
            go_wp2_with (refine wpList_put_row rfl 25 (.tmp 6) (.tmp 72) rfl (w.heap.size + 1) _ rfl rfl 25 _ (show Blk _ _ _ _ from K48.out) H.out rfl (by simp [Value.oneCell']) ?_; intro w9 hblk hgr)
            have hbz : Below w.heap.size w w9 := HB8.out.grown hgr HB8.out.size (fun k hk => by injection hk with hk; omega)
            have f0 := hblk.cell 0
            have f1 := hblk.cell 1
            exact bodyPost_ret (v := .tuple #[.agg (prjV 0 none 0 0), .int .i64 3]) (by simp [results, Try.results74, go_sem, f0, f1]) rfl (swapIs_zero HG.out hbz)
          case pos =>
            have HG := Lib.hid (swapP_0 (p := (e, l)) HOK.out HM.out (by rw [← HE2.out]; exact hee) (by rw [← HE2.out]; exact hpp))
            have HEN := Lib.hid (rends_ok HSL.out (fun k hk => hk) (show POk (e2, L) by rw [HL.out]; exact hpp))
            clear hee hpp
            go_wp2_with fail
            refine HEN.out.mono ?_; rintro en w8 ⟨rfl, hb8⟩
            have K48 := Lib.hid (keepB (show Blk wo (w.heap.size + 1) 25 _ from hkr.out) hb8)
            have HB8 := Lib.hid (stepB hbel.out hb8)
            have HL8 := Lib.hid (hoq.out.below hb8)
            clear hb8 g0 g1
            go_wp2_with (refine wpList_put_row rfl 25 (.tmp 6) (.tmp 72) rfl (w.heap.size + 1) _ rfl rfl 25 _ (show Blk _ _ _ _ from K48.out) H.out rfl (by simp [Value.oneCell']) ?_; intro w9 hblk hgr)
            have hbz : Below w.heap.size w w9 := HB8.out.grown hgr HB8.out.size (fun k hk => by injection hk with hk; omega)
            have hl9 := OQ.grown HL8.out (show Blk w8 (w.heap.size + 1) 25 _ from K48.out) (by decide) (by decide) (by decide) hgr
            have f0 := hblk.cell 0
            have f1 := hblk.cell 1
            refine bodyPost_ret (v := .tuple #[.agg (prjV e2 A4 i c4), .int .i64 0]) (by simp [results, Try.results74, go_sem, f0, f1]) rfl ?_
            have hgp := HG.out
            rw [← HE2.out] at hgp
            unfold SwapIs
            rw [hgp]
            have hsl9 := OL.sl hl9.os
            rw [HL.out] at hsl9
            exact ⟨A4, i, c4, rfl, hsl9, hbz⟩
    case pos =>
      have hd : decide ((i : Int) < (n : Int)) = true := by simp; omega
      have hiI : (0 : Int) ≤ (i : Int) := by omega
      have hiI2 : (i : Int) < (n : Int) := by omega
      obtain ⟨s, hs⟩ : ∃ s, l[i]? = some s := ⟨_, List.getElem?_eq_getElem (by have := HN.out; omega)⟩
      have hso := pOk_at HOK.out hs
      have hL := hupd.out.at hs
      have hup2 := hupd.out.outer hs
      obtain ⟨sf, st, ss⟩ := s
      obtain ⟨sn, hsn⟩ : ∃ sn, sn = ss.length := ⟨_, rfl⟩
      have HSN := Lib.hid hsn
      have hsn8 : sn ≤ 8 := by rw [hsn]; exact hso.2.2.2.1
      have HX := Lib.hid hs
      have HSO := Lib.hid hso
      have HL0 := Lib.hid hL
      have HU2 := Lib.hid hup2
      have HU3 : Hid (Upd (swO old node) ss 0 ss) := Upd.zero _ _
      clear hs hso hL hup2 hsn
      go_upto_region 8 with (fail)
      clear g1
      go_loopw [9, 11] (fun v9 v11 wr => ∃ (k : Nat) (q : Bool) (L : List Stp) (P : List (List Nat)), k ≤ sn ∧ v9 = .bool q ∧ v11 = .int .i64 (k : Int) ∧ Hid (MetTo l old i k q) ∧ Hid (Upd (swS old node) l i (L.set i (sf, st, ss))) ∧ Hid (L[i]? = some (sf, st, P)) ∧ Hid (Upd (swO old node) ss k P) ∧ Hid (OQ wr bs A4 n c4 L) ∧ Hid (Blk wr go 25 (prjV e2 A4 n c4)) ∧ Hid (Blk wr (w.heap.size + 1) 25 (prjV 0 none 0 0)) ∧ Hid (Below w.heap.size w wr)) (fun _ v11 _ => sn - (intOf v11).toNat)
      case atStart => exact ⟨0, q, L, ss, by omega, rfl, rfl, hmt, HU2, HL0, HU3, hoq, hkg, hkr, hbel⟩
      case round =>
        clear hmt HU2 HL0 HU3 hoq hkg hkr hbel hupd
        obtain ⟨k, q2, L2, P, hk, rfl, rfl, hmt, hu2, hl2, hu3, hoq, hkg, hkr, hbel⟩ := hrel
        have hPl : P.length = sn := by have h1 := hu3.out.1; have h2 := HSN.out; omega
        obtain ⟨gm, A', c', hA, hgm0, hgm1, q0, q1, g2, _, _, hsl, hrow⟩ := hoq.out.at hl2.out
        subst hA
        simp only at g2
        rw [hPl] at g2
        have g1 := (show Blk wr go 25 _ from hkg.out).cell 1
        have HROW := Lib.hid hrow
        clear q0 q1 hsl hrow
        by_cases hkn : k < sn
        case neg =>
          obtain rfl : k = sn := by omega
          have hd2 : decide ((k : Int) < (k : Int)) = false := by simp
          have HF : Hid ((sf, st, P) = swS old node (sf, st, ss)) := by
            have h := hu3.out.all (by have := HSN.out; omega)
            show _ = _
            unfold swS
            rw [h]
          have HU := Lib.hid (hu2.out.inner HX.out hl2.out HF.out)
          have HM := Lib.hid (metTo_row hmt.out HX.out (by have := HSN.out; exact this.symm))
          clear hPl
          go_wp2_with fail
          go_roundw
          case rel => exact ⟨i + 1, q2, L2, by omega, rfl, by go_num, HM, HU, hoq, hkg, hkr, hbel⟩
          case measure => simp [intOf]; omega
        case pos =>
          have hd2 : decide ((k : Int) < (sn : Int)) = true := by simp; omega
          have hkI : (0 : Int) ≤ (k : Int) := by omega
          have hkI2 : (k : Int) < (sn : Int) := by omega
          obtain ⟨o, ho⟩ : ∃ o, ss[k]? = some o := ⟨_, List.getElem?_eq_getElem (by have := HSN.out; omega)⟩
          have hPo := hu3.out.at ho
          have hset := HSO.out.2.2.2.2 k o ho
          have ho8 := hset.2.1
          have hone : o ≠ [] := fun e => by have := hset.1; rw [e] at this; simp at this
          obtain ⟨gs, g, cx, hA', hR⟩ := HROW.out k o hPo hone
          subst hA'
          have HR := Lib.hid hR
          have HO := Lib.hid ho
          obtain ⟨m, hm⟩ : ∃ m, m = o.length := ⟨_, rfl⟩
          have HM := Lib.hid hm
          have gk := hR.cell
          have hown := hR.own
          have hgs1 := hR.gs1
          rw [← hm] at gk hown ho8
          have hsr : Sl rpU64 wr _ (some ⟨g, 0, none⟩) m cx o := ⟨own_u64 hown hR.lt, own_dom hown⟩
          have HSR := Lib.hid hsr
          have hhas := has_any old hsr.1
          clear ho hPo hset hone hR hm hown hsr hPl
          by_cases hmem : old ∈ o
          case neg =>
            rw [dec_false hmem] at hhas
            have HH := Lib.hid hhas
            have HU := Lib.hid (hu3.out.same HO.out (swO_no hmem))
            have HMT := Lib.hid (metTo_no hmt.out HX.out HO.out hmem)
            clear hhas hmem
            go_wp2_with fail
            refine HH.out.mono ?_; rintro en w6 ⟨rfl, hw6⟩
            subst hw6
            go_wp2_with fail
            go_roundw
            case rel => exact ⟨k + 1, q2, L2, P, hkn, rfl, by go_num, HMT, hu2, hl2, HU, hoq, hkg, hkr, hbel⟩
            case measure => simp [intOf]; omega
          case pos =>
            rw [dec_true hmem] at hhas
            have HH := Lib.hid hhas
            have hu := hu3.out.step HO.out
            rw [swO_yes hmem] at hu
            have HU := Lib.hid hu
            have HMT := Lib.hid (metTo_yes HX.out HO.out hmem)
            have HPT : Hid (∀ u, Below wr.heap.size wr u → Calls Try.prog 127 #[.slice (some ⟨g, 0, none⟩) m cx, .int .u64 (old : Int), .int .u64 (node : Int)] u (RPutIs o old node u)) := fun u hu => rput_any (keepS HSR.out hu).1 (keepS HSR.out hu).2 (by omega) hnd
            have hzr : bs ≤ wr.heap.size := by omega
            have hlg := (show Blk wr go 25 _ from hkg.out).lt
            have hlr := (show Blk wr (w.heap.size + 1) 25 _ from hkr.out).lt
            clear hhas hmem hu
            go_wp2_with fail
            refine HH.out.mono ?_; rintro en w6 ⟨rfl, hw6⟩
            subst hw6
            go_upto_region 12 with (fail)
            have HU5 : Hid (Upd (swS old node) l i ((L2.set i (sf, st, P.set k (sw old node o))).set i (sf, st, ss))) := by
              show Upd _ _ _ _
              rw [List.set_set]; exact hu2.out
            have HL5 : Hid ((L2.set i (sf, st, P.set k (sw old node o)))[i]? = some (sf, st, P.set k (sw old node o))) := List.getElem?_set_self (List.getElem?_eq_some_iff.1 hl2.out).1
            obtain ⟨curs, hbs⟩ := HR.out.blk
            have gf := hbs.frozen k
            have HBS := Lib.hid hbs
            clear hbs
            go_region_law ((go_simp; refine (HPT.out _ ((Below.refl _ _).drew)).mono ?_; rintro en w7 ⟨Ap, mp, cp, rfl, hpl, hpo, hb7⟩
                            have hb7' : Below wr.heap.size wr w7 := ⟨hb7.os, hb7.tape, hb7.output, hb7.size, hb7.block⟩
                            have hro : RowOf w7 wr.heap.size (.slice Ap mp cp) (sw old node o) := ⟨⟨Ap, cp, by rw [hpl], by rw [hpl]; exact hpo⟩, fun y hy => by
                              rcases sw_mem hy with rfl | hy
                              · omega
                              · exact HR.out.lt y hy⟩
                            have HQ := Lib.hid (HR.out.put w7 _ _ hb7' hro)
                            have hk7 := keepB (show Blk wr go 25 _ from hkg.out) hb7'
                            have t1 := hk7.cell 1
                            have t2 := (hb7'.cell (p := ⟨gm, i * 3 + 2, none⟩) hgm1).trans g2
                            have t3 := (hb7'.cell (p := ⟨gs, k, none⟩) hgs1).trans gk
                            have t4 := (keepB HBS.out hb7').frozen k
                            have HKG := Lib.hid (hk7.far (p := ⟨gs, k, none⟩) (by rintro h; exact absurd (blk_type HBS.out (h ▸ (show Blk wr go 25 _ from hkg.out))) (by decide)) (.slice Ap mp cp))
                            have HKR := Lib.hid ((keepB (show Blk wr (w.heap.size + 1) 25 _ from hkr.out) hb7').far (p := ⟨gs, k, none⟩) (by have := HR.out.gs0; dsimp only; omega) (.slice Ap mp cp))
                            have HBB := Lib.hid ((stepB hbel.out hb7').setCell (p := ⟨gs, k, none⟩) (by have := HR.out.gs0; dsimp only; omega) (.slice Ap mp cp))
                            clear hpl hpo hb7 hb7' hro hk7
                            dsimp only))
            all_goals
              clear t1 t2 t3 t4 gk gf g1 g2
              generalize World.setCell w7 _ _ = w8 at *
              go_wp2_with fail
              go_roundw
              case rel => exact ⟨k + 1, true, L2.set i (sf, st, P.set k (sw old node o)), P.set k (sw old node o), hkn, rfl, by go_num, HMT, HU5, HL5, HU, HQ, HKG, HKR, HBB⟩
              case measure => simp [intOf]; omega
end
end Go.Proofs.Ytmdgmnaaopineaa
/- Reading how many, and rising lists: the reference. -/
namespace Go.Proofs.Ytmdgmnaaopineaa
open Go.ChangeShapes Go.WideShapes Go.ChangeAt Go.RowKit
set_option linter.unusedVariables false
abbrev riV (A : Option Addr) (n c : Nat) (r : Nat × Nat × Flt) : Value := .tuple #[.agg (rdV A n c r.2.1 r.2.2), .int .i64 (r.1 : Int)]
section
variable {D : Dom} {A : Option Addr} {n c : Nat} {l : List UInt8} {p : Nat} {f : Flt} {w : World}
set_option maxRecDepth 100000 in
set_option maxHeartbeats 1000000 in
theorem rint_any (h : rpU8.sl w D A n c l) (hD : ∀ k, D k → k < w.heap.size) (hf : OkF f) (hp : p ≤ n) (hn : n ≤ 1000000000) (m : Nat) (hm : m ≤ 1000) :
    Calls Try.prog 113 #[.agg (rdV A n c p f), .int .i64 (m : Int)] w fun e w' => e = .returned (riV A n c (mostF l p f m)) ∧ Below w.heap.size w w' := by
  have H : Hid ((Try.prog.info? 71).map (·.size) = some 4) := by unfold Hid; kernel_rfl
  have HSL : Hid (∀ w', Below w.heap.size w w' → rpU8.sl w' D A n c l ∧ ∀ k, D k → k < w'.heap.size) := fun w' hb => ⟨Rp.sl_below h hb hD, fun k hk => Nat.lt_of_lt_of_le (hD k hk) hb.size⟩
  have HM : Hid (∀ w', Below w.heap.size w w' → Calls Try.prog 138 #[.agg (rdV A n c p f), .int .u64 (m : Int)] w' fun e w'' => e = .returned (rnV A n c (mostF l p f m)) ∧ Below w'.heap.size w' w'') := fun w' hb => rmost_any (HSL.out w' hb).1 (HSL.out w' hb).2 hf hp hn m
  have hle := mostF_le (l := l) (p := p) (f := f) (m := m)
  generalize mostF l p f m = r at *
  obtain ⟨x, q, F1, F2⟩ := r
  simp only at HM hle ⊢
  have hc1 : IntKind.u64.wrap (m : Int) = (m : Int) := IntWalk.u64_in _ (by omega)
  have hc2 : IntKind.i64.wrap (x : Int) = (x : Int) := IntWalk.i64_in _ (by omega)
  have HZ := Lib.hid (cbelow_two w (.cells (rdV A n c p f) 71) (.cells rdZ 71))
  have HK := Lib.hid ((Blk.new w 71 (rdV A n c p f)).alloc (.cells rdZ 71))
  have HR := Lib.hid (cblk_top w (rdV A n c p f) rdZ 71 71)
  clear h hD hf hp hn
  go_enter Try.func113, Try.ntmps113
  go_wp2_with fail
  generalize World.alloc (World.alloc _ _) _ = w0 at *
  have hz0 := HZ.out.size
  have hr0 := (show Blk w0 _ _ _ from HR.out).lt
  have hk0 := (show Blk w0 _ _ _ from HK.out).lt
  go_wp2_with fail
  refine (HM.out _ HZ.out).mono ?_; rintro e w1 ⟨rfl, hb1⟩
  have HB1 := Lib.hid (HZ.out.trans (hb1.mono hz0))
  have hk1 : Blk w1 w.heap.size 71 (rdV A n c p f) := Blk.below HK.out hb1 hk0
  have HK1 := Lib.hid hk1
  have HR1 : Hid (Blk w1 (w.heap.size + 1) 71 rdZ) := Blk.below HR.out hb1 hr0
  have hz1 := hb1.size
  have hl1 := hk1.lt
  have d1 := hk1.cell 1
  clear hb1 hk1
  go_wp2_with (refine wpList_put_row rfl 71 (.tmp 4) (.tmp 19) rfl (w.heap.size + 1) (rdV A n c q (F1, F2)) rfl rfl 71 _ (HR1.out.alloc _) H.out rfl (by simp [Value.oneCell']) ?_; intro w9 hblk hgr)
  have hbz : Below w.heap.size w w9 := (HB1.out.alloc (by omega) _).grown hgr ((HB1.out.alloc (by omega) _)).size (fun k hk => by injection hk with hk; omega)
  have e0 := hblk.cell 0
  have e1 := hblk.cell 1
  have e2 := hblk.cell 2
  have e3 := hblk.cell 3
  refine bodyPost_ret (v := riV A n c (x, q, (F1, F2))) (by simp [results, Try.results113, go_sem, e0, e1, e2, e3]) rfl ⟨rfl, hbz⟩
set_option maxRecDepth 100000 in
set_option maxHeartbeats 1000000 in
theorem rmany_any (h : rpU8.sl w D A n c l) (hD : ∀ k, D k → k < w.heap.size) (hf : OkF f) (hp : p ≤ n) (hn : n ≤ 1000000000) (m : Nat) (hm : m ≤ 1000) :
    Calls Try.prog 97 #[.agg (rdV A n c p f), .int .i64 (m : Int)] w fun e w' => e = .returned (riV A n c (manyF l p f m)) ∧ Below w.heap.size w w' := by
  have H : Hid ((Try.prog.info? 71).map (·.size) = some 4) := by unfold Hid; kernel_rfl
  have HSL : Hid (∀ w', Below w.heap.size w w' → rpU8.sl w' D A n c l ∧ ∀ k, D k → k < w'.heap.size) := fun w' hb => ⟨Rp.sl_below h hb hD, fun k hk => Nat.lt_of_lt_of_le (hD k hk) hb.size⟩
  have HM : Hid (∀ w', Below w.heap.size w w' → Calls Try.prog 113 #[.agg (rdV A n c p f), .int .i64 (m : Int)] w' fun e w'' => e = .returned (riV A n c (mostF l p f m)) ∧ Below w'.heap.size w' w'') := fun w' hb => rint_any (HSL.out w' hb).1 (HSL.out w' hb).2 hf hp hn m hm
  unfold manyF
  generalize mostF l p f m = r at *
  obtain ⟨x, q, F1, F2⟩ := r
  simp only at HM ⊢
  have HZ := Lib.hid (cbelow_two w (.cells (rdV A n c p f) 71) (.cells rdZ 71))
  have HK := Lib.hid ((Blk.new w 71 (rdV A n c p f)).alloc (.cells rdZ 71))
  have HR := Lib.hid (cblk_top w (rdV A n c p f) rdZ 71 71)
  clear h hD hf hp hn
  by_cases h0 : x = 0
  case pos =>
    rw [if_pos h0]
    subst h0
    obtain ⟨G1, G2, hG⟩ : ∃ G1 G2, failF (F1, F2) 3 (p : Int) = (G1, G2) := ⟨_, _, rfl⟩
    have HFAIL : Hid (∀ w, Calls Try.prog 95 #[.agg (rdV A n c q (F1, F2)), .int .i64 3, .int .i64 (p : Int)] w fun e w' => e = .returned (.agg (rdV A n c q (G1, G2))) ∧ Below w.heap.size w w') := fun w => by have := rfail_any A n c q (F1, F2) 3 p w; rwa [hG] at this
    rw [hG]
    clear hG
    go_enter Try.func97, Try.ntmps97
    go_wp2_with fail
    generalize World.alloc (World.alloc _ _) _ = w0 at *
    have hz0 := HZ.out.size
    have hr0 := (show Blk w0 _ _ _ from HR.out).lt
    have hk0 := (show Blk w0 _ _ _ from HK.out).lt
    go_wp2_with fail
    refine (HM.out _ HZ.out).mono ?_; rintro e w1 ⟨rfl, hb1⟩
    have HB1 := Lib.hid (HZ.out.trans (hb1.mono hz0))
    have hk1 : Blk w1 w.heap.size 71 (rdV A n c p f) := Blk.below HK.out hb1 hk0
    have HK1 := Lib.hid hk1
    have HR1 : Hid (Blk w1 (w.heap.size + 1) 71 rdZ) := Blk.below HR.out hb1 hr0
    have hz1 := hb1.size
    have hl1 := hk1.lt
    have d1 := hk1.cell 1
    clear hb1 hk1
    go_wp2_with fail
    have hn1 := blk11 w1 71 (rdV A n c q (F1, F2))
    have HR1a := Lib.hid (HR1.out.alloc (.cells (rdV A n c q (F1, F2)) 71))
    have HB1a := Lib.hid (HB1.out.alloc (by omega) (.cells (rdV A n c q (F1, F2)) 71))
    have HN1 := Lib.hid hn1
    clear d1 hn1
    generalize hgn : w1.heap.size = gn at *
    generalize World.alloc w1 _ = w2 at *
    refine (HFAIL.out _).mono ?_; rintro e w3 ⟨rfl, hb⟩
    have HR3 := Lib.hid (keepB (show Blk w2 (w.heap.size + 1) 71 rdZ from HR1a.out) hb)
    have HN3 := Lib.hid (keepB (show Blk w2 gn 71 _ from HN1.out) hb)
    have HB3 := Lib.hid (stepB HB1a.out hb)
    clear hb
    go_wp2_with (first
      | (refine wpList_put_row rfl 71 (.tmp 6) (.tmp 19) rfl gn (rdV A n c q (G1, G2)) rfl rfl 71 _ HN3.out H.out rfl (by simp [Value.oneCell']) ?_; intro w4 hblk4 hgr4; have g0 := hblk4.cell 0; have g1 := hblk4.cell 1; have g2 := hblk4.cell 2; have g3 := hblk4.cell 3; have HR4 := Lib.hid ((show Blk w3 (w.heap.size + 1) 71 rdZ from HR3.out).grown hgr4 (by simp; omega)); have HB4 := Lib.hid (HB3.out.grown hgr4 HB3.out.size (fun k hk => by injection hk with hk; omega)); clear hblk4 hgr4)
      | (refine wpList_put_row rfl 71 (.tmp 4) (.tmp 20) rfl (w.heap.size + 1) (rdV A n c q (G1, G2)) rfl rfl 71 _ HR4.out H.out rfl (by simp [Value.oneCell']) ?_; intro w9 hblk hgr))
    have hbz : Below w.heap.size w w9 := HB4.out.grown hgr HB4.out.size (fun k hk => by injection hk with hk; omega)
    have e0 := hblk.cell 0
    have e1 := hblk.cell 1
    have e2 := hblk.cell 2
    have e3 := hblk.cell 3
    refine bodyPost_ret (v := riV A n c (0, q, (G1, G2))) (by simp [results, Try.results97, go_sem, e0, e1, e2, e3]) rfl ⟨rfl, hbz⟩
  case neg =>
    rw [if_neg h0]
    have hq : ((x : Int) == 0) = false := by simpa using h0
    have hq2 : (x == 0) = false := by simpa using h0
    clear h0
    go_enter Try.func97, Try.ntmps97
    go_wp2_with fail
    generalize World.alloc (World.alloc _ _) _ = w0 at *
    have hz0 := HZ.out.size
    have hr0 := (show Blk w0 _ _ _ from HR.out).lt
    have hk0 := (show Blk w0 _ _ _ from HK.out).lt
    go_wp2_with fail
    refine (HM.out _ HZ.out).mono ?_; rintro e w1 ⟨rfl, hb1⟩
    have HB1 := Lib.hid (HZ.out.trans (hb1.mono hz0))
    have hk1 : Blk w1 w.heap.size 71 (rdV A n c p f) := Blk.below HK.out hb1 hk0
    have HK1 := Lib.hid hk1
    have HR1 : Hid (Blk w1 (w.heap.size + 1) 71 rdZ) := Blk.below HR.out hb1 hr0
    have hz1 := hb1.size
    have hl1 := hk1.lt
    have d1 := hk1.cell 1
    clear hb1 hk1
    clear d1
    go_wp2_with (refine wpList_put_row rfl 71 (.tmp 4) (.tmp 20) rfl (w.heap.size + 1) (rdV A n c q (F1, F2)) rfl rfl 71 _ (HR1.out.alloc _) H.out rfl (by simp [Value.oneCell']) ?_; intro w9 hblk hgr)
    have hbz : Below w.heap.size w w9 := (HB1.out.alloc (by omega) _).grown hgr ((HB1.out.alloc (by omega) _)).size (fun k hk => by injection hk with hk; omega)
    have e0 := hblk.cell 0
    have e1 := hblk.cell 1
    have e2 := hblk.cell 2
    have e3 := hblk.cell 3
    refine bodyPost_ret (v := riV A n c (x, q, (F1, F2))) (by simp [results, Try.results97, go_sem, e0, e1, e2, e3]) rfl ⟨rfl, hbz⟩
def RlIs (w : World) (A : Option Addr) (n c : Nat) (r : List Nat × Nat × Flt) (e : Ending) (w' : World) : Prop :=
  ∃ A2 c2, e = .returned (.tuple #[.agg (rdV A n c r.2.1 r.2.2), .slice A2 r.1.length c2]) ∧ w'.ownsRow w.heap.size 22 1 (.slice A2 r.1.length c2) r.1.length (r.1.map uv) ∧ Below w.heap.size w w'
set_option maxRecDepth 100000 in
set_option maxHeartbeats 4000000 in
theorem rris_any (h : rpU8.sl w D A n c l) (hD : ∀ k, D k → k < w.heap.size) (hf : OkF f) (hp : p ≤ n) (hn : n ≤ 1000000000) (m : Nat) (hm : m ≤ 1000) :
    Calls Try.prog 98 #[.agg (rdV A n c p f), .int .i64 (m : Int)] w (RlIs w A n c (risF l m p f [])) := by
  have H : Hid ((Try.prog.info? 71).map (·.size) = some 4) := by unfold Hid; kernel_rfl
  have HSL : Hid (∀ w', Below w.heap.size w w' → rpU8.sl w' D A n c l ∧ ∀ k, D k → k < w'.heap.size) := fun w' hb => ⟨Rp.sl_below h hb hD, fun k hk => Nat.lt_of_lt_of_le (hD k hk) hb.size⟩
  have HRD : Hid (∀ w' q F, Below w.heap.size w w' → OkF F → q ≤ n → Calls Try.prog 96 #[.agg (rdV A n c q F)] w' fun e w'' => e = .returned (rnV A n c (vrdF l q F)) ∧ Below w'.heap.size w' w'') := fun w' q F hb h1 h2 => rread_any (HSL.out w' hb).1 (HSL.out w' hb).2 h1 h2 hn
  obtain ⟨R, hR⟩ : ∃ R, R = risF l m p f [] := ⟨_, rfl⟩
  rw [← hR]
  have HR0 := Lib.hid hR
  have HOK := Lib.hid hf
  have HP := Lib.hid hp
  have hll : l.length = n := (Rp.sl_len h).1
  have HLL := Lib.hid hll
  have HZ := Lib.hid (cbelow_two w (.cells (rdV A n c p f) 71) (.cells rdZ 71))
  have HK := Lib.hid ((Blk.new w 71 (rdV A n c p f)).alloc (.cells rdZ 71))
  have HR := Lib.hid (cblk_top w (rdV A n c p f) rdZ 71 71)
  clear h hD hf hp hn hR hll
  go_enter Try.func98, Try.ntmps98
  go_wp2_with fail
  generalize World.alloc (World.alloc _ _) _ = w0 at *
  have hz0 := HZ.out.size
  have hr0 := (show Blk w0 _ _ _ from HR.out).lt
  have hk0 := (show Blk w0 _ _ _ from HK.out).lt
  go_wp2_with fail
  go_loopw [6, 7] (fun o i wr => ∃ (k q : Nat) (F : Flt) (acc : List Nat) (Aa : Option Addr) (ca : Nat), k ≤ m ∧ i = .int .i64 k ∧ o = .slice Aa k ca ∧ acc.length = k ∧ Hid (q ≤ n) ∧ Hid (OkF F) ∧ Hid (∀ x ∈ acc, x < 18446744073709551616) ∧ Hid (wr.ownsRow (w.heap.size + 2) 22 1 (.slice Aa k ca) k (acc.map uv)) ∧ Hid (Blk wr w.heap.size 71 (rdV A n c q F)) ∧ Hid (Blk wr (w.heap.size + 1) 71 rdZ) ∧ Hid (Below w.heap.size w wr) ∧ Hid (risF l (m - k) q F acc = R)) (fun _ i _ => m - (intOf i).toNat)
  case atStart => exact ⟨0, p, f, [], none, 0, by omega, rfl, rfl, rfl, HP.out, HOK.out, (fun x hx => by cases hx), World.ownsRow_nil _ _ _ _, HK.out, HR.out, HZ.out, HR0.out.symm⟩
  case round =>
    obtain ⟨k, q, F, acc, Aa, ca, hk, rfl, rfl, hacc, hqn, hokF, hlt64, hown, hkk, hrr, hbel, heq⟩ := hrel
    have HA71 := Lib.hid hacc
    clear hacc
    have hzr := hbel.out.size
    have hklt := (show Blk wr w.heap.size 71 _ from hkk.out).lt
    have hrlt := (show Blk wr (w.heap.size + 1) 71 _ from hrr.out).lt
    have d0 := (show Blk wr w.heap.size 71 _ from hkk.out).cell 0
    have d1 := (show Blk wr w.heap.size 71 _ from hkk.out).cell 1
    have d2 := (show Blk wr w.heap.size 71 _ from hkk.out).cell 2
    have d3 := (show Blk wr w.heap.size 71 _ from hkk.out).cell 3
    by_cases hkn : k < m
    case neg =>
      have hd : decide ((k : Int) < (m : Int)) = false := by simp; omega
      have hd2 : decide (k < m) = false := by simpa using hkn
      have HKN := Lib.hid (show m - k = 0 by omega)
      clear hkn
      go_wp2_with (refine wpList_put_row rfl 71 (.tmp 4) (.tmp 58) rfl (w.heap.size + 1) (rdV A n c q F) rfl rfl 71 _ hrr.out H.out rfl (by simp [Value.oneCell']) ?_; intro w9 hblk hgr)
      have hh := heq.out
      rw [HKN.out] at hh
      subst hh
      have hal := HA71.out
      subst hal
      have e0 := hblk.cell 0
      have e1 := hblk.cell 1
      have e2 := hblk.cell 2
      have e3 := hblk.cell 3
      have ho9 : w9.ownsRow w.heap.size 22 1 (.slice Aa acc.length ca) acc.length (acc.map uv) := own_mono (ownsRow_same hown.out (fun j hj => hgr.block j (hown.out.lt j hj).2 (fun e => by injection e with e; subst e; have := (hown.out.lt _ hj).1; omega))) (by omega)
      exact bodyPost_ret (v := .tuple #[.agg (rdV A n c q F), .slice Aa acc.length ca]) (by simp [results, Try.results98, go_sem, e0, e1, e2, e3]) rfl ⟨Aa, ca, rfl, ho9, hbel.out.grown hgr hbel.out.size (fun j hj => by injection hj with hj; omega)⟩
    case pos =>
      have hd : decide ((k : Int) < (m : Int)) = true := by simp; omega
      have hd2 : decide (k < m) = true := by simpa using hkn
      have HV := Lib.hid (HRD.out wr q F hbel.out hokF.out hqn.out)
      have hstep : m - k = (m - (k + 1)) + 1 := by omega
      have heq2 := heq.out
      rw [hstep] at heq2
      have hbad := risF_bad1 (l := l) (k := m - (k + 1)) (p := q) (f := F) (acc := acc)
      have hgood := risF_step (l := l) (k := m - (k + 1)) (p := q) (f := F) (acc := acc)
      have hover := risF_over (l := l) (k := m - (k + 1)) (p := q) (f := F) (acc := acc)
      have hx64 := vrdF_lt l q F
      have hok2 := vrdF_ok (l := l) (p := q) hokF.out
      have hqle := (vrdF_le (l := l) (p := q) (f := F) (by rw [HLL.out]; exact hqn.out)).1
      rw [HLL.out] at hqle
      rw [heq2] at hbad hgood hover
      generalize vrdF l q F = r at *
      obtain ⟨x, q2, F2⟩ := r
      simp only at HV hbad hgood hover hx64 hok2 hqle
      have HOK2 := Lib.hid hok2
      have HBAD := Lib.hid hbad
      have HGOOD := Lib.hid hgood
      have HOVER := Lib.hid hover
      have HX64 := Lib.hid hx64
      have HQ2 := Lib.hid hqle
      clear hbad hgood hover heq2 hstep hx64 hok2 heq hqle
      by_cases hF : F2.1 = 0
      case neg =>
        have hq : (F2.1 != 0) = true := by simpa using hF
        have hq2 : (F2.1 == 0) = false := by simpa using hF
        have HBD : Hid (R = ([], q2, F2)) := HBAD.out hF
        clear hF
        go_wp2_with fail
        refine HV.out.mono ?_; rintro e w1 ⟨rfl, hb⟩
        have HK1 := Lib.hid (keepB (show Blk wr w.heap.size 71 _ from hkk.out) hb)
        have HR1 := Lib.hid (keepB (show Blk wr (w.heap.size + 1) 71 _ from hrr.out) hb)
        have HB1 := Lib.hid (stepB hbel.out hb)
        have HW1 := Lib.hid (keepO hown.out hb)
        have hz1 := hb.size
        clear hb d0 d1 d2 d3
        have HK2 := Lib.hid (Blk.alloc (show Blk w1 w.heap.size 71 _ from HK1.out) (.cells (rdV A n c q2 F2) 71))
        have HR2 := Lib.hid (Blk.alloc (show Blk w1 (w.heap.size + 1) 71 _ from HR1.out) (.cells (rdV A n c q2 F2) 71))
        have HB2 := Lib.hid (HB1.out.alloc HB1.out.size (.cells (rdV A n c q2 F2) 71))
        have HW2 := Lib.hid (HW1.out.alloc (.cells (rdV A n c q2 F2) 71))
        have hl1 := (show Blk w1 w.heap.size 71 _ from HK1.out).lt
        go_wp2_with (first
          | (refine wpList_put_row rfl 71 (.tmp 2) (.tmp 24) rfl w.heap.size (rdV A n c q2 F2) rfl rfl 71 _ HK2.out H.out rfl (by simp [Value.oneCell']) ?_; intro w3 hblk hgr; have d0 := hblk.cell 0; have d1 := hblk.cell 1; have d2 := hblk.cell 2; have d3 := hblk.cell 3; have HK3 := Lib.hid hblk; have HR3 := Lib.hid ((show Blk (w1.alloc (.cells (rdV A n c q2 F2) 71)) (w.heap.size + 1) 71 _ from HR2.out).grown hgr (by simp)); have HB3 := Lib.hid (HB2.out.grown hgr HB2.out.size (fun j hj => by injection hj with hj; omega)); have HW3 := Lib.hid (ownsRow_same HW2.out (fun j hj => hgr.block j (HW2.out.lt j hj).2 (fun e => by injection e with e; subst e; have := (HW2.out.lt _ hj).1; omega))); clear hblk hgr)
          | (refine wpList_put_row rfl 71 (.tmp 4) (.tmp 29) rfl (w.heap.size + 1) (rdV A n c q2 F2) rfl rfl 71 _ HR3.out H.out rfl (by simp [Value.oneCell']) ?_; intro w9 hblk9 hgr9))
        have e0 := hblk9.cell 0
        have e1 := hblk9.cell 1
        have e2 := hblk9.cell 2
        have e3 := hblk9.cell 3
        have hRR := HBD.out
        subst hRR
        exact bodyPost_ret (v := .tuple #[.agg (rdV A n c q2 F2), .slice none 0 0]) (by simp [results, Try.results98, go_sem, e0, e1, e2, e3]) rfl ⟨none, 0, rfl, World.ownsRow_nil _ _ _ _, HB3.out.grown hgr9 (HB3.out).size (fun j hj => by injection hj with hj; omega)⟩
      case pos =>
        have hq : (F2.1 != 0) = false := by simpa using hF
        have hq2 : (F2.1 == 0) = true := by simpa using hF
        have HF := Lib.hid hF
        clear hF
        by_cases hk0 : k = 0
        case pos =>
          subst hk0
          have hnx : nx acc[acc.length - 1]? x = x := by
            obtain rfl := List.eq_nil_of_length_eq_zero HA71.out
            rfl
          have HNX := Lib.hid hnx
          have HY64 : Hid (x < 18446744073709551616) := HX64.out
          have HGD : Hid (R = risF l (m - (0 + 1)) q2 F2 (acc ++ [x])) := by
            have := HGOOD.out HF.out (by rw [HNX.out]; have := HX64.out; omega)
            rw [HNX.out] at this
            exact this
          clear hnx
          go_wp2_with fail
          refine HV.out.mono ?_; rintro e w1 ⟨rfl, hb⟩
          have HK1 := Lib.hid (keepB (show Blk wr w.heap.size 71 _ from hkk.out) hb)
          have HR1 := Lib.hid (keepB (show Blk wr (w.heap.size + 1) 71 _ from hrr.out) hb)
          have HB1 := Lib.hid (stepB hbel.out hb)
          have HW1 := Lib.hid (keepO hown.out hb)
          have hz1 := hb.size
          clear hb d0 d1 d2 d3
          have HK2 := Lib.hid (Blk.alloc (show Blk w1 w.heap.size 71 _ from HK1.out) (.cells (rdV A n c q2 F2) 71))
          have HR2 := Lib.hid (Blk.alloc (show Blk w1 (w.heap.size + 1) 71 _ from HR1.out) (.cells (rdV A n c q2 F2) 71))
          have HB2 := Lib.hid (HB1.out.alloc HB1.out.size (.cells (rdV A n c q2 F2) 71))
          have HW2 := Lib.hid (HW1.out.alloc (.cells (rdV A n c q2 F2) 71))
          have hl1 := (show Blk w1 w.heap.size 71 _ from HK1.out).lt
          go_wp2_with (first
            | (refine wpList_put_row rfl 71 (.tmp 2) (.tmp 24) rfl w.heap.size (rdV A n c q2 F2) rfl rfl 71 _ HK2.out H.out rfl (by simp [Value.oneCell']) ?_; intro w3 hblk hgr; have d0 := hblk.cell 0; have d1 := hblk.cell 1; have d2 := hblk.cell 2; have d3 := hblk.cell 3; have HK3 := Lib.hid hblk; have HR3 := Lib.hid ((show Blk (w1.alloc (.cells (rdV A n c q2 F2) 71)) (w.heap.size + 1) 71 _ from HR2.out).grown hgr (by simp)); have HB3 := Lib.hid (HB2.out.grown hgr HB2.out.size (fun j hj => by injection hj with hj; omega)); have HW3 := Lib.hid (ownsRow_same HW2.out (fun j hj => hgr.block j (HW2.out.lt j hj).2 (fun e => by injection e with e; subst e; have := (HW2.out.lt _ hj).1; omega))); clear hblk hgr)
            | (at_builtin; refine wpList_app rfl (.tmp 54) (.tmp 56) _ rfl elem64 rfl (HW3.out.alloc _) rfl (Src.new w3 (.int .u64 ((x : Int))) _ rfl) (by unfold maxLen; omega) (by omega) (by have := (show Blk w3 (w.heap.size + 1) _ _ from HR3.out).lt; simp; omega) ?_; intro A5 c5 w5 ho5 hg5 hat5; have HO5 := Lib.hid ho5; have HG5 := Lib.hid (show w3.grownBy w5 _ from ⟨hg5.os, hg5.tape, hg5.output, by have := hg5.size; simp at this; omega, fun j hj hn => (hg5.block j (by simp; omega) hn).trans (Below.heap_alloc _ _ _ hj)⟩); clear ho5 hg5 hat5))
          have hKn : some w.heap.size ≠ (Value.slice Aa 0 ca).ownBlock := fun e => by have := (HW3.out.lt _ e.symm).1; omega
          have hRn : some (w.heap.size + 1) ≠ (Value.slice Aa 0 ca).ownBlock := fun e => by have := (HW3.out.lt _ e.symm).1; omega
          go_roundw
          case rel =>
            refine ⟨0 + 1, q2, F2, acc ++ [x], A5, c5, by omega, by go_num, rfl, by rw [List.length_append, HA71.out]; rfl, HQ2.out, HOK2.out, ?_, ?_, ?_, ?_, ?_, HGD.out.symm⟩
            · intro z hz
              rcases List.mem_append.1 hz with hz | hz
              · exact hlt64.out z hz
              · simp only [List.mem_singleton] at hz
                subst hz
                exact HY64.out
            · have := HO5.out
              rw [List.map_append]
              exact this
            · exact (show Blk w3 w.heap.size 71 _ from HK3.out).grown HG5.out hKn
            · exact (show Blk w3 (w.heap.size + 1) 71 _ from HR3.out).grown HG5.out hRn
            · exact HB3.out.grown HG5.out HB3.out.size (fun j hj => by have := (HW3.out.lt j hj).1; omega)
          case measure => simp [intOf]; omega
        case neg =>
          have hkp : 0 < k := by omega
          have hkI : (1 : Int) ≤ (k : Int) := by omega
          have hkI0 : (0 : Int) < (k : Int) := by omega
          have hd3 : decide ((0 : Int) < (k : Int)) = true := by simp; omega
          obtain ⟨a, ha⟩ : ∃ a, acc[k - 1]? = some a := ⟨_, List.getElem?_eq_getElem (by have := HA71.out; omega)⟩
          have ha64 : a < 18446744073709551616 := hlt64.out a (List.mem_of_getElem? ha)
          have HA := Lib.hid ha
          have hnx : nx acc[acc.length - 1]? x = a + x + 1 := by rw [HA71.out, ha]; rfl
          have HNX := Lib.hid hnx
          have hx64 := HX64.out
          have s0 : IntKind.u64.wrap ((18446744073709551615 : Int) - (a : Int)) = (18446744073709551615 : Int) - (a : Int) := IntWalk.u64_in _ (by omega)
          clear hnx ha
          by_cases hov : 18446744073709551616 ≤ a + x + 1
          case neg =>
            have HY64 : Hid (a + x + 1 < 18446744073709551616) := (by omega : a + x + 1 < 18446744073709551616)
            have t1 : decide ((18446744073709551615 : Int) - (a : Int) < (x : Int)) = false := by simp; omega
            have t2 : ((x : Int) == (18446744073709551615 : Int) - (a : Int)) = false := by simp; omega
            have s1 : IntKind.u64.wrap ((a : Int) + (x : Int)) = (a : Int) + (x : Int) := IntWalk.u64_in _ (by omega)
            have s2 : IntKind.u64.wrap ((a : Int) + (x : Int) + 1) = (a : Int) + (x : Int) + 1 := IntWalk.u64_in _ (by omega)
            have HYY : Hid ((a : Int) + (x : Int) + 1 = ((a + x + 1 : Nat) : Int)) := (by omega : (a : Int) + (x : Int) + 1 = ((a + x + 1 : Nat) : Int))
            have HGD : Hid (R = risF l (m - (k + 1)) q2 F2 (acc ++ [a + x + 1])) := by
              have := HGOOD.out HF.out (by rw [HNX.out]; exact hov)
              rw [HNX.out] at this
              exact this
            go_wp2_with fail
            refine HV.out.mono ?_; rintro e w1 ⟨rfl, hb⟩
            have HK1 := Lib.hid (keepB (show Blk wr w.heap.size 71 _ from hkk.out) hb)
            have HR1 := Lib.hid (keepB (show Blk wr (w.heap.size + 1) 71 _ from hrr.out) hb)
            have HB1 := Lib.hid (stepB hbel.out hb)
            have HW1 := Lib.hid (keepO hown.out hb)
            have hz1 := hb.size
            clear hb d0 d1 d2 d3
            have HK2 := Lib.hid (Blk.alloc (show Blk w1 w.heap.size 71 _ from HK1.out) (.cells (rdV A n c q2 F2) 71))
            have HR2 := Lib.hid (Blk.alloc (show Blk w1 (w.heap.size + 1) 71 _ from HR1.out) (.cells (rdV A n c q2 F2) 71))
            have HB2 := Lib.hid (HB1.out.alloc HB1.out.size (.cells (rdV A n c q2 F2) 71))
            have HW2 := Lib.hid (HW1.out.alloc (.cells (rdV A n c q2 F2) 71))
            have hl1 := (show Blk w1 w.heap.size 71 _ from HK1.out).lt
            go_wp2_with (first
              | (refine wpList_put_row rfl 71 (.tmp 2) (.tmp 24) rfl w.heap.size (rdV A n c q2 F2) rfl rfl 71 _ HK2.out H.out rfl (by simp [Value.oneCell']) ?_; intro w3 hblk hgr; have d0 := hblk.cell 0; have d1 := hblk.cell 1; have d2 := hblk.cell 2; have d3 := hblk.cell 3; have HK3 := Lib.hid hblk; have HR3 := Lib.hid ((show Blk (w1.alloc (.cells (rdV A n c q2 F2) 71)) (w.heap.size + 1) 71 _ from HR2.out).grown hgr (by simp)); have HB3 := Lib.hid (HB2.out.grown hgr HB2.out.size (fun j hj => by injection hj with hj; omega)); have HW3 := Lib.hid (ownsRow_same HW2.out (fun j hj => hgr.block j (HW2.out.lt j hj).2 (fun e => by injection e with e; subst e; have := (HW2.out.lt _ hj).1; omega))); obtain ⟨bo, hAo, hbo, _, _, hco, _⟩ := own_block HW3.out hkp; have hcell := hco (k - 1) (uv a) (by rw [List.getElem?_map, HA.out]; rfl); unfold uv at hcell; clear hco; subst hAo; clear hblk hgr)
              | (at_builtin; refine wpList_app rfl (.tmp 54) (.tmp 56) _ rfl elem64 rfl (HW3.out.alloc _) rfl (Src.new w3 (.int .u64 ((a : Int) + (x : Int) + 1)) _ rfl) (by unfold maxLen; omega) (by omega) (by have := (show Blk w3 (w.heap.size + 1) _ _ from HR3.out).lt; simp; omega) ?_; intro A5 c5 w5 ho5 hg5 hat5; have HO5 := Lib.hid ho5; have HG5 := Lib.hid (show w3.grownBy w5 _ from ⟨hg5.os, hg5.tape, hg5.output, by have := hg5.size; simp at this; omega, fun j hj hn => (hg5.block j (by simp; omega) hn).trans (Below.heap_alloc _ _ _ hj)⟩); clear ho5 hg5 hat5))
            have hKn : some w.heap.size ≠ (Value.slice (some ⟨bo, 0, none⟩) k ca).ownBlock := fun e => by have := (HW3.out.lt _ e.symm).1; omega
            have hRn : some (w.heap.size + 1) ≠ (Value.slice (some ⟨bo, 0, none⟩) k ca).ownBlock := fun e => by have := (HW3.out.lt _ e.symm).1; omega
            go_roundw
            case rel =>
              refine ⟨k + 1, q2, F2, acc ++ [a + x + 1], A5, c5, by omega, by go_num, rfl, by rw [List.length_append, HA71.out]; rfl, HQ2.out, HOK2.out, ?_, ?_, ?_, ?_, ?_, HGD.out.symm⟩
              · intro z hz
                rcases List.mem_append.1 hz with hz | hz
                · exact hlt64.out z hz
                · simp only [List.mem_singleton] at hz
                  subst hz
                  exact HY64.out
              · have := HO5.out
                rw [HYY.out] at this
                rw [List.map_append]
                exact this
              · exact (show Blk w3 w.heap.size 71 _ from HK3.out).grown HG5.out hKn
              · exact (show Blk w3 (w.heap.size + 1) 71 _ from HR3.out).grown HG5.out hRn
              · exact HB3.out.grown HG5.out HB3.out.size (fun j hj => by have := (HW3.out.lt j hj).1; omega)
            case measure => simp [intOf]; omega
          case pos =>
            have HOV : Hid (R = ([], q2, failF F2 13 q)) := HOVER.out (by rw [HNX.out]; exact hov)
            obtain ⟨FF, hFF⟩ : ∃ FF, FF = failF F2 13 (q : Int) := ⟨_, rfl⟩
            rw [← hFF] at HOV
            have HFL : Hid (∀ w, Calls Try.prog 95 #[.agg (rdV A n c q2 F2), .int .i64 13, .int .i64 (q : Int)] w fun e w' => e = .returned (.agg (rdV A n c q2 FF)) ∧ Below w.heap.size w w') := fun w => by rw [hFF]; exact rfail_any A n c q2 F2 13 q w
            clear hFF
            by_cases hgt : 18446744073709551615 < a + x
            case pos =>
              have t1 : decide ((18446744073709551615 : Int) - (a : Int) < (x : Int)) = true := by simp; omega
              clear hov hgt
              go_wp2_with fail
              refine HV.out.mono ?_; rintro e w1 ⟨rfl, hb⟩
              have HK1 := Lib.hid (keepB (show Blk wr w.heap.size 71 _ from hkk.out) hb)
              have HR1 := Lib.hid (keepB (show Blk wr (w.heap.size + 1) 71 _ from hrr.out) hb)
              have HB1 := Lib.hid (stepB hbel.out hb)
              have HW1 := Lib.hid (keepO hown.out hb)
              have hz1 := hb.size
              clear hb d0 d1 d2 d3
              have HK2 := Lib.hid (Blk.alloc (show Blk w1 w.heap.size 71 _ from HK1.out) (.cells (rdV A n c q2 F2) 71))
              have HR2 := Lib.hid (Blk.alloc (show Blk w1 (w.heap.size + 1) 71 _ from HR1.out) (.cells (rdV A n c q2 F2) 71))
              have HB2 := Lib.hid (HB1.out.alloc HB1.out.size (.cells (rdV A n c q2 F2) 71))
              have HW2 := Lib.hid (HW1.out.alloc (.cells (rdV A n c q2 F2) 71))
              have hl1 := (show Blk w1 w.heap.size 71 _ from HK1.out).lt
              go_wp2_with (first
                | (refine wpList_put_row rfl 71 (.tmp 2) (.tmp 24) rfl w.heap.size (rdV A n c q2 F2) rfl rfl 71 _ HK2.out H.out rfl (by simp [Value.oneCell']) ?_; intro w3 hblk hgr; have d0 := hblk.cell 0; have d1 := hblk.cell 1; have d2 := hblk.cell 2; have d3 := hblk.cell 3; have HK3 := Lib.hid hblk; have HR3 := Lib.hid ((show Blk (w1.alloc (.cells (rdV A n c q2 F2) 71)) (w.heap.size + 1) 71 _ from HR2.out).grown hgr (by simp)); have HB3 := Lib.hid (HB2.out.grown hgr HB2.out.size (fun j hj => by injection hj with hj; omega)); have HW3 := Lib.hid (ownsRow_same HW2.out (fun j hj => hgr.block j (HW2.out.lt j hj).2 (fun e => by injection e with e; subst e; have := (HW2.out.lt _ hj).1; omega))); obtain ⟨bo, hAo, hbo, _, _, hco, _⟩ := own_block HW3.out hkp; have hcell := hco (k - 1) (uv a) (by rw [List.getElem?_map, HA.out]; rfl); unfold uv at hcell; clear hco; subst hAo; clear hblk hgr))
              refine (HFL.out _).mono ?_; rintro e w4 ⟨rfl, hb⟩
              have HR4 := Lib.hid (keepB (show Blk w3 (w.heap.size + 1) 71 _ from HR3.out) hb)
              have HB4 := Lib.hid (stepB HB3.out hb)
              clear hb hcell d0 d1 d2 d3
              go_wp2_with (first
                | (refine wpList_put_row rfl 71 (.tmp 4) (.tmp 49) rfl (w.heap.size + 1) (rdV A n c q2 FF) rfl rfl 71 _ HR4.out H.out rfl (by simp [Value.oneCell']) ?_; intro w9 hblk9 hgr9))
              have e0 := hblk9.cell 0
              have e1 := hblk9.cell 1
              have e2 := hblk9.cell 2
              have e3 := hblk9.cell 3
              have hRR := HOV.out
              subst hRR
              exact bodyPost_ret (v := .tuple #[.agg (rdV A n c q2 FF), .slice none 0 0]) (by simp [results, Try.results98, go_sem, e0, e1, e2, e3]) rfl ⟨none, 0, rfl, World.ownsRow_nil _ _ _ _, HB4.out.grown hgr9 (HB4.out).size (fun j hj => by injection hj with hj; omega)⟩
            case neg =>
              have t1 : decide ((18446744073709551615 : Int) - (a : Int) < (x : Int)) = false := by simp; omega
              have t2 : ((x : Int) == (18446744073709551615 : Int) - (a : Int)) = true := by simp; omega
              clear hov hgt
              go_wp2_with fail
              refine HV.out.mono ?_; rintro e w1 ⟨rfl, hb⟩
              have HK1 := Lib.hid (keepB (show Blk wr w.heap.size 71 _ from hkk.out) hb)
              have HR1 := Lib.hid (keepB (show Blk wr (w.heap.size + 1) 71 _ from hrr.out) hb)
              have HB1 := Lib.hid (stepB hbel.out hb)
              have HW1 := Lib.hid (keepO hown.out hb)
              have hz1 := hb.size
              clear hb d0 d1 d2 d3
              have HK2 := Lib.hid (Blk.alloc (show Blk w1 w.heap.size 71 _ from HK1.out) (.cells (rdV A n c q2 F2) 71))
              have HR2 := Lib.hid (Blk.alloc (show Blk w1 (w.heap.size + 1) 71 _ from HR1.out) (.cells (rdV A n c q2 F2) 71))
              have HB2 := Lib.hid (HB1.out.alloc HB1.out.size (.cells (rdV A n c q2 F2) 71))
              have HW2 := Lib.hid (HW1.out.alloc (.cells (rdV A n c q2 F2) 71))
              have hl1 := (show Blk w1 w.heap.size 71 _ from HK1.out).lt
              go_wp2_with (first
                | (refine wpList_put_row rfl 71 (.tmp 2) (.tmp 24) rfl w.heap.size (rdV A n c q2 F2) rfl rfl 71 _ HK2.out H.out rfl (by simp [Value.oneCell']) ?_; intro w3 hblk hgr; have d0 := hblk.cell 0; have d1 := hblk.cell 1; have d2 := hblk.cell 2; have d3 := hblk.cell 3; have HK3 := Lib.hid hblk; have HR3 := Lib.hid ((show Blk (w1.alloc (.cells (rdV A n c q2 F2) 71)) (w.heap.size + 1) 71 _ from HR2.out).grown hgr (by simp)); have HB3 := Lib.hid (HB2.out.grown hgr HB2.out.size (fun j hj => by injection hj with hj; omega)); have HW3 := Lib.hid (ownsRow_same HW2.out (fun j hj => hgr.block j (HW2.out.lt j hj).2 (fun e => by injection e with e; subst e; have := (HW2.out.lt _ hj).1; omega))); obtain ⟨bo, hAo, hbo, _, _, hco, _⟩ := own_block HW3.out hkp; have hcell := hco (k - 1) (uv a) (by rw [List.getElem?_map, HA.out]; rfl); unfold uv at hcell; clear hco; subst hAo; clear hblk hgr))
              refine (HFL.out _).mono ?_; rintro e w4 ⟨rfl, hb⟩
              have HR4 := Lib.hid (keepB (show Blk w3 (w.heap.size + 1) 71 _ from HR3.out) hb)
              have HB4 := Lib.hid (stepB HB3.out hb)
              clear hb hcell d0 d1 d2 d3
              go_wp2_with (first
                | (refine wpList_put_row rfl 71 (.tmp 4) (.tmp 49) rfl (w.heap.size + 1) (rdV A n c q2 FF) rfl rfl 71 _ HR4.out H.out rfl (by simp [Value.oneCell']) ?_; intro w9 hblk9 hgr9))
              have e0 := hblk9.cell 0
              have e1 := hblk9.cell 1
              have e2 := hblk9.cell 2
              have e3 := hblk9.cell 3
              have hRR := HOV.out
              subst hRR
              exact bodyPost_ret (v := .tuple #[.agg (rdV A n c q2 FF), .slice none 0 0]) (by simp [results, Try.results98, go_sem, e0, e1, e2, e3]) rfl ⟨none, 0, rfl, World.ownsRow_nil _ _ _ _, HB4.out.grown hgr9 (HB4.out).size (fun j hj => by injection hj with hj; omega)⟩
end
end Go.Proofs.Ytmdgmnaaopineaa
/- The reference's bytes of a rising list. -/
namespace Go.Proofs.Ytmdgmnaaopineaa
open Go.ChangeShapes Go.WideShapes Go.ChangeAt Go.RowKit
set_option linter.unusedVariables false
def prevOf (o : Option Nat) (l : List Nat) : Nat → Option Nat | 0 => o | k + 1 => l[k]?
def sub1 : Option Nat → Nat → Nat | none, y => y | some a, y => y - a - 1
theorem stepsFrom_cons (o : Option Nat) (x : Nat) (L : List Nat) : stepsFrom o (x :: L) = sub1 o x :: stepsFrom (some x) L := by cases o <;> rfl
theorem stepsFrom_nil (o : Option Nat) : stepsFrom o [] = [] := by cases o <;> rfl
theorem stepsFrom_snoc : ∀ (l : List Nat) (o : Option Nat) (k y : Nat), l[k]? = some y → stepsFrom o (l.take (k + 1)) = stepsFrom o (l.take k) ++ [sub1 (prevOf o l k) y]
  | [], o, k, y, h => by simp at h
  | x :: xs, o, 0, y, h => by
    simp only [List.getElem?_cons_zero, Option.some.injEq] at h
    subst h
    simp [stepsFrom_cons, stepsFrom_nil, prevOf]
  | x :: xs, o, k + 1, y, h => by
    rw [List.take_succ_cons, List.take_succ_cons, stepsFrom_cons, stepsFrom_cons, stepsFrom_snoc xs (some x) k y (by simpa using h)]
    have e : prevOf (some x) xs k = prevOf o (x :: xs) (k + 1) := by cases k <;> rfl
    rw [e]; rfl
theorem flat_snoc (a : List Nat) (x : Nat) : flat (a ++ [x]) = flat a ++ vbytes x := by rw [flat_append, flat_cons, flat_nil, List.append_nil]
section
variable {D : Dom} {A : Option Addr} {n c : Nat} {l : List Nat} {w : World}
set_option maxRecDepth 100000 in
set_option maxHeartbeats 2000000 in
theorem rlbytes_any (hl : rpU64.sl w D A n c l) (hD : ∀ k, D k → k < w.heap.size) (hr : Rises l) (hn : n ≤ 1000) :
    Calls Try.prog 102 #[.slice A n c] w fun e w' => ∃ A2 m c2, e = .returned (.slice A2 m c2) ∧ w'.ownsRow w.heap.size 5 1 (.slice A2 m c2) m ((flat (stepsFrom none l)).map bv) ∧ m ≤ 10 * n ∧ Below w.heap.size w w' := by
  obtain ⟨hlen, hnc, hcm⟩ := Rp.sl_len hl
  have HV : Hid (∀ (x : Nat) (w : World), x < 18446744073709551616 → Calls Try.prog 101 #[.int .u64 (x : Int)] w fun e w' => ∃ A n c, e = .returned (.slice A n c) ∧ w'.ownsRow w.heap.size 5 1 (.slice A n c) n ((vbytes x).map bv) ∧ n ≤ 10 ∧ Below w.heap.size w w') := fun x w hx => (rvbytes_any 9 x w (by omega) (by decide) hx).mono fun e w' ⟨A, n, c, h1, h2, h3⟩ => ⟨A, n, c, h1, h2, by have := h2.1; have := vbytes_10 hx; simp at *; omega, h3⟩
  have HL := Lib.hid hl
  have HN := Lib.hid hlen
  have HD := Lib.hid hD
  have HRI := Lib.hid hr
  clear hl hlen hD hr hcm hnc
  go_enter Try.func102, Try.ntmps102
  go_wp2_with fail
  go_loopw [3, 4] (fun o i wr => ∃ (k m : Nat) (A2 : Option Addr) (c2 : Nat), k ≤ n ∧ i = .int .i64 k ∧ o = .slice A2 m c2 ∧ m ≤ 10 * k ∧ Hid (wr.ownsRow w.heap.size 5 1 (.slice A2 m c2) m ((flat (stepsFrom none (l.take k))).map bv)) ∧ Hid (Below w.heap.size w wr)) (fun _ i _ => n - (intOf i).toNat)
  case atStart => exact ⟨0, 0, none, 0, by omega, rfl, rfl, by omega, World.ownsRow_nil _ _ _ _, Below.refl _ _⟩
  case round =>
    obtain ⟨k, m, A2, c2, hk, rfl, rfl, hm, hown, hbel⟩ := hrel
    by_cases hkn : k < n
    case neg =>
      obtain rfl : k = n := by omega
      have hd : decide ((k : Int) < (k : Int)) = false := by simp
      go_wp2_with fail
      go_ret
      have := hown.out
      rw [List.take_of_length_le (by rw [HN.out]; exact Nat.le_refl _)] at this
      exact ⟨A2, m, c2, rfl, this, hm, hbel.out⟩
    case pos =>
      have hd : decide ((k : Int) < (n : Int)) = true := by simp; omega
      have hkI : (0 : Int) ≤ (k : Int) := by omega
      have hknI : (k : Int) < (n : Int) := by omega
      obtain ⟨b, off, y, rfl, hb, hy, hc, hlt⟩ := u64_at (Rp.sl_below HL.out hbel.out HD.out) hkn
      have HST := Lib.hid (stepsFrom_snoc l none k y hy)
      have hmx : m + 10 ≤ maxLen := by unfold maxLen; omega
      have hsz := hbel.out.size
      by_cases hk0 : k = 0
      case pos =>
        subst hk0
        have hq : ((0 : Int) == 0) = true := rfl
        have HS1 : Hid (flat (stepsFrom none (l.take (0 + 1))) = flat (stepsFrom none (l.take 0)) ++ vbytes y) := by
          have := HST.out; rw [this, flat_snoc]; rfl
        have HY64 : Hid (y < 18446744073709551616) := (by omega : y < 18446744073709551616)
        have hc0 : wr.cell? ⟨b, off, none⟩ = some (.int .u64 (y : Int)) := by simpa using hc
        clear hy hlt
        go_wp2_with fail
        refine (HV.out y _ HY64.out).mono ?_; rintro e w1 ⟨A3, n3, c3, rfl, ho3, hn3, hb3⟩
        have HO3 := Lib.hid ho3
        have HO := Lib.hid (keepO hown.out hb3)
        have HB := Lib.hid (stepB hbel.out hb3)
        clear ho3 hb3
        go_wp2_with (at_builtin; refine wpList_app rfl (.tmp 13) (.tmp 17) _ rfl elemB rfl HO.out rfl (Src.bytes (own_bytes HO3.out)) (by omega) (by omega) HB.out.size ?_; intro A5 c5 w5 ho5 hg5 hat5; have HO5 := Lib.hid ho5; have HB5 := Lib.hid (HB.out.grown hg5 HB.out.size (fun j hj => (HO.out.lt j hj).1)); clear ho5 hg5 hat5)
        go_roundw
        case rel => exact ⟨0 + 1, m + n3, A5, c5, by omega, by go_num, rfl, by omega, by rw [HS1.out, List.map_append]; exact HO5.out, HB5.out⟩
        case measure => simp [intOf]; omega
      case neg =>
        have hq : ((k : Int) == 0) = false := by simp; omega
        obtain ⟨b', off', a, hA', hb', ha, hca, hlta⟩ := u64_at (k := k - 1) (Rp.sl_below HL.out hbel.out HD.out) (by omega)
        injection hA' with hA'
        injection hA' with hA1 hA2 _
        subst hA1; subst hA2
        have hlt2 : a < y := HRI.out (k - 1) a y ha (by rw [show k - 1 + 1 = k by omega]; exact hy)
        have hpr : prevOf none l k = some a := by
          obtain ⟨j, rfl⟩ : ∃ j, k = j + 1 := ⟨k - 1, by omega⟩
          exact ha
        have HS1 : Hid (flat (stepsFrom none (l.take (k + 1))) = flat (stepsFrom none (l.take k)) ++ vbytes (y - a - 1)) := by
          have := HST.out; rw [this, flat_snoc, hpr]; rfl
        obtain ⟨J, hJ⟩ : ∃ J, J = k - 1 := ⟨_, rfl⟩
        have hcb : wr.cell? ⟨b, off + J, none⟩ = some (.int .u64 (a : Int)) := by rw [hJ]; exact hca
        have s2 : IntKind.i64.wrap ((k : Int) - 1) = (J : Int) := by rw [IntWalk.i64_in _ (by omega)]; omega
        have hJ0 : (0 : Int) ≤ (J : Int) := by omega
        have hJ1 : (J : Int) < (n : Int) := by omega
        have s0 : IntKind.u64.wrap ((y : Int) - (a : Int)) = (y : Int) - (a : Int) := IntWalk.u64_in _ (by omega)
        have s1 : IntKind.u64.wrap ((y : Int) - (a : Int) - 1) = ((y - a - 1 : Nat) : Int) := by rw [IntWalk.u64_in _ (by omega)]; omega
        have HY64 : Hid (y - a - 1 < 18446744073709551616) := (by omega : y - a - 1 < 18446744073709551616)
        obtain ⟨Y, hY⟩ : ∃ Y, Y = y - a - 1 := ⟨_, rfl⟩
        rw [← hY] at s1 HY64 HS1
        have hbl : b < w.heap.size := HD.out b hb
        have HCK : Hid (∀ w', Below w.heap.size w w' → w'.cell? ⟨b, off + k, none⟩ = some (.int .u64 (y : Int)) ∧ w'.cell? ⟨b, off + J, none⟩ = some (.int .u64 (a : Int))) := fun w' hb' => ⟨(hb'.cell (p := ⟨b, off + k, none⟩) hbl).trans ((hbel.out.cell (p := ⟨b, off + k, none⟩) hbl).symm.trans hc), (hb'.cell (p := ⟨b, off + J, none⟩) hbl).trans ((hbel.out.cell (p := ⟨b, off + J, none⟩) hbl).symm.trans hcb)⟩
        clear hy hlt hlt2 hpr ha hY hlta hca hJ hbl
        go_wp2_with fail
        go_region_held3 (fun w' => w'.cell? ⟨b, off + k, none⟩ = some (.int .u64 (y : Int)) ∧ w'.cell? ⟨b, off + J, none⟩ = some (.int .u64 (a : Int)))
          (first | go_keep | exact HCK.out _ HB5.out | exact HCK.out _ HB.out | exact HCK.out _ hbel.out)
          (first
            | (go_at_call 101; refine (HV.out Y _ HY64.out).mono ?_; rintro e w1 ⟨A3, n3, c3, rfl, ho3, hn3, hb3b⟩; have hb3 : Below wr.heap.size wr w1 := ⟨hb3b.os, hb3b.tape, hb3b.output, hb3b.size, hb3b.block⟩; have HO3 := Lib.hid ho3; have HO := Lib.hid (keepO hown.out hb3); have HB := Lib.hid (stepB hbel.out hb3); have hmx5 : m + n3 ≤ maxLen := (by omega); clear ho3 hb3 hb3b)
            | (refine step_app rfl (.tmp 19) (.tmp 31) _ rfl elemB (by rfl) HO.out (by rfl) (Src.bytes (own_bytes HO3.out)) hmx5 (by omega) HB.out.size ?_; intro A5 c5 w5 ho5 hg5 hat5; have HO5 := Lib.hid ho5; have HB5 := Lib.hid (HB.out.grown hg5 HB.out.size (fun j hj => (HO.out.lt j hj).1)); clear ho5 hg5 hat5))
        go_wp2_with fail
        go_roundw
        case rel => exact ⟨k + 1, m + n3, A5, c5, by omega, by go_num, rfl, by omega, by rw [HS1.out, List.map_append]; exact HO5.out, HB5.out⟩
        case measure => simp [intOf]; omega
end
end Go.Proofs.Ytmdgmnaaopineaa
/- A stripe is written: zigzag.steps, PutRising, stripe.Put, stripe.Bytes. -/
namespace Go.Proofs.Ytmdgmnaaopineaa
open Go.ChangeShapes Go.WideShapes Go.ChangeAt Go.RowKit
set_option linter.unusedVariables false
theorem stepsFrom_length : ∀ (o : Option Nat) (l : List Nat), (stepsFrom o l).length = l.length
  | o, [] => by rw [stepsFrom_nil]
  | o, x :: xs => by rw [stepsFrom_cons, List.length_cons, stepsFrom_length, List.length_cons]
theorem stepsFrom_lt : ∀ (o : Option Nat) (l : List Nat) (B : Nat), (∀ x ∈ l, x < B) → ∀ x ∈ stepsFrom o l, x < B
  | o, [], B, h, x, hx => by rw [stepsFrom_nil] at hx; cases hx
  | o, y :: ys, B, h, x, hx => by
    rw [stepsFrom_cons] at hx
    rcases List.mem_cons.1 hx with rfl | hx
    · have := h y (by simp)
      cases o with
      | none => exact this
      | some a => show y - a - 1 < B; omega
    · exact stepsFrom_lt _ ys B (fun z hz => h z (by simp [hz])) x hx
section
variable {D : Dom} {A : Option Addr} {n c : Nat} {l : List Nat} {w : World}
set_option maxRecDepth 100000 in
set_option maxHeartbeats 2000000 in
theorem steps_any (hl : rpU64.sl w D A n c l) (hD : ∀ k, D k → k < w.heap.size) (hr : Rises l) (hn : n ≤ 1000) :
    Calls Try.prog 137 #[.slice A n c] w fun e w' => ∃ A2 c2, e = .returned (.slice A2 n c2) ∧ w'.ownsRow w.heap.size 22 1 (.slice A2 n c2) n ((stepsFrom none l).map uv) ∧ Below w.heap.size w w' := by
  obtain ⟨hlen, hnc, hcm⟩ := Rp.sl_len hl
  have HL := Lib.hid hl
  have HN := Lib.hid hlen
  have HD := Lib.hid hD
  have HRI := Lib.hid hr
  clear hl hlen hD hr hcm hnc
  go_enter Try.func137, Try.ntmps137
  go_wp2_with fail
  go_loopw [3, 8] (fun o i wr => ∃ (k : Nat) (A2 : Option Addr) (c2 : Nat), k ≤ n ∧ i = .int .i64 k ∧ o = .slice A2 k c2 ∧ Hid (wr.ownsRow w.heap.size 22 1 (.slice A2 k c2) k ((stepsFrom none (l.take k)).map uv)) ∧ Hid (Below w.heap.size w wr)) (fun _ i _ => n - (intOf i).toNat)
  case atStart => exact ⟨0, none, 0, by omega, rfl, rfl, World.ownsRow_nil _ _ _ _, Below.refl _ _⟩
  case round =>
    obtain ⟨k, A2, c2, hk, rfl, rfl, hown, hbel⟩ := hrel
    by_cases hkn : k < n
    case neg =>
      obtain rfl : k = n := by omega
      have hd : decide ((k : Int) < (k : Int)) = false := by simp
      go_wp2_with fail
      go_ret
      have := hown.out
      rw [List.take_of_length_le (by rw [HN.out]; exact Nat.le_refl _)] at this
      exact ⟨A2, c2, rfl, this, hbel.out⟩
    case pos =>
      have hd : decide ((k : Int) < (n : Int)) = true := by simp; omega
      have hkI : (0 : Int) ≤ (k : Int) := by omega
      have hknI : (k : Int) < (n : Int) := by omega
      obtain ⟨b, off, y, rfl, hb, hy, hc, hlt⟩ := u64_at (Rp.sl_below HL.out hbel.out HD.out) hkn
      have HST := Lib.hid (stepsFrom_snoc l none k y hy)
      have hmx : k + 1 ≤ maxLen := by unfold maxLen; omega
      have hsz := hbel.out.size
      by_cases hk0 : k = 0
      case pos =>
        subst hk0
        have HS1 : Hid (stepsFrom none (l.take (0 + 1)) = stepsFrom none (l.take 0) ++ [y]) := HST.out
        have hc0 : wr.cell? ⟨b, off, none⟩ = some (.int .u64 (y : Int)) := by simpa using hc
        clear hy hlt
        go_wp2_with (at_builtin; refine wpList_app rfl (.tmp 23) (.tmp 25) _ rfl elem64 rfl (hown.out.alloc _) rfl (Src.new wr (.int .u64 (y : Int)) _ rfl) hmx (by omega) (by simp; omega) ?_; intro A5 c5 w5 ho5 hg5 hat5; have HO5 := Lib.hid ho5; have HB5 := Lib.hid ((stepB hbel.out (below1 wr (.cells #[.int .u64 (y : Int)] 22))).grown hg5 (stepB hbel.out (below1 wr (.cells #[.int .u64 (y : Int)] 22))).size (fun j hj => (hown.out.lt j hj).1)); clear ho5 hg5 hat5)
        go_roundw
        case rel => exact ⟨0 + 1, A5, c5, by omega, by go_num, rfl, by rw [HS1.out, List.map_append]; exact HO5.out, HB5.out⟩
        case measure => simp [intOf]; omega
      case neg =>
        have hq : decide ((0 : Int) < (k : Int)) = true := by simp; omega
        obtain ⟨b', off', a, hA', hb', ha, hca, hlta⟩ := u64_at (k := k - 1) (Rp.sl_below HL.out hbel.out HD.out) (by omega)
        injection hA' with hA'
        injection hA' with hA1 hA2 _
        subst hA1; subst hA2
        have hlt2 : a < y := HRI.out (k - 1) a y ha (by rw [show k - 1 + 1 = k by omega]; exact hy)
        have hpr : prevOf none l k = some a := by
          obtain ⟨j, rfl⟩ : ∃ j, k = j + 1 := ⟨k - 1, by omega⟩
          exact ha
        have HS1 : Hid (stepsFrom none (l.take (k + 1)) = stepsFrom none (l.take k) ++ [y - a - 1]) := by
          have := HST.out; rw [this, hpr]; rfl
        have s0 : IntKind.u64.wrap ((a : Int) + 1) = (a : Int) + 1 := IntWalk.u64_in _ (by omega)
        have s1 : IntKind.u64.wrap ((y : Int) - ((a : Int) + 1)) = ((y - a - 1 : Nat) : Int) := by rw [IntWalk.u64_in _ (by omega)]; omega
        obtain ⟨Y, hY⟩ : ∃ Y, Y = y - a - 1 := ⟨_, rfl⟩
        rw [← hY] at s1 HS1
        obtain ⟨J, hJ⟩ : ∃ J, J = k - 1 := ⟨_, rfl⟩
        have hcb : wr.cell? ⟨b, off + J, none⟩ = some (.int .u64 (a : Int)) := by rw [hJ]; exact hca
        have s2 : IntKind.i64.wrap ((k : Int) - 1) = (J : Int) := by rw [IntWalk.i64_in _ (by omega)]; omega
        have hJ0 : (0 : Int) ≤ (J : Int) := by omega
        have hJ1 : (J : Int) < (n : Int) := by omega
        clear hy hlt hlt2 hpr ha hY hlta hca hJ
        go_wp2_with (at_builtin; refine wpList_app rfl (.tmp 23) (.tmp 25) _ rfl elem64 rfl (hown.out.alloc _) rfl (Src.new wr (.int .u64 (Y : Int)) _ rfl) hmx (by omega) (by simp; omega) ?_; intro A5 c5 w5 ho5 hg5 hat5; have HO5 := Lib.hid ho5; have HB5 := Lib.hid ((stepB hbel.out (below1 wr (.cells #[.int .u64 (Y : Int)] 22))).grown hg5 (stepB hbel.out (below1 wr (.cells #[.int .u64 (Y : Int)] 22))).size (fun j hj => (hown.out.lt j hj).1)); clear ho5 hg5 hat5)
        go_roundw
        case rel => exact ⟨k + 1, A5, c5, by omega, by go_num, rfl, by rw [HS1.out, List.map_append]; exact HO5.out, HB5.out⟩
        case measure => simp [intOf]; omega
end
section
variable {D F : Dom} {A : Option Addr} {n c g : Nat} {l : List Nat} {b : List UInt8} {most code : Int} {w : World}
/-- What a call that writes numbers gives. -/
def PutIs (w : World) (F : Dom) (g : Nat) (most : Int) (b : List UInt8) (code : Int) (ns : List Nat) (e : Ending) (w' : World) : Prop :=
  e = .returned (.tuple #[]) ∧ ∃ F', Pen w' F' g most (putsB most (b, code) (ns.map vbytes)).1 (putsB most (b, code) (ns.map vbytes)).2 ∧ Chg F w w' ∧ (∀ k, F' k → F k ∨ w.heap.size ≤ k)
theorem puts_len (most : Int) (b : List UInt8) (code : Int) (ns : List Nat) (h : ∀ x ∈ ns, x < 18446744073709551616) : (putsB most (b, code) (ns.map vbytes)).1.length ≤ b.length + 10 * ns.length := by
  have h1 := putsB_len most (b, code) (ns.map vbytes)
  have h2 := vpieces_len ns h
  simp only at h1
  omega
theorem puts_snoc (most : Int) (b : List UInt8) (code : Int) (ns : List Nat) (x : Nat) : putsB most (b, code) ((ns ++ [x]).map vbytes) = putB most (putsB most (b, code) (ns.map vbytes)).1 (putsB most (b, code) (ns.map vbytes)).2 (vbytes x) := by
  rw [List.map_append]; exact putsB_snoc _ _ _ _
theorem puts_append (most : Int) (b : List UInt8) (code : Int) (ns ms : List Nat) : putsB most (b, code) ((ns ++ ms).map vbytes) = putsB most ((putsB most (b, code) (ns.map vbytes)).1, (putsB most (b, code) (ns.map vbytes)).2) (ms.map vbytes) := by
  rw [List.map_append]; exact putsB_append _ _ _ _
set_option maxRecDepth 100000 in
set_option maxHeartbeats 2000000 in
theorem putRising_any (h : Pen w F g most b code) (h0 : 0 ≤ most) (h1 : most ≤ 9223372036854775807) (hb : b.length ≤ 100000000) (hl : rpU64.sl w D A n c l) (hD : ∀ k, D k → k < w.heap.size) (hr : Rises l) (hl64 : ∀ x ∈ l, x < 18446744073709551616) (hn : n ≤ 1000) :
    Calls Try.prog 105 #[.pointer (some ⟨g, 0, none⟩), .slice A n c] w (PutIs w F g most b code (stepsFrom none l)) := by
  have hlen := (Rp.sl_len hl).1
  have HP := Lib.hid h
  have hri := fun w' (hb : Below w.heap.size w w') => rises_any (Rp.sl_below hl hb hD) (fun k hk => Nat.lt_of_lt_of_le (hD k hk) hb.size)
  rw [dec_true hr] at hri
  have HRI := Lib.hid hri
  have HST : Hid (∀ w', Below w.heap.size w w' → _) := fun w' (hb : Below w.heap.size w w') => steps_any (Rp.sl_below hl hb hD) (fun k hk => Nat.lt_of_lt_of_le (hD k hk) hb.size) hr hn
  have hsl : (stepsFrom none l).length = n := by rw [stepsFrom_length, hlen]
  have hs64 := stepsFrom_lt none l _ hl64
  have HFL := Lib.hid h.lt
  generalize stepsFrom none l = ns at *
  have HSL := Lib.hid hsl
  have HS64 := Lib.hid hs64
  clear h hl hD hr hl64 hlen hri hsl hs64
  go_enter Try.func105, Try.ntmps105
  go_wp2_with fail
  refine (HRI.out _ (Below.refl _ _)).mono ?_; rintro e w1 ⟨rfl, hb1⟩
  have HB1 := Lib.hid hb1
  clear hb1
  go_wp2_with fail
  refine (HST.out _ HB1.out).mono ?_; rintro e w2 ⟨A2, c2, rfl, ho, hb2⟩
  have HB2 := Lib.hid (stepB HB1.out hb2)
  have HO2 := Lib.hid (own_mono ho HB1.out.size)
  clear ho hb2
  go_wp2_with fail
  go_loopw [14] (fun i wr => ∃ (k : Nat) (F' : Dom), k ≤ n ∧ i = .int .i64 k ∧ Hid (Pen wr F' g most (putsB most (b, code) ((ns.take k).map vbytes)).1 (putsB most (b, code) ((ns.take k).map vbytes)).2) ∧ Hid (Chg (fun k => F k ∨ w2.heap.size ≤ k) w2 wr) ∧ Hid (∀ q, F' q → F q ∨ w2.heap.size ≤ q)) (fun i _ => n - (intOf i).toNat)
  case atStart => exact ⟨0, F, by omega, rfl, HP.out.below HB2.out, Chg.refl _ _, fun q hq => .inl hq⟩
  case round =>
    obtain ⟨k, F', hk, rfl, hpen, hchg, hF'⟩ := hrel
    by_cases hlt : k < n
    · obtain ⟨x, hx⟩ : ∃ x, ns[k]? = some x := ⟨_, List.getElem?_eq_getElem (by rw [HSL.out]; exact hlt)⟩
      have hx64 := HS64.out x (List.mem_of_getElem? hx)
      have hown := chO HO2.out hchg.out (fun q hq hF => by
        have h2 := HO2.out.lt q hq
        rcases hF with hF | hF
        · have := HFL.out q hF; omega
        · omega)
      obtain ⟨bo, rfl, hbo, _, _, hco, _⟩ := own_block hown (show 0 < n by omega)
      have hcell := hco k (uv x) (by rw [List.getElem?_map, hx]; rfl)
      unfold uv at hcell
      have hts : ns.take (k + 1) = ns.take k ++ [x] := by rw [List.take_add_one, hx]; rfl
      have hlen : (putsB most (b, code) ((ns.take k).map vbytes)).1.length ≤ 1000000000 := by
        have h1 := puts_len most b code (ns.take k) (fun y hy => HS64.out y (List.mem_of_mem_take hy))
        have h3 : (ns.take k).length ≤ k := by rw [List.length_take]; omega
        omega
      have HV := Lib.hid (vput_at hpen.out h0 h1 hlen x hx64)
      have HTS := Lib.hid hts
      have hzr := hchg.out.size
      have hd : decide ((k : Int) < (n : Int)) = true := by simp; omega
      have hkI : (0 : Int) ≤ (k : Int) := by omega
      have hkI2 : (k : Int) < (n : Int) := by omega
      clear hts hlen hx hx64 hco hown
      go_wp2_with fail
      refine HV.out.mono ?_; rintro e w3 ⟨rfl, F3, hp3, hch3, hF3⟩
      have HP3 := Lib.hid hp3
      have HCH3 := Lib.hid hch3
      have HF3 := Lib.hid hF3
      clear hp3 hch3 hF3 hcell
      go_wp2_with fail
      go_roundw
      case rel =>
        refine ⟨k + 1, F3, by omega, by go_num, ?_, ?_, ?_⟩
        · show Pen _ _ _ _ _ _
          rw [HTS.out, puts_snoc]; exact HP3.out
        · exact hchg.out.trans (HCH3.out.more (fun q _ hq => hF'.out q hq))
        · intro q hq
          rcases HF3.out q hq with h | h
          · exact hF'.out q h
          · exact .inr (by omega)
      case measure => simp [intOf]; omega
    · obtain rfl : k = n := by omega
      have hd : decide ((k : Int) < (k : Int)) = false := by simp
      have HP3 : Hid (Pen wr F' g most (putsB most (b, code) (ns.map vbytes)).1 (putsB most (b, code) (ns.map vbytes)).2) := by
        have := hpen.out
        rw [List.take_of_length_le (by rw [HSL.out]; exact Nat.le_refl _)] at this
        exact this
      clear hpen
      go_wp2_with fail
      go_end0
      refine ⟨rfl, F', HP3.out, (Chg.of_pure HB2.out F).trans (hchg.out.more (fun k hk h => ?_)), fun k hk => ?_⟩
      · rcases h with h | h
        · exact h
        · omega
      · rcases hF'.out k hk with h | h
        · exact .inl h
        · exact .inr (Nat.le_trans HB2.out.size h)
end
end Go.Proofs.Ytmdgmnaaopineaa
/- A stripe is written: stripe.Put, stripe.Bytes. -/
namespace Go.Proofs.Ytmdgmnaaopineaa
open Go.ChangeShapes Go.WideShapes Go.ChangeAt Go.RowKit
set_option linter.unusedVariables false
def pn (T N : Nat) (sets : List (List Nat)) (k : Nat) : List Nat := T :: N :: ((sets.take k).map setn).flatten
theorem pn_step {T N k : Nat} {sets : List (List Nat)} {x : List Nat} (h : sets[k]? = some x) : pn T N sets (k + 1) = (pn T N sets k ++ [x.length]) ++ stepsFrom none x := by
  unfold pn
  rw [List.take_add_one, h]
  simp [setn]
theorem pn_end {f t : Nat} {sets : List (List Nat)} : pn (t - f - 1) sets.length sets sets.length = stn (f, t, sets) := by
  unfold pn stn
  rw [List.take_length]
theorem setn_lt {x : List Nat} (h : NodesOk x) : ∀ y ∈ setn x, y < 18446744073709551616 := by
  intro y hy
  rcases List.mem_cons.1 hy with rfl | hy
  · have := h.2.1; omega
  · exact stepsFrom_lt none x _ (fun z hz => by have := nodesOk_lt h z hz; omega) y hy
theorem setn_length {x : List Nat} (h : NodesOk x) : (setn x).length ≤ 9 := by
  have := h.2.1
  show (stepsFrom none x).length + 1 ≤ 9
  rw [stepsFrom_length]; omega
theorem flat_len {sets : List (List Nat)} (h : ∀ x ∈ sets, NodesOk x) : ((sets.map setn).flatten).length ≤ 9 * sets.length := by
  induction sets with
  | nil => simp
  | cons x xs ih =>
    have h1 := setn_length (h x (by simp))
    have h2 := ih (fun y hy => h y (by simp [hy]))
    simp only [List.map_cons, List.flatten_cons, List.length_append, List.length_cons]
    omega
theorem pn_lt {T N : Nat} {sets : List (List Nat)} (hT : T < 18446744073709551616) (hN : N < 18446744073709551616) (h : ∀ x ∈ sets, NodesOk x) (k : Nat) : ∀ y ∈ pn T N sets k, y < 18446744073709551616 := by
  intro y hy
  unfold pn at hy
  rcases List.mem_cons.1 hy with rfl | hy
  · exact hT
  rcases List.mem_cons.1 hy with rfl | hy
  · exact hN
  obtain ⟨z, hz, hyz⟩ := List.mem_flatten.1 hy
  obtain ⟨x, hx, rfl⟩ := List.mem_map.1 hz
  exact setn_lt (h x (List.mem_of_mem_take hx)) y hyz
theorem pn_length {T N : Nat} {sets : List (List Nat)} (h : ∀ x ∈ sets, NodesOk x) (k : Nat) : (pn T N sets k).length ≤ 2 + 9 * k := by
  have h1 := flat_len (sets := sets.take k) (fun x hx => h x (List.mem_of_mem_take hx))
  have h2 : (sets.take k).length ≤ k := by rw [List.length_take]; omega
  unfold pn
  simp only [List.length_cons]
  omega
theorem sOk_nodes {s : Stp} (h : SOk s) : ∀ x ∈ s.2.2, NodesOk x := fun x hx => by
  obtain ⟨i, hi⟩ := List.getElem?_of_mem hx
  exact (setOk_iff.1 (h.2.2.2.2 i x hi)).1
section
variable {D F : Dom} {A : Option Addr} {n c g f t : Nat} {sets : List (List Nat)} {b : List UInt8} {most code : Int} {w : World}
set_option maxRecDepth 100000 in
set_option maxHeartbeats 3000000 in
theorem stput_ok (hs : (rpSlice rpU64).sl w D A n c sets) (hD : ∀ k, D k → k < w.heap.size) (hDF : ∀ k, D k → ¬ F k) (hok : SOk (f, t, sets)) (h : Pen w F g most b code) (h0 : 0 ≤ most) (h1 : most ≤ 9223372036854775807) (hb : b.length ≤ 10000000) :
    Calls Try.prog 51 #[.pointer (some ⟨g, 0, none⟩), .agg (stpV f t A n c)] w (PutIs w F g most b code (stn (f, t, sets))) := by
  obtain ⟨hlen, hnc, hcm⟩ := Rp.sl_len hs
  have hnod := sOk_nodes hok
  simp only at hnod
  have hok' := hok
  obtain ⟨hft, ht62, hn1, hn8, _⟩ := hok'
  simp only at hft ht62 hn1 hn8
  subst hlen
  rw [← pn_end]
  have hb0 := below1 w (.cells (stpV f t A sets.length c) 31)
  have hr := right_any (f := f) (t := t) (Rp.sl_below hs hb0 hD) (fun k hk => Nat.lt_of_lt_of_le (hD k hk) hb0.size) (by omega) (by omega)
  rw [dec_true hok] at hr
  have HR := Lib.hid hr
  have HB0 := Lib.hid hb0
  have HK0 := Lib.hid (blk11 w 31 (stpV f t A sets.length c))
  have HS : Hid (Sl (rpSlice rpU64) w D A sets.length c sets) := ⟨hs, hD⟩
  have HDF := Lib.hid hDF
  have HP := Lib.hid h
  have HFL := Lib.hid h.lt
  obtain ⟨T, hT⟩ : ∃ T, T = t - f - 1 := ⟨_, rfl⟩
  rw [← hT]
  have hT64 : T < 18446744073709551616 := by omega
  have s0 : IntKind.u64.wrap ((t : Int) - (f : Int)) = (t : Int) - (f : Int) := IntWalk.u64_in _ (by omega)
  have s1 : IntKind.u64.wrap ((t : Int) - (f : Int) - 1) = (T : Int) := by rw [IntWalk.u64_in _ (by omega)]; omega
  have s2 : IntKind.u64.wrap (sets.length : Int) = (sets.length : Int) := IntWalk.u64_in _ (by omega)
  have HT64 := Lib.hid hT64
  have HNOD := Lib.hid hnod
  have HNR : Hid (∀ x ∈ sets, Rises x ∧ x.length ≤ 8 ∧ ∀ y ∈ x, y < 18446744073709551616) := fun x hx => ⟨(hnod x hx).2.2.1, (hnod x hx).2.1, fun y hy => by have := nodesOk_lt (hnod x hx) y hy; omega⟩
  clear hs hD hDF h hok hr hb0 hT hT64 hnod hft ht62
  generalize hN : sets.length = N at *
  have HN := Lib.hid hN
  clear hN
  go_enter Try.func51, Try.ntmps51
  go_wp2_with fail
  generalize World.alloc w _ = w0 at *
  have k0 := (show Blk w0 _ _ _ from HK0.out).cell 0
  have k1 := (show Blk w0 _ _ _ from HK0.out).cell 1
  have k2 := (show Blk w0 _ _ _ from HK0.out).cell 2
  go_wp2_with fail
  refine HR.out.mono ?_; rintro e w1 ⟨rfl, hb1⟩
  have HK1 := Lib.hid (keepB (show Blk w0 w.heap.size 31 _ from HK0.out) hb1)
  have HB1 := Lib.hid (stepB HB0.out hb1)
  have HNF : Hid (¬ F w.heap.size) := fun hF => by have := HFL.out _ hF; omega
  have hlt1 := (show Blk w1 w.heap.size 31 _ from HK1.out).lt
  have c0 := (show Blk w1 w.heap.size 31 _ from HK1.out).cell 0
  have c1 := (show Blk w1 w.heap.size 31 _ from HK1.out).cell 1
  clear hb1 k0 k1 k2
  go_wp2_with fail
  refine (vput_at (HP.out.below HB1.out) h0 h1 (by omega) T HT64.out).mono ?_; rintro e w2 ⟨rfl, F2, hp2, hch2, hF2⟩
  have HP2 := Lib.hid hp2
  have HCH2 := Lib.hid hch2
  have HF2 := Lib.hid hF2
  have HK2 := Lib.hid (chB (show Blk w1 w.heap.size 31 _ from HK1.out) hch2 HNF.out)
  have hz12 := hch2.size
  clear hp2 hch2 hF2 c0 c1
  have c2 := (show Blk w2 w.heap.size 31 _ from HK2.out).cell 2
  have hl2 : Hid ((putB most b code (vbytes T)).1.length ≤ 1000000000) := by have h1 := putB_len most b code (vbytes T); have h2 := vbytes_10 HT64.out; exact (by omega : (putB most b code (vbytes T)).1.length ≤ 1000000000)
  go_wp2_with fail
  refine (vput_at HP2.out h0 h1 hl2.out N (by omega)).mono ?_; rintro e w3 ⟨rfl, F3, hp3, hch3, hF3⟩
  have HP3 : Hid (Pen w3 F3 g most (putsB most (b, code) ((pn T N sets 0).map vbytes)).1 (putsB most (b, code) ((pn T N sets 0).map vbytes)).2) := by
    have e0 : pn T N sets 0 = [T, N] := by simp [pn]
    rw [e0]
    exact hp3
  have HK3 := Lib.hid (chB (show Blk w2 w.heap.size 31 _ from HK2.out) hch3 (fun hF => by
    rcases HF2.out _ hF with h | h
    · exact HNF.out h
    · omega))
  have HCH3 : Hid (Chg (fun k => F k ∨ w1.heap.size ≤ k) w1 w3) := (HCH2.out.more (fun k _ hk => .inl hk)).trans (hch3.more (fun k _ hk => HF2.out k hk))
  have HF3 : Hid (∀ q, F3 q → F q ∨ w1.heap.size ≤ q) := fun q hq => by
    rcases hF3 q hq with h | h
    · exact HF2.out q h
    · exact .inr (by omega)
  clear hp3 hch3 hF3 c2
  have c2 := (show Blk w3 w.heap.size 31 _ from HK3.out).cell 2
  go_wp2_with fail
  clear c2
  go_loopw [28] (fun i wr => ∃ (k : Nat) (F' : Dom), k ≤ N ∧ i = .int .i64 k ∧ Hid (Pen wr F' g most (putsB most (b, code) ((pn T N sets k).map vbytes)).1 (putsB most (b, code) ((pn T N sets k).map vbytes)).2) ∧ Hid (Chg (fun k => F k ∨ w1.heap.size ≤ k) w1 wr) ∧ Hid (∀ q, F' q → F q ∨ w1.heap.size ≤ q)) (fun i _ => N - (intOf i).toNat)
  case atStart => exact ⟨0, F3, by omega, rfl, HP3.out, HCH3.out, HF3.out⟩
  case round =>
    clear HP3 HCH3 HF3 HK3 HK2 HP2 HCH2 HF2 hl2
    obtain ⟨k, F', hk, rfl, hpen, hchg, hF'⟩ := hrel
    by_cases hlt : k < N
    · have hsr := chS (keepS HS.out HB1.out) hchg.out (fun q hq hF => by
        rcases hF with hF | hF
        · exact HDF.out q hq hF
        · have := HS.out.2 q hq; have := HB1.out.size; omega)
      obtain ⟨bo, off, x, A3, c3, rfl, hbD, hx, hcell, hrow⟩ := rows_at hsr.1 hlt
      have HRW : Hid (Sl rpU64 wr D A3 x.length c3 x) := ⟨hrow, hsr.2⟩
      have hxm := List.mem_of_getElem? hx
      obtain ⟨hxr, hx8, hx64⟩ := HNR.out x hxm
      have HXR := Lib.hid hxr
      have HX64 := Lib.hid hx64
      have HPS := Lib.hid (pn_step (T := T) (N := N) hx)
      have hlen : (putsB most (b, code) ((pn T N sets k).map vbytes)).1.length ≤ 20000000 := by
        have h1 := puts_len most b code (pn T N sets k) (pn_lt HT64.out (by omega) HNOD.out k)
        have h2 := pn_length (T := T) (N := N) HNOD.out k
        omega
      have hlen2 : (putB most (putsB most (b, code) ((pn T N sets k).map vbytes)).1 (putsB most (b, code) ((pn T N sets k).map vbytes)).2 (vbytes x.length)).1.length ≤ 100000000 := by
        have h1 := putB_len most (putsB most (b, code) ((pn T N sets k).map vbytes)).1 (putsB most (b, code) ((pn T N sets k).map vbytes)).2 (vbytes x.length)
        have h2 := vbytes_10 (x := x.length) (by omega)
        omega
      have HV := Lib.hid (vput_at hpen.out h0 h1 (by omega) x.length (by omega))
      have HLEN2 := Lib.hid hlen2
      have hzr := hchg.out.size
      have hd : decide ((k : Int) < (N : Int)) = true := by simp; omega
      have hkI : (0 : Int) ≤ (k : Int) := by omega
      have hkI2 : (k : Int) < (N : Int) := by omega
      have s3 : IntKind.u64.wrap (x.length : Int) = (x.length : Int) := IntWalk.u64_in _ (by omega)
      clear hlen hlen2 hx hxm hxr hx64 hrow hsr
      go_wp2_with fail
      refine HV.out.mono ?_; rintro e w4 ⟨rfl, F4, hp4, hch4, hF4⟩
      have HP4 := Lib.hid hp4
      have HCH4 := Lib.hid hch4
      have HF4 : Hid (∀ q, F4 q → F q ∨ w1.heap.size ≤ q) := fun q hq => by
        rcases hF4 q hq with h | h
        · exact hF'.out q h
        · exact .inr (by omega)
      have hrw := chS HRW.out hch4 (fun q hq hF => by
        rcases hF'.out q hF with hF | hF
        · exact HDF.out q hq hF
        · have := HS.out.2 q hq; have := HB1.out.size; omega)
      have HPR := Lib.hid (putRising_any hp4 h0 h1 HLEN2.out hrw.1 hrw.2 HXR.out HX64.out (by omega))
      have hz4 := hch4.size
      clear hp4 hch4 hF4 hrw hcell
      go_wp2_with fail
      refine HPR.out.mono ?_; rintro e w5 ⟨rfl, F5, hp5, hch5, hF5⟩
      have HP5 : Hid (Pen w5 F5 g most (putsB most (b, code) ((pn T N sets (k + 1)).map vbytes)).1 (putsB most (b, code) ((pn T N sets (k + 1)).map vbytes)).2) := by
        rw [HPS.out, puts_append, puts_snoc]
        exact hp5
      have HCH5 := Lib.hid hch5
      have HF5 := Lib.hid hF5
      clear hp5 hch5 hF5
      go_wp2_with fail
      go_roundw
      case rel =>
        refine ⟨k + 1, F5, by omega, by go_num, HP5.out, (hchg.out.trans (HCH4.out.more (fun q _ hq => hF'.out q hq))).trans (HCH5.out.more (fun q _ hq => HF4.out q hq)), fun q hq => ?_⟩
        rcases HF5.out q hq with h | h
        · exact HF4.out q h
        · exact .inr (by omega)
      case measure => simp [intOf]; omega
    · obtain rfl : k = N := by omega
      have hd : decide ((k : Int) < (k : Int)) = false := by simp
      go_wp2_with fail
      go_end0
      refine ⟨rfl, F', hpen.out, (Chg.of_pure HB1.out F).trans (hchg.out.more (fun q hq h => ?_)), fun q hq => ?_⟩
      · rcases h with h | h
        · exact h
        · omega
      · rcases hF'.out q hq with h | h
        · exact .inl h
        · exact .inr (Nat.le_trans HB1.out.size h)
set_option maxRecDepth 100000 in
theorem stput_bad (hs : (rpSlice rpU64).sl w D A n c sets) (hD : ∀ k, D k → k < w.heap.size) (hf : f ≤ 18446744073709551615) (ht : t ≤ 18446744073709551615) (hno : ¬ SOk (f, t, sets)) (h : Pen w F g most b code) :
    Calls Try.prog 51 #[.pointer (some ⟨g, 0, none⟩), .agg (stpV f t A n c)] w fun e w' => e = .returned (.tuple #[]) ∧ Pen w' F g most b (if code = 0 then 3 else code) ∧ Chg F w w' := by
  have hb0 := below1 w (.cells (stpV f t A n c) 31)
  have hr := right_any (f := f) (t := t) (Rp.sl_below hs hb0 hD) (fun k hk => Nat.lt_of_lt_of_le (hD k hk) hb0.size) hf ht
  rw [dec_false hno] at hr
  have HR := Lib.hid hr
  have HB0 := Lib.hid hb0
  have HP := Lib.hid h
  obtain ⟨cd, hcd⟩ : ∃ cd : Int, cd = (if code = 0 then 3 else code) := ⟨_, rfl⟩
  rw [← hcd]
  have HCD := Lib.hid hcd
  clear h hs hD hcd hr hb0 hno
  go_enter Try.func51, Try.ntmps51
  go_wp2_with fail
  refine HR.out.mono ?_; rintro e w1 ⟨rfl, hb1⟩
  have HB1 := Lib.hid (stepB HB0.out hb1)
  clear hb1
  go_wp2_with fail
  refine (fail_at (HP.out.below HB1.out) 3).mono ?_; rintro e w2 ⟨rfl, hp2, hc2⟩
  rw [← HCD.out] at hp2
  have HP2 := Lib.hid hp2
  have HC2 := Lib.hid hc2
  clear hp2 hc2
  go_wp2_with fail
  exact bodyPost_ret (v := .tuple #[]) (by simp [results, Try.results51, go_sem]) rfl ⟨rfl, HP2.out, (Chg.of_pure HB1.out F).trans HC2.out⟩
end
theorem stb_len {s : Stp} (h : SOk s) : (stb s).length ≤ 740 := by
  have h1 := vpieces_len (stn s) (by
    have := pn_lt (T := s.2.1 - s.1 - 1) (N := s.2.2.length) (sets := s.2.2) (by have := h.2.1; omega) (by have := h.2.2.2.1; omega) (sOk_nodes h) s.2.2.length
    rw [pn_end] at this; exact this)
  have h2 := pn_length (T := s.2.1 - s.1 - 1) (N := s.2.2.length) (sets := s.2.2) (sOk_nodes h) s.2.2.length
  rw [pn_end] at h2
  have h3 := h.2.2.2.1
  show ((stn s).map vbytes).flatten.length ≤ 740
  have h4 : (stn (s.1, s.2.1, s.2.2)).length = (stn s).length := rfl
  omega
theorem stput_fit {s : Stp} (h : SOk s) {most : Int} (hm : 740 ≤ most) : putsB most ([], 0) ((stn s).map vbytes) = (stb s, 0) := by
  have := putsB_fit (most := most) (b := []) (xs := (stn s).map vbytes) (by have := stb_len h; show ((stb s).length : Int) ≤ most; omega)
  exact this
section
variable {D : Dom} {A : Option Addr} {n c f t : Nat} {sets : List (List Nat)} {w : World}
set_option maxRecDepth 100000 in
theorem stbytes_ok (hs : (rpSlice rpU64).sl w D A n c sets) (hD : ∀ k, D k → k < w.heap.size) (hok : SOk (f, t, sets)) :
    Calls Try.prog 49 #[.agg (stpV f t A n c)] w fun e w' => ∃ A2 m c2, e = .returned (.tuple #[.slice A2 m c2, .int .i64 0]) ∧ w'.ownsRow w.heap.size 5 1 (.slice A2 m c2) m ((stb (f, t, sets)).map bv) ∧ Below w.heap.size w w' := by
  have hb0 := below1 w (.cells (stpV f t A n c) 31)
  have HK0 := Lib.hid (Blk.new w 31 (stpV f t A n c))
  have HB0 := Lib.hid hb0
  have HS := Lib.hid (keepS (show Sl (rpSlice rpU64) w D A n c sets from ⟨hs, hD⟩) hb0)
  have HOK := Lib.hid hok
  have HDL := Lib.hid hD
  have HFIT := Lib.hid (stput_fit hok (most := 1024) (by decide))
  have hl := stb_len hok
  clear hs hb0 hok hD
  go_enter Try.func49, Try.ntmps49
  go_wp2_with fail
  generalize World.alloc w _ = w0 at *
  have hz0 := HB0.out.size
  refine (new_any 1024 _).mono ?_; rintro e w1 ⟨rfl, hp1, hb1⟩
  have hk1 := keepB (show Blk w0 w.heap.size 31 _ from HK0.out) hb1
  have c0 := hk1.cell 0
  have c1 := hk1.cell 1
  have c2 := hk1.cell 2
  have HB1 := Lib.hid (stepB HB0.out hb1)
  have HS1 := Lib.hid (keepS HS.out hb1)
  have HP1 := Lib.hid hp1
  clear hb1 hk1 hp1
  go_wp2_with fail
  refine (stput_ok HS1.out.1 HS1.out.2 (fun k hk hF => by have e : k = w0.heap.size := hF; have := HDL.out k hk; omega) HOK.out HP1.out (by decide) (by decide) (by simp)).mono ?_; rintro e w2 ⟨rfl, F2, hp2, hch2, hF2⟩
  rw [show max (1024 : Int) 0 = 1024 from rfl, HFIT.out] at hp2
  have HP2 := Lib.hid hp2
  have HB2 := Lib.hid (HB1.out.trans (hch2.below HB1.out.size (fun k hk => by have : k = w0.heap.size := hk; omega)))
  clear hp2 hch2 hF2 c0 c1 c2
  go_wp2_with fail
  refine (bytes_ok HP2.out (by omega)).mono ?_; rintro e w3 ⟨A, n, c, rfl, ho, hb3⟩
  have HO := Lib.hid ho
  have HB3 := Lib.hid (stepB HB2.out hb3)
  clear ho hb3
  go_wp2_with fail
  go_ret2
  exact ⟨A, n, c, rfl, own_mono HO.out HB2.out.size, HB3.out⟩
set_option maxRecDepth 100000 in
theorem stbytes_bad (hs : (rpSlice rpU64).sl w D A n c sets) (hD : ∀ k, D k → k < w.heap.size) (hf : f ≤ 18446744073709551615) (ht : t ≤ 18446744073709551615) (hno : ¬ SOk (f, t, sets)) :
    Calls Try.prog 49 #[.agg (stpV f t A n c)] w fun e w' => e = .returned (.tuple #[.slice none 0 0, .int .i64 3]) ∧ Below w.heap.size w w' := by
  have hb0 := below1 w (.cells (stpV f t A n c) 31)
  have HK0 := Lib.hid (Blk.new w 31 (stpV f t A n c))
  have HB0 := Lib.hid hb0
  have HS := Lib.hid (keepS (show Sl (rpSlice rpU64) w D A n c sets from ⟨hs, hD⟩) hb0)
  have HNO := Lib.hid hno
  clear hs hb0 hno hD
  go_enter Try.func49, Try.ntmps49
  go_wp2_with fail
  generalize World.alloc w _ = w0 at *
  have hz0 := HB0.out.size
  refine (new_any 1024 _).mono ?_; rintro e w1 ⟨rfl, hp1, hb1⟩
  have hk1 := keepB (show Blk w0 w.heap.size 31 _ from HK0.out) hb1
  have c0 := hk1.cell 0
  have c1 := hk1.cell 1
  have c2 := hk1.cell 2
  have HB1 := Lib.hid (stepB HB0.out hb1)
  have HS1 := Lib.hid (keepS HS.out hb1)
  have HP1 := Lib.hid hp1
  clear hb1 hk1 hp1
  go_wp2_with fail
  refine (stput_bad HS1.out.1 HS1.out.2 hf ht HNO.out HP1.out).mono ?_; rintro e w2 ⟨rfl, hp2, hch2⟩
  have HP2 := Lib.hid hp2
  have HB2 := Lib.hid (HB1.out.trans (hch2.below HB1.out.size (fun k hk => by have : k = w0.heap.size := hk; omega)))
  clear hp2 hch2 c0 c1 c2
  go_wp2_with fail
  refine (bytes_bad HP2.out (by decide)).mono ?_; rintro e w3 ⟨rfl, rfl⟩
  go_wp2_with fail
  go_ret2
  exact ⟨rfl, HB2.out⟩
end
end Go.Proofs.Ytmdgmnaaopineaa
/- Chapter 20 in plain words: a projection's numbers and bytes, how many they are. No walk. -/
namespace Go.Proofs.Ytmdgmnaaopineaa
open Go.ChangeShapes Go.WideShapes Go.ChangeAt Go.RowKit
set_option linter.unusedVariables false
def prn (p : Prj) : List Nat := p.1 :: p.2.length :: (p.2.map stn).flatten
def prb (p : Prj) : List UInt8 := flat (prn p)
def pm (e N : Nat) (l : List Stp) (k : Nat) : List Nat := e :: N :: ((l.take k).map stn).flatten
theorem pm_step {e N k : Nat} {l : List Stp} {s : Stp} (h : l[k]? = some s) : pm e N l (k + 1) = pm e N l k ++ stn s := by
  unfold pm
  rw [List.take_add_one, h]
  simp
theorem pm_end {e : Nat} {l : List Stp} : pm e l.length l l.length = prn (e, l) := by
  unfold pm prn
  rw [List.take_length]
theorem pm_zero {e N : Nat} {l : List Stp} : pm e N l 0 = [e, N] := by simp [pm]
theorem stn_lt {s : Stp} (h : SOk s) : ∀ y ∈ stn s, y < 18446744073709551616 := by
  have := pn_lt (T := s.2.1 - s.1 - 1) (N := s.2.2.length) (sets := s.2.2) (by have := h.2.1; omega) (by have := h.2.2.2.1; omega) (sOk_nodes h) s.2.2.length
  rw [pn_end] at this; exact this
theorem stn_length {s : Stp} (h : SOk s) : (stn s).length ≤ 74 := by
  have h2 := pn_length (T := s.2.1 - s.1 - 1) (N := s.2.2.length) (sets := s.2.2) (sOk_nodes h) s.2.2.length
  rw [pn_end] at h2
  have h3 := h.2.2.2.1
  have h4 : (stn (s.1, s.2.1, s.2.2)).length = (stn s).length := rfl
  omega
theorem flats_len {l : List Stp} (h : ∀ s ∈ l, SOk s) : ((l.map stn).flatten).length ≤ 74 * l.length := by
  induction l with
  | nil => simp
  | cons x xs ih =>
    have h1 := stn_length (h x (by simp))
    have h2 := ih (fun y hy => h y (by simp [hy]))
    simp only [List.map_cons, List.flatten_cons, List.length_append, List.length_cons]
    omega
theorem pm_lt {e N : Nat} {l : List Stp} (he : e < 18446744073709551616) (hN : N < 18446744073709551616) (h : ∀ s ∈ l, SOk s) (k : Nat) : ∀ y ∈ pm e N l k, y < 18446744073709551616 := by
  intro y hy
  unfold pm at hy
  rcases List.mem_cons.1 hy with rfl | hy
  · exact he
  rcases List.mem_cons.1 hy with rfl | hy
  · exact hN
  obtain ⟨z, hz, hyz⟩ := List.mem_flatten.1 hy
  obtain ⟨x, hx, rfl⟩ := List.mem_map.1 hz
  exact stn_lt (h x (List.mem_of_mem_take hx)) y hyz
theorem pm_length {e N : Nat} {l : List Stp} (h : ∀ s ∈ l, SOk s) (k : Nat) : (pm e N l k).length ≤ 2 + 74 * k := by
  have h1 := flats_len (l := l.take k) (fun x hx => h x (List.mem_of_mem_take hx))
  have h2 : (l.take k).length ≤ k := by rw [List.length_take]; omega
  unfold pm
  simp only [List.length_cons]
  omega
/-- How many bytes numbers take that are below a power of 128. -/
theorem vlen_le (k : Nat) : ∀ xs : List Nat, (∀ x ∈ xs, x < 128 ^ (k + 1)) → (flat xs).length ≤ (k + 1) * xs.length
  | [], _ => by simp [flat]
  | x :: xs, h => by
    have h1 := vbytes_len k x (h x (by simp))
    have h2 := vlen_le k xs (fun y hy => h y (by simp [hy]))
    rw [flat_cons, List.length_append, List.length_cons, Nat.mul_succ]
    omega
theorem setb_len {x : List Nat} (h : NodesOk x) : (flat (setn x)).length ≤ 41 := by
  have h8 := h.2.1
  have h1 := vlen_le 0 [x.length] (fun y hy => by simp at hy; subst hy; omega)
  have h2 := vlen_le 4 (stepsFrom none x) (stepsFrom_lt none x _ (fun z hz => by have := nodesOk_lt h z hz; rw [show (128 : Nat) ^ (4 + 1) = 34359738368 from by decide]; omega))
  rw [stepsFrom_length] at h2
  have e : flat (setn x) = flat [x.length] ++ flat (stepsFrom none x) := by
    rw [← flat_append]; rfl
  rw [e, List.length_append]
  simp only [List.length_cons, List.length_nil] at h1
  omega
theorem setsb_len {sets : List (List Nat)} (h : ∀ x ∈ sets, NodesOk x) : (flat ((sets.map setn).flatten)).length ≤ 41 * sets.length := by
  induction sets with
  | nil => simp [flat]
  | cons x xs ih =>
    have h1 := setb_len (h x (by simp))
    have h2 := ih (fun y hy => h y (by simp [hy]))
    rw [List.map_cons, List.flatten_cons, flat_append, List.length_append, List.length_cons]
    omega
theorem stb_len2 {s : Stp} (h : SOk s) : (flat (stn s)).length ≤ 339 := by
  have h1 := setsb_len (sOk_nodes h)
  have h3 := h.2.2.2.1
  have h2 := vlen_le 9 [s.2.1 - s.1 - 1] (fun y hy => by
    simp at hy
    subst hy
    have := h.2.1
    have : (128 : Nat) ^ (9 + 1) = 1180591620717411303424 := by decide
    omega)
  have h4 := vlen_le 0 [s.2.2.length] (fun y hy => by simp at hy; subst hy; omega)
  have e : flat (stn s) = (flat [s.2.1 - s.1 - 1] ++ flat [s.2.2.length]) ++ flat ((s.2.2.map setn).flatten) := by
    rw [← flat_append, ← flat_append]; rfl
  rw [e, List.length_append, List.length_append]
  simp only [List.length_cons, List.length_nil] at h2 h4
  omega
theorem stsb_len {l : List Stp} (h : ∀ s ∈ l, SOk s) : (flat ((l.map stn).flatten)).length ≤ 339 * l.length := by
  induction l with
  | nil => simp [flat]
  | cons x xs ih =>
    have h1 := stb_len2 (h x (by simp))
    have h2 := ih (fun y hy => h y (by simp [hy]))
    rw [List.map_cons, List.flatten_cons, flat_append, List.length_append, List.length_cons]
    omega
theorem pOk_stripes {p : Prj} (h : POk p) : ∀ s ∈ p.2, SOk s := fun s hs => by
  obtain ⟨i, hi⟩ := List.getElem?_of_mem hs
  exact (h.1.2 i s (List.getElem?_eq_some_iff.1 hi).1 hi).1
theorem prb_len {p : Prj} (h : POk p) : (prb p).length ≤ 21720 := by
  have h1 := stsb_len (pOk_stripes h)
  have h3 := h.1.1.2.2
  have h2 := vlen_le 9 [p.1] (fun y hy => by
    simp at hy
    subst hy
    have := h.1.1.1.2
    have : (128 : Nat) ^ (9 + 1) = 1180591620717411303424 := by decide
    omega)
  have h4 := vlen_le 0 [p.2.length] (fun y hy => by simp at hy; subst hy; omega)
  have e : prb p = (flat [p.1] ++ flat [p.2.length]) ++ flat ((p.2.map stn).flatten) := by
    rw [← flat_append, ← flat_append]; rfl
  rw [e, List.length_append, List.length_append]
  simp only [List.length_cons, List.length_nil] at h2 h4
  omega
theorem prput_fit {p : Prj} (h : POk p) {most : Int} (hm : 21720 ≤ most) : putsB most ([], 0) ((prn p).map vbytes) = (prb p, 0) := by
  have := putsB_fit (most := most) (b := []) (xs := (prn p).map vbytes) (by have := prb_len h; show ((prb p).length : Int) ≤ most; omega)
  exact this
end Go.Proofs.Ytmdgmnaaopineaa
/- A projection is written: epoch.Put, proj.Put, proj.Bytes. -/
namespace Go.Proofs.Ytmdgmnaaopineaa
open Go.ChangeShapes Go.WideShapes Go.ChangeAt Go.RowKit
set_option linter.unusedVariables false
section
variable {D F : Dom} {A : Option Addr} {n c g e : Nat} {l : List Stp} {b : List UInt8} {most code : Int} {w : World}
theorem eput_ok (he : EOk e) (h : Pen w F g most b code) (h0 : 0 ≤ most) (h1 : most ≤ 9223372036854775807) (hb : b.length ≤ 10000000) :
    Calls Try.prog 116 #[.pointer (some ⟨g, 0, none⟩), .int .u64 (e : Int)] w (PutIs w F g most b code [e]) := by
  have he64 : e < 18446744073709551616 := by have := he.2; omega
  have her := fun w => eright_any e w (by omega)
  rw [dec_true he] at her
  have HE := Lib.hid her
  have HV := Lib.hid (vput_at h h0 h1 (by omega) e he64)
  have HP : Calls Try.prog 141 #[.pointer (some ⟨g, 0, none⟩), .int .u64 (e : Int), .bool true] w (PutIs w F g most b code [e]) := by
    clear her HE h he
    go_enter Try.func141, Try.ntmps141
    go_wp2_with fail
    refine HV.out.mono ?_; rintro en w1 ⟨rfl, F1, hp1, hch1, hF1⟩
    have HP1 := Lib.hid hp1
    have HCH1 := Lib.hid hch1
    have HF1 := Lib.hid hF1
    clear hp1 hch1 hF1
    go_wp2_with fail
    go_end0
    exact ⟨rfl, F1, HP1.out, HCH1.out, HF1.out⟩
  have HPP := Lib.hid HP
  clear her HP HV h he
  go_enter Try.func116, Try.ntmps116
  go_wp2_with fail
  refine (HE.out _).mono ?_; rintro en w1 ⟨rfl, rfl⟩
  go_wp2_with fail
  refine HPP.out.mono ?_; rintro en w2 ⟨rfl, F1, hp1, hch1, hF1⟩
  have HP1 := Lib.hid hp1
  have HCH1 := Lib.hid hch1
  have HF1 := Lib.hid hF1
  clear hp1 hch1 hF1
  go_wp2_with fail
  go_end0
  exact ⟨rfl, F1, HP1.out, HCH1.out, HF1.out⟩
set_option maxRecDepth 100000 in
set_option maxHeartbeats 4000000 in
theorem prput_ok (hs : rpStp.sl w D A n c l) (hD : ∀ k, D k → k < w.heap.size) (hDF : ∀ k, D k → ¬ F k) (hok : POk (e, l)) (h : Pen w F g most b code) (h0 : 0 ≤ most) (h1 : most ≤ 9223372036854775807) (hb : b.length ≤ 1000000) :
    Calls Try.prog 62 #[.pointer (some ⟨g, 0, none⟩), .agg (prjV e A n c)] w (PutIs w F g most b code (prn (e, l))) := by
  obtain ⟨hlen, hnc, hcm⟩ := Rp.sl_len hs
  have hstr := pOk_stripes hok
  simp only at hstr
  have hok' := hok
  obtain ⟨⟨⟨heo, hn1, hn64⟩, _⟩, _⟩ := hok'
  simp only at heo hn1 hn64
  subst hlen
  rw [← pm_end]
  have he64 : e < 18446744073709551616 := by have := heo.2; omega
  have hb0 := below1 w (.cells (prjV e A l.length c) 25)
  have hr := pright_any (e := e) (Rp.sl_below hs hb0 hD) (fun k hk => Nat.lt_of_lt_of_le (hD k hk) hb0.size) (by omega)
  rw [dec_true hok] at hr
  have HR := Lib.hid hr
  have HB0 := Lib.hid hb0
  have HK0 := Lib.hid (blk11 w 25 (prjV e A l.length c))
  have HS : Hid (Sl rpStp w D A l.length c l) := ⟨hs, hD⟩
  have HDF := Lib.hid hDF
  have HP := Lib.hid h
  have HFL := Lib.hid h.lt
  have HEO := Lib.hid heo
  have HE64 := Lib.hid he64
  have HSTR := Lib.hid hstr
  have s2 : IntKind.u64.wrap (l.length : Int) = (l.length : Int) := IntWalk.u64_in _ (by omega)
  clear hs hD hDF h hok hr hb0 hstr heo he64
  generalize hN : l.length = N at *
  have HN := Lib.hid hN
  clear hN
  go_enter Try.func62, Try.ntmps62
  go_wp2_with fail
  generalize World.alloc w _ = w0 at *
  have k0 := (show Blk w0 _ _ _ from HK0.out).cell 0
  have k1 := (show Blk w0 _ _ _ from HK0.out).cell 1
  go_wp2_with fail
  refine HR.out.mono ?_; rintro en w1 ⟨rfl, hb1⟩
  have HK1 := Lib.hid (keepB (show Blk w0 w.heap.size 25 _ from HK0.out) hb1)
  have HB1 := Lib.hid (stepB HB0.out hb1)
  have HNF : Hid (¬ F w.heap.size) := fun hF => by have := HFL.out _ hF; omega
  have hlt1 := (show Blk w1 w.heap.size 25 _ from HK1.out).lt
  have c0 := (show Blk w1 w.heap.size 25 _ from HK1.out).cell 0
  clear hb1 k0 k1
  go_wp2_with fail
  refine (eput_ok HEO.out (HP.out.below HB1.out) h0 h1 (by omega)).mono ?_; rintro en w2 ⟨rfl, F2, hp2, hch2, hF2⟩
  have HP2 := Lib.hid hp2
  have HCH2 := Lib.hid hch2
  have HF2 := Lib.hid hF2
  have HK2 := Lib.hid (chB (show Blk w1 w.heap.size 25 _ from HK1.out) hch2 HNF.out)
  have hz12 := hch2.size
  clear hp2 hch2 hF2 c0
  have c1 := (show Blk w2 w.heap.size 25 _ from HK2.out).cell 1
  have hl2 : Hid ((putsB most (b, code) ([e].map vbytes)).1.length ≤ 1000000000) := by have h1 := puts_len most b code [e] (by simpa using HE64.out); exact (by simp only [List.length_cons, List.length_nil] at h1; omega : (putsB most (b, code) ([e].map vbytes)).1.length ≤ 1000000000)
  go_wp2_with fail
  refine (vput_at HP2.out h0 h1 hl2.out N (by omega)).mono ?_; rintro en w3 ⟨rfl, F3, hp3, hch3, hF3⟩
  have HP3 : Hid (Pen w3 F3 g most (putsB most (b, code) ((pm e N l 0).map vbytes)).1 (putsB most (b, code) ((pm e N l 0).map vbytes)).2) := by
    rw [pm_zero]
    exact hp3
  have HK3 := Lib.hid (chB (show Blk w2 w.heap.size 25 _ from HK2.out) hch3 (fun hF => by
    rcases HF2.out _ hF with h | h
    · exact HNF.out h
    · omega))
  have HCH3 : Hid (Chg (fun k => F k ∨ w1.heap.size ≤ k) w1 w3) := (HCH2.out.more (fun k _ hk => .inl hk)).trans (hch3.more (fun k _ hk => HF2.out k hk))
  have HF3 : Hid (∀ q, F3 q → F q ∨ w1.heap.size ≤ q) := fun q hq => by
    rcases hF3 q hq with h | h
    · exact HF2.out q h
    · exact .inr (by omega)
  clear hp3 hch3 hF3 c1
  have c1 := (show Blk w3 w.heap.size 25 _ from HK3.out).cell 1
  go_wp2_with fail
  clear c1
  go_loopw [24] (fun i wr => ∃ (k : Nat) (F' : Dom), k ≤ N ∧ i = .int .i64 k ∧ Hid (Pen wr F' g most (putsB most (b, code) ((pm e N l k).map vbytes)).1 (putsB most (b, code) ((pm e N l k).map vbytes)).2) ∧ Hid (Chg (fun k => F k ∨ w1.heap.size ≤ k) w1 wr) ∧ Hid (∀ q, F' q → F q ∨ w1.heap.size ≤ q)) (fun i _ => N - (intOf i).toNat)
  case atStart => exact ⟨0, F3, by omega, rfl, HP3.out, HCH3.out, HF3.out⟩
  case round =>
    clear HP3 HCH3 HF3 HK3 HK2 HP2 HCH2 HF2 hl2
    obtain ⟨k, F', hk, rfl, hpen, hchg, hF'⟩ := hrel
    by_cases hlt : k < N
    · have hsr := chS (keepS HS.out HB1.out) hchg.out (fun q hq hF => by
        rcases hF with hF | hF
        · exact HDF.out q hq hF
        · have := HS.out.2 q hq; have := HB1.out.size; omega)
      obtain ⟨bo, off, s, A3, c3, rfl, hbD, hx, g0, g1, g2, hrow, hs1, hs2⟩ := stps_at hsr.1 hlt
      obtain ⟨sf, hsf⟩ : ∃ sf, sf = s.1 := ⟨_, rfl⟩
      obtain ⟨st, hst⟩ : ∃ st, st = s.2.1 := ⟨_, rfl⟩
      obtain ⟨ss, hss⟩ : ∃ ss, ss = s.2.2 := ⟨_, rfl⟩
      have es : s = (sf, st, ss) := by rw [hsf, hst, hss]
      rw [← hsf] at g0 hs1
      rw [← hst] at g1 hs2
      rw [← hss] at g2 hrow
      subst es
      have hok := HSTR.out _ (List.mem_of_getElem? hx)
      have HOK := Lib.hid hok
      have HPS := Lib.hid (pm_step (e := e) (N := N) hx)
      have hlen : (putsB most (b, code) ((pm e N l k).map vbytes)).1.length ≤ 10000000 := by
        have h1 := puts_len most b code (pm e N l k) (pm_lt HE64.out (by omega) HSTR.out k)
        have h2 := pm_length (e := e) (N := N) HSTR.out k
        omega
      have hba := below1 wr (.cells (stpV sf st A3 ss.length c3) 31)
      have HRW := Lib.hid (keepS (show Sl (rpSlice rpU64) wr D A3 ss.length c3 ss from ⟨hrow, hsr.2⟩) hba)
      have HKS := Lib.hid (blk11 wr 31 (stpV sf st A3 ss.length c3))
      have HPW := Lib.hid (keepP hpen.out hba)
      have HBA := Lib.hid hba
      have HLEN := Lib.hid hlen
      have hzr := hchg.out.size
      have hd : decide ((k : Int) < (N : Int)) = true := by simp; omega
      have hkI : (0 : Int) ≤ (k : Int) := by omega
      have hkI2 : (k : Int) < (N : Int) := by omega
      clear hlen hx hok hrow hsr hsf hst hss hba
      go_wp2_with fail
      generalize World.alloc wr _ = w4 at *
      have hz4 := HBA.out.size
      have v0 := (show Blk w4 _ _ _ from HKS.out).cell 0
      have v1 := (show Blk w4 _ _ _ from HKS.out).cell 1
      have v2 := (show Blk w4 _ _ _ from HKS.out).cell 2
      clear g0 g1 g2
      go_wp2_with fail
      refine (stput_ok HRW.out.1 HRW.out.2 (fun q hq hF => by
        rcases hF'.out q hF with hF | hF
        · exact HDF.out q hq hF
        · have := HS.out.2 q hq; have := HB1.out.size; omega) HOK.out HPW.out h0 h1 HLEN.out).mono ?_; rintro en w5 ⟨rfl, F5, hp5, hch5, hF5⟩
      have HP5 : Hid (Pen w5 F5 g most (putsB most (b, code) ((pm e N l (k + 1)).map vbytes)).1 (putsB most (b, code) ((pm e N l (k + 1)).map vbytes)).2) := by
        rw [HPS.out, puts_append]
        exact hp5
      have HCH5 := Lib.hid hch5
      have HF5 := Lib.hid hF5
      clear hp5 hch5 hF5 v0 v1 v2
      go_wp2_with fail
      go_roundw
      case rel =>
        refine ⟨k + 1, F5, by omega, by go_num, HP5.out, (hchg.out.trans (Chg.of_pure HBA.out _)).trans (HCH5.out.more (fun q _ hq => hF'.out q hq)), fun q hq => ?_⟩
        rcases HF5.out q hq with h | h
        · exact hF'.out q h
        · exact .inr (by omega)
      case measure => simp [intOf]; omega
    · obtain rfl : k = N := by omega
      have hd : decide ((k : Int) < (k : Int)) = false := by simp
      go_wp2_with fail
      go_end0
      refine ⟨rfl, F', hpen.out, (Chg.of_pure HB1.out F).trans (hchg.out.more (fun q hq h => ?_)), fun q hq => ?_⟩
      · rcases h with h | h
        · exact h
        · omega
      · rcases hF'.out q hq with h | h
        · exact .inl h
        · exact .inr (Nat.le_trans HB1.out.size h)
set_option maxRecDepth 100000 in
theorem prput_bad (hs : rpStp.sl w D A n c l) (hD : ∀ k, D k → k < w.heap.size) (he : e ≤ 18446744073709551615) (hno : ¬ POk (e, l)) (h : Pen w F g most b code) :
    Calls Try.prog 62 #[.pointer (some ⟨g, 0, none⟩), .agg (prjV e A n c)] w fun en w' => en = .returned (.tuple #[]) ∧ Pen w' F g most b (if code = 0 then 3 else code) ∧ Chg F w w' := by
  have hb0 := below1 w (.cells (prjV e A n c) 25)
  have hr := pright_any (e := e) (Rp.sl_below hs hb0 hD) (fun k hk => Nat.lt_of_lt_of_le (hD k hk) hb0.size) he
  rw [dec_false hno] at hr
  have HR := Lib.hid hr
  have HB0 := Lib.hid hb0
  have HP := Lib.hid h
  obtain ⟨cd, hcd⟩ : ∃ cd : Int, cd = (if code = 0 then 3 else code) := ⟨_, rfl⟩
  rw [← hcd]
  have HCD := Lib.hid hcd
  clear h hs hD hcd hr hb0 hno
  go_enter Try.func62, Try.ntmps62
  go_wp2_with fail
  refine HR.out.mono ?_; rintro en w1 ⟨rfl, hb1⟩
  have HB1 := Lib.hid (stepB HB0.out hb1)
  clear hb1
  go_wp2_with fail
  refine (fail_at (HP.out.below HB1.out) 3).mono ?_; rintro en w2 ⟨rfl, hp2, hc2⟩
  rw [← HCD.out] at hp2
  have HP2 := Lib.hid hp2
  have HC2 := Lib.hid hc2
  clear hp2 hc2
  go_wp2_with fail
  exact bodyPost_ret (v := .tuple #[]) (by simp [results, Try.results62, go_sem]) rfl ⟨rfl, HP2.out, (Chg.of_pure HB1.out F).trans HC2.out⟩
end
section
variable {D : Dom} {A : Option Addr} {n c e : Nat} {l : List Stp} {w : World}
set_option maxRecDepth 100000 in
theorem prbytes_ok (hs : rpStp.sl w D A n c l) (hD : ∀ k, D k → k < w.heap.size) (hok : POk (e, l)) :
    Calls Try.prog 20 #[.agg (prjV e A n c)] w fun en w' => ∃ A2 m c2, en = .returned (.tuple #[.slice A2 m c2, .int .i64 0]) ∧ w'.ownsRow w.heap.size 5 1 (.slice A2 m c2) m ((prb (e, l)).map bv) ∧ Below w.heap.size w w' := by
  have hb0 := below1 w (.cells (prjV e A n c) 25)
  have HK0 := Lib.hid (Blk.new w 25 (prjV e A n c))
  have HB0 := Lib.hid hb0
  have HS := Lib.hid (keepS (show Sl rpStp w D A n c l from ⟨hs, hD⟩) hb0)
  have HOK := Lib.hid hok
  have HDL := Lib.hid hD
  have HFIT := Lib.hid (prput_fit hok (most := 32768) (by decide))
  have hl := prb_len hok
  clear hs hb0 hok hD
  go_enter Try.func20, Try.ntmps20
  go_wp2_with fail
  generalize World.alloc w _ = w0 at *
  have hz0 := HB0.out.size
  refine (new_any 32768 _).mono ?_; rintro en w1 ⟨rfl, hp1, hb1⟩
  have hk1 := keepB (show Blk w0 w.heap.size 25 _ from HK0.out) hb1
  have c0 := hk1.cell 0
  have c1 := hk1.cell 1
  have HB1 := Lib.hid (stepB HB0.out hb1)
  have HS1 := Lib.hid (keepS HS.out hb1)
  have HP1 := Lib.hid hp1
  clear hb1 hk1 hp1
  go_wp2_with fail
  refine (prput_ok HS1.out.1 HS1.out.2 (fun k hk hF => by have e : k = w0.heap.size := hF; have := HDL.out k hk; omega) HOK.out HP1.out (by decide) (by decide) (by simp)).mono ?_; rintro en w2 ⟨rfl, F2, hp2, hch2, hF2⟩
  rw [show max (32768 : Int) 0 = 32768 from rfl, HFIT.out] at hp2
  have HP2 := Lib.hid hp2
  have HB2 := Lib.hid (HB1.out.trans (hch2.below HB1.out.size (fun k hk => by have : k = w0.heap.size := hk; omega)))
  clear hp2 hch2 hF2 c0 c1
  go_wp2_with fail
  refine (bytes_ok HP2.out (by omega)).mono ?_; rintro en w3 ⟨A, n, c, rfl, ho, hb3⟩
  have HO := Lib.hid ho
  have HB3 := Lib.hid (stepB HB2.out hb3)
  clear ho hb3
  go_wp2_with fail
  go_ret2
  exact ⟨A, n, c, rfl, own_mono HO.out HB2.out.size, HB3.out⟩
set_option maxRecDepth 100000 in
theorem prbytes_bad (hs : rpStp.sl w D A n c l) (hD : ∀ k, D k → k < w.heap.size) (he : e ≤ 18446744073709551615) (hno : ¬ POk (e, l)) :
    Calls Try.prog 20 #[.agg (prjV e A n c)] w fun en w' => en = .returned (.tuple #[.slice none 0 0, .int .i64 3]) ∧ Below w.heap.size w w' := by
  have hb0 := below1 w (.cells (prjV e A n c) 25)
  have HK0 := Lib.hid (Blk.new w 25 (prjV e A n c))
  have HB0 := Lib.hid hb0
  have HS := Lib.hid (keepS (show Sl rpStp w D A n c l from ⟨hs, hD⟩) hb0)
  have HNO := Lib.hid hno
  clear hs hb0 hno hD
  go_enter Try.func20, Try.ntmps20
  go_wp2_with fail
  generalize World.alloc w _ = w0 at *
  have hz0 := HB0.out.size
  refine (new_any 32768 _).mono ?_; rintro en w1 ⟨rfl, hp1, hb1⟩
  have hk1 := keepB (show Blk w0 w.heap.size 25 _ from HK0.out) hb1
  have c0 := hk1.cell 0
  have c1 := hk1.cell 1
  have HB1 := Lib.hid (stepB HB0.out hb1)
  have HS1 := Lib.hid (keepS HS.out hb1)
  have HP1 := Lib.hid hp1
  clear hb1 hk1 hp1
  go_wp2_with fail
  refine (prput_bad HS1.out.1 HS1.out.2 he HNO.out HP1.out).mono ?_; rintro en w2 ⟨rfl, hp2, hch2⟩
  have HP2 := Lib.hid hp2
  have HB2 := Lib.hid (HB1.out.trans (hch2.below HB1.out.size (fun k hk => by have : k = w0.heap.size := hk; omega)))
  clear hp2 hch2 c0 c1
  go_wp2_with fail
  refine (bytes_bad HP2.out (by decide)).mono ?_; rintro en w3 ⟨rfl, rfl⟩
  go_wp2_with fail
  go_ret2
  exact ⟨rfl, HB2.out⟩
end
end Go.Proofs.Ytmdgmnaaopineaa
