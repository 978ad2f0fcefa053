/- Whether a batch is well-formed: batch.Right, tholepinref25.Right. -/
import Derived.Test.YtcbmnfjbmkpfiaaPkG
import Derived.Test.YtcbmnfjbmkpfiaaPkC
namespace Go.Proofs.Ytcbmnfjbmkpfiaa
open Go.ChangeShapes Go.WideShapes Go.ChangeAt Go.RowKit
set_option linter.unusedVariables false
def AllE (b : Nat) (es : List Ent) (k : Nat) : Prop := ∀ (i : Nat) x, i < k → es[i]? = some x → LOk (b + i) x.1
theorem allE_zero (b : Nat) (es : List Ent) : AllE b es 0 := fun i x h => absurd h (Nat.not_lt_zero _)
theorem allE_succ {b : Nat} {es : List Ent} {k : Nat} {x : Ent} (hx : es[k]? = some x) : AllE b es (k + 1) ↔ AllE b es k ∧ LOk (b + k) x.1 := by
  constructor
  · intro h
    exact ⟨fun i y hi hy => h i y (by omega) hy, h k x (by omega) hx⟩
  · rintro ⟨h1, h2⟩ i y hi hy
    rcases Nat.lt_or_ge i k with h | h
    · exact h1 i y h hy
    · obtain rfl : i = k := by omega
      rw [hx] at hy
      injection hy with hy
      exact hy ▸ h2
theorem batOk_iff {e b : Nat} {es : List Ent} : BatOk e b es ↔ EOk e ∧ FitOk b es.length ∧ AllE b es es.length :=
  ⟨fun h => ⟨h.1, h.2.1, fun i x _ hx => h.2.2 i x hx⟩, fun h => ⟨h.1, h.2.1, fun i x hx => h.2.2 i x (List.getElem?_eq_some_iff.1 hx).1 hx⟩⟩
section
variable {D : Dom} {A : Option Addr} {n c ep b : Nat} {es : List Ent} {w : World}
set_option maxRecDepth 100000 in
theorem rjoin_any (hs : rpEnt.sl w D A n c es) (hD : ∀ k, D k → k < w.heap.size) (hn : n ≤ 1000) (hT : totL es ≤ 100000) :
    Calls Try.prog 34 #[.slice A n c] w fun e w' => ∃ A' c', e = .returned (.slice A' (totL es) c') ∧ Below w.heap.size w w' := by
  have HS := Lib.hid (show Sl rpEnt w D A n c es from ⟨hs, hD⟩)
  have HN := Lib.hid (Rp.sl_len hs).1
  have HT := Lib.hid hT
  clear hs hD hT
  go_enter Try.func34, Try.ntmps34
  go_wp2_with fail
  go_loopw [3, 4] (fun v3 v4 wr => ∃ (k s : Nat) (As : Option Addr) (cs : Nat) (l : List UInt8), k ≤ n ∧ s ≤ 100000 ∧ v3 = .slice As s cs ∧ v4 = .int .i64 (k : Int) ∧ Hid (s = totL (es.take k)) ∧ Hid (wr.ownsRow w.heap.size 5 1 (.slice As s cs) s (l.map bv)) ∧ Hid (Below w.heap.size w wr)) (fun _ v4 _ => n - (intOf v4).toNat)
  case atStart => exact ⟨0, 0, none, 0, [], by omega, by omega, rfl, rfl, rfl, World.ownsRow_nil _ _ _ _, Below.refl _ _⟩
  case round =>
    obtain ⟨k, s, As, cs, l, hk, hs, rfl, rfl, hst, hown, hbel⟩ := hrel
    by_cases hkn : k < n
    case neg =>
      obtain rfl : k = n := by omega
      have hd : decide ((k : Int) < (k : Int)) = false := by simp
      have HE : Hid (s = totL es) := by
        have h := hst.out
        rw [List.take_of_length_le (by have := HN.out; omega)] at h
        exact h
      go_wp2_with fail
      go_ret
      exact ⟨As, cs, by rw [← HE.out]; rfl, hbel.out⟩
    case pos =>
      have hd : decide ((k : Int) < (n : Int)) = true := by simp; omega
      have hkI : (0 : Int) ≤ (k : Int) := by omega
      have hkI2 : (k : Int) < (n : Int) := by omega
      have hsr := keepS HS.out hbel.out
      obtain ⟨bo, off, x, A3, c3, B3, d3, rfl, hbD, hx, g0, g1, hrow, hdat⟩ := ent_at hsr.1 hkn
      obtain ⟨xL, xd⟩ := x
      simp only at g0 g1 hdat
      obtain ⟨dn, hdn⟩ : ∃ dn, xd.length = dn := ⟨_, rfl⟩
      rw [hdn] at g1 hdat
      have h1 := tot_take hx
      have h2 := tot_le (es := es) (k + 1)
      have h3 := HT.out
      have h4 := hst.out
      simp only at h1
      have hsum : s + dn ≤ 100000 := by omega
      have HS2 : Hid (s + dn = totL (es.take (k + 1))) := by show _ = _; omega
      have HSRC := Lib.hid (Src.bytes hdat)
      have hzr := hbel.out.size
      clear hrow hx hbD hsr h1 h2 h3 h4 hdn hdat
      go_wp2_with (at_builtin; refine wpList_app rfl (.tmp 11) (.tmp 16) _ rfl elem8 (by rfl) hown.out (by rfl) HSRC.out (by unfold maxLen; omega) (by omega) hzr ?_; intro A6 c6 w6 ho6 hg6 hat6
                   have HO6 := Lib.hid ho6
                   have HB6 := Lib.hid (hbel.out.grown hg6 hzr (fun q hq => (hown.out.lt q hq).1))
                   clear ho6 hg6 hat6)
      have HO7 : Hid (w6.ownsRow w.heap.size 5 1 (.slice A6 (s + dn) c6) (s + dn) ((l ++ xd).map bv)) := by
        show World.ownsRow _ _ _ _ _ _ _
        rw [List.map_append]; exact HO6.out
      go_roundw
      case rel => exact ⟨k + 1, s + dn, A6, c6, l ++ xd, by omega, hsum, rfl, by go_num, HS2, HO7, HB6⟩
      case measure => simp [intOf]; omega
set_option maxRecDepth 100000 in
set_option maxHeartbeats 4000000 in
theorem bright_any (hs : rpEnt.sl w D A n c es) (hD : ∀ k, D k → k < w.heap.size) (hn : n ≤ 1000) (hT : totL es ≤ 100000) (he : ep ≤ 18446744073709551615) (hb : b ≤ 18446744073709551615) :
    Calls Try.prog 29 #[.agg (batV ep b A n c)] w fun e w' => e = .returned (.bool (dec (BatOk ep b es))) ∧ Below w.heap.size w w' := by
  have hb0 := below1 w (.cells (batV ep b A n c) 25)
  have HB := Lib.hid hb0
  have HK := Lib.hid (blk11 w 25 (batV ep b A n c))
  have HS := Lib.hid (keepS (show Sl rpEnt w D A n c es from ⟨hs, hD⟩) hb0)
  have HN := Lib.hid (Rp.sl_len hs).1
  have HT := Lib.hid hT
  have HHE := Lib.hid he
  have HHB := Lib.hid hb
  obtain ⟨q, hq⟩ : ∃ q, dec (BatOk ep b es) = q := ⟨_, rfl⟩
  rw [hq]
  have HQ := Lib.hid hq
  obtain ⟨q1, hq1⟩ : ∃ q, dec (EOk ep) = q := ⟨_, rfl⟩
  obtain ⟨q2, hq2⟩ : ∃ q, dec (FitOk b n) = q := ⟨_, rfl⟩
  have HQ1 := Lib.hid hq1
  have HQ2 := Lib.hid hq2
  clear hs hD hb0 hT hq he hb hq1 hq2
  go_enter Try.func29, Try.ntmps29
  go_upto_region 1 with (fail)
  obtain ⟨gz, hgz⟩ : ∃ gz, gz = w.heap.size := ⟨_, rfl⟩
  rw [← hgz] at HK ⊢
  clear hgz
  generalize World.alloc w _ = w0 at *
  have k0 := (show Blk w0 gz 25 (batV ep b A n c) from HK.out).cell 0
  have k1 := (show Blk w0 gz 25 (batV ep b A n c) from HK.out).cell 1
  have k2 := (show Blk w0 gz 25 (batV ep b A n c) from HK.out).cell 2
  have H1 := eright_any ep w0 HHE.out
  rw [HQ1.out] at H1
  have H1' := Lib.hid H1
  have H2 := fits_any (b := b) (n := n) w0 HHB.out (by omega)
  rw [HQ2.out] at H2
  have H2' := Lib.hid H2
  have H3 := Lib.hid (total_any HS.out.1 HS.out.2 hn HT.out)
  have hT2 : decide ((1048576 : Int) < (totL es : Int)) = false := by simp; have := HT.out; omega
  clear H1 H2
  cases q1
  case false =>
    have HQF : Hid (q = false) := by
      show q = false
      rw [← HQ.out]
      exact dec_false (fun h => of_not_dec HQ1.out (batOk_iff.1 h).1)
    go_wp2_with fail
    refine H1'.out.mono ?_; rintro e w1 ⟨rfl, rfl⟩
    go_wp2_with fail
    go_ret
    exact ⟨by rw [HQF.out]; rfl, HB.out⟩
  case true =>
  cases q2
  case false =>
    have HQF : Hid (q = false) := by
      show q = false
      rw [← HQ.out]
      exact dec_false (fun h => of_not_dec HQ2.out (by have := (batOk_iff.1 h).2.1; rw [HN.out] at this; exact this))
    go_wp2_with (first
      | (go_at_call 60; refine H1'.out.mono ?_; rintro e w1 ⟨rfl, rfl⟩)
      | (go_at_call 61; refine H2'.out.mono ?_; rintro e w1 ⟨rfl, rfl⟩))
    go_ret
    exact ⟨by rw [HQF.out]; rfl, HB.out⟩
  case true =>
  have hfit : FitOk b n := of_dec HQ2.out
  have hn16 : n ≤ 16 := hfit.2.1
  have hbn : b + n ≤ 4611686018427387904 := hfit.2.2.2
  clear hfit
  go_upto_region 3 with (first
      | (go_at_call 60; refine H1'.out.mono ?_; rintro e w1 ⟨rfl, rfl⟩)
      | (go_at_call 61; refine H2'.out.mono ?_; rintro e w1 ⟨rfl, rfl⟩)
      | (go_at_call 62; refine H3.out.mono ?_; rintro e w1 ⟨rfl, hb1⟩
         have HB1 := Lib.hid (stepB HB.out hb1)
         have HK1 := Lib.hid (keepB (show Blk w0 gz 25 (batV ep b A n c) from HK.out) hb1)
         have HS1 := Lib.hid (keepS HS.out hb1)
         clear hb1))
  clear k0 k1 k2
  have k2 := (show Blk w1 gz 25 (batV ep b A n c) from HK1.out).cell 2
  go_wp2_with fail
  clear k2
  go_loopw [27] (fun v27 wr => ∃ k : Nat, k ≤ n ∧ v27 = .int .i64 (k : Int) ∧ Hid (AllE b es k) ∧ Hid (Below w1.heap.size w1 wr)) (fun v27 _ => n - (intOf v27).toNat)
  case atStart => exact ⟨0, by omega, rfl, allE_zero _ _, Below.refl _ _⟩
  case round =>
    obtain ⟨k, hk, rfl, hall, hbel⟩ := hrel
    by_cases hkn : k < n
    case neg =>
      obtain rfl : k = n := by omega
      have hd : decide ((k : Int) < (k : Int)) = false := by simp
      have HQT : Hid (q = true) := by
        show q = true
        rw [← HQ.out]
        refine dec_true (batOk_iff.2 ⟨of_dec HQ1.out, ?_, ?_⟩)
        · rw [HN.out]; exact of_dec HQ2.out
        · rw [HN.out]; exact hall.out
      have HBZ := Lib.hid (stepB HB1.out hbel.out)
      go_wp2_with fail
      go_ret
      exact ⟨by rw [HQT.out]; rfl, HBZ.out⟩
    case pos =>
      have hd : decide ((k : Int) < (n : Int)) = true := by simp; omega
      have hkI : (0 : Int) ≤ (k : Int) := by omega
      have hkI2 : (k : Int) < (n : Int) := by omega
      have hsr := keepS HS1.out hbel.out
      obtain ⟨bo, off, x, A3, c3, B3, d3, rfl, hbD, hx, g0, g1, hrow, hdat⟩ := ent_at hsr.1 hkn
      obtain ⟨xL, xd⟩ := x
      simp only at g0 g1 hrow
      obtain ⟨xn, hxn⟩ : ∃ xn, xL.length = xn := ⟨_, rfl⟩
      obtain ⟨dn, hdn⟩ : ∃ dn, xd.length = dn := ⟨_, rfl⟩
      rw [hxn] at g0 hrow
      rw [hdn] at g1
      have hdn6 : dn ≤ 1000000 := by
        have h1 := tot_mem hx
        have h2 := HT.out
        simp only at h1
        omega
      have HALL := Lib.hid (allE_succ (b := b) hx)
      have HX := Lib.hid hx
      have hba := below1 wr (.cells (entV A3 xn c3 B3 dn d3) 45)
      have HBA := Lib.hid (stepB hbel.out hba)
      have HKE := Lib.hid (blk11 wr 45 (entV A3 xn c3 B3 dn d3))
      have HKZ := Lib.hid (keepB (show Blk w1 gz 25 (batV ep b (some ⟨bo, off, none⟩) n c) from HK1.out) HBA.out)
      obtain ⟨p, hp⟩ : ∃ p, p = b + k := ⟨_, rfl⟩
      have hpw : IntKind.u64.wrap ((b : Int) + (k : Int)) = (p : Int) := by rw [IntWalk.u64_in _ (by omega)]; omega
      have hkw : IntKind.u64.wrap (k : Int) = (k : Int) := IntWalk.u64_in _ (by omega)
      have hp64 : p ≤ 18446744073709551615 := by omega
      have hre := eright24_any (B := B3) (d := d3) (pos := p) (Rp.sl_below hrow hba hsr.2) (fun k hk => Nat.lt_of_lt_of_le (hsr.2 k hk) hba.size) hdn6 hp64
      obtain ⟨ql, hql⟩ : ∃ q, dec (LOk p xL) = q := ⟨_, rfl⟩
      rw [hql] at hre
      have HRE := Lib.hid hre
      have HQL : Hid (dec (LOk (b + k) xL) = ql) := by show _ = _; rw [← hp]; exact hql
      clear hrow hdat hx hbD hsr hba hxn hdn hre hql hp
      go_upto_region 6 with (fail)
      obtain ⟨ge, hge⟩ : ∃ ge, ge = wr.heap.size := ⟨_, rfl⟩
      rw [← hge]
      rw [← hge] at HKE
      clear hge
      clear g0 g1
      generalize World.alloc wr _ = w4 at *
      have v0 := (show Blk w4 ge 45 (entV A3 xn c3 B3 dn d3) from HKE.out).cell 0
      have v1 := (show Blk w4 ge 45 (entV A3 xn c3 B3 dn d3) from HKE.out).cell 1
      have z1 := (show Blk w4 gz 25 (batV ep b (some ⟨bo, off, none⟩) n c) from HKZ.out).cell 1
      go_wp2_with fail
      refine HRE.out.mono ?_; rintro e w5 ⟨rfl, hb5⟩
      have HB5 := Lib.hid (stepB HBA.out hb5)
      clear v0 v1 z1 hb5 hpw hkw
      cases ql
      case false =>
        have HQF : Hid (q = false) := by
          show q = false
          rw [← HQ.out]
          exact dec_false (fun h => of_not_dec HQL.out ((batOk_iff.1 h).2.2 k _ (by have := HN.out; omega) HX.out))
        have HBZ := Lib.hid (stepB HB1.out HB5.out)
        go_wp2_with fail
        go_ret
        exact ⟨by rw [HQF.out]; rfl, HBZ.out⟩
      case true =>
        have HA2 : Hid (AllE b es (k + 1)) := HALL.out.2 ⟨hall.out, of_dec HQL.out⟩
        go_wp2_with fail
        go_roundw
        case rel => exact ⟨k + 1, by omega, by go_num, HA2, HB5⟩
        case measure => simp [intOf]; omega
set_option maxRecDepth 100000 in
set_option maxHeartbeats 4000000 in
theorem rbright_any (hs : rpEnt.sl w D A n c es) (hD : ∀ k, D k → k < w.heap.size) (hn : n ≤ 1000) (hT : totL es ≤ 100000) (he : ep ≤ 18446744073709551615) (hb : b ≤ 18446744073709551615) :
    Calls Try.prog 10 #[.agg (batV ep b A n c)] w fun e w' => e = .returned (.bool (dec (BatOk ep b es))) ∧ Below w.heap.size w w' := by
  have hb0 := below1 w (.cells (batV ep b A n c) 25)
  have HB := Lib.hid hb0
  have HK := Lib.hid (blk11 w 25 (batV ep b A n c))
  have HS := Lib.hid (keepS (show Sl rpEnt w D A n c es from ⟨hs, hD⟩) hb0)
  have HN := Lib.hid (Rp.sl_len hs).1
  have HT := Lib.hid hT
  have HHE := Lib.hid he
  have HHB := Lib.hid hb
  obtain ⟨q, hq⟩ : ∃ q, dec (BatOk ep b es) = q := ⟨_, rfl⟩
  rw [hq]
  have HQ := Lib.hid hq
  obtain ⟨q1, hq1⟩ : ∃ q, dec (EOk ep) = q := ⟨_, rfl⟩
  obtain ⟨q2, hq2⟩ : ∃ q, dec (FitOk b n) = q := ⟨_, rfl⟩
  have HQ1 := Lib.hid hq1
  have HQ2 := Lib.hid hq2
  clear hs hD hb0 hT hq he hb hq1 hq2
  go_enter Try.func10, Try.ntmps10
  go_upto_region 1 with (fail)
  obtain ⟨gz, hgz⟩ : ∃ gz, gz = w.heap.size := ⟨_, rfl⟩
  rw [← hgz] at HK ⊢
  clear hgz
  generalize World.alloc w _ = w0 at *
  have k0 := (show Blk w0 gz 25 (batV ep b A n c) from HK.out).cell 0
  have k1 := (show Blk w0 gz 25 (batV ep b A n c) from HK.out).cell 1
  have k2 := (show Blk w0 gz 25 (batV ep b A n c) from HK.out).cell 2
  have H1 := reright_any ep w0 HHE.out
  rw [HQ1.out] at H1
  have H1' := Lib.hid H1
  have H2 := rfits25_any (b := b) (n := n) w0 HHB.out (by omega)
  rw [HQ2.out] at H2
  have H2' := Lib.hid H2
  have H3 := Lib.hid (rjoin_any HS.out.1 HS.out.2 hn HT.out)
  have hT2 : decide ((1048576 : Int) < (totL es : Int)) = false := by simp; have := HT.out; omega
  clear H1 H2
  cases q1
  case false =>
    have HQF : Hid (q = false) := by
      show q = false
      rw [← HQ.out]
      exact dec_false (fun h => of_not_dec HQ1.out (batOk_iff.1 h).1)
    go_wp2_with fail
    refine H1'.out.mono ?_; rintro e w1 ⟨rfl, rfl⟩
    go_wp2_with fail
    go_ret
    exact ⟨by rw [HQF.out]; rfl, HB.out⟩
  case true =>
  cases q2
  case false =>
    have HQF : Hid (q = false) := by
      show q = false
      rw [← HQ.out]
      exact dec_false (fun h => of_not_dec HQ2.out (by have := (batOk_iff.1 h).2.1; rw [HN.out] at this; exact this))
    go_wp2_with (first
      | (go_at_call 32; refine H1'.out.mono ?_; rintro e w1 ⟨rfl, rfl⟩)
      | (go_at_call 33; refine H2'.out.mono ?_; rintro e w1 ⟨rfl, rfl⟩))
    go_ret
    exact ⟨by rw [HQF.out]; rfl, HB.out⟩
  case true =>
  have hfit : FitOk b n := of_dec HQ2.out
  have hn16 : n ≤ 16 := hfit.2.1
  have hbn : b + n ≤ 4611686018427387904 := hfit.2.2.2
  clear hfit
  go_upto_region 3 with (first
      | (go_at_call 32; refine H1'.out.mono ?_; rintro e w1 ⟨rfl, rfl⟩)
      | (go_at_call 33; refine H2'.out.mono ?_; rintro e w1 ⟨rfl, rfl⟩)
      | (go_at_call 34; refine H3.out.mono ?_; rintro e w1 ⟨Aj, cj, rfl, hb1⟩
         have HB1 := Lib.hid (stepB HB.out hb1)
         have HK1 := Lib.hid (keepB (show Blk w0 gz 25 (batV ep b A n c) from HK.out) hb1)
         have HS1 := Lib.hid (keepS HS.out hb1)
         clear hb1))
  clear k0 k1 k2
  go_wp2_with fail
  go_loopw [3] (fun v27 wr => ∃ k : Nat, k ≤ n ∧ v27 = .int .i64 (k : Int) ∧ Hid (AllE b es k) ∧ Hid (Below w1.heap.size w1 wr)) (fun v27 _ => n - (intOf v27).toNat)
  case atStart => exact ⟨0, by omega, rfl, allE_zero _ _, Below.refl _ _⟩
  case round =>
    obtain ⟨k, hk, rfl, hall, hbel⟩ := hrel
    have HKW := Lib.hid (keepB (show Blk w1 gz 25 (batV ep b A n c) from HK1.out) hbel.out)
    have c2 := (show Blk wr gz 25 (batV ep b A n c) from HKW.out).cell 2
    by_cases hkn : k < n
    case neg =>
      obtain rfl : k = n := by omega
      have hd : decide ((k : Int) < (k : Int)) = false := by simp
      have HQT : Hid (q = true) := by
        show q = true
        rw [← HQ.out]
        refine dec_true (batOk_iff.2 ⟨of_dec HQ1.out, ?_, ?_⟩)
        · rw [HN.out]; exact of_dec HQ2.out
        · rw [HN.out]; exact hall.out
      have HBZ := Lib.hid (stepB HB1.out hbel.out)
      go_wp2_with fail
      go_ret
      exact ⟨by rw [HQT.out]; rfl, HBZ.out⟩
    case pos =>
      have hd : decide ((k : Int) < (n : Int)) = true := by simp; omega
      have hkI : (0 : Int) ≤ (k : Int) := by omega
      have hkI2 : (k : Int) < (n : Int) := by omega
      have hsr := keepS HS1.out hbel.out
      obtain ⟨bo, off, x, A3, c3, B3, d3, rfl, hbD, hx, g0, g1, hrow, hdat⟩ := ent_at hsr.1 hkn
      obtain ⟨xL, xd⟩ := x
      simp only at g0 g1 hrow
      obtain ⟨xn, hxn⟩ : ∃ xn, xL.length = xn := ⟨_, rfl⟩
      obtain ⟨dn, hdn⟩ : ∃ dn, xd.length = dn := ⟨_, rfl⟩
      rw [hxn] at g0 hrow
      rw [hdn] at g1
      have hdn6 : dn ≤ 1000000 := by
        have h1 := tot_mem hx
        have h2 := HT.out
        simp only at h1
        omega
      have HALL := Lib.hid (allE_succ (b := b) hx)
      have HX := Lib.hid hx
      obtain ⟨p, hp⟩ : ∃ p, p = b + k := ⟨_, rfl⟩
      have hpw : IntKind.u64.wrap ((b : Int) + (k : Int)) = (p : Int) := by rw [IntWalk.u64_in _ (by omega)]; omega
      have hkw : IntKind.u64.wrap (k : Int) = (k : Int) := IntWalk.u64_in _ (by omega)
      have hp64 : p ≤ 18446744073709551615 := by omega
      obtain ⟨ql, hql⟩ : ∃ q, dec (LOk p xL) = q := ⟨_, rfl⟩
      have HRE : Hid (∀ u : Gr wr.heap.size wr, Calls Try.prog 35 #[.int .u64 (p : Int), .agg (entV A3 xn c3 B3 dn d3)] u.val fun e w' => e = .returned (.bool ql) ∧ Below u.val.heap.size u.val w') := fun u => by
        have h := reright24_any (B := B3) (d := d3) (pos := p) (Rp.sl_below hrow u.is hsr.2) (fun k hk => Nat.lt_of_lt_of_le (hsr.2 k hk) u.is.size) hdn6 hp64
        rw [hql] at h
        exact h
      have HQL : Hid (dec (LOk (b + k) xL) = ql) := by show _ = _; rw [← hp]; exact hql
      have hbl : bo < wr.heap.size := hsr.2 _ hbD
      have hzl := (show Blk wr gz 25 (batV ep b (some ⟨bo, off, none⟩) n c) from HKW.out).lt
      have m1 : ∀ u : Gr wr.heap.size wr, u.val.cell? ⟨gz, 1, none⟩ = some (.int .u64 (b : Int)) := fun u => (keepB (show Blk wr gz 25 (batV ep b (some ⟨bo, off, none⟩) n c) from HKW.out) u.is).cell 1
      have m2 : ∀ u : Gr wr.heap.size wr, u.val.cell? ⟨gz, 2, none⟩ = some (.slice (some ⟨bo, off, none⟩) n c) := fun u => (keepB (show Blk wr gz 25 (batV ep b (some ⟨bo, off, none⟩) n c) from HKW.out) u.is).cell 2
      have m3 : ∀ u : Gr wr.heap.size wr, u.val.cell? ⟨bo, off + k * 2, none⟩ = some (.slice A3 xn c3) := fun u => (u.is.cell (p := ⟨bo, off + k * 2, none⟩) hbl).trans g0
      have m4 : ∀ u : Gr wr.heap.size wr, u.val.cell? ⟨bo, off + k * 2 + 1, none⟩ = some (.slice B3 dn d3) := fun u => (u.is.cell (p := ⟨bo, off + k * 2 + 1, none⟩) hbl).trans g1
      clear hrow hdat hx hbD hsr hxn hdn hql hp g0 g1
      go_upto_region 6 with (fail)
      refine wp_region_grow (by kernel_rfl) (by kernel_rfl) wr.heap.size ?_
      repeat (first | go_big_quiet_step ((go_at_call 35; exact Gr.call _ (Nat.le_refl _) (HRE.out _))) | quiet_step ((go_at_call 35; exact Gr.call _ (Nat.le_refl _) (HRE.out _))))
      refine wpQuiet_nil ?_
      rintro w5 ⟨⟨_, hb5⟩, rfl⟩
      have HB5 := Lib.hid (stepB hbel.out hb5)
      clear m1 m2 m3 m4 c2 hb5 hpw hkw
      cases ql
      case false =>
        have HQF : Hid (q = false) := by
          show q = false
          rw [← HQ.out]
          exact dec_false (fun h => of_not_dec HQL.out ((batOk_iff.1 h).2.2 k _ (by have := HN.out; omega) HX.out))
        have HBZ := Lib.hid (stepB HB1.out HB5.out)
        go_wp2_with fail
        go_ret
        exact ⟨by rw [HQF.out]; rfl, HBZ.out⟩
      case true =>
        have HA2 : Hid (AllE b es (k + 1)) := HALL.out.2 ⟨hall.out, of_dec HQL.out⟩
        go_wp2_with fail
        go_roundw
        case rel => exact ⟨k + 1, by omega, by go_num, HA2, HB5⟩
        case measure => simp [intOf]; omega
end
end Go.Proofs.Ytcbmnfjbmkpfiaa
