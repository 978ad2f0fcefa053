/-
  'tholepinlaw20.ProjWrites' returns true for every input, and each argument reads behind the call as it read before. No condition.
-/
import Derived.Deep.Slices
import Derived.Deep.Fields
import Derived.ChangeOld
import Derived.OpenShut
import Derived.ShutString
import Derived.Test.YtmdgmnaaopineaaRows
import Derived.Test.YtmdgmnaaopineaaQPW7
/- proj.Same. -/
namespace Go.Proofs.Ytmdgmnaaopineaa
open Go.ChangeShapes Go.WideShapes Go.ChangeAt Go.RowKit
set_option linter.unusedVariables false
section
variable {D D' : Dom} {A A' : Option Addr} {n n' c c' e e' : Nat} {l l' : List Stp} {w : World}
set_option maxRecDepth 100000 in
set_option maxHeartbeats 2000000 in
theorem eqs_any (hs : rpStp.sl w D A n c l) (hs' : rpStp.sl w D' A' n' c' l') (hD : ∀ k, D k → k < w.heap.size) (hD' : ∀ k, D' k → k < w.heap.size) :
    Calls Try.prog 80 #[.slice A n c, .slice A' n' c', .func (Fn.func 54) #[] #[]] w fun en w' => en = .returned (.bool (dec (l = l'))) ∧ Below w.heap.size w w' := by
  obtain ⟨hlen, hnc, hcm⟩ := Rp.sl_len hs
  obtain ⟨hlen', hnc', hcm'⟩ := Rp.sl_len hs'
  unfold maxLen at hcm hcm'
  have HS := Lib.hid (show Sl rpStp w D A n c l from ⟨hs, hD⟩)
  have HS' := Lib.hid (show Sl rpStp w D' A' n' c' l' from ⟨hs', hD'⟩)
  have HN := Lib.hid hlen
  have HN' := Lib.hid hlen'
  clear hs hs' hD hD' hlen hlen'
  by_cases hn : n = n'
  case neg =>
    have q3 : ((n : Int) != (n' : Int)) = true := by simp; omega
    rw [dec_false (fun h : l = l' => hn (by rw [← HN.out, ← HN'.out, h]))]
    clear hn
    go_enter Try.func80, Try.ntmps80
    go_wp2_with fail
    go_ret
    exact ⟨rfl, Below.refl _ _⟩
  subst hn
  have q3 : ((n : Int) != (n : Int)) = false := by simp
  go_enter Try.func80, Try.ntmps80
  go_wp2_with fail
  go_loopw [17] (fun i wr => ∃ k : Nat, k ≤ n ∧ i = .int .i64 k ∧ Hid (∀ (j : Nat), j < k → l[j]? = l'[j]?) ∧ Hid (Below w.heap.size w wr)) (fun i _ => n - (intOf i).toNat)
  case atStart => exact ⟨0, by omega, rfl, fun j h => by omega, Below.refl _ _⟩
  case round =>
    obtain ⟨k, hk, rfl, hsh, hbel⟩ := hrel
    by_cases hkn : k < n
    case pos =>
      have hsr := keepS HS.out hbel.out
      have hsr' := keepS HS'.out hbel.out
      obtain ⟨b1, off1, s, A1, c1, rfl, hb1, hx, g10, g11, g12, hr1, hs1, hs2⟩ := stps_at hsr.1 hkn
      obtain ⟨b2, off2, t, A2, c2, rfl, hb2, hy, g20, g21, g22, hr2, ht1, ht2⟩ := stps_at hsr'.1 hkn
      obtain ⟨sf, st, ss⟩ := s
      obtain ⟨tf, tt, ts⟩ := t
      simp only at g10 g11 g12 hr1 hs1 hs2 g20 g21 g22 hr2 ht1 ht2
      have hz := hbel.out.size
      have hd : decide ((k : Int) < (n : Int)) = true := by simp; omega
      have hk0 : (0 : Int) ≤ (k : Int) := by omega
      have hk1 : (k : Int) < (n : Int) := by omega
      have hba := below2 wr (.cells (stpV sf st A1 ss.length c1) 31) (.cells (stpV tf tt A2 ts.length c2) 31)
      have hct := stsame_any (f := sf) (t := st) (f' := tf) (t' := tt) (Rp.sl_below hr1 hba hsr.2) (Rp.sl_below hr2 hba hsr'.2) (fun k hk => Nat.lt_of_lt_of_le (hsr.2 k hk) hba.size) (fun k hk => Nat.lt_of_lt_of_le (hsr'.2 k hk) hba.size)
      have HX := Lib.hid hx
      have HY := Lib.hid hy
      have HBA := Lib.hid hba
      have hbs := below1 wr (.cells (stpV sf st A1 ss.length c1) 31)
      have f20 := (hbs.cell (p := ⟨b2, off2 + k * 3, none⟩) (hsr'.2 _ hb2)).trans g20
      have f21 := (hbs.cell (p := ⟨b2, off2 + k * 3 + 1, none⟩) (hsr'.2 _ hb2)).trans g21
      have f22 := (hbs.cell (p := ⟨b2, off2 + k * 3 + 2, none⟩) (hsr'.2 _ hb2)).trans g22
      clear hbs g20 g21 g22
      clear hx hy hr1 hr2 hb1 hb2 hsr hsr' hba hs1 hs2 ht1 ht2
      cases hm : dec ((sf, st, ss) = (tf, tt, ts))
      case false =>
        rw [hm] at hct
        have HCT := Lib.hid hct
        have HM := Lib.hid (of_not_dec hm)
        clear hct hm
        go_wp2_with fail
        refine HCT.out.mono ?_; rintro en w3 ⟨rfl, hb3⟩
        have HB3 := Lib.hid (stepB (stepB hbel.out HBA.out) hb3)
        clear hb3
        go_wp2_with fail
        go_ret
        rw [dec_false (fun h : l = l' => HM.out (by have e1 := HX.out; rw [h, HY.out] at e1; injection e1 with e1; exact e1.symm))]
        exact ⟨rfl, HB3.out⟩
      case true =>
        rw [hm] at hct
        have HCT := Lib.hid hct
        have HM := Lib.hid (of_dec hm)
        clear hct hm
        go_wp2_with fail
        refine HCT.out.mono ?_; rintro en w3 ⟨rfl, hb3⟩
        have HB3 := Lib.hid (stepB (stepB hbel.out HBA.out) hb3)
        clear hb3
        go_wp2_with fail
        go_roundw
        case rel =>
          refine ⟨k + 1, by omega, by go_num, fun j hj => ?_, HB3.out⟩
          rcases Nat.lt_or_ge j k with h | h
          · exact hsh.out j h
          · obtain rfl : j = k := by omega
            rw [HX.out, HY.out, HM.out]
        case measure => simp [intOf]; omega
    case neg =>
      obtain rfl : n = k := by omega
      have hd : decide ((n : Int) < (n : Int)) = false := by simp
      go_wp2_with fail
      go_ret
      have hyes : l = l' := List.ext_getElem? (fun j => by
        rcases Nat.lt_or_ge j n with h | h
        · exact hsh.out j h
        · rw [List.getElem?_eq_none (by rw [HN.out]; exact h), List.getElem?_eq_none (by rw [HN'.out]; exact h)])
      rw [dec_true hyes]
      exact ⟨rfl, hbel.out⟩
set_option maxRecDepth 100000 in
set_option maxHeartbeats 2000000 in
theorem prsame_any (hs : rpStp.sl w D A n c l) (hs' : rpStp.sl w D' A' n' c' l') (hD : ∀ k, D k → k < w.heap.size) (hD' : ∀ k, D' k → k < w.heap.size) :
    Calls Try.prog 22 #[.agg (prjV e A n c), .agg (prjV e' A' n' c')] w fun en w' => en = .returned (.bool (dec ((e, l) = (e', l')))) ∧ Below w.heap.size w w' := by
  have HA := Lib.hid (blk21 w 25 25 (prjV e A n c) (prjV e' A' n' c'))
  have HB := Lib.hid (blk22 w 25 25 (prjV e A n c) (prjV e' A' n' c'))
  have hz := below2 w (.cells (prjV e A n c) 25) (.cells (prjV e' A' n' c') 25)
  have HZ := Lib.hid hz
  have HE := Lib.hid (eqs_any (Rp.sl_below hs hz hD) (Rp.sl_below hs' hz hD') (fun k hk => Nat.lt_of_lt_of_le (hD k hk) hz.size) (fun k hk => Nat.lt_of_lt_of_le (hD' k hk) hz.size))
  clear hs hs' hD hD' hz
  by_cases hf : e = e'
  case neg =>
    have q1 : ((e : Int) == (e' : Int)) = false := by simp; omega
    rw [dec_false (fun h : (e, l) = (e', l') => hf (by injection h))]
    clear hf
    go_enter Try.func22, Try.ntmps22
    go_wp2_with fail
    generalize World.alloc (World.alloc w _) _ = w0 at *
    have a0 := (show Blk w0 w.heap.size 25 _ from HA.out).cell 0
    have a1 := (show Blk w0 w.heap.size 25 _ from HA.out).cell 1
    have b0 := (show Blk w0 (w.heap.size + 1) 25 _ from HB.out).cell 0
    have b1 := (show Blk w0 (w.heap.size + 1) 25 _ from HB.out).cell 1
    go_wp2_with fail
    go_ret
    exact ⟨rfl, HZ.out⟩
  subst hf
  have q1 : ((e : Int) == (e : Int)) = true := by simp
  rw [dec_congr (show (e, l) = (e, l') ↔ l = l' from ⟨fun h => by injection h, fun h => by rw [h]⟩)]
  go_enter Try.func22, Try.ntmps22
  go_wp2_with fail
  generalize World.alloc (World.alloc w _) _ = w0 at *
  have a0 := (show Blk w0 w.heap.size 25 _ from HA.out).cell 0
  have a1 := (show Blk w0 w.heap.size 25 _ from HA.out).cell 1
  have b0 := (show Blk w0 (w.heap.size + 1) 25 _ from HB.out).cell 0
  have b1 := (show Blk w0 (w.heap.size + 1) 25 _ from HB.out).cell 1
  go_wp2_with fail
  refine HE.out.mono ?_; rintro en w1 ⟨rfl, hb⟩
  go_wp2_with fail
  go_ret
  exact ⟨rfl, stepB HZ.out hb⟩
end
end Go.Proofs.Ytmdgmnaaopineaa
/- law20.Long tells that a projection is short. -/
namespace Go.Proofs.Ytmdgmnaaopineaa
open Go.ChangeShapes Go.WideShapes Go.ChangeAt Go.RowKit
set_option linter.unusedVariables false
def Short20 (s : Stp) : Prop := s.2.2.length ≤ 1000 ∧ ∀ (j : Nat) x, s.2.2[j]? = some x → x.length ≤ 1000
theorem plong2_any {D : Dom} {A : Option Addr} {n c e : Nat} {l : List Stp} {w : World} (hs : rpStp.sl w D A n c l) (hD : ∀ k, D k → k < w.heap.size) :
    Calls Try.prog 16 #[.agg (prjV e A n c)] w (SomeBool fun b w' => (b = false → l.length ≤ 70 ∧ ∀ s ∈ l, Short20 s) ∧ Below w.heap.size w w') := by
  obtain ⟨hlen, hnc, hcm⟩ := Rp.sl_len hs
  unfold maxLen at hcm
  subst hlen
  have hb0 : Below w.heap.size w (w.alloc (.cells (prjV e A l.length c) 25)) := (Below.refl _ _).alloc (Nat.le_refl _) _
  have HS := Lib.hid (Rp.sl_below hs hb0 hD)
  have HB0 := Lib.hid hb0
  have HD := Lib.hid (fun k hk => Nat.lt_of_lt_of_le (hD k hk) hb0.size)
  have HK := Lib.hid (Blk.new w 25 (prjV e A l.length c))
  clear hs hD hb0
  go_enter Try.func16, Try.ntmps16
  go_wp2_with fail
  generalize World.alloc w _ = w0 at *
  have hz0 := HB0.out.size
  have hkl := (show Blk _ _ _ _ from HK.out).lt
  go_loopw [3] (fun i wr => ∃ k : Nat, k ≤ l.length ∧ k ≤ 70 ∧ i = .int .i64 k ∧ Hid (∀ (j : Nat) s, j < k → l[j]? = some s → Short20 s) ∧ Below w0.heap.size w0 wr) (fun i _ => l.length - (intOf i).toNat)
  case atStart => exact ⟨0, by omega, by omega, rfl, fun j s h => by omega, Below.refl _ _⟩
  case round =>
    obtain ⟨k, hk, hk70, rfl, hsh, hbr⟩ := hrel
    have HBR := Lib.hid hbr
    have hzr := hbr.size
    have hbk := HK.out.below hbr hkl
    have gk : wr.cell? ⟨w.heap.size, 1, none⟩ = some (.slice A l.length c) := hbk.cell 1
    clear hbk
    by_cases hin : k < l.length ∧ k < 70
    · obtain ⟨h1, h2⟩ := hin
      obtain ⟨b, off, s, A2, c2, rfl, hb, hsk, g0, g1, g2, hrow, hs1, hs2⟩ := stps_at (Rp.sl_below HS.out hbr HD.out) h1
      have HR := Lib.hid hrow
      have HSK := Lib.hid hsk
      have hd1 : decide ((k : Int) < (l.length : Int)) = true := by simp; omega
      have hd2 : decide ((k : Int) < 70) = true := by simp; omega
      clear hrow hsk hbr
      go_wp2_with fail
      refine (long_any HR.out (fun k hk => Nat.lt_of_lt_of_le (HD.out k hk) hzr)).mono ?_; rintro en w1 ⟨bb, rfl, hinf, hb1⟩
      have HINF := Lib.hid hinf
      have HB1 := Lib.hid hb1
      clear g0 g1 g2 gk hinf hb1
      cases bb
      · go_wp2_with fail
        go_roundw
        case rel =>
          refine ⟨k + 1, by omega, by omega, by go_num, fun j t hj ht => ?_, HBR.out.trans (HB1.out.mono hzr)⟩
          rcases Nat.lt_or_ge j k with h | h
          · exact hsh.out j t h ht
          · obtain rfl : j = k := by omega
            have h3 := HSK.out
            rw [ht] at h3
            injection h3 with h3
            subst h3
            obtain ⟨q1, q2⟩ := HINF.out (by first | trivial | rfl)
            exact ⟨by omega, fun j x hx => by have := q2 j x hx; omega⟩
        case measure => simp [intOf]; omega
      · go_wp2_with fail
        go_ret
        exact ⟨true, rfl, (fun h => by cases h), HB0.out.trans ((HBR.out.trans (HB1.out.mono hzr)).mono hz0)⟩
    · have hc : k = l.length ∨ (k < l.length ∧ k = 70) := by omega
      clear hin hbr
      rcases hc with rfl | ⟨h1, rfl⟩
      · have hd1 : decide ((l.length : Int) < (l.length : Int)) = false := by simp
        go_wp2_with fail
        go_ret
        refine ⟨_, rfl, fun _ => ⟨hk70, fun s hs => ?_⟩, HB0.out.trans (HBR.out.mono hz0)⟩
        obtain ⟨j, hj⟩ := List.getElem?_of_mem hs
        exact hsh.out j s (List.getElem?_eq_some_iff.1 hj).1 hj
      · have hd1 : decide ((70 : Int) < (l.length : Int)) = true := by simp; omega
        go_wp2_with fail
        go_ret
        have hd2 : decide ((70 : Int) < (l.length : Int)) = true := by simp; omega
        exact ⟨true, by first | rfl | (rw [← hd2]; rfl), (fun h => by cases h), HB0.out.trans (HBR.out.mono hz0)⟩
end Go.Proofs.Ytmdgmnaaopineaa
/- The walks of the reference's Right of a projection, and whether stripes are too many. -/
namespace Go.Proofs.Ytmdgmnaaopineaa
open Go.ChangeShapes Go.WideShapes Go.ChangeAt Go.RowKit
set_option linter.unusedVariables false
theorem startOf_pos {l : List Stp} {k : Nat} {s : Stp} (hk : 0 < k) (h : l[k - 1]? = some s) : startOf l k = s.2.1 := by
  obtain ⟨j, rfl⟩ : ∃ j, k = j + 1 := ⟨k - 1, by omega⟩
  exact startOf_succ h

set_option maxRecDepth 100000 in
set_option maxHeartbeats 4000000 in
theorem rpright_any {D : Dom} {A : Option Addr} {n c e : Nat} {l : List Stp} {w : World} (hs : rpStp.sl w D A n c l) (hD : ∀ k, D k → k < w.heap.size) (he : e ≤ 18446744073709551615) :
    Calls Try.prog 29 #[.agg (prjV e A n c)] w fun en w' => en = .returned (.bool (dec (POk (e, l)))) ∧ Below w.heap.size w w' := by
  obtain ⟨hlen, hnc, hcm⟩ := Rp.sl_len hs
  unfold maxLen at hcm
  subst hlen
  have hb0 : Below w.heap.size w (w.alloc (.cells (prjV e A l.length c) 25)) := (Below.refl _ _).alloc (Nat.le_refl _) _
  have HS := Lib.hid (Rp.sl_below hs hb0 hD)
  have HB0 := Lib.hid hb0
  have HD := Lib.hid (fun k hk => Nat.lt_of_lt_of_le (hD k hk) hb0.size)
  have HK := Lib.hid (Blk.new w 25 (prjV e A l.length c))
  clear hs hD hb0
  have her := fun w => reright_any e w he
  cases hq : dec (EOk e)
  · rw [hq] at her
    have HE := Lib.hid her
    rw [dec_false (fun h : POk (e, l) => of_not_dec hq h.1.1.1)]
    clear her hq
    go_enter Try.func29, Try.ntmps29
    go_wp2_with fail
    refine (HE.out _).mono ?_; rintro en w1 ⟨rfl, rfl⟩
    go_wp2_with fail
    go_ret
    exact ⟨rfl, HB0.out⟩
  rw [hq] at her
  have HE := Lib.hid her
  have HEO := Lib.hid (of_dec hq)
  clear her hq
  by_cases hpre : 1 ≤ l.length ∧ l.length ≤ 64
  case neg =>
    rw [dec_false (fun h : POk (e, l) => hpre h.1.1.2)]
    have hc : l.length < 1 ∨ (1 ≤ l.length ∧ 64 < l.length) := by omega
    clear hpre
    rcases hc with d1 | ⟨d1, d2⟩
    all_goals
      go_enter Try.func29, Try.ntmps29
      go_wp2_with fail
      refine (HE.out _).mono ?_; rintro en w1 ⟨rfl, rfl⟩
      go_wp2_with fail
      go_ret
      exact ⟨rfl, HB0.out⟩
  obtain ⟨d1, d2⟩ := hpre
  have v1 : decide ((l.length : Int) < 1) = false := by simp; omega
  have v2 : decide ((64 : Int) < (l.length : Int)) = false := by simp; omega
  have HP0 : Hid (PUpTo (e, l) 0) := ⟨⟨HEO.out, d1, d2⟩, fun i s h => by omega⟩
  obtain ⟨b0, off0, s0, A0, c0, rfl, hb0, hs0, g00, g01, g02, _, hs01, hs02⟩ := stps_at HS.out (show 0 < l.length by omega)
  rw [Nat.zero_mul, Nat.add_zero] at g00
  have HS0 := Lib.hid hs0
  clear hs0 g01 g02 hb0
  obtain ⟨f0, hf0⟩ : ∃ f0, f0 = s0.1 := ⟨_, rfl⟩
  rw [← hf0] at g00 hs01
  have HF0 := Lib.hid hf0
  clear hf0
  by_cases hz : f0 = 0
  case neg =>
    have hn : ((f0 : Int) != 0) = true := by simp; omega
    have hno := Lib.hid (show ¬ POk (e, l) from fun h => hz (by
      have := (h.1.2 0 s0 (List.getElem?_eq_some_iff.1 HS0.out).1 HS0.out).2
      rw [HF0.out]; exact this))
    rw [dec_false hno.out]
    clear hz
    go_enter Try.func29, Try.ntmps29
    go_wp2_with fail
    refine (HE.out _).mono ?_; rintro en w1 ⟨rfl, rfl⟩
    go_wp2_with fail
    go_ret
    exact ⟨rfl, HB0.out⟩
  subst hz
  obtain ⟨b1, off1, s1, A1, c1, hA1, hb1, hs1, g10, g11, g12, _, hs11, hs12⟩ := stps_at HS.out (show l.length - 1 < l.length by omega)
  injection hA1 with hA1
  injection hA1 with hA1 hA2
  subst hA1; subst hA2
  have HS1 := Lib.hid hs1
  clear hs1 g10 g12 hb1
  obtain ⟨t1, ht1⟩ : ∃ t1, t1 = s1.2.1 := ⟨_, rfl⟩
  rw [← ht1] at g11 hs12
  have HT1 := Lib.hid ht1
  have hn1 : ((l.length : Int) - 1).toNat = l.length - 1 := by omega
  have hn2 : ((l.length - 1 : Nat) : Int) = (l.length : Int) - 1 := by omega
  clear ht1
  by_cases hz : t1 = 4611686018427387904
  case neg =>
    have hn : ((t1 : Int) != 4611686018427387904) = true := by simp; omega
    have hno := Lib.hid (show ¬ POk (e, l) from fun h => hz (by
      have := h.2
      rw [startOf_pos (by exact d1) HS1.out] at this
      rw [HT1.out]; exact this))
    rw [dec_false hno.out]
    clear hz
    go_enter Try.func29, Try.ntmps29
    go_wp2_with fail
    refine (HE.out _).mono ?_; rintro en w1 ⟨rfl, rfl⟩
    go_wp2_with fail
    go_ret
    exact ⟨rfl, HB0.out⟩
  have hn : ((t1 : Int) != 4611686018427387904) = false := by simp; omega
  have HZ := Lib.hid hz
  clear hz
  go_enter Try.func29, Try.ntmps29
  go_wp2_with fail
  refine (HE.out _).mono ?_; rintro en w1 ⟨rfl, rfl⟩
  go_wp2_with fail
  clear g00 g11 hn1 hn2
  generalize World.alloc w _ = w0 at *
  have hz0 := HB0.out.size
  have hkl := (show Blk _ _ _ _ from HK.out).lt
  go_loopw [4] (fun i wr => ∃ (k : Nat), k ≤ l.length ∧ i = .int .i64 k ∧ Hid (PUpTo (e, l) k) ∧ Below w0.heap.size w0 wr) (fun i _ => l.length - (intOf i).toNat)
  case atStart => exact ⟨0, by omega, rfl, HP0, Below.refl _ _⟩
  case round =>
    obtain ⟨k, hk, rfl, hup, hbr⟩ := hrel
    have HBR := Lib.hid hbr
    have hzr := hbr.size
    by_cases hkn : k < l.length
    · obtain ⟨b, off, s, A2, c2, hA, hb, hsk, g0, g1, g2, hrow, hs1, hs2⟩ := stps_at (Rp.sl_below HS.out hbr HD.out) hkn
      injection hA with hA
      injection hA with hA hA2
      subst hA; subst hA2
      have hbl : b0 < wr.heap.size := Nat.lt_of_lt_of_le (HD.out _ hb) hzr
      have HSK := Lib.hid hsk
      have HR := Lib.hid hrow
      have hdk : decide ((k : Int) < (l.length : Int)) = true := by simp; omega
      obtain ⟨sf, hsf⟩ : ∃ sf, sf = s.1 := ⟨_, rfl⟩
      obtain ⟨st, hst2⟩ : ∃ st, st = s.2.1 := ⟨_, rfl⟩
      obtain ⟨sn, hsn⟩ : ∃ sn, sn = s.2.2.length := ⟨_, rfl⟩
      rw [← hsf] at g0 hs1
      rw [← hst2] at g1 hs2
      rw [← hsn] at g2
      have HSF := Lib.hid hsf
      have HST := Lib.hid hst2
      have HSN := Lib.hid hsn
      have gq0 : ∀ q : Gr wr.heap.size wr, q.val.cell? ⟨b0, off0 + k * 3, none⟩ = some (.int .u64 (sf : Int)) := fun q => (q.is.cell (p := ⟨b0, off0 + k * 3, none⟩) hbl).trans g0
      have gq1 : ∀ q : Gr wr.heap.size wr, q.val.cell? ⟨b0, off0 + k * 3 + 1, none⟩ = some (.int .u64 (st : Int)) := fun q => (q.is.cell (p := ⟨b0, off0 + k * 3 + 1, none⟩) hbl).trans g1
      have gq2 : ∀ q : Gr wr.heap.size wr, q.val.cell? ⟨b0, off0 + k * 3 + 2, none⟩ = some (.slice A2 sn c2) := fun q => (q.is.cell (p := ⟨b0, off0 + k * 3 + 2, none⟩) hbl).trans g2
      have hbk := HK.out.below hbr hkl
      have gqk : ∀ q : Gr wr.heap.size wr, q.val.cell? ⟨w.heap.size, 1, none⟩ = some (.slice (some ⟨b0, off0, none⟩) l.length c) := fun q => (Blk.below hbk q.is hbk.lt).cell 1
      have hrt : ∀ q : Gr wr.heap.size wr, _ := fun q => rright_any (f := s.1) (t := s.2.1) (Rp.sl_below HR.out q.is (fun k hk => Nat.lt_of_lt_of_le (HD.out k hk) hzr)) (fun k hk => Nat.lt_of_lt_of_le (Nat.lt_of_lt_of_le (HD.out k hk) hzr) q.is.size) (by rw [← HSF.out]; omega) (by rw [← HST.out]; omega)
      rw [← HSF.out, ← HST.out, ← HSN.out] at hrt
      have hk0 : (0 : Int) ≤ (k : Int) := by omega
      have hk1 : (k : Int) < (l.length : Int) := by omega
      clear hsk hrow hbr hsf hst2 hsn hbk g0 g1 g2
      cases hq : dec (SOk (sf, st, s.2.2))
      · rw [hq] at hrt
        have HRT := Lib.hid hrt
        have hno := Lib.hid (show ¬ POk (e, l) from fun h => of_not_dec hq (by
          have := (h.1.2 k s (List.getElem?_eq_some_iff.1 HSK.out).1 HSK.out).1
          rw [HSF.out, HST.out]; exact this))
        clear hrt hq
        go_wp2_with fail
        refine wp_region_grow (by kernel_rfl) (by kernel_rfl) wr.heap.size ?_
        repeat (first | go_big_quiet_step (((go_at_call 46; exact Gr.call _ (Nat.le_refl _) (HRT.out _)))) | quiet_step (((go_at_call 46; exact Gr.call _ (Nat.le_refl _) (HRT.out _)))))
        refine wpQuiet_nil ?_
        rintro w3 ⟨⟨_, hb3⟩, rfl⟩
        clear gq0 gq1 gq2 gqk
        go_wp2_with fail
        go_ret
        rw [dec_false hno.out]
        exact ⟨rfl, HB0.out.trans ((HBR.out.trans (hb3.mono hzr)).mono hz0)⟩
      · rw [hq] at hrt
        have HRT := Lib.hid hrt
        have HOK := Lib.hid (of_dec hq)
        clear hrt hq
        by_cases hkz : k = 0
        · have hd0 : decide (0 < k) = false := by simp; omega
          have hd1 : decide ((0 : Int) < (k : Int)) = false := by simp; omega
          have HKZ := Lib.hid hkz
          clear hkz
          go_wp2_with fail
          refine wp_region_grow (by kernel_rfl) (by kernel_rfl) wr.heap.size ?_
          repeat (first | go_big_quiet_step (((go_at_call 46; exact Gr.call _ (Nat.le_refl _) (HRT.out _)))) | quiet_step (((go_at_call 46; exact Gr.call _ (Nat.le_refl _) (HRT.out _)))))
          refine wpQuiet_nil ?_
          rintro w3 ⟨⟨_, hb3⟩, rfl⟩
          clear gq0 gq1 gq2 gqk
          go_wp2_with fail
          go_roundw
          case rel =>
            refine ⟨k + 1, by omega, by go_num, (pUpTo_succ HSK.out).2 ⟨hup.out, ?_, ?_⟩, HBR.out.trans (hb3.mono hzr)⟩
            · have := HOK.out
              rw [HSF.out, HST.out] at this
              exact this
            · have h0 := HS0.out
              rw [← HKZ.out, HSK.out] at h0
              injection h0 with h0
              rw [h0, HKZ.out, ← HF0.out]; rfl
          case measure => simp [intOf]; omega
        · have hd0 : decide (0 < k) = true := by simp; omega
          have hd1 : decide ((0 : Int) < (k : Int)) = true := by simp; omega
          obtain ⟨b9, off9, s9, A9, c9, hA9, hb9, hs9, g90, g91, g92, _, hs91, hs92⟩ := stps_at (Rp.sl_below HS.out HBR.out HD.out) (show k - 1 < l.length by omega)
          injection hA9 with hA9
          injection hA9 with hA9 hA99
          subst hA9; subst hA99
          obtain ⟨t9, ht9⟩ : ∃ t9, t9 = s9.2.1 := ⟨_, rfl⟩
          rw [← ht9] at g91 hs92
          have HT9 := Lib.hid ht9
          have HS9 := Lib.hid hs9
          have gq9 : ∀ q : Gr wr.heap.size wr, q.val.cell? ⟨b0, off0 + (k - 1) * 3 + 1, none⟩ = some (.int .u64 (t9 : Int)) := fun q => (q.is.cell (p := ⟨b0, off0 + (k - 1) * 3 + 1, none⟩) hbl).trans g91
          have m1 : IntKind.i64.wrap ((k : Int) - 1) = (k : Int) - 1 := IntWalk.i64_in _ (by omega)
          have m2 : (0 : Int) ≤ (k : Int) - 1 := by omega
          have m3 : (k : Int) - 1 < (l.length : Int) := by omega
          have m4 : ((k : Int) - 1).toNat = k - 1 := by omega
          have HKZ := Lib.hid (show 0 < k by omega)
          clear hkz ht9 hs9 g90 g91 g92
          by_cases hne : sf = t9
          · have hdn : ((sf : Int) != (t9 : Int)) = false := by simp; omega
            have HNE := Lib.hid hne
            clear hne
            go_wp2_with fail
            refine wp_region_grow (by kernel_rfl) (by kernel_rfl) wr.heap.size ?_
            repeat (first | go_big_quiet_step (((go_at_call 46; exact Gr.call _ (Nat.le_refl _) (HRT.out _)))) | quiet_step (((go_at_call 46; exact Gr.call _ (Nat.le_refl _) (HRT.out _)))))
            refine wpQuiet_nil ?_
            rintro w3 ⟨⟨_, hb3⟩, rfl⟩
            clear gq0 gq1 gq2 gqk gq9 m1 m4
            go_wp2_with fail
            go_roundw
            case rel =>
              refine ⟨k + 1, by omega, by go_num, (pUpTo_succ HSK.out).2 ⟨hup.out, ?_, ?_⟩, HBR.out.trans (hb3.mono hzr)⟩
              · have := HOK.out
                rw [HSF.out, HST.out] at this
                exact this
              · show s.1 = startOf l k
                rw [← HSF.out, startOf_pos HKZ.out HS9.out, HNE.out, HT9.out]
            case measure => simp [intOf]; omega
          · have hdn : ((sf : Int) != (t9 : Int)) = true := by simp; omega
            have hno := Lib.hid (show ¬ POk (e, l) from fun h => hne (by
              have := (h.1.2 k s (List.getElem?_eq_some_iff.1 HSK.out).1 HSK.out).2
              rw [startOf_pos HKZ.out HS9.out] at this
              rw [HSF.out, HT9.out]; exact this))
            clear hne
            go_wp2_with fail
            refine wp_region_grow (by kernel_rfl) (by kernel_rfl) wr.heap.size ?_
            repeat (first | go_big_quiet_step (((go_at_call 46; exact Gr.call _ (Nat.le_refl _) (HRT.out _)))) | quiet_step (((go_at_call 46; exact Gr.call _ (Nat.le_refl _) (HRT.out _)))))
            refine wpQuiet_nil ?_
            rintro w3 ⟨⟨_, hb3⟩, rfl⟩
            clear gq0 gq1 gq2 gqk gq9 m1 m4
            go_wp2_with fail
            go_ret
            rw [dec_false hno.out]
            exact ⟨rfl, HB0.out.trans ((HBR.out.trans (hb3.mono hzr)).mono hz0)⟩
    · obtain rfl : k = l.length := by omega
      have hdk : decide ((l.length : Int) < (l.length : Int)) = false := by simp
      clear hbr
      have hyes := Lib.hid (show POk (e, l) from ⟨hup.out, by
        show startOf l l.length = _
        rw [startOf_pos (by omega) HS1.out, ← HT1.out]; exact HZ.out⟩)
      go_wp2_with fail
      go_ret
      rw [dec_true hyes.out]
      exact ⟨rfl, HB0.out.trans (HBR.out.mono hz0)⟩

def AnyBool (w : World) (e : Ending) (w' : World) : Prop := ∃ b : Bool, e = .returned (.bool b) ∧ Below w.heap.size w w'
theorem plong_any {D : Dom} {A : Option Addr} {n c e : Nat} {l : List Stp} {w : World} (hs : rpStp.sl w D A n c l) (hD : ∀ k, D k → k < w.heap.size) :
    Calls Try.prog 16 #[.agg (prjV e A n c)] w (AnyBool w) := by
  obtain ⟨hlen, hnc, hcm⟩ := Rp.sl_len hs
  unfold maxLen at hcm
  subst hlen
  have hb0 : Below w.heap.size w (w.alloc (.cells (prjV e A l.length c) 25)) := (Below.refl _ _).alloc (Nat.le_refl _) _
  have HS := Lib.hid (Rp.sl_below hs hb0 hD)
  have HB0 := Lib.hid hb0
  have HD := Lib.hid (fun k hk => Nat.lt_of_lt_of_le (hD k hk) hb0.size)
  have HK := Lib.hid (Blk.new w 25 (prjV e A l.length c))
  clear hs hD hb0
  go_enter Try.func16, Try.ntmps16
  go_wp2_with fail
  generalize World.alloc w _ = w0 at *
  have hz0 := HB0.out.size
  have hkl := (show Blk _ _ _ _ from HK.out).lt
  go_loopw [3] (fun i wr => ∃ k : Nat, k ≤ l.length ∧ k ≤ 70 ∧ i = .int .i64 k ∧ Below w0.heap.size w0 wr) (fun i _ => l.length - (intOf i).toNat)
  case atStart => exact ⟨0, by omega, by omega, rfl, Below.refl _ _⟩
  case round =>
    obtain ⟨k, hk, hk70, rfl, hbr⟩ := hrel
    have HBR := Lib.hid hbr
    have hzr := hbr.size
    have hbk := HK.out.below hbr hkl
    have gk : wr.cell? ⟨w.heap.size, 1, none⟩ = some (.slice A l.length c) := hbk.cell 1
    clear hbk
    by_cases hin : k < l.length ∧ k < 70
    · obtain ⟨h1, h2⟩ := hin
      obtain ⟨b, off, s, A2, c2, rfl, hb, hsk, g0, g1, g2, hrow, hs1, hs2⟩ := stps_at (Rp.sl_below HS.out hbr HD.out) h1
      have HR := Lib.hid hrow
      have hd1 : decide ((k : Int) < (l.length : Int)) = true := by simp; omega
      have hd2 : decide ((k : Int) < 70) = true := by simp; omega
      clear hrow hsk hbr
      go_wp2_with fail
      refine (long_any HR.out (fun k hk => Nat.lt_of_lt_of_le (HD.out k hk) hzr)).mono ?_; rintro en w1 ⟨bb, rfl, _, hb1⟩
      clear g0 g1 g2 gk
      cases bb
      · go_wp2_with fail
        go_roundw
        case rel => exact ⟨k + 1, by omega, by omega, by go_num, HBR.out.trans (hb1.mono hzr)⟩
        case measure => simp [intOf]; omega
      · go_wp2_with fail
        go_ret
        exact ⟨true, rfl, HB0.out.trans ((HBR.out.trans (hb1.mono hzr)).mono hz0)⟩
    · have hc : k = l.length ∨ (k < l.length ∧ k = 70) := by omega
      clear hin hbr
      rcases hc with rfl | ⟨h1, rfl⟩
      · have hd1 : decide ((l.length : Int) < (l.length : Int)) = false := by simp
        go_wp2_with fail
        go_ret
        exact ⟨_, rfl, HB0.out.trans (HBR.out.mono hz0)⟩
      · have hd1 : decide ((70 : Int) < (l.length : Int)) = true := by simp; omega
        go_wp2_with fail
        go_ret
        exact ⟨_, rfl, HB0.out.trans (HBR.out.mono hz0)⟩
end Go.Proofs.Ytmdgmnaaopineaa
/- The walk of ProjWrites. -/
namespace Go.Proofs.Ytmdgmnaaopineaa
open Go.ChangeShapes Go.WideShapes Go.ChangeAt Go.RowKit
set_option linter.unusedVariables false
abbrev rpPrjW : Rp Prj := rpPair rpU64 (rpSlice rpStp)
theorem prjw_open {w : World} {D : Dom} {x : Prj} {cs : List Value} (h : rpPrjW.ok w D x cs) : ∃ A c, cs = [.int .u64 (x.1 : Int), .slice A x.2.length c] ∧ rpStp.sl w D A x.2.length c x.2 ∧ x.1 ≤ 18446744073709551615 := by
  obtain ⟨cs1, cs2, rfl, ⟨rfl, q1⟩, h4⟩ := h
  obtain ⟨A, c, rfl, hs⟩ := Rp.sl_form h4
  exact ⟨A, c, rfl, hs, by omega⟩
theorem stands_self (b : List UInt8) : Stands b 0 b := fun j u h => by rw [Nat.zero_add]; exact h
section
variable {D D' D2 : Dom} {A A' Ab : Option Addr} {n c e n' c' e' nb cb : Nat} {st st' : List Stp} {l : List UInt8} {w : World}
set_option maxRecDepth 100000 in
set_option maxHeartbeats 4000000 in
theorem pwrites_long3 (hs : rpStp.sl w D A n c st) (hs' : rpStp.sl w D' A' n' c' st') (hD : ∀ k, D k → k < w.heap.size) (hD' : ∀ k, D' k → k < w.heap.size) (he : e ≤ 18446744073709551615) (hl : rpU8.sl w D2 Ab nb cb l) (hD2 : ∀ k, D2 k → k < w.heap.size) (hn : 300 < nb) :
    Calls Try.prog 11 #[.agg (prjV e A n c), .agg (prjV e' A' n' c'), .slice Ab nb cb] w fun en w' => en = .returned (.bool true) ∧ Below w.heap.size w w' := by
  have hlb := (Rp.sl_len hl).1
  have hcb := (Rp.sl_len hl).2.1
  have hcm := (Rp.sl_len hl).2.2
  unfold maxLen at hcm
  have pa_0 := Lib.hid (blk21 w 25 25 (prjV e A n c) (prjV e' A' n' c'))
  have pb_0 := Lib.hid (blk22 w 25 25 (prjV e A n c) (prjV e' A' n' c'))
  have hb := below2 w (.cells (prjV e A n c) 25) (.cells (prjV e' A' n' c') 25)
  have BB_0 := Lib.hid hb
  have sa_0 := Lib.hid (keepS (show Sl rpStp w D A n c st from ⟨hs, hD⟩) hb)
  have sb_0 := Lib.hid (keepS (show Sl rpStp w D' A' n' c' st' from ⟨hs', hD'⟩) hb)
  have SL_0 := Lib.hid (keepS (show Sl rpU8 w D2 Ab nb cb l from ⟨hl, hD2⟩) hb)
  have HLEN := Lib.hid (Rp.sl_len hs).1
  have HLB := Lib.hid hlb
  clear hb hs hs' hD hD' hl hD2 hlb
  go_enter Try.func11, Try.ntmps11
  go_wp2_with fail
  generalize World.alloc (World.alloc w _) _ = w0 at *
  have hd3 : decide ((300 : Int) < (nb : Int)) = true := by simp; omega
  have z_pa0_0 := (show Blk w0 w.heap.size 25 (prjV e A n c) from pa_0.out).cell 0
  have z_pa1_0 := (show Blk w0 w.heap.size 25 (prjV e A n c) from pa_0.out).cell 1
  go_wp2_with fail
  refine (plong2_any (e := e) (sa_0.out).1 (sa_0.out).2).mono ?_; rintro en w1 ⟨bb, rfl, hlg, hb⟩
  have pa_1 : Hid (Blk w1 w.heap.size 25 (prjV e A n c)) := keepB pa_0.out hb
  have pb_1 : Hid (Blk w1 (w.heap.size + 1) 25 (prjV e' A' n' c')) := keepB pb_0.out hb
  have sa_1 : Hid (Sl rpStp w1 D A n c st) := keepS sa_0.out hb
  have sb_1 : Hid (Sl rpStp w1 D' A' n' c' st') := keepS sb_0.out hb
  have SL_1 : Hid (Sl rpU8 w1 D2 Ab nb cb l) := keepS SL_0.out hb
  have BB_1 : Hid (Below w.heap.size w w1) := stepB BB_0.out hb
  clear z_pa0_0 z_pa1_0
  clear hb
  cases bb
  case true =>
    clear hlg
    go_wp2_with fail
    refine (plive_any _).mono ?_; rintro en w2 ⟨rfl, hb⟩
    have pa_2 : Hid (Blk w2 w.heap.size 25 (prjV e A n c)) := keepB pa_1.out hb
    have pb_2 : Hid (Blk w2 (w.heap.size + 1) 25 (prjV e' A' n' c')) := keepB pb_1.out hb
    have sa_2 : Hid (Sl rpStp w2 D A n c st) := keepS sa_1.out hb
    have sb_2 : Hid (Sl rpStp w2 D' A' n' c' st') := keepS sb_1.out hb
    have SL_2 : Hid (Sl rpU8 w2 D2 Ab nb cb l) := keepS SL_1.out hb
    have BB_2 : Hid (Below w.heap.size w w2) := stepB BB_1.out hb
    clear hb
    go_wp2_with fail
    go_ret
    exact ⟨rfl, BB_2.out⟩
  obtain ⟨hl20, hr20⟩ := hlg rfl
  have HL20 := Lib.hid hl20
  have HR20 := Lib.hid hr20
  clear hlg hl20 hr20
  have z_pb0_1 := (show Blk w1 (w.heap.size + 1) 25 (prjV e' A' n' c') from pb_1.out).cell 0
  have z_pb1_1 := (show Blk w1 (w.heap.size + 1) 25 (prjV e' A' n' c') from pb_1.out).cell 1
  go_wp2_with fail
  refine (plong2_any (e := e') (sb_1.out).1 (sb_1.out).2).mono ?_; rintro en w2 ⟨bb, rfl, hlg, hb⟩
  have pa_2 : Hid (Blk w2 w.heap.size 25 (prjV e A n c)) := keepB pa_1.out hb
  have pb_2 : Hid (Blk w2 (w.heap.size + 1) 25 (prjV e' A' n' c')) := keepB pb_1.out hb
  have sa_2 : Hid (Sl rpStp w2 D A n c st) := keepS sa_1.out hb
  have sb_2 : Hid (Sl rpStp w2 D' A' n' c' st') := keepS sb_1.out hb
  have SL_2 : Hid (Sl rpU8 w2 D2 Ab nb cb l) := keepS SL_1.out hb
  have BB_2 : Hid (Below w.heap.size w w2) := stepB BB_1.out hb
  clear z_pb0_1 z_pb1_1
  clear hb
  clear hlg
  cases bb
  case true =>
    go_wp2_with fail
    refine (plive_any _).mono ?_; rintro en w3 ⟨rfl, hb⟩
    have pa_3 : Hid (Blk w3 w.heap.size 25 (prjV e A n c)) := keepB pa_2.out hb
    have pb_3 : Hid (Blk w3 (w.heap.size + 1) 25 (prjV e' A' n' c')) := keepB pb_2.out hb
    have sa_3 : Hid (Sl rpStp w3 D A n c st) := keepS sa_2.out hb
    have sb_3 : Hid (Sl rpStp w3 D' A' n' c' st') := keepS sb_2.out hb
    have SL_3 : Hid (Sl rpU8 w3 D2 Ab nb cb l) := keepS SL_2.out hb
    have BB_3 : Hid (Below w.heap.size w w3) := stepB BB_2.out hb
    clear hb
    go_wp2_with fail
    go_ret
    exact ⟨rfl, BB_3.out⟩
  go_wp2_with fail
  refine (plive_any _).mono ?_; rintro en w3 ⟨rfl, hb⟩
  have pa_3 : Hid (Blk w3 w.heap.size 25 (prjV e A n c)) := keepB pa_2.out hb
  have pb_3 : Hid (Blk w3 (w.heap.size + 1) 25 (prjV e' A' n' c')) := keepB pb_2.out hb
  have sa_3 : Hid (Sl rpStp w3 D A n c st) := keepS sa_2.out hb
  have sb_3 : Hid (Sl rpStp w3 D' A' n' c' st') := keepS sb_2.out hb
  have SL_3 : Hid (Sl rpU8 w3 D2 Ab nb cb l) := keepS SL_2.out hb
  have BB_3 : Hid (Below w.heap.size w w3) := stepB BB_2.out hb
  clear hb
  go_wp2_with fail
  go_ret
  exact ⟨rfl, BB_3.out⟩
set_option maxRecDepth 100000 in
set_option maxHeartbeats 4000000 in
theorem pwrites_bad (hs : rpStp.sl w D A n c st) (hs' : rpStp.sl w D' A' n' c' st') (hD : ∀ k, D k → k < w.heap.size) (hD' : ∀ k, D' k → k < w.heap.size) (he : e ≤ 18446744073709551615) (hl : rpU8.sl w D2 Ab nb cb l) (hD2 : ∀ k, D2 k → k < w.heap.size) (hn : nb ≤ 300) (hno : ¬ POk (e, st)) :
    Calls Try.prog 11 #[.agg (prjV e A n c), .agg (prjV e' A' n' c'), .slice Ab nb cb] w fun en w' => en = .returned (.bool true) ∧ Below w.heap.size w w' := by
  have HNO := Lib.hid hno
  have hlb := (Rp.sl_len hl).1
  have hcb := (Rp.sl_len hl).2.1
  have hcm := (Rp.sl_len hl).2.2
  unfold maxLen at hcm
  have pa_0 := Lib.hid (blk21 w 25 25 (prjV e A n c) (prjV e' A' n' c'))
  have pb_0 := Lib.hid (blk22 w 25 25 (prjV e A n c) (prjV e' A' n' c'))
  have hb := below2 w (.cells (prjV e A n c) 25) (.cells (prjV e' A' n' c') 25)
  have BB_0 := Lib.hid hb
  have sa_0 := Lib.hid (keepS (show Sl rpStp w D A n c st from ⟨hs, hD⟩) hb)
  have sb_0 := Lib.hid (keepS (show Sl rpStp w D' A' n' c' st' from ⟨hs', hD'⟩) hb)
  have SL_0 := Lib.hid (keepS (show Sl rpU8 w D2 Ab nb cb l from ⟨hl, hD2⟩) hb)
  have HLEN := Lib.hid (Rp.sl_len hs).1
  have HLB := Lib.hid hlb
  clear hb hs hs' hD hD' hl hD2 hlb hno
  go_enter Try.func11, Try.ntmps11
  go_wp2_with fail
  generalize World.alloc (World.alloc w _) _ = w0 at *
  have hd3 : decide ((300 : Int) < (nb : Int)) = false := by simp; omega
  have z_pa0_0 := (show Blk w0 w.heap.size 25 (prjV e A n c) from pa_0.out).cell 0
  have z_pa1_0 := (show Blk w0 w.heap.size 25 (prjV e A n c) from pa_0.out).cell 1
  go_wp2_with fail
  refine (plong2_any (e := e) (sa_0.out).1 (sa_0.out).2).mono ?_; rintro en w1 ⟨bb, rfl, hlg, hb⟩
  have pa_1 : Hid (Blk w1 w.heap.size 25 (prjV e A n c)) := keepB pa_0.out hb
  have pb_1 : Hid (Blk w1 (w.heap.size + 1) 25 (prjV e' A' n' c')) := keepB pb_0.out hb
  have sa_1 : Hid (Sl rpStp w1 D A n c st) := keepS sa_0.out hb
  have sb_1 : Hid (Sl rpStp w1 D' A' n' c' st') := keepS sb_0.out hb
  have SL_1 : Hid (Sl rpU8 w1 D2 Ab nb cb l) := keepS SL_0.out hb
  have BB_1 : Hid (Below w.heap.size w w1) := stepB BB_0.out hb
  clear z_pa0_0 z_pa1_0
  clear hb
  cases bb
  case true =>
    clear hlg
    go_wp2_with fail
    refine (plive_any _).mono ?_; rintro en w2 ⟨rfl, hb⟩
    have pa_2 : Hid (Blk w2 w.heap.size 25 (prjV e A n c)) := keepB pa_1.out hb
    have pb_2 : Hid (Blk w2 (w.heap.size + 1) 25 (prjV e' A' n' c')) := keepB pb_1.out hb
    have sa_2 : Hid (Sl rpStp w2 D A n c st) := keepS sa_1.out hb
    have sb_2 : Hid (Sl rpStp w2 D' A' n' c' st') := keepS sb_1.out hb
    have SL_2 : Hid (Sl rpU8 w2 D2 Ab nb cb l) := keepS SL_1.out hb
    have BB_2 : Hid (Below w.heap.size w w2) := stepB BB_1.out hb
    clear hb
    go_wp2_with fail
    go_ret
    exact ⟨rfl, BB_2.out⟩
  obtain ⟨hl20, hr20⟩ := hlg rfl
  have HL20 := Lib.hid hl20
  have HR20 := Lib.hid hr20
  clear hlg hl20 hr20
  have z_pb0_1 := (show Blk w1 (w.heap.size + 1) 25 (prjV e' A' n' c') from pb_1.out).cell 0
  have z_pb1_1 := (show Blk w1 (w.heap.size + 1) 25 (prjV e' A' n' c') from pb_1.out).cell 1
  go_wp2_with fail
  refine (plong2_any (e := e') (sb_1.out).1 (sb_1.out).2).mono ?_; rintro en w2 ⟨bb, rfl, hlg, hb⟩
  have pa_2 : Hid (Blk w2 w.heap.size 25 (prjV e A n c)) := keepB pa_1.out hb
  have pb_2 : Hid (Blk w2 (w.heap.size + 1) 25 (prjV e' A' n' c')) := keepB pb_1.out hb
  have sa_2 : Hid (Sl rpStp w2 D A n c st) := keepS sa_1.out hb
  have sb_2 : Hid (Sl rpStp w2 D' A' n' c' st') := keepS sb_1.out hb
  have SL_2 : Hid (Sl rpU8 w2 D2 Ab nb cb l) := keepS SL_1.out hb
  have BB_2 : Hid (Below w.heap.size w w2) := stepB BB_1.out hb
  clear z_pb0_1 z_pb1_1
  clear hb
  clear hlg
  cases bb
  case true =>
    go_wp2_with fail
    refine (plive_any _).mono ?_; rintro en w3 ⟨rfl, hb⟩
    have pa_3 : Hid (Blk w3 w.heap.size 25 (prjV e A n c)) := keepB pa_2.out hb
    have pb_3 : Hid (Blk w3 (w.heap.size + 1) 25 (prjV e' A' n' c')) := keepB pb_2.out hb
    have sa_3 : Hid (Sl rpStp w3 D A n c st) := keepS sa_2.out hb
    have sb_3 : Hid (Sl rpStp w3 D' A' n' c' st') := keepS sb_2.out hb
    have SL_3 : Hid (Sl rpU8 w3 D2 Ab nb cb l) := keepS SL_2.out hb
    have BB_3 : Hid (Below w.heap.size w w3) := stepB BB_2.out hb
    clear hb
    go_wp2_with fail
    go_ret
    exact ⟨rfl, BB_3.out⟩
  have z_pa0_2 := (show Blk w2 w.heap.size 25 (prjV e A n c) from pa_2.out).cell 0
  have z_pa1_2 := (show Blk w2 w.heap.size 25 (prjV e A n c) from pa_2.out).cell 1
  go_wp2_with fail
  refine (prbytes_bad (sa_2.out).1 (sa_2.out).2 he HNO.out).mono ?_; rintro en w3 ⟨rfl, hb⟩
  have pa_3 : Hid (Blk w3 w.heap.size 25 (prjV e A n c)) := keepB pa_2.out hb
  have pb_3 : Hid (Blk w3 (w.heap.size + 1) 25 (prjV e' A' n' c')) := keepB pb_2.out hb
  have sa_3 : Hid (Sl rpStp w3 D A n c st) := keepS sa_2.out hb
  have sb_3 : Hid (Sl rpStp w3 D' A' n' c' st') := keepS sb_2.out hb
  have SL_3 : Hid (Sl rpU8 w3 D2 Ab nb cb l) := keepS SL_2.out hb
  have BB_3 : Hid (Below w.heap.size w w3) := stepB BB_2.out hb
  clear z_pa0_2 z_pa1_2
  clear hb
  go_wp2_with fail
  refine (new_any 65536 _).mono ?_; rintro en w4 ⟨rfl, hp, hb⟩
  obtain ⟨gp, hgp⟩ : ∃ gp, gp = w3.heap.size := ⟨_, rfl⟩
  rw [← hgp] at hp
  have pa_4 : Hid (Blk w4 w.heap.size 25 (prjV e A n c)) := keepB pa_3.out hb
  have pb_4 : Hid (Blk w4 (w.heap.size + 1) 25 (prjV e' A' n' c')) := keepB pb_3.out hb
  have sa_4 : Hid (Sl rpStp w4 D A n c st) := keepS sa_3.out hb
  have sb_4 : Hid (Sl rpStp w4 D' A' n' c' st') := keepS sb_3.out hb
  have SL_4 : Hid (Sl rpU8 w4 D2 Ab nb cb l) := keepS SL_3.out hb
  have BB_4 : Hid (Below w.heap.size w w4) := stepB BB_3.out hb
  clear hb
  rw [← hgp]
  rw [show max (65536 : Int) 0 = 65536 from rfl] at hp
  have HPEN := Lib.hid hp
  have HGP := Lib.hid hgp
  clear hp hgp
  have z_pa0_4 := (show Blk w4 w.heap.size 25 (prjV e A n c) from pa_4.out).cell 0
  have z_pa1_4 := (show Blk w4 w.heap.size 25 (prjV e A n c) from pa_4.out).cell 1
  go_wp2_with fail
  refine (prput_bad (sa_4.out).1 (sa_4.out).2 he HNO.out HPEN.out).mono ?_; rintro en w5 ⟨rfl, hp, hc⟩
  have HPEN2 := Lib.hid hp
  clear hp
  have pa_5 : Hid (Blk w5 w.heap.size 25 (prjV e A n c)) := chB pa_4.out hc (fun eq0 => by have eq1 : _ = gp := eq0; have h1 := (show Blk w3 w.heap.size 25 (prjV e A n c) from pa_3.out).lt; have := HGP.out; omega)
  have pb_5 : Hid (Blk w5 (w.heap.size + 1) 25 (prjV e' A' n' c')) := chB pb_4.out hc (fun eq0 => by have eq1 : _ = gp := eq0; have h1 := (show Blk w3 (w.heap.size + 1) 25 (prjV e' A' n' c') from pb_3.out).lt; have := HGP.out; omega)
  have sa_5 : Hid (Sl rpStp w5 D A n c st) := chS sa_4.out hc (fun k hk eq0 => by have eq1 : k = gp := eq0; have h1 := (sa_3.out).2 k hk; have := HGP.out; omega)
  have sb_5 : Hid (Sl rpStp w5 D' A' n' c' st') := chS sb_4.out hc (fun k hk eq0 => by have eq1 : k = gp := eq0; have h1 := (sb_3.out).2 k hk; have := HGP.out; omega)
  have SL_5 : Hid (Sl rpU8 w5 D2 Ab nb cb l) := chS SL_4.out hc (fun k hk eq0 => by have eq1 : k = gp := eq0; have h1 := (SL_3.out).2 k hk; have := HGP.out; omega)
  have BB_5 : Hid (Below w.heap.size w w5) := chBase BB_4.out hc (fun k hk => by have e : k = gp := hk; have h1 := HGP.out; have h2 := BB_3.out.size; omega)
  clear z_pa0_4 z_pa1_4
  clear hc
  go_wp2_with fail
  refine (bytes_bad HPEN2.out (by decide)).mono ?_; rintro en wx ⟨rfl, rfl⟩
  go_wp2_with fail
  have hsm := same_any none none 0 0 0 0 [] [] (fun _ => False) (fun _ => False) w5 (Rp.sl_nil _ _ _ _ _ (by decide)) (Rp.sl_nil _ _ _ _ _ (by decide))
  rw [show (([] : List UInt8) == []) = true from rfl] at hsm
  have HSM := Lib.hid hsm
  clear hsm
  refine (HSM.out).mono ?_; rintro en wx ⟨rfl, rfl⟩
  have z_pa0_5 := (show Blk w5 w.heap.size 25 (prjV e A n c) from pa_5.out).cell 0
  have z_pa1_5 := (show Blk w5 w.heap.size 25 (prjV e A n c) from pa_5.out).cell 1
  have z_pb0_5 := (show Blk w5 (w.heap.size + 1) 25 (prjV e' A' n' c') from pb_5.out).cell 0
  have z_pb1_5 := (show Blk w5 (w.heap.size + 1) 25 (prjV e' A' n' c') from pb_5.out).cell 1
  go_wp2_with fail
  obtain ⟨bs, hbs⟩ : ∃ b : Bool, b = dec ((e, st) = (e', st')) := ⟨_, rfl⟩
  have HBS := Lib.hid hbs
  have hbb : (bs != bs) = false := by cases bs <;> rfl
  clear hbs
  have HRP : Hid (∀ w', Below w5.heap.size w5 w' → Calls Try.prog 38 #[.agg (prjV e A n c)] w' fun en w'' => en = .returned (.bool false) ∧ Below w'.heap.size w' w'') := fun w' hb => by have := pright_any (e := e) (keepS sa_5.out hb).1 (keepS sa_5.out hb).2 he; rwa [dec_false HNO.out] at this
  have HRR : Hid (∀ w', Below w5.heap.size w5 w' → Calls Try.prog 29 #[.agg (prjV e A n c)] w' fun en w'' => en = .returned (.bool false) ∧ Below w'.heap.size w' w'') := fun w' hb => by have := rpright_any (e := e) (keepS sa_5.out hb).1 (keepS sa_5.out hb).2 he; rwa [dec_false HNO.out] at this
  have HSP : Hid (∀ w', Below w5.heap.size w5 w' → Calls Try.prog 22 #[.agg (prjV e A n c), .agg (prjV e' A' n' c')] w' fun en w'' => en = .returned (.bool bs) ∧ Below w'.heap.size w' w'') := fun w' hb => by have := prsame_any (e := e) (e' := e') (keepS sa_5.out hb).1 (keepS sb_5.out hb).1 (keepS sa_5.out hb).2 (keepS sb_5.out hb).2; rwa [← HBS.out] at this
  have HSR : Hid (∀ w', Below w5.heap.size w5 w' → Calls Try.prog 36 #[.agg (prjV e A n c), .agg (prjV e' A' n' c')] w' fun en w'' => en = .returned (.bool bs) ∧ Below w'.heap.size w' w'') := fun w' hb => by have := rpsame_any (e := e) (e' := e') (keepS sa_5.out hb).1 (keepS sb_5.out hb).1 (keepS sa_5.out hb).2 (keepS sb_5.out hb).2; rwa [← HBS.out] at this
  have HCP : Hid (∀ w', Below w5.heap.size w5 w' → Calls Try.prog 63 #[.agg (prjV e A n c)] w' fun en w'' => ∃ A2 c2, en = .returned (.agg (prjV e A2 n c2)) ∧ OS w'' w'.heap.size A2 n c2 st ∧ Below w'.heap.size w' w'') := fun w' hb => prcopy_any (keepS sa_5.out hb).1 (keepS sa_5.out hb).2 (by have h1 := HL20.out; have h2 := HLEN.out; omega) HR20.out
  have HCK : Hid (∀ w', Below w5.heap.size w5 w' → w'.cell? ⟨w.heap.size, 0, none⟩ = some (.int .u64 (e : Int)) ∧ w'.cell? ⟨w.heap.size, 1, none⟩ = some (.slice A n c) ∧ w'.cell? ⟨w.heap.size + 1, 0, none⟩ = some (.int .u64 (e' : Int)) ∧ w'.cell? ⟨w.heap.size + 1, 1, none⟩ = some (.slice A' n' c')) := fun w' hb => ⟨(keepB (show Blk w5 w.heap.size 25 (prjV e A n c) from pa_5.out) hb).cell 0, (keepB (show Blk w5 w.heap.size 25 (prjV e A n c) from pa_5.out) hb).cell 1, (keepB (show Blk w5 (w.heap.size + 1) 25 (prjV e' A' n' c') from pb_5.out) hb).cell 0, (keepB (show Blk w5 (w.heap.size + 1) 25 (prjV e' A' n' c') from pb_5.out) hb).cell 1⟩
  go_region_held3 (fun w' => w'.cell? ⟨w.heap.size, 0, none⟩ = some (.int .u64 (e : Int)) ∧ w'.cell? ⟨w.heap.size, 1, none⟩ = some (.slice A n c) ∧ w'.cell? ⟨w.heap.size + 1, 0, none⟩ = some (.int .u64 (e' : Int)) ∧ w'.cell? ⟨w.heap.size + 1, 1, none⟩ = some (.slice A' n' c'))
    (first | exact HCK.out _ HB6.out | exact HCK.out _ HB5.out | exact HCK.out _ HB4.out | exact HCK.out _ HB3.out | exact HCK.out _ HB2.out | exact HCK.out _ HB1.out | exact HCK.out _ (Below.refl _ _) | exact HCK.out _ (Below.refl _ _).drew | go_keep)
    (first
      | (go_at_call 38; refine (HRP.out _ (Below.refl _ _).drew).mono ?_; rintro en v1 ⟨rfl, hb⟩; have HB1 : Hid (Below w5.heap.size w5 v1) := ⟨hb.os, hb.tape, hb.output, hb.size, hb.block⟩; clear hb)
      | (go_at_call 29; refine (HRR.out _ HB1.out).mono ?_; rintro en v2 ⟨rfl, hb⟩; have HB2 : Hid (Below w5.heap.size w5 v2) := stepB HB1.out hb; clear hb)
      | (go_at_call 22; refine (HSP.out _ HB2.out).mono ?_; rintro en v3 ⟨rfl, hb⟩; have HB3 : Hid (Below w5.heap.size w5 v3) := stepB HB2.out hb; clear hb)
      | (go_at_call 63; refine (HCP.out _ HB4.out).mono ?_; rintro en v5 ⟨Ac, cc, rfl, hll, hb⟩; have HB5 : Hid (Below w5.heap.size w5 v5) := stepB HB4.out hb; have hcs := rpsame_any (e := e) (e' := e) (OL.sl hll) (keepS sa_5.out HB5.out).1 (fun k hk => hk) (keepS sa_5.out HB5.out).2; rw [dec_true rfl] at hcs; have HCS := Lib.hid hcs; clear hcs hll hb)
      | (go_at_call 36; refine HCS.out.mono ?_; rintro en v6 ⟨rfl, hb⟩; have HB6 : Hid (Below w5.heap.size w5 v6) := stepB HB5.out hb; clear hb)
      | (go_at_call 36; refine (HSR.out _ HB3.out).mono ?_; rintro en v4 ⟨rfl, hb⟩; have HB4 : Hid (Below w5.heap.size w5 v4) := stepB HB3.out hb; clear hb))
  have pa_6 : Hid (Blk v6 w.heap.size 25 (prjV e A n c)) := keepB pa_5.out (HB6.out)
  have pb_6 : Hid (Blk v6 (w.heap.size + 1) 25 (prjV e' A' n' c')) := keepB pb_5.out (HB6.out)
  have sa_6 : Hid (Sl rpStp v6 D A n c st) := keepS sa_5.out (HB6.out)
  have sb_6 : Hid (Sl rpStp v6 D' A' n' c' st') := keepS sb_5.out (HB6.out)
  have SL_6 : Hid (Sl rpU8 v6 D2 Ab nb cb l) := keepS SL_5.out (HB6.out)
  have BB_6 : Hid (Below w.heap.size w v6) := stepB BB_5.out (HB6.out)
  clear z_pa0_5 z_pa1_5 z_pb0_5 z_pb1_5
  have z_pa0_6 := (show Blk v6 w.heap.size 25 (prjV e A n c) from pa_6.out).cell 0
  have z_pa1_6 := (show Blk v6 w.heap.size 25 (prjV e A n c) from pa_6.out).cell 1
  go_wp2_with fail
  have hrt := rpright_any (e := e) (sa_6.out).1 (sa_6.out).2 he
  rw [dec_false HNO.out] at hrt
  have HRT := Lib.hid hrt
  clear hrt
  refine (HRT.out).mono ?_; rintro en w7 ⟨rfl, hb⟩
  have pa_7 : Hid (Blk w7 w.heap.size 25 (prjV e A n c)) := keepB pa_6.out hb
  have pb_7 : Hid (Blk w7 (w.heap.size + 1) 25 (prjV e' A' n' c')) := keepB pb_6.out hb
  have sa_7 : Hid (Sl rpStp w7 D A n c st) := keepS sa_6.out hb
  have sb_7 : Hid (Sl rpStp w7 D' A' n' c' st') := keepS sb_6.out hb
  have SL_7 : Hid (Sl rpU8 w7 D2 Ab nb cb l) := keepS SL_6.out hb
  have BB_7 : Hid (Below w.heap.size w w7) := stepB BB_6.out hb
  clear z_pa0_6 z_pa1_6
  clear hb
  go_wp2_with fail
  refine (plive_any _).mono ?_; rintro en w8 ⟨rfl, hb⟩
  have pa_8 : Hid (Blk w8 w.heap.size 25 (prjV e A n c)) := keepB pa_7.out hb
  have pb_8 : Hid (Blk w8 (w.heap.size + 1) 25 (prjV e' A' n' c')) := keepB pb_7.out hb
  have sa_8 : Hid (Sl rpStp w8 D A n c st) := keepS sa_7.out hb
  have sb_8 : Hid (Sl rpStp w8 D' A' n' c' st') := keepS sb_7.out hb
  have SL_8 : Hid (Sl rpU8 w8 D2 Ab nb cb l) := keepS SL_7.out hb
  have BB_8 : Hid (Below w.heap.size w w8) := stepB BB_7.out hb
  clear hb
  go_wp2_with fail
  go_ret
  exact ⟨rfl, BB_8.out⟩
set_option maxRecDepth 100000 in
set_option maxHeartbeats 4000000 in
theorem pwrites_good (hs : rpStp.sl w D A n c st) (hs' : rpStp.sl w D' A' n' c' st') (hD : ∀ k, D k → k < w.heap.size) (hD' : ∀ k, D' k → k < w.heap.size) (he : e ≤ 18446744073709551615) (hl : rpU8.sl w D2 Ab nb cb l) (hD2 : ∀ k, D2 k → k < w.heap.size) (hn : nb ≤ 300) (hok : POk (e, st)) :
    Calls Try.prog 11 #[.agg (prjV e A n c), .agg (prjV e' A' n' c'), .slice Ab nb cb] w fun en w' => en = .returned (.bool true) ∧ Below w.heap.size w w' := by
  have hse := prjF_stands hok (Stands.front (prb (e, st)) l)
  rw [Nat.zero_add] at hse
  have HSE := Lib.hid hse
  have hsd := prjF_stands hok (stands_self (prb (e, st)))
  rw [Nat.zero_add] at hsd
  have HSD := Lib.hid hsd
  have hsl := prb_len hok
  have HFIT := Lib.hid (prput_fit hok (most := 65536) (by decide))
  have HOK := Lib.hid hok
  have hbe : (prb (e, st) == prb (e, st)) = true := by simp
  clear hse hsd
  have hlb := (Rp.sl_len hl).1
  have hcb := (Rp.sl_len hl).2.1
  have hcm := (Rp.sl_len hl).2.2
  unfold maxLen at hcm
  have pa_0 := Lib.hid (blk21 w 25 25 (prjV e A n c) (prjV e' A' n' c'))
  have pb_0 := Lib.hid (blk22 w 25 25 (prjV e A n c) (prjV e' A' n' c'))
  have hb := below2 w (.cells (prjV e A n c) 25) (.cells (prjV e' A' n' c') 25)
  have BB_0 := Lib.hid hb
  have sa_0 := Lib.hid (keepS (show Sl rpStp w D A n c st from ⟨hs, hD⟩) hb)
  have sb_0 := Lib.hid (keepS (show Sl rpStp w D' A' n' c' st' from ⟨hs', hD'⟩) hb)
  have SL_0 := Lib.hid (keepS (show Sl rpU8 w D2 Ab nb cb l from ⟨hl, hD2⟩) hb)
  have HLEN := Lib.hid (Rp.sl_len hs).1
  have HLB := Lib.hid hlb
  clear hb hs hs' hD hD' hl hD2 hlb hok
  go_enter Try.func11, Try.ntmps11
  go_wp2_with fail
  generalize World.alloc (World.alloc w _) _ = w0 at *
  have hd3 : decide ((300 : Int) < (nb : Int)) = false := by simp; omega
  have z_pa0_0 := (show Blk w0 w.heap.size 25 (prjV e A n c) from pa_0.out).cell 0
  have z_pa1_0 := (show Blk w0 w.heap.size 25 (prjV e A n c) from pa_0.out).cell 1
  go_wp2_with fail
  refine (plong2_any (e := e) (sa_0.out).1 (sa_0.out).2).mono ?_; rintro en w1 ⟨bb, rfl, hlg, hb⟩
  have pa_1 : Hid (Blk w1 w.heap.size 25 (prjV e A n c)) := keepB pa_0.out hb
  have pb_1 : Hid (Blk w1 (w.heap.size + 1) 25 (prjV e' A' n' c')) := keepB pb_0.out hb
  have sa_1 : Hid (Sl rpStp w1 D A n c st) := keepS sa_0.out hb
  have sb_1 : Hid (Sl rpStp w1 D' A' n' c' st') := keepS sb_0.out hb
  have SL_1 : Hid (Sl rpU8 w1 D2 Ab nb cb l) := keepS SL_0.out hb
  have BB_1 : Hid (Below w.heap.size w w1) := stepB BB_0.out hb
  clear z_pa0_0 z_pa1_0
  clear hb
  cases bb
  case true =>
    clear hlg
    go_wp2_with fail
    refine (plive_any _).mono ?_; rintro en w2 ⟨rfl, hb⟩
    have pa_2 : Hid (Blk w2 w.heap.size 25 (prjV e A n c)) := keepB pa_1.out hb
    have pb_2 : Hid (Blk w2 (w.heap.size + 1) 25 (prjV e' A' n' c')) := keepB pb_1.out hb
    have sa_2 : Hid (Sl rpStp w2 D A n c st) := keepS sa_1.out hb
    have sb_2 : Hid (Sl rpStp w2 D' A' n' c' st') := keepS sb_1.out hb
    have SL_2 : Hid (Sl rpU8 w2 D2 Ab nb cb l) := keepS SL_1.out hb
    have BB_2 : Hid (Below w.heap.size w w2) := stepB BB_1.out hb
    clear hb
    go_wp2_with fail
    go_ret
    exact ⟨rfl, BB_2.out⟩
  obtain ⟨hl20, hr20⟩ := hlg rfl
  have HL20 := Lib.hid hl20
  have HR20 := Lib.hid hr20
  clear hlg hl20 hr20
  have z_pb0_1 := (show Blk w1 (w.heap.size + 1) 25 (prjV e' A' n' c') from pb_1.out).cell 0
  have z_pb1_1 := (show Blk w1 (w.heap.size + 1) 25 (prjV e' A' n' c') from pb_1.out).cell 1
  go_wp2_with fail
  refine (plong2_any (e := e') (sb_1.out).1 (sb_1.out).2).mono ?_; rintro en w2 ⟨bb, rfl, hlg, hb⟩
  have pa_2 : Hid (Blk w2 w.heap.size 25 (prjV e A n c)) := keepB pa_1.out hb
  have pb_2 : Hid (Blk w2 (w.heap.size + 1) 25 (prjV e' A' n' c')) := keepB pb_1.out hb
  have sa_2 : Hid (Sl rpStp w2 D A n c st) := keepS sa_1.out hb
  have sb_2 : Hid (Sl rpStp w2 D' A' n' c' st') := keepS sb_1.out hb
  have SL_2 : Hid (Sl rpU8 w2 D2 Ab nb cb l) := keepS SL_1.out hb
  have BB_2 : Hid (Below w.heap.size w w2) := stepB BB_1.out hb
  clear z_pb0_1 z_pb1_1
  clear hb
  clear hlg
  cases bb
  case true =>
    go_wp2_with fail
    refine (plive_any _).mono ?_; rintro en w3 ⟨rfl, hb⟩
    have pa_3 : Hid (Blk w3 w.heap.size 25 (prjV e A n c)) := keepB pa_2.out hb
    have pb_3 : Hid (Blk w3 (w.heap.size + 1) 25 (prjV e' A' n' c')) := keepB pb_2.out hb
    have sa_3 : Hid (Sl rpStp w3 D A n c st) := keepS sa_2.out hb
    have sb_3 : Hid (Sl rpStp w3 D' A' n' c' st') := keepS sb_2.out hb
    have SL_3 : Hid (Sl rpU8 w3 D2 Ab nb cb l) := keepS SL_2.out hb
    have BB_3 : Hid (Below w.heap.size w w3) := stepB BB_2.out hb
    clear hb
    go_wp2_with fail
    go_ret
    exact ⟨rfl, BB_3.out⟩
  have z_pa0_2 := (show Blk w2 w.heap.size 25 (prjV e A n c) from pa_2.out).cell 0
  have z_pa1_2 := (show Blk w2 w.heap.size 25 (prjV e A n c) from pa_2.out).cell 1
  go_wp2_with fail
  refine (prbytes_ok (sa_2.out).1 (sa_2.out).2 HOK.out).mono ?_; rintro en w3 ⟨A1, m1, c1, rfl, ho, hb⟩
  have pa_3 : Hid (Blk w3 w.heap.size 25 (prjV e A n c)) := keepB pa_2.out hb
  have pb_3 : Hid (Blk w3 (w.heap.size + 1) 25 (prjV e' A' n' c')) := keepB pb_2.out hb
  have sa_3 : Hid (Sl rpStp w3 D A n c st) := keepS sa_2.out hb
  have sb_3 : Hid (Sl rpStp w3 D' A' n' c' st') := keepS sb_2.out hb
  have SL_3 : Hid (Sl rpU8 w3 D2 Ab nb cb l) := keepS SL_2.out hb
  have BB_3 : Hid (Below w.heap.size w w3) := stepB BB_2.out hb
  have ob_3 : Hid (w3.ownsRow w.heap.size 5 1 (.slice A1 m1 c1) m1 ((prb (e, st)).map bv)) := own_mono ho BB_2.out.size
  clear z_pa0_2 z_pa1_2
  clear hb
  have hm1 : m1 = (prb (e, st)).length := by have := ho.1; simpa using this.symm
  have HM1 := Lib.hid hm1
  have hm1k : m1 ≤ 21720 := by omega
  clear ho hm1
  go_wp2_with fail
  refine (new_any 65536 _).mono ?_; rintro en w4 ⟨rfl, hp, hb⟩
  obtain ⟨gp, hgp⟩ : ∃ gp, gp = w3.heap.size := ⟨_, rfl⟩
  rw [← hgp] at hp
  have pa_4 : Hid (Blk w4 w.heap.size 25 (prjV e A n c)) := keepB pa_3.out hb
  have pb_4 : Hid (Blk w4 (w.heap.size + 1) 25 (prjV e' A' n' c')) := keepB pb_3.out hb
  have sa_4 : Hid (Sl rpStp w4 D A n c st) := keepS sa_3.out hb
  have sb_4 : Hid (Sl rpStp w4 D' A' n' c' st') := keepS sb_3.out hb
  have SL_4 : Hid (Sl rpU8 w4 D2 Ab nb cb l) := keepS SL_3.out hb
  have ob_4 : Hid (w4.ownsRow w.heap.size 5 1 (.slice A1 m1 c1) m1 ((prb (e, st)).map bv)) := keepO ob_3.out hb
  have BB_4 : Hid (Below w.heap.size w w4) := stepB BB_3.out hb
  clear hb
  rw [← hgp]
  rw [show max (65536 : Int) 0 = 65536 from rfl] at hp
  have HPEN := Lib.hid hp
  have HGP := Lib.hid hgp
  clear hp hgp
  have z_pa0_4 := (show Blk w4 w.heap.size 25 (prjV e A n c) from pa_4.out).cell 0
  have z_pa1_4 := (show Blk w4 w.heap.size 25 (prjV e A n c) from pa_4.out).cell 1
  go_wp2_with fail
  refine (prput_ok (sa_4.out).1 (sa_4.out).2 (fun k hk eq0 => by have eq1 : k = gp := eq0; have h1 := (sa_3.out).2 k hk; have := HGP.out; omega) HOK.out HPEN.out (by decide) (by decide) (by simp)).mono ?_; rintro en w5 ⟨rfl, F2, hp, hc, hF2⟩
  rw [HFIT.out] at hp
  have HPEN2 := Lib.hid hp
  clear hp
  have pa_5 : Hid (Blk w5 w.heap.size 25 (prjV e A n c)) := chB pa_4.out hc (fun eq0 => by have eq1 : _ = gp := eq0; have h1 := (show Blk w3 w.heap.size 25 (prjV e A n c) from pa_3.out).lt; have := HGP.out; omega)
  have pb_5 : Hid (Blk w5 (w.heap.size + 1) 25 (prjV e' A' n' c')) := chB pb_4.out hc (fun eq0 => by have eq1 : _ = gp := eq0; have h1 := (show Blk w3 (w.heap.size + 1) 25 (prjV e' A' n' c') from pb_3.out).lt; have := HGP.out; omega)
  have sa_5 : Hid (Sl rpStp w5 D A n c st) := chS sa_4.out hc (fun k hk eq0 => by have eq1 : k = gp := eq0; have h1 := (sa_3.out).2 k hk; have := HGP.out; omega)
  have sb_5 : Hid (Sl rpStp w5 D' A' n' c' st') := chS sb_4.out hc (fun k hk eq0 => by have eq1 : k = gp := eq0; have h1 := (sb_3.out).2 k hk; have := HGP.out; omega)
  have SL_5 : Hid (Sl rpU8 w5 D2 Ab nb cb l) := chS SL_4.out hc (fun k hk eq0 => by have eq1 : k = gp := eq0; have h1 := (SL_3.out).2 k hk; have := HGP.out; omega)
  have ob_5 : Hid (w5.ownsRow w.heap.size 5 1 (.slice A1 m1 c1) m1 ((prb (e, st)).map bv)) := chO ob_4.out hc (fun k hk eq0 => by have eq1 : k = gp := eq0; have h1 := (ob_3.out.lt k hk).2; have := HGP.out; omega)
  have BB_5 : Hid (Below w.heap.size w w5) := chBase BB_4.out hc (fun k hk => by have e : k = gp := hk; have h1 := HGP.out; have h2 := BB_3.out.size; omega)
  clear z_pa0_4 z_pa1_4
  clear hc hF2
  go_wp2_with fail
  refine (bytes_ok HPEN2.out (by omega)).mono ?_; rintro en w6 ⟨Ap, mp, cp, rfl, ho, hb⟩
  have pa_6 : Hid (Blk w6 w.heap.size 25 (prjV e A n c)) := keepB pa_5.out hb
  have pb_6 : Hid (Blk w6 (w.heap.size + 1) 25 (prjV e' A' n' c')) := keepB pb_5.out hb
  have sa_6 : Hid (Sl rpStp w6 D A n c st) := keepS sa_5.out hb
  have sb_6 : Hid (Sl rpStp w6 D' A' n' c' st') := keepS sb_5.out hb
  have SL_6 : Hid (Sl rpU8 w6 D2 Ab nb cb l) := keepS SL_5.out hb
  have ob_6 : Hid (w6.ownsRow w.heap.size 5 1 (.slice A1 m1 c1) m1 ((prb (e, st)).map bv)) := keepO ob_5.out hb
  have BB_6 : Hid (Below w.heap.size w w6) := stepB BB_5.out hb
  have op_6 : Hid (w6.ownsRow w.heap.size 5 1 (.slice Ap mp cp) mp ((prb (e, st)).map bv)) := own_mono ho BB_5.out.size
  clear hb
  clear ho
  go_wp2_with fail
  have hsm := same_any _ _ _ _ _ _ _ _ _ _ w6 (own_bytes op_6.out) (own_bytes ob_6.out)
  rw [hbe] at hsm
  have HSM := Lib.hid hsm
  clear hsm
  refine (HSM.out).mono ?_; rintro en wx ⟨rfl, rfl⟩
  have z_pa0_6 := (show Blk w6 w.heap.size 25 (prjV e A n c) from pa_6.out).cell 0
  have z_pa1_6 := (show Blk w6 w.heap.size 25 (prjV e A n c) from pa_6.out).cell 1
  have z_pb0_6 := (show Blk w6 (w.heap.size + 1) 25 (prjV e' A' n' c') from pb_6.out).cell 0
  have z_pb1_6 := (show Blk w6 (w.heap.size + 1) 25 (prjV e' A' n' c') from pb_6.out).cell 1
  go_wp2_with fail
  obtain ⟨bs, hbs⟩ : ∃ b : Bool, b = dec ((e, st) = (e', st')) := ⟨_, rfl⟩
  have HBS := Lib.hid hbs
  have hbb : (bs != bs) = false := by cases bs <;> rfl
  clear hbs
  have HRP : Hid (∀ w', Below w6.heap.size w6 w' → Calls Try.prog 38 #[.agg (prjV e A n c)] w' fun en w'' => en = .returned (.bool true) ∧ Below w'.heap.size w' w'') := fun w' hb => by have := pright_any (e := e) (keepS sa_6.out hb).1 (keepS sa_6.out hb).2 he; rwa [dec_true HOK.out] at this
  have HRR : Hid (∀ w', Below w6.heap.size w6 w' → Calls Try.prog 29 #[.agg (prjV e A n c)] w' fun en w'' => en = .returned (.bool true) ∧ Below w'.heap.size w' w'') := fun w' hb => by have := rpright_any (e := e) (keepS sa_6.out hb).1 (keepS sa_6.out hb).2 he; rwa [dec_true HOK.out] at this
  have HSP : Hid (∀ w', Below w6.heap.size w6 w' → Calls Try.prog 22 #[.agg (prjV e A n c), .agg (prjV e' A' n' c')] w' fun en w'' => en = .returned (.bool bs) ∧ Below w'.heap.size w' w'') := fun w' hb => by have := prsame_any (e := e) (e' := e') (keepS sa_6.out hb).1 (keepS sb_6.out hb).1 (keepS sa_6.out hb).2 (keepS sb_6.out hb).2; rwa [← HBS.out] at this
  have HSR : Hid (∀ w', Below w6.heap.size w6 w' → Calls Try.prog 36 #[.agg (prjV e A n c), .agg (prjV e' A' n' c')] w' fun en w'' => en = .returned (.bool bs) ∧ Below w'.heap.size w' w'') := fun w' hb => by have := rpsame_any (e := e) (e' := e') (keepS sa_6.out hb).1 (keepS sb_6.out hb).1 (keepS sa_6.out hb).2 (keepS sb_6.out hb).2; rwa [← HBS.out] at this
  have HCP : Hid (∀ w', Below w6.heap.size w6 w' → Calls Try.prog 63 #[.agg (prjV e A n c)] w' fun en w'' => ∃ A2 c2, en = .returned (.agg (prjV e A2 n c2)) ∧ OS w'' w'.heap.size A2 n c2 st ∧ Below w'.heap.size w' w'') := fun w' hb => prcopy_any (keepS sa_6.out hb).1 (keepS sa_6.out hb).2 (by have h1 := HL20.out; have h2 := HLEN.out; omega) HR20.out
  have HCK : Hid (∀ w', Below w6.heap.size w6 w' → w'.cell? ⟨w.heap.size, 0, none⟩ = some (.int .u64 (e : Int)) ∧ w'.cell? ⟨w.heap.size, 1, none⟩ = some (.slice A n c) ∧ w'.cell? ⟨w.heap.size + 1, 0, none⟩ = some (.int .u64 (e' : Int)) ∧ w'.cell? ⟨w.heap.size + 1, 1, none⟩ = some (.slice A' n' c')) := fun w' hb => ⟨(keepB (show Blk w6 w.heap.size 25 (prjV e A n c) from pa_6.out) hb).cell 0, (keepB (show Blk w6 w.heap.size 25 (prjV e A n c) from pa_6.out) hb).cell 1, (keepB (show Blk w6 (w.heap.size + 1) 25 (prjV e' A' n' c') from pb_6.out) hb).cell 0, (keepB (show Blk w6 (w.heap.size + 1) 25 (prjV e' A' n' c') from pb_6.out) hb).cell 1⟩
  go_region_held3 (fun w' => w'.cell? ⟨w.heap.size, 0, none⟩ = some (.int .u64 (e : Int)) ∧ w'.cell? ⟨w.heap.size, 1, none⟩ = some (.slice A n c) ∧ w'.cell? ⟨w.heap.size + 1, 0, none⟩ = some (.int .u64 (e' : Int)) ∧ w'.cell? ⟨w.heap.size + 1, 1, none⟩ = some (.slice A' n' c'))
    (first | exact HCK.out _ HB6.out | exact HCK.out _ HB5.out | exact HCK.out _ HB4.out | exact HCK.out _ HB3.out | exact HCK.out _ HB2.out | exact HCK.out _ HB1.out | exact HCK.out _ (Below.refl _ _) | exact HCK.out _ (Below.refl _ _).drew | go_keep)
    (first
      | (go_at_call 38; refine (HRP.out _ (Below.refl _ _).drew).mono ?_; rintro en v1 ⟨rfl, hb⟩; have HB1 : Hid (Below w6.heap.size w6 v1) := ⟨hb.os, hb.tape, hb.output, hb.size, hb.block⟩; clear hb)
      | (go_at_call 29; refine (HRR.out _ HB1.out).mono ?_; rintro en v2 ⟨rfl, hb⟩; have HB2 : Hid (Below w6.heap.size w6 v2) := stepB HB1.out hb; clear hb)
      | (go_at_call 22; refine (HSP.out _ HB2.out).mono ?_; rintro en v3 ⟨rfl, hb⟩; have HB3 : Hid (Below w6.heap.size w6 v3) := stepB HB2.out hb; clear hb)
      | (go_at_call 63; refine (HCP.out _ HB4.out).mono ?_; rintro en v5 ⟨Ac, cc, rfl, hll, hb⟩; have HB5 : Hid (Below w6.heap.size w6 v5) := stepB HB4.out hb; have hcs := rpsame_any (e := e) (e' := e) (OL.sl hll) (keepS sa_6.out HB5.out).1 (fun k hk => hk) (keepS sa_6.out HB5.out).2; rw [dec_true rfl] at hcs; have HCS := Lib.hid hcs; clear hcs hll hb)
      | (go_at_call 36; refine HCS.out.mono ?_; rintro en v6 ⟨rfl, hb⟩; have HB6 : Hid (Below w6.heap.size w6 v6) := stepB HB5.out hb; clear hb)
      | (go_at_call 36; refine (HSR.out _ HB3.out).mono ?_; rintro en v4 ⟨rfl, hb⟩; have HB4 : Hid (Below w6.heap.size w6 v4) := stepB HB3.out hb; clear hb))
  have pa_7 : Hid (Blk v6 w.heap.size 25 (prjV e A n c)) := keepB pa_6.out (HB6.out)
  have pb_7 : Hid (Blk v6 (w.heap.size + 1) 25 (prjV e' A' n' c')) := keepB pb_6.out (HB6.out)
  have sa_7 : Hid (Sl rpStp v6 D A n c st) := keepS sa_6.out (HB6.out)
  have sb_7 : Hid (Sl rpStp v6 D' A' n' c' st') := keepS sb_6.out (HB6.out)
  have SL_7 : Hid (Sl rpU8 v6 D2 Ab nb cb l) := keepS SL_6.out (HB6.out)
  have ob_7 : Hid (v6.ownsRow w.heap.size 5 1 (.slice A1 m1 c1) m1 ((prb (e, st)).map bv)) := keepO ob_6.out (HB6.out)
  have op_7 : Hid (v6.ownsRow w.heap.size 5 1 (.slice Ap mp cp) mp ((prb (e, st)).map bv)) := keepO op_6.out (HB6.out)
  have BB_7 : Hid (Below w.heap.size w v6) := stepB BB_6.out (HB6.out)
  clear z_pa0_6 z_pa1_6 z_pb0_6 z_pb1_6
  have z_pa0_7 := (show Blk v6 w.heap.size 25 (prjV e A n c) from pa_7.out).cell 0
  have z_pa1_7 := (show Blk v6 w.heap.size 25 (prjV e A n c) from pa_7.out).cell 1
  go_wp2_with fail
  have hrt := rpright_any (e := e) (sa_7.out).1 (sa_7.out).2 he
  rw [dec_true HOK.out] at hrt
  have HRT := Lib.hid hrt
  clear hrt
  refine (HRT.out).mono ?_; rintro en w8 ⟨rfl, hb⟩
  have pa_8 : Hid (Blk w8 w.heap.size 25 (prjV e A n c)) := keepB pa_7.out hb
  have pb_8 : Hid (Blk w8 (w.heap.size + 1) 25 (prjV e' A' n' c')) := keepB pb_7.out hb
  have sa_8 : Hid (Sl rpStp w8 D A n c st) := keepS sa_7.out hb
  have sb_8 : Hid (Sl rpStp w8 D' A' n' c' st') := keepS sb_7.out hb
  have SL_8 : Hid (Sl rpU8 w8 D2 Ab nb cb l) := keepS SL_7.out hb
  have ob_8 : Hid (w8.ownsRow w.heap.size 5 1 (.slice A1 m1 c1) m1 ((prb (e, st)).map bv)) := keepO ob_7.out hb
  have op_8 : Hid (w8.ownsRow w.heap.size 5 1 (.slice Ap mp cp) mp ((prb (e, st)).map bv)) := keepO op_7.out hb
  have BB_8 : Hid (Below w.heap.size w w8) := stepB BB_7.out hb
  clear z_pa0_7 z_pa1_7
  clear hb
  have hbsz := BB_8.out.size
  have HM := Lib.hid (World.ownsRow_made (e := 5) (size := 1) (base := w8.heap.size) w8 #[] 0 (Nat.le_refl _) (by decide) rfl)
  have HSB := Lib.hid (Src.bytes (own_bytes (keepO ob_8.out (below1 w8 (.cells #[] 5)))))
  have hmx1 : 0 + m1 ≤ maxLen := by unfold maxLen; omega
  have hmx2 : m1 + nb ≤ maxLen := by unfold maxLen; omega
  go_wp2_with (first
    | (at_builtin; (refine wpList_app rfl (.tmp 87) (.tmp 88) _ rfl elemB rfl HM.out rfl HSB.out hmx1 (by omega) (by simp) ?_); intro A4 c4 w4 ho4 hg4 hat4
       have hb4 : Below w8.heap.size w8 w4 := (below1 w8 (.cells #[] 5)).grown hg4 (below1 w8 (.cells #[] 5)).size (fun j hj => by have e : j = w8.heap.size := (by injection hj with hj; exact hj.symm); omega)
       have HB4b := Lib.hid hb4
       have ho4' : w4.ownsRow w8.heap.size 5 1 (.slice A4 m1 c4) m1 ((prb (e, st)).map bv) := by
         have := ho4
         rw [List.nil_append] at this
         simpa using this
       have HO4 := Lib.hid ho4'
       have hz4 := hb4.size
       clear ho4 hg4 hat4 hb4 ho4')
    | (at_builtin; refine wpList_app rfl (.tmp 89) (.tmp 90) _ rfl elemB rfl HO4.out rfl (Src.bytes (keepS SL_8.out HB4b.out).1) hmx2 (by omega) (by omega) ?_; intro A5 c5 w5 ho5 hg5 hat5
       have HG5 := Lib.hid hg5
       have HO5 := Lib.hid ho5
       clear ho5 hg5 hat5))
  have pa_9 : Hid (Blk w4 w.heap.size 25 (prjV e A n c)) := keepB pa_8.out (HB4b.out)
  have pb_9 : Hid (Blk w4 (w.heap.size + 1) 25 (prjV e' A' n' c')) := keepB pb_8.out (HB4b.out)
  have sa_9 : Hid (Sl rpStp w4 D A n c st) := keepS sa_8.out (HB4b.out)
  have sb_9 : Hid (Sl rpStp w4 D' A' n' c' st') := keepS sb_8.out (HB4b.out)
  have SL_9 : Hid (Sl rpU8 w4 D2 Ab nb cb l) := keepS SL_8.out (HB4b.out)
  have ob_9 : Hid (w4.ownsRow w.heap.size 5 1 (.slice A1 m1 c1) m1 ((prb (e, st)).map bv)) := keepO ob_8.out (HB4b.out)
  have op_9 : Hid (w4.ownsRow w.heap.size 5 1 (.slice Ap mp cp) mp ((prb (e, st)).map bv)) := keepO op_8.out (HB4b.out)
  have BB_9 : Hid (Below w.heap.size w w4) := stepB BB_8.out (HB4b.out)
  have hg5c := Chg.of_grown HG5.out
  have hoz : ∀ j, (Value.slice A4 m1 c4).ownBlock = some j → w8.heap.size ≤ j := fun j hj => (HO4.out.lt j hj).1
  have pa_10 : Hid (Blk w5 w.heap.size 25 (prjV e A n c)) := chB pa_9.out hg5c (fun eq0 => by have eq1 : some _ = (Value.slice A4 m1 c4).ownBlock := eq0; have h1 := (show Blk w8 w.heap.size 25 (prjV e A n c) from pa_8.out).lt; have := hoz _ eq1.symm; omega)
  have pb_10 : Hid (Blk w5 (w.heap.size + 1) 25 (prjV e' A' n' c')) := chB pb_9.out hg5c (fun eq0 => by have eq1 : some _ = (Value.slice A4 m1 c4).ownBlock := eq0; have h1 := (show Blk w8 (w.heap.size + 1) 25 (prjV e' A' n' c') from pb_8.out).lt; have := hoz _ eq1.symm; omega)
  have sa_10 : Hid (Sl rpStp w5 D A n c st) := chS sa_9.out hg5c (fun k hk eq0 => by have eq1 : some k = (Value.slice A4 m1 c4).ownBlock := eq0; have h1 := (sa_8.out).2 k hk; have := hoz _ eq1.symm; omega)
  have sb_10 : Hid (Sl rpStp w5 D' A' n' c' st') := chS sb_9.out hg5c (fun k hk eq0 => by have eq1 : some k = (Value.slice A4 m1 c4).ownBlock := eq0; have h1 := (sb_8.out).2 k hk; have := hoz _ eq1.symm; omega)
  have SL_10 : Hid (Sl rpU8 w5 D2 Ab nb cb l) := chS SL_9.out hg5c (fun k hk eq0 => by have eq1 : some k = (Value.slice A4 m1 c4).ownBlock := eq0; have h1 := (SL_8.out).2 k hk; have := hoz _ eq1.symm; omega)
  have ob_10 : Hid (w5.ownsRow w.heap.size 5 1 (.slice A1 m1 c1) m1 ((prb (e, st)).map bv)) := chO ob_9.out hg5c (fun k hk eq0 => by have eq1 : some k = (Value.slice A4 m1 c4).ownBlock := eq0; have h1 := (ob_8.out.lt k hk).2; have := hoz _ eq1.symm; omega)
  have op_10 : Hid (w5.ownsRow w.heap.size 5 1 (.slice Ap mp cp) mp ((prb (e, st)).map bv)) := chO op_9.out hg5c (fun k hk eq0 => by have eq1 : some k = (Value.slice A4 m1 c4).ownBlock := eq0; have h1 := (op_8.out.lt k hk).2; have := hoz _ eq1.symm; omega)
  have BB_10 : Hid (Below w.heap.size w w5) := chBase BB_9.out hg5c (fun k hk => by have e : some k = (Value.slice A4 m1 c4).ownBlock := hk; have := hoz _ e.symm; have := BB_8.out.size; omega)
  clear hg5c hoz
  have HSN : Hid (Sl rpU8 w5 (fun k => some k = (Value.slice A5 (m1 + nb) c5).ownBlock) A5 (m1 + nb) c5 (prb (e, st) ++ l)) := by
    have := HO5.out
    rw [← List.map_append] at this
    exact ⟨own_bytes this, fun k hk => own_lt this hk⟩
  have hget := prget_any HSN.out.1 HSN.out.2 (by omega)
  rw [HSE.out] at hget
  have hgn : gotN (prb (e, st)).length (0, 0) = (m1 : Int) := by rw [HM1.out]; exact if_pos rfl
  simp only [hgn] at hget
  have HGET := Lib.hid hget
  clear hget hgn
  refine (HGET.out).mono ?_; rintro en w11 ⟨Aq, nq, cq, rfl, hoq, hb⟩
  obtain ⟨Dq, hsq⟩ : ∃ Dq, Sl rpStp w11 Dq Aq nq cq st := ⟨_, OL.sl hoq, fun k hk => hk⟩
  have pa_11 : Hid (Blk w11 w.heap.size 25 (prjV e A n c)) := keepB pa_10.out hb
  have pb_11 : Hid (Blk w11 (w.heap.size + 1) 25 (prjV e' A' n' c')) := keepB pb_10.out hb
  have sa_11 : Hid (Sl rpStp w11 D A n c st) := keepS sa_10.out hb
  have sb_11 : Hid (Sl rpStp w11 D' A' n' c' st') := keepS sb_10.out hb
  have SL_11 : Hid (Sl rpU8 w11 D2 Ab nb cb l) := keepS SL_10.out hb
  have ob_11 : Hid (w11.ownsRow w.heap.size 5 1 (.slice A1 m1 c1) m1 ((prb (e, st)).map bv)) := keepO ob_10.out hb
  have op_11 : Hid (w11.ownsRow w.heap.size 5 1 (.slice Ap mp cp) mp ((prb (e, st)).map bv)) := keepO op_10.out hb
  have BB_11 : Hid (Below w.heap.size w w11) := stepB BB_10.out hb
  have sq_11 : Hid (Sl rpStp w11 Dq Aq nq cq st) := hsq
  clear hb
  clear hsq hoq
  go_upto_region 14 with (fail)
  have hb : Below w11.heap.size w11 ((w11.alloc (.cells (prjV e Aq nq cq) 25)).alloc (.cells (fltV (0, 0)) 40)) := below2 _ (.cells (prjV e Aq nq cq) 25) (.cells (fltV (0, 0)) 40)
  have pa_12 : Hid (Blk ((w11.alloc (.cells (prjV e Aq nq cq) 25)).alloc (.cells (fltV (0, 0)) 40)) w.heap.size 25 (prjV e A n c)) := keepB pa_11.out hb
  have pb_12 : Hid (Blk ((w11.alloc (.cells (prjV e Aq nq cq) 25)).alloc (.cells (fltV (0, 0)) 40)) (w.heap.size + 1) 25 (prjV e' A' n' c')) := keepB pb_11.out hb
  have sa_12 : Hid (Sl rpStp ((w11.alloc (.cells (prjV e Aq nq cq) 25)).alloc (.cells (fltV (0, 0)) 40)) D A n c st) := keepS sa_11.out hb
  have sb_12 : Hid (Sl rpStp ((w11.alloc (.cells (prjV e Aq nq cq) 25)).alloc (.cells (fltV (0, 0)) 40)) D' A' n' c' st') := keepS sb_11.out hb
  have SL_12 : Hid (Sl rpU8 ((w11.alloc (.cells (prjV e Aq nq cq) 25)).alloc (.cells (fltV (0, 0)) 40)) D2 Ab nb cb l) := keepS SL_11.out hb
  have ob_12 : Hid (((w11.alloc (.cells (prjV e Aq nq cq) 25)).alloc (.cells (fltV (0, 0)) 40)).ownsRow w.heap.size 5 1 (.slice A1 m1 c1) m1 ((prb (e, st)).map bv)) := keepO ob_11.out hb
  have op_12 : Hid (((w11.alloc (.cells (prjV e Aq nq cq) 25)).alloc (.cells (fltV (0, 0)) 40)).ownsRow w.heap.size 5 1 (.slice Ap mp cp) mp ((prb (e, st)).map bv)) := keepO op_11.out hb
  have sq_12 : Hid (Sl rpStp ((w11.alloc (.cells (prjV e Aq nq cq) 25)).alloc (.cells (fltV (0, 0)) 40)) Dq Aq nq cq st) := keepS sq_11.out hb
  have BB_12 : Hid (Below w.heap.size w ((w11.alloc (.cells (prjV e Aq nq cq) 25)).alloc (.cells (fltV (0, 0)) 40))) := stepB BB_11.out hb
  have sz_11 := BB_11.out.size
  have pq_12 : Hid (Blk ((w11.alloc (.cells (prjV e Aq nq cq) 25)).alloc (.cells (fltV (0, 0)) 40)) w11.heap.size 25 (prjV e Aq nq cq)) := blk21 _ _ _ _ _
  have fq_12 : Hid (Blk ((w11.alloc (.cells (prjV e Aq nq cq) 25)).alloc (.cells (fltV (0, 0)) 40)) (w11.heap.size + 1) 40 (fltV (0, 0))) := blk22 _ _ _ _ _
  clear hb
  generalize hgq : w11.heap.size = gq at *
  generalize World.alloc (World.alloc w11 _) _ = w12 at *
  have hdec := prdec_any (own_bytes ob_12.out) (fun k hk => own_lt ob_12.out hk) (by omega)
  rw [HSD.out] at hdec
  have hef : endF (prb (e, st)).length (prb (e, st)).length (0, 0) = (0, 0) := if_neg (Nat.lt_irrefl _)
  have hgp0 : gotP (e, st) (0, 0) = (e, st) := if_pos rfl
  simp only [hef, hgp0] at hdec
  have HDEC := Lib.hid hdec
  clear hdec hef hgp0
  go_wp2_with fail
  refine (HDEC.out).mono ?_; rintro en w13 ⟨Au, nu, cu, rfl, hou, hb⟩
  obtain ⟨Du, hsu⟩ : ∃ Du, Sl rpStp w13 Du Au nu cu st := ⟨_, OL.sl hou, fun k hk => hk⟩
  have pa_13 : Hid (Blk w13 w.heap.size 25 (prjV e A n c)) := keepB pa_12.out hb
  have pb_13 : Hid (Blk w13 (w.heap.size + 1) 25 (prjV e' A' n' c')) := keepB pb_12.out hb
  have sa_13 : Hid (Sl rpStp w13 D A n c st) := keepS sa_12.out hb
  have sb_13 : Hid (Sl rpStp w13 D' A' n' c' st') := keepS sb_12.out hb
  have SL_13 : Hid (Sl rpU8 w13 D2 Ab nb cb l) := keepS SL_12.out hb
  have ob_13 : Hid (w13.ownsRow w.heap.size 5 1 (.slice A1 m1 c1) m1 ((prb (e, st)).map bv)) := keepO ob_12.out hb
  have op_13 : Hid (w13.ownsRow w.heap.size 5 1 (.slice Ap mp cp) mp ((prb (e, st)).map bv)) := keepO op_12.out hb
  have sq_13 : Hid (Sl rpStp w13 Dq Aq nq cq st) := keepS sq_12.out hb
  have pq_13 : Hid (Blk w13 gq 25 (prjV e Aq nq cq)) := keepB pq_12.out hb
  have fq_13 : Hid (Blk w13 (gq + 1) 40 (fltV (0, 0))) := keepB fq_12.out hb
  have BB_13 : Hid (Below w.heap.size w w13) := stepB BB_12.out hb
  have su_13 : Hid (Sl rpStp w13 Du Au nu cu st) := hsu
  clear hb
  clear hsu hou
  go_upto_region 15 with (fail)
  have hb : Below w13.heap.size w13 ((w13.alloc (.cells (prjV e Au nu cu) 25)).alloc (.cells (fltV (0, 0)) 40)) := below2 _ (.cells (prjV e Au nu cu) 25) (.cells (fltV (0, 0)) 40)
  have pa_14 : Hid (Blk ((w13.alloc (.cells (prjV e Au nu cu) 25)).alloc (.cells (fltV (0, 0)) 40)) w.heap.size 25 (prjV e A n c)) := keepB pa_13.out hb
  have pb_14 : Hid (Blk ((w13.alloc (.cells (prjV e Au nu cu) 25)).alloc (.cells (fltV (0, 0)) 40)) (w.heap.size + 1) 25 (prjV e' A' n' c')) := keepB pb_13.out hb
  have sa_14 : Hid (Sl rpStp ((w13.alloc (.cells (prjV e Au nu cu) 25)).alloc (.cells (fltV (0, 0)) 40)) D A n c st) := keepS sa_13.out hb
  have sb_14 : Hid (Sl rpStp ((w13.alloc (.cells (prjV e Au nu cu) 25)).alloc (.cells (fltV (0, 0)) 40)) D' A' n' c' st') := keepS sb_13.out hb
  have SL_14 : Hid (Sl rpU8 ((w13.alloc (.cells (prjV e Au nu cu) 25)).alloc (.cells (fltV (0, 0)) 40)) D2 Ab nb cb l) := keepS SL_13.out hb
  have ob_14 : Hid (((w13.alloc (.cells (prjV e Au nu cu) 25)).alloc (.cells (fltV (0, 0)) 40)).ownsRow w.heap.size 5 1 (.slice A1 m1 c1) m1 ((prb (e, st)).map bv)) := keepO ob_13.out hb
  have op_14 : Hid (((w13.alloc (.cells (prjV e Au nu cu) 25)).alloc (.cells (fltV (0, 0)) 40)).ownsRow w.heap.size 5 1 (.slice Ap mp cp) mp ((prb (e, st)).map bv)) := keepO op_13.out hb
  have sq_14 : Hid (Sl rpStp ((w13.alloc (.cells (prjV e Au nu cu) 25)).alloc (.cells (fltV (0, 0)) 40)) Dq Aq nq cq st) := keepS sq_13.out hb
  have pq_14 : Hid (Blk ((w13.alloc (.cells (prjV e Au nu cu) 25)).alloc (.cells (fltV (0, 0)) 40)) gq 25 (prjV e Aq nq cq)) := keepB pq_13.out hb
  have fq_14 : Hid (Blk ((w13.alloc (.cells (prjV e Au nu cu) 25)).alloc (.cells (fltV (0, 0)) 40)) (gq + 1) 40 (fltV (0, 0))) := keepB fq_13.out hb
  have su_14 : Hid (Sl rpStp ((w13.alloc (.cells (prjV e Au nu cu) 25)).alloc (.cells (fltV (0, 0)) 40)) Du Au nu cu st) := keepS su_13.out hb
  have BB_14 : Hid (Below w.heap.size w ((w13.alloc (.cells (prjV e Au nu cu) 25)).alloc (.cells (fltV (0, 0)) 40))) := stepB BB_13.out hb
  have sz_13 := BB_13.out.size
  have pu_14 : Hid (Blk ((w13.alloc (.cells (prjV e Au nu cu) 25)).alloc (.cells (fltV (0, 0)) 40)) w13.heap.size 25 (prjV e Au nu cu)) := blk21 _ _ _ _ _
  have fu_14 : Hid (Blk ((w13.alloc (.cells (prjV e Au nu cu) 25)).alloc (.cells (fltV (0, 0)) 40)) (w13.heap.size + 1) 40 (fltV (0, 0))) := blk22 _ _ _ _ _
  clear hb
  generalize hgu : w13.heap.size = gu at *
  generalize World.alloc (World.alloc w13 _) _ = w14 at *
  have z_pa0_14 := (show Blk w14 w.heap.size 25 (prjV e A n c) from pa_14.out).cell 0
  have z_pa1_14 := (show Blk w14 w.heap.size 25 (prjV e A n c) from pa_14.out).cell 1
  have z_pq0_14 := (show Blk w14 gq 25 (prjV e Aq nq cq) from pq_14.out).cell 0
  have z_pq1_14 := (show Blk w14 gq 25 (prjV e Aq nq cq) from pq_14.out).cell 1
  have z_fq0_14 := (show Blk w14 (gq + 1) 40 (fltV (0, 0)) from fq_14.out).cell 0
  have z_pu0_14 := (show Blk w14 gu 25 (prjV e Au nu cu) from pu_14.out).cell 0
  have z_pu1_14 := (show Blk w14 gu 25 (prjV e Au nu cu) from pu_14.out).cell 1
  have z_fu0_14 := (show Blk w14 (gu + 1) 40 (fltV (0, 0)) from fu_14.out).cell 0
  go_wp2_with fail
  refine (rpb_any (sa_14.out).1 (sa_14.out).2 HOK.out).mono ?_; rintro en w15 ⟨Ay, ny, cy, rfl, ho, hb⟩
  have pa_15 : Hid (Blk w15 w.heap.size 25 (prjV e A n c)) := keepB pa_14.out hb
  have pb_15 : Hid (Blk w15 (w.heap.size + 1) 25 (prjV e' A' n' c')) := keepB pb_14.out hb
  have sa_15 : Hid (Sl rpStp w15 D A n c st) := keepS sa_14.out hb
  have sb_15 : Hid (Sl rpStp w15 D' A' n' c' st') := keepS sb_14.out hb
  have SL_15 : Hid (Sl rpU8 w15 D2 Ab nb cb l) := keepS SL_14.out hb
  have ob_15 : Hid (w15.ownsRow w.heap.size 5 1 (.slice A1 m1 c1) m1 ((prb (e, st)).map bv)) := keepO ob_14.out hb
  have op_15 : Hid (w15.ownsRow w.heap.size 5 1 (.slice Ap mp cp) mp ((prb (e, st)).map bv)) := keepO op_14.out hb
  have sq_15 : Hid (Sl rpStp w15 Dq Aq nq cq st) := keepS sq_14.out hb
  have pq_15 : Hid (Blk w15 gq 25 (prjV e Aq nq cq)) := keepB pq_14.out hb
  have fq_15 : Hid (Blk w15 (gq + 1) 40 (fltV (0, 0))) := keepB fq_14.out hb
  have su_15 : Hid (Sl rpStp w15 Du Au nu cu st) := keepS su_14.out hb
  have pu_15 : Hid (Blk w15 gu 25 (prjV e Au nu cu)) := keepB pu_14.out hb
  have fu_15 : Hid (Blk w15 (gu + 1) 40 (fltV (0, 0))) := keepB fu_14.out hb
  have BB_15 : Hid (Below w.heap.size w w15) := stepB BB_14.out hb
  have oy_15 : Hid (w15.ownsRow w.heap.size 5 1 (.slice Ay ny cy) ny ((prb (e, st)).map bv)) := own_mono ho BB_14.out.size
  clear z_pa0_14 z_pa1_14 z_pq0_14 z_pq1_14 z_fq0_14 z_pu0_14 z_pu1_14 z_fu0_14
  clear hb
  clear ho
  have z_pa0_15 := (show Blk w15 w.heap.size 25 (prjV e A n c) from pa_15.out).cell 0
  have z_pa1_15 := (show Blk w15 w.heap.size 25 (prjV e A n c) from pa_15.out).cell 1
  have z_pq0_15 := (show Blk w15 gq 25 (prjV e Aq nq cq) from pq_15.out).cell 0
  have z_pq1_15 := (show Blk w15 gq 25 (prjV e Aq nq cq) from pq_15.out).cell 1
  have z_fq0_15 := (show Blk w15 (gq + 1) 40 (fltV (0, 0)) from fq_15.out).cell 0
  have z_pu0_15 := (show Blk w15 gu 25 (prjV e Au nu cu) from pu_15.out).cell 0
  have z_pu1_15 := (show Blk w15 gu 25 (prjV e Au nu cu) from pu_15.out).cell 1
  have z_fu0_15 := (show Blk w15 (gu + 1) 40 (fltV (0, 0)) from fu_15.out).cell 0
  go_wp2_with fail
  have hsm := same_any _ _ _ _ _ _ _ _ _ _ w15 (own_bytes ob_15.out) (own_bytes oy_15.out)
  rw [hbe] at hsm
  have HSM3 := Lib.hid hsm
  clear hsm
  refine (HSM3.out).mono ?_; rintro en wx ⟨rfl, rfl⟩
  go_wp2_with fail
  have hss := rpsame_any (e := e) (e' := e) (sq_15.out).1 (sa_15.out).1 (sq_15.out).2 (sa_15.out).2
  rw [dec_true rfl] at hss
  have HSSsq := Lib.hid hss
  clear hss
  refine (HSSsq.out).mono ?_; rintro en w16 ⟨rfl, hb⟩
  have pa_16 : Hid (Blk w16 w.heap.size 25 (prjV e A n c)) := keepB pa_15.out hb
  have pb_16 : Hid (Blk w16 (w.heap.size + 1) 25 (prjV e' A' n' c')) := keepB pb_15.out hb
  have sa_16 : Hid (Sl rpStp w16 D A n c st) := keepS sa_15.out hb
  have sb_16 : Hid (Sl rpStp w16 D' A' n' c' st') := keepS sb_15.out hb
  have SL_16 : Hid (Sl rpU8 w16 D2 Ab nb cb l) := keepS SL_15.out hb
  have ob_16 : Hid (w16.ownsRow w.heap.size 5 1 (.slice A1 m1 c1) m1 ((prb (e, st)).map bv)) := keepO ob_15.out hb
  have op_16 : Hid (w16.ownsRow w.heap.size 5 1 (.slice Ap mp cp) mp ((prb (e, st)).map bv)) := keepO op_15.out hb
  have sq_16 : Hid (Sl rpStp w16 Dq Aq nq cq st) := keepS sq_15.out hb
  have pq_16 : Hid (Blk w16 gq 25 (prjV e Aq nq cq)) := keepB pq_15.out hb
  have fq_16 : Hid (Blk w16 (gq + 1) 40 (fltV (0, 0))) := keepB fq_15.out hb
  have su_16 : Hid (Sl rpStp w16 Du Au nu cu st) := keepS su_15.out hb
  have pu_16 : Hid (Blk w16 gu 25 (prjV e Au nu cu)) := keepB pu_15.out hb
  have fu_16 : Hid (Blk w16 (gu + 1) 40 (fltV (0, 0))) := keepB fu_15.out hb
  have oy_16 : Hid (w16.ownsRow w.heap.size 5 1 (.slice Ay ny cy) ny ((prb (e, st)).map bv)) := keepO oy_15.out hb
  have BB_16 : Hid (Below w.heap.size w w16) := stepB BB_15.out hb
  clear z_pa0_15 z_pa1_15 z_pq0_15 z_pq1_15 z_fq0_15 z_pu0_15 z_pu1_15 z_fu0_15
  clear hb
  have z_pa0_16 := (show Blk w16 w.heap.size 25 (prjV e A n c) from pa_16.out).cell 0
  have z_pa1_16 := (show Blk w16 w.heap.size 25 (prjV e A n c) from pa_16.out).cell 1
  have z_pu0_16 := (show Blk w16 gu 25 (prjV e Au nu cu) from pu_16.out).cell 0
  have z_pu1_16 := (show Blk w16 gu 25 (prjV e Au nu cu) from pu_16.out).cell 1
  have z_fu0_16 := (show Blk w16 (gu + 1) 40 (fltV (0, 0)) from fu_16.out).cell 0
  go_wp2_with fail
  have hss := rpsame_any (e := e) (e' := e) (su_16.out).1 (sa_16.out).1 (su_16.out).2 (sa_16.out).2
  rw [dec_true rfl] at hss
  have HSSsu := Lib.hid hss
  clear hss
  refine (HSSsu.out).mono ?_; rintro en w17 ⟨rfl, hb⟩
  have pa_17 : Hid (Blk w17 w.heap.size 25 (prjV e A n c)) := keepB pa_16.out hb
  have pb_17 : Hid (Blk w17 (w.heap.size + 1) 25 (prjV e' A' n' c')) := keepB pb_16.out hb
  have sa_17 : Hid (Sl rpStp w17 D A n c st) := keepS sa_16.out hb
  have sb_17 : Hid (Sl rpStp w17 D' A' n' c' st') := keepS sb_16.out hb
  have SL_17 : Hid (Sl rpU8 w17 D2 Ab nb cb l) := keepS SL_16.out hb
  have ob_17 : Hid (w17.ownsRow w.heap.size 5 1 (.slice A1 m1 c1) m1 ((prb (e, st)).map bv)) := keepO ob_16.out hb
  have op_17 : Hid (w17.ownsRow w.heap.size 5 1 (.slice Ap mp cp) mp ((prb (e, st)).map bv)) := keepO op_16.out hb
  have sq_17 : Hid (Sl rpStp w17 Dq Aq nq cq st) := keepS sq_16.out hb
  have pq_17 : Hid (Blk w17 gq 25 (prjV e Aq nq cq)) := keepB pq_16.out hb
  have fq_17 : Hid (Blk w17 (gq + 1) 40 (fltV (0, 0))) := keepB fq_16.out hb
  have su_17 : Hid (Sl rpStp w17 Du Au nu cu st) := keepS su_16.out hb
  have pu_17 : Hid (Blk w17 gu 25 (prjV e Au nu cu)) := keepB pu_16.out hb
  have fu_17 : Hid (Blk w17 (gu + 1) 40 (fltV (0, 0))) := keepB fu_16.out hb
  have oy_17 : Hid (w17.ownsRow w.heap.size 5 1 (.slice Ay ny cy) ny ((prb (e, st)).map bv)) := keepO oy_16.out hb
  have BB_17 : Hid (Below w.heap.size w w17) := stepB BB_16.out hb
  clear z_pa0_16 z_pa1_16 z_pu0_16 z_pu1_16 z_fu0_16
  clear hb
  have z_pa0_17 := (show Blk w17 w.heap.size 25 (prjV e A n c) from pa_17.out).cell 0
  have z_pa1_17 := (show Blk w17 w.heap.size 25 (prjV e A n c) from pa_17.out).cell 1
  have z_pu0_17 := (show Blk w17 gu 25 (prjV e Au nu cu) from pu_17.out).cell 0
  have z_pu1_17 := (show Blk w17 gu 25 (prjV e Au nu cu) from pu_17.out).cell 1
  have z_fu0_17 := (show Blk w17 (gu + 1) 40 (fltV (0, 0)) from fu_17.out).cell 0
  go_wp2_with fail
  refine (plive_any _).mono ?_; rintro en w18 ⟨rfl, hb⟩
  have pa_18 : Hid (Blk w18 w.heap.size 25 (prjV e A n c)) := keepB pa_17.out hb
  have pb_18 : Hid (Blk w18 (w.heap.size + 1) 25 (prjV e' A' n' c')) := keepB pb_17.out hb
  have sa_18 : Hid (Sl rpStp w18 D A n c st) := keepS sa_17.out hb
  have sb_18 : Hid (Sl rpStp w18 D' A' n' c' st') := keepS sb_17.out hb
  have SL_18 : Hid (Sl rpU8 w18 D2 Ab nb cb l) := keepS SL_17.out hb
  have ob_18 : Hid (w18.ownsRow w.heap.size 5 1 (.slice A1 m1 c1) m1 ((prb (e, st)).map bv)) := keepO ob_17.out hb
  have op_18 : Hid (w18.ownsRow w.heap.size 5 1 (.slice Ap mp cp) mp ((prb (e, st)).map bv)) := keepO op_17.out hb
  have sq_18 : Hid (Sl rpStp w18 Dq Aq nq cq st) := keepS sq_17.out hb
  have pq_18 : Hid (Blk w18 gq 25 (prjV e Aq nq cq)) := keepB pq_17.out hb
  have fq_18 : Hid (Blk w18 (gq + 1) 40 (fltV (0, 0))) := keepB fq_17.out hb
  have su_18 : Hid (Sl rpStp w18 Du Au nu cu st) := keepS su_17.out hb
  have pu_18 : Hid (Blk w18 gu 25 (prjV e Au nu cu)) := keepB pu_17.out hb
  have fu_18 : Hid (Blk w18 (gu + 1) 40 (fltV (0, 0))) := keepB fu_17.out hb
  have oy_18 : Hid (w18.ownsRow w.heap.size 5 1 (.slice Ay ny cy) ny ((prb (e, st)).map bv)) := keepO oy_17.out hb
  have BB_18 : Hid (Below w.heap.size w w18) := stepB BB_17.out hb
  clear z_pa0_17 z_pa1_17 z_pu0_17 z_pu1_17 z_fu0_17
  clear hb
  go_wp2_with fail
  go_ret
  exact ⟨rfl, BB_18.out⟩
theorem pwrites_any (hs : rpStp.sl w D A n c st) (hs' : rpStp.sl w D' A' n' c' st') (hD : ∀ k, D k → k < w.heap.size) (hD' : ∀ k, D' k → k < w.heap.size) (he : e ≤ 18446744073709551615) (hl : rpU8.sl w D2 Ab nb cb l) (hD2 : ∀ k, D2 k → k < w.heap.size) :
    Calls Try.prog 11 #[.agg (prjV e A n c), .agg (prjV e' A' n' c'), .slice Ab nb cb] w fun en w' => en = .returned (.bool true) ∧ Below w.heap.size w w' := by
  by_cases hn : 300 < nb
  · exact pwrites_long3 hs hs' hD hD' he hl hD2 hn
  by_cases hok : POk (e, st)
  · exact pwrites_good hs hs' hD hD' he hl hD2 (by omega) hok
  · exact pwrites_bad hs hs' hD hD' he hl hD2 (by omega) hok
end
theorem projWrites_st (cs : Array Value) (x : Prj) (cs' : Array Value) (x' : Prj) (A : Option Addr) (n c : Nat) (l : List UInt8) (w : World) (hx : rpPrjW.ok w (lt w.heap.size) x cs.toList) (hx' : rpPrjW.ok w (lt w.heap.size) x' cs'.toList) (hl : rpU8.sl w (lt w.heap.size) A n c l) :
    Calls Try.prog 11 #[.agg cs, .agg cs', .slice A n c] w fun e w' => e = .returned (.bool true) ∧ Below w.heap.size w w' := by
  obtain ⟨A1, c1, hcs, hs, he⟩ := prjw_open hx
  obtain ⟨A2, c2, hcs', hs', he'⟩ := prjw_open hx'
  rw [agg_of hcs, agg_of hcs']
  exact pwrites_any hs hs' (fun k hk => hk) (fun k hk => hk) he hl (fun k hk => hk)
end Go.Proofs.Ytmdgmnaaopineaa
/- How a law's arguments open: from the reading of a value of Go to plain data. -/
namespace Go.Proofs.Ytmdgmnaaopineaa
open Go.RowKit Go.ChangeShapes Go.WideShapes Go.Deep

def Opens {α : Type} (P : Program) (T : TypeId) (r : Rp α) : Prop :=
  ∀ (H : Type) (enc : TypeId × Value → H) (w : World) (held : Bool) (fuel : Nat) (cs : List Value) (x : DataW H × List MemPlace),
    DataW.trod enc P w 0 (fun _ => true) held fuel T cs = some x → ∃ a, r.ok w (lt w.heap.size) a cs

section
variable {P : Program} {T : TypeId} {α β γ δ : Type}
theorem opens_u8 (ht : P.underlying T = some (.int .u8)) : Opens P T rpU8 := fun H enc w held fuel cs x h => by
  obtain ⟨n, rfl, _, hw⟩ := DataW.trod_int ht h
  obtain ⟨h0, h1⟩ := bounds_u8 hw
  obtain ⟨u, rfl⟩ := byte_of (v := n) h0 (by omega)
  exact ⟨u, rfl⟩
theorem opens_u64 (ht : P.underlying T = some (.int .u64)) : Opens P T rpU64 := fun H enc w held fuel cs x h => by
  obtain ⟨n, rfl, _, hw⟩ := DataW.trod_int ht h
  obtain ⟨h0, h1⟩ := bounds_u64 hw
  exact ⟨n.toNat, by rw [Int.toNat_of_nonneg h0], by omega⟩
theorem opens_int (ht : P.underlying T = some (.int .i64)) : Opens P T rpInt := fun H enc w held fuel cs x h => by
  obtain ⟨n, rfl, _, hw⟩ := DataW.trod_int ht h
  obtain ⟨h0, h1⟩ := bounds_i64 hw
  exact ⟨n, rfl, h0, by omega⟩
theorem opens_bool (ht : P.underlying T = some .bool) : Opens P T rpBool := fun H enc w held fuel cs x h => by
  obtain ⟨b, rfl, _⟩ := DataW.trod_bool ht h
  exact ⟨b, rfl⟩
theorem opens_slice {e : TypeId} {r : Rp α} (ht : P.underlying T = some (.slice e)) (he : Opens P e r) (hc : P.cellsOf e = r.size) (hs : 0 < r.size) : Opens P T (rpSlice r) := fun H enc w held fuel cs x h => by
  rcases open_slice ht h with ⟨rfl, _⟩ | ⟨a, len, cap, m, n, D, Pl, rfl, _, hl, hm, hmm, _, hi⟩
  · exact ⟨[], none, 0, rfl, Nat.zero_le _, by decide, fun h => absurd h (by simp)⟩
  · have hex : ∀ i, i < len → ∃ y : α, ∃ cs', r.ok w (lt w.heap.size) y cs' ∧ ∀ j u, cs'[j]? = some u → w.cell? (a.add (i * r.size + j)) = some u := by
      intro i hil
      obtain ⟨cs', hcs, htr⟩ := hi i (by rw [hmm]; simp; omega)
      obtain ⟨y, hy⟩ := he H enc w held n cs' _ htr
      obtain ⟨_, hlen, hat⟩ := World.cells?_some hcs
      refine ⟨y, cs', hy, fun j u hu => ?_⟩
      have hj : j < P.cellsOf e := by rw [← hlen]; exact (List.getElem?_eq_some_iff.1 hu).1
      have := hat j hj
      rw [hc, Go.Deep.add_add] at this
      rw [this]; exact hu
    have hchoose : ∀ k, k ≤ len → ∃ l : List α, l.length = k ∧ ∀ (i : Nat) (y : α), l[i]? = some y → ∃ cs', r.ok w (lt w.heap.size) y cs' ∧ ∀ j u, cs'[j]? = some u → w.cell? (a.add (i * r.size + j)) = some u := by
      intro k
      induction k with
      | zero => exact fun _ => ⟨[], rfl, fun i y h => by simp at h⟩
      | succ k ih =>
        intro hk
        obtain ⟨l, hll, hg⟩ := ih (by omega)
        obtain ⟨y, cs', hy, hcell⟩ := hex k (by omega)
        refine ⟨l ++ [y], by simp [hll], fun i z hz => ?_⟩
        rcases Nat.lt_trichotomy i k with hik | hik | hik
        · exact hg i z (by rwa [List.getElem?_append_left (by omega)] at hz)
        · subst hik
          rw [List.getElem?_append_right (by omega), hll, Nat.sub_self] at hz
          simp only [List.getElem?_cons_zero, Option.some.injEq] at hz
          subst hz
          exact ⟨cs', hy, hcell⟩
        · rw [List.getElem?_eq_none (by simp; omega)] at hz; cases hz
    obtain ⟨l, hll, hg⟩ := hchoose len (Nat.le_refl _)
    refine ⟨l, some a, cap, by rw [hll], by omega, hm, fun hp => ?_⟩
    obtain ⟨cs0, hok, hc0⟩ := hg 0 l[0] (List.getElem?_eq_getElem hp)
    have hcs0 : 0 < cs0.length := by rw [r.len hok]; exact hs
    have hcell := hc0 0 cs0[0] (List.getElem?_eq_getElem hcs0)
    have hsp : (a.add (0 * r.size + 0)) = a := by simp [Addr.add]
    rw [hsp] at hcell
    have hspot : a.spot = none := World.cell?_spot hcell
    obtain ⟨b, off, spot⟩ := a
    subst hspot
    refine ⟨b, off, rfl, World.block_lt_of_cell? w _ hcell, fun i y hy => ?_⟩
    obtain ⟨cs', hok', hcc⟩ := hg i y hy
    refine ⟨cs', hok', fun j u hu => ?_⟩
    have := hcc j u hu
    have hplain : (⟨b, off, none⟩ : Addr).add (i * r.size + j) = ⟨b, off + i * r.size + j, none⟩ := by
      unfold Addr.add; split
      · simp
      · simp; omega
    rwa [hplain] at this
theorem opens_via (f : β → α) {r : Rp α} (h : Opens P T r) (g : α → β) (hg : ∀ a, f (g a) = a) : Opens P T (rpVia f r) := fun H enc w held fuel cs x hx => by
  obtain ⟨a, ha⟩ := h H enc w held fuel cs x hx
  exact ⟨g a, by show r.ok _ _ (f (g a)) _; rw [hg]; exact ha⟩
theorem opens_struct2 {r : Rp α} {s : Rp β} {f0 f1 : Field} (ht : P.underlying T = some (.struct #[f0, f1])) (h0 : Opens P f0.type r) (h1 : Opens P f1.type s)
    (hc : (f0.offset, P.cellsOf f0.type, f1.offset, P.cellsOf f1.type, P.cellsOf T) = (0, r.size, r.size, s.size, r.size + s.size)) : Opens P T (rpPair r s) := fun H enc w held fuel cs x h => by
  obtain ⟨xs, n, _, _, hlen, hxl, hf⟩ := DataW.trod_struct ht h
  simp only [Prod.mk.injEq] at hc
  obtain ⟨c0, c1, c2, c3, c4⟩ := hc
  have g0 := hf 0 f0 rfl
  have g1 := hf 1 f1 rfl
  have hxl' : xs.length = 2 := by simpa using hxl
  rw [List.getElem?_eq_getElem (by omega)] at g0 g1
  rw [c0, c1, List.drop_zero] at g0
  rw [c2, c3] at g1
  obtain ⟨a, ha⟩ := h0 H enc w held n _ _ g0
  obtain ⟨b, hb⟩ := h1 H enc w held n _ _ g1
  refine ⟨(a, b), _, _, ?_, ha, hb⟩
  rw [List.take_of_length_le (l := List.drop r.size cs) (by rw [List.length_drop]; omega), List.take_append_drop]
end
end Go.Proofs.Ytmdgmnaaopineaa
/- Opening a struct of four fields. -/
namespace Go.Proofs.Ytmdgmnaaopineaa
open Go.ChangeShapes Go.WideShapes Go.ChangeAt Go.RowKit
set_option linter.unusedVariables false
section
variable {P : Program} {T : TypeId} {α β γ δ : Type}
theorem opens_struct4 {r : Rp α} {s : Rp β} {t : Rp γ} {u : Rp δ} {f0 f1 f2 f3 : Field} (ht : P.underlying T = some (.struct #[f0, f1, f2, f3])) (h0 : Opens P f0.type r) (h1 : Opens P f1.type s) (h2 : Opens P f2.type t) (h3 : Opens P f3.type u)
    (hc : (f0.offset, P.cellsOf f0.type, f1.offset, P.cellsOf f1.type, f2.offset, P.cellsOf f2.type, f3.offset, P.cellsOf f3.type, P.cellsOf T) = (0, r.size, r.size, s.size, r.size + s.size, t.size, r.size + s.size + t.size, u.size, r.size + s.size + t.size + u.size)) : Opens P T (rpPair r (rpPair s (rpPair t u))) := fun H enc w held fuel cs x h => by
  obtain ⟨xs, n, _, _, hlen, hxl, hf⟩ := DataW.trod_struct ht h
  simp only [Prod.mk.injEq] at hc
  obtain ⟨c0, c1, c2, c3, c4, c5, c6, c7, c8⟩ := hc
  have g0 := hf 0 f0 rfl
  have g1 := hf 1 f1 rfl
  have g2 := hf 2 f2 rfl
  have g3 := hf 3 f3 rfl
  have hxl' : xs.length = 4 := by simpa using hxl
  rw [List.getElem?_eq_getElem (by omega)] at g0 g1 g2 g3
  rw [c0, c1, List.drop_zero] at g0
  rw [c2, c3] at g1
  rw [c4, c5] at g2
  rw [c6, c7] at g3
  obtain ⟨a, ha⟩ := h0 H enc w held n _ _ g0
  obtain ⟨b, hb⟩ := h1 H enc w held n _ _ g1
  obtain ⟨c, hcc⟩ := h2 H enc w held n _ _ g2
  obtain ⟨d, hd⟩ := h3 H enc w held n _ _ g3
  refine ⟨(a, b, c, d), _, _, ?_, ha, _, _, rfl, hb, _, _, rfl, hcc, hd⟩
  rw [List.take_of_length_le (l := List.drop (r.size + s.size + t.size) cs) (by rw [List.length_drop]; omega)]
  simp only [← List.drop_drop, List.take_append_drop]
theorem opens_struct3 {r : Rp α} {s : Rp β} {t : Rp γ} {f0 f1 f2 : Field} (ht : P.underlying T = some (.struct #[f0, f1, f2])) (h0 : Opens P f0.type r) (h1 : Opens P f1.type s) (h2 : Opens P f2.type t)
    (hc : (f0.offset, P.cellsOf f0.type, f1.offset, P.cellsOf f1.type, f2.offset, P.cellsOf f2.type, P.cellsOf T) = (0, r.size, r.size, s.size, r.size + s.size, t.size, r.size + s.size + t.size)) : Opens P T (rpPair r (rpPair s t)) := fun H enc w held fuel cs x h => by
  obtain ⟨xs, n, _, _, hlen, hxl, hf⟩ := DataW.trod_struct ht h
  simp only [Prod.mk.injEq] at hc
  obtain ⟨c0, c1, c2, c3, c4, c5, c6⟩ := hc
  have g0 := hf 0 f0 rfl
  have g1 := hf 1 f1 rfl
  have g2 := hf 2 f2 rfl
  have hxl' : xs.length = 3 := by simpa using hxl
  rw [List.getElem?_eq_getElem (by omega)] at g0 g1 g2
  rw [c0, c1, List.drop_zero] at g0
  rw [c2, c3] at g1
  rw [c4, c5] at g2
  obtain ⟨a, ha⟩ := h0 H enc w held n _ _ g0
  obtain ⟨b, hb⟩ := h1 H enc w held n _ _ g1
  obtain ⟨c, hcc⟩ := h2 H enc w held n _ _ g2
  refine ⟨(a, b, c), _, _, ?_, ha, _, _, rfl, hb, hcc⟩
  rw [List.take_of_length_le (l := List.drop (r.size + s.size) cs) (by rw [List.length_drop]; omega)]
  simp only [← List.drop_drop, List.take_append_drop]
end
end Go.Proofs.Ytmdgmnaaopineaa
/-
  'tholepinlaw20.ProjWrites' returns true for every input, and each argument reads behind the call as it read before. No condition.
-/
namespace Go.Proofs.Ytmdgmnaaopineaa.projWrites
open Go.ChangeShapes Go.WideShapes Go.ChangeAt Go.RowKit
open Go.ChangeMaps (open_string shut_string)
set_option linter.unusedVariables false

theorem own : ownKnob Try.prog.godebug = none := by kernel_rfl
theorem laidOut : laidOutB Try.prog = true := by kernel_rfl

set_option maxRecDepth 100000 in
theorem lifted (os : Os) (started : os.Started) (H : Type) (enc : TypeId × Value → H) :
    ReturnsInHanded {} Try.checked os 11 .any (Rows.projWritesSpec.pre6 enc Try.prog Try.f11 Rows.projWritesRow.domain false) (Rows.projWritesSpec.post enc Try.prog Try.f11 false true false false) := by
  refine returnsInHanded_of_change (C := Try.checked) own started (by kernel_rfl) Try.func11
    (ChangeSpec.witness6 (enc := enc) (C := Try.checked) false ⟨#[], #[.agg #[.int .u64 0, .slice none 0 0], .agg #[.int .u64 0, .slice none 0 0], .slice none 0 0], []⟩ 8 (by kernel_rfl) (by kernel_rfl) (by kernel_rfl) (by kernel_rfl)) ?_
  intro W base args ds gs before hval0 hW hcnd _
  have hval : ∀ (j : Nat) t v, Try.f11.params[j]? = some t → args[j]? = some v → Value.okWide Try.prog W .any base t v := hval0
  have hW' := hW
  obtain ⟨p, q, hA0, hV, rfl, hfz, hnd⟩ := hW
  have hA : DataW.TrodAll enc Try.prog W 0 (fun _ => true) true Try.f11.params.toList args.toList ds p := hA0
  rw [Try.params11] at hA hval
  obtain ⟨v0, vs0, d0, ds0, p0, q0, hargs, rfl, rfl, h0, r0⟩ := trodAll_cons hA
  obtain ⟨v1, vs1, d1, ds1, p1, q1, rfl, rfl, rfl, h1, r1⟩ := trodAll_cons r0
  obtain ⟨v2, vs2, d2, ds2, p2, q2, rfl, rfl, rfl, h2, r2⟩ := trodAll_cons r1
  obtain ⟨rfl, rfl, rfl⟩ := trodAll_nil r2
  obtain rfl : args = #[v0, v1, v2] := by cases args; simp_all
  obtain ⟨rfl, rfl⟩ := trodVars_none hV
  have k0 := h0
  have lt0 : ∀ x ∈ p0, x.block < W.heap.size := by obtain ⟨m, hm⟩ := k0; exact DataW.trod_lt m _ _ _ hm
  obtain ⟨cs0, rfl, hsz0⟩ := okWide_struct Try.underlying25 (hval 0 25 v0 rfl rfl)
  obtain ⟨x0, w0⟩ : ∃ x, (rpPrjW).ok W (lt W.heap.size) x cs0.toList := by
    obtain ⟨fuel, hf⟩ := h0
    obtain ⟨x, hx⟩ := (opens_struct2 Try.underlying25 (opens_u64 Try.underlying22) (opens_slice Try.underlying23 (opens_struct3 Try.underlying31 (opens_u64 Try.underlying22) (opens_u64 Try.underlying22) (opens_slice Try.underlying27 (opens_slice Try.underlying46 (opens_u64 Try.underlying22) (by kernel_rfl) (by decide)) (by kernel_rfl) (by decide)) (by kernel_rfl)) (by kernel_rfl) (by decide)) (by kernel_rfl)) H enc W _ fuel _ _ hf
    exact ⟨x, hx⟩
  have k1 := h1
  have lt1 : ∀ x ∈ p1, x.block < W.heap.size := by obtain ⟨m, hm⟩ := k1; exact DataW.trod_lt m _ _ _ hm
  obtain ⟨cs1, rfl, hsz1⟩ := okWide_struct Try.underlying25 (hval 1 25 v1 rfl rfl)
  obtain ⟨x1, w1⟩ : ∃ x, (rpPrjW).ok W (lt W.heap.size) x cs1.toList := by
    obtain ⟨fuel, hf⟩ := h1
    obtain ⟨x, hx⟩ := (opens_struct2 Try.underlying25 (opens_u64 Try.underlying22) (opens_slice Try.underlying23 (opens_struct3 Try.underlying31 (opens_u64 Try.underlying22) (opens_u64 Try.underlying22) (opens_slice Try.underlying27 (opens_slice Try.underlying46 (opens_u64 Try.underlying22) (by kernel_rfl) (by decide)) (by kernel_rfl) (by decide)) (by kernel_rfl)) (by kernel_rfl) (by decide)) (by kernel_rfl)) H enc W _ fuel _ _ hf
    exact ⟨x, hx⟩
  have k2 := h2
  have lt2 : ∀ x ∈ p2, x.block < W.heap.size := by obtain ⟨m, hm⟩ := k2; exact DataW.trod_lt m _ _ _ hm
  obtain ⟨a2, len2, cap2, rfl⟩ := okWide_slice Try.underlying36 (hval 2 36 v2 rfl rfl)
  obtain ⟨l2, w2⟩ : ∃ l, (rpU8).sl W (lt W.heap.size) a2 len2 cap2 l := by
    obtain ⟨fuel, hf⟩ := h2
    obtain ⟨l, hl⟩ := (opens_slice Try.underlying36 (opens_u8 Try.underlying5) (by kernel_rfl) (by decide)) H enc W _ fuel _ _ hf
    exact ⟨l, hl⟩
  clear hA0 hval0
  refine (projWrites_st cs0 x0 cs1 x1 a2 len2 cap2 l2 W w0 w1 w2).mono fun e W' ⟨he, bel⟩ => ?_
  subst he
  exact ⟨_, rfl, _, _, _, [], _, [], hW', trodAll_mk1 (shut_bool Try.underlying4 _), (trodAll_cons_mk (Below.trod laidOut (by kernel_rfl) (of_decide_eq_true (by kernel_rfl)) k0 bel lt0) (trodAll_cons_mk (Below.trod laidOut (by kernel_rfl) (of_decide_eq_true (by kernel_rfl)) k1 bel lt1) (trodAll_cons_mk (Below.trod laidOut (by kernel_rfl) (of_decide_eq_true (by kernel_rfl)) k2 bel lt2) trodAll_mk0))), rfl, bel.frame _, fun h => by cases h⟩

theorem over : Rows.projWritesRow.holds Try.pinned (OpenSpec.ofChange Rows.projWritesSpec) :=
  OpenClaim.holds_of_wide 11 Try.f11 rfl rfl rfl rfl rfl rfl rfl ⟨rfl, rfl, rfl, rfl, rfl⟩ rfl rfl rfl rfl rfl (by kernel_rfl) Try.func11 (by kernel_rfl)
    (of_decide_eq_true (by kernel_rfl)) (by unfold Func.isWrapper; first | (rw [if_pos (by decide +kernel)]; kernel_rfl) | (rw [if_neg (by decide +kernel)]; exact ⟨rfl, rfl⟩))
    (fun os started H enc _ => lifted os started H enc)

theorem proved : Rows.ProjWritesSaid := over
#print axioms proved
end Go.Proofs.Ytmdgmnaaopineaa.projWrites
