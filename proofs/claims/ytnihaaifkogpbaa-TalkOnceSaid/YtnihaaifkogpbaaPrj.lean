/- Chapters 17 and 20: whether a number is an epoch or a position; whether a projection is well-formed: the walk of proj.Right. -/
import Derived.Test.YtnihaaifkogpbaaDealsW
import Derived.Test.YtnihaaifkogpbaaEp
namespace Go.Proofs.Ytnihaaifkogpbaa
open Go.ChangeShapes Go.WideShapes Go.ChangeAt Go.RowKit
set_option linter.unusedVariables false
abbrev Prj := Nat × List Stp
/-- Where the stripe of a number begins: where the one ahead ends. -/
def startOf (l : List Stp) : Nat → Nat
  | 0 => 0
  | i + 1 => ((l[i]?).map (fun s => s.2.1)).getD 0
def PUpTo (p : Prj) (k : Nat) : Prop := (EOk p.1 ∧ 1 ≤ p.2.length ∧ p.2.length ≤ 64) ∧ ∀ (i : Nat) (s : Stp), i < k → p.2[i]? = some s → SOk s ∧ s.1 = startOf p.2 i
def POk (p : Prj) : Prop := PUpTo p p.2.length ∧ startOf p.2 p.2.length = 4611686018427387904
theorem startOf_succ {l : List Stp} {k : Nat} {s : Stp} (h : l[k]? = some s) : startOf l (k + 1) = s.2.1 := by
  show ((l[k]?).map (fun s => s.2.1)).getD 0 = _
  rw [h]; rfl
theorem pUpTo_succ {p : Prj} {k : Nat} {s : Stp} (hs : p.2[k]? = some s) : PUpTo p (k + 1) ↔ PUpTo p k ∧ SOk s ∧ s.1 = startOf p.2 k := by
  constructor
  · rintro ⟨a, h⟩
    exact ⟨⟨a, fun i s' hi hs' => h i s' (by omega) hs'⟩, h k s (by omega) hs⟩
  · rintro ⟨⟨a, h⟩, h2⟩
    refine ⟨a, fun i s' hi hs' => ?_⟩
    rcases Nat.lt_or_ge i k with h3 | h3
    · exact h i s' h3 hs'
    · obtain rfl : i = k := by omega
      rw [hs] at hs'
      injection hs' with hs'
      exact hs' ▸ h2
theorem pUpTo_of {p : Prj} {k : Nat} (h : POk p) : PUpTo p k := ⟨h.1.1, fun i s _ hs => h.1.2 i s (List.getElem?_eq_some_iff.1 hs).1 hs⟩

theorem stps_at {w : World} {D : Dom} {A : Option Addr} {n c : Nat} {l : List Stp} (h : rpStp.sl w D A n c l) {k : Nat} (hk : k < n) :
    ∃ b off s A' c', A = some ⟨b, off, none⟩ ∧ D b ∧ l[k]? = some s ∧ w.cell? ⟨b, off + k * 3, none⟩ = some (.int .u64 (s.1 : Int)) ∧ w.cell? ⟨b, off + k * 3 + 1, none⟩ = some (.int .u64 (s.2.1 : Int)) ∧ w.cell? ⟨b, off + k * 3 + 2, none⟩ = some (.slice A' s.2.2.length c') ∧
      (rpSlice rpU64).sl w D A' s.2.2.length c' s.2.2 ∧ s.1 ≤ 18446744073709551615 ∧ s.2.1 ≤ 18446744073709551615 := by
  obtain ⟨b, off, s, cs, hA, hb, hx, hc, hg⟩ := Rp.sl_at h hk
  obtain ⟨A', c', rfl, hs, h1, h2⟩ := stp_open hc
  have e : rpStp.size = 3 := by kernel_rfl
  rw [e] at hg
  exact ⟨b, off, s, A', c', hA, hb, hx, by simpa using hg 0 _ rfl, hg 1 _ rfl, hg 2 _ rfl, hs, h1, h2⟩
abbrev prjV (e : Nat) (A : Option Addr) (n c : Nat) : Array Value := #[.int .u64 (e : Int), .slice A n c]

set_option maxRecDepth 100000 in
set_option maxHeartbeats 4000000 in
theorem pright_any {D : Dom} {A : Option Addr} {n c e : Nat} {l : List Stp} {w : World} (hs : rpStp.sl w D A n c l) (hD : ∀ k, D k → k < w.heap.size) (he : e ≤ 18446744073709551615) :
    Calls Try.prog 47 #[.agg (prjV e A n c)] w fun en w' => en = .returned (.bool (dec (POk (e, l)))) ∧ Below w.heap.size w w' := by
  obtain ⟨hlen, hnc, hcm⟩ := Rp.sl_len hs
  unfold maxLen at hcm
  subst hlen
  have hb0 : Below w.heap.size w (w.alloc (.cells (prjV e A l.length c) 38)) := (Below.refl _ _).alloc (Nat.le_refl _) _
  have HS := Lib.hid (Rp.sl_below hs hb0 hD)
  have HB0 := Lib.hid hb0
  have HD := Lib.hid (fun k hk => Nat.lt_of_lt_of_le (hD k hk) hb0.size)
  have HK := Lib.hid (Blk.new w 38 (prjV e A l.length c))
  clear hs hD hb0
  have her := fun w => eright_any e w he
  cases hq : dec (EOk e)
  · rw [hq] at her
    have HE := Lib.hid her
    rw [dec_false (fun h : POk (e, l) => of_not_dec hq h.1.1.1)]
    clear her hq
    go_enter Try.func47, Try.ntmps47
    go_wp2_with fail
    refine (HE.out _).mono ?_; rintro en w1 ⟨rfl, rfl⟩
    go_wp2_with fail
    go_ret
    exact ⟨rfl, HB0.out⟩
  rw [hq] at her
  have HE := Lib.hid her
  have HEO := Lib.hid (of_dec hq)
  clear her hq
  by_cases hpre : 1 ≤ l.length ∧ l.length ≤ 64
  case neg =>
    rw [dec_false (fun h : POk (e, l) => hpre h.1.1.2)]
    have hc : l.length < 1 ∨ (1 ≤ l.length ∧ 64 < l.length) := by omega
    clear hpre
    rcases hc with d1 | ⟨d1, d2⟩
    all_goals
      go_enter Try.func47, Try.ntmps47
      go_wp2_with fail
      refine (HE.out _).mono ?_; rintro en w1 ⟨rfl, rfl⟩
      go_wp2_with fail
      go_ret
      exact ⟨rfl, HB0.out⟩
  obtain ⟨d1, d2⟩ := hpre
  have v1 : decide ((l.length : Int) < 1) = false := by simp; omega
  have v2 : decide ((64 : Int) < (l.length : Int)) = false := by simp; omega
  have HP0 : Hid (PUpTo (e, l) 0) := ⟨⟨HEO.out, d1, d2⟩, fun i s h => by omega⟩
  go_enter Try.func47, Try.ntmps47
  go_wp2_with fail
  refine (HE.out _).mono ?_; rintro en w1 ⟨rfl, rfl⟩
  go_wp2_with fail
  generalize World.alloc w _ = w0 at *
  have hz0 := HB0.out.size
  go_loopw [3, 25] (fun fv i wr => ∃ (k fr : Nat), k ≤ l.length ∧ i = .int .i64 k ∧ fv = .int .u64 (fr : Int) ∧ fr ≤ 18446744073709551615 ∧ Hid (fr = startOf l k) ∧ Hid (PUpTo (e, l) k) ∧ Below w0.heap.size w0 wr) (fun _ i _ => l.length - (intOf i).toNat)
  case atStart => exact ⟨0, 0, by omega, rfl, rfl, by omega, rfl, HP0, Below.refl _ _⟩
  case round =>
    obtain ⟨k, fr, hk, rfl, rfl, hfr, hst, hup, hbr⟩ := hrel
    have HBR := Lib.hid hbr
    have hzr := hbr.size
    by_cases hkn : k < l.length
    · obtain ⟨b, off, s, A2, c2, rfl, hb, hsk, g0, g1, g2, hrow, hs1, hs2⟩ := stps_at (Rp.sl_below HS.out hbr HD.out) hkn
      have HSK := Lib.hid hsk
      have HR := Lib.hid hrow
      have hdk : decide ((k : Int) < (l.length : Int)) = true := by simp; omega
      obtain ⟨sf, hsf⟩ : ∃ sf, sf = s.1 := ⟨_, rfl⟩
      obtain ⟨st, hst2⟩ : ∃ st, st = s.2.1 := ⟨_, rfl⟩
      obtain ⟨sn, hsn⟩ : ∃ sn, sn = s.2.2.length := ⟨_, rfl⟩
      rw [← hsf] at g0 hs1
      rw [← hst2] at g1 hs2
      rw [← hsn] at g2
      have hal := Lib.hid ((Below.refl wr.heap.size wr).alloc (Nat.le_refl _) (.cells (stpV sf st A2 sn c2) 112))
      have HKS := Lib.hid (Blk.new wr 112 (stpV sf st A2 sn c2))
      have HSF := Lib.hid hsf
      have HST := Lib.hid hst2
      have HSN := Lib.hid hsn
      clear hsk hrow hbr hsf hst2 hsn
      by_cases hne : sf = fr
      · subst hne
        have hdn : ((sf : Int) != (sf : Int)) = false := by simp
        have hrt := right_any (f := s.1) (t := s.2.1) (Rp.sl_below HR.out hal.out (fun k hk => Nat.lt_of_lt_of_le (HD.out k hk) hzr)) (fun k hk => Nat.lt_of_lt_of_le (Nat.lt_of_lt_of_le (HD.out k hk) hzr) hal.out.size) (by rw [← HSF.out]; omega) (by rw [← HST.out]; omega)
        rw [← HSF.out, ← HST.out, ← HSN.out] at hrt
        cases hq : dec (SOk (sf, st, s.2.2))
        · rw [hq] at hrt
          have HRT := Lib.hid hrt
          have hno := Lib.hid (show ¬ POk (e, l) from fun h => of_not_dec hq (by
            have := (h.1.2 k s (List.getElem?_eq_some_iff.1 HSK.out).1 HSK.out).1
            rw [HSF.out, HST.out]; exact this))
          clear hrt hq
          go_wp2_with fail
          refine HRT.out.mono ?_; rintro en w1 ⟨rfl, hb1⟩
          go_wp2_with fail
          go_ret
          rw [dec_false hno.out]
          have h1 := HBR.out.trans (hal.out.mono hzr)
          have h2 := h1.trans (hb1.mono h1.size)
          exact ⟨rfl, HB0.out.trans (h2.mono hz0)⟩
        · rw [hq] at hrt
          have HRT := Lib.hid hrt
          have HOK := Lib.hid (of_dec hq)
          clear hrt hq
          go_wp2_with fail
          refine HRT.out.mono ?_; rintro en w1 ⟨rfl, hb1⟩
          have hks := Blk.below (show Blk _ _ _ _ from HKS.out) hb1 (show Blk _ _ _ _ from HKS.out).lt
          have e1 : w1.cell? ⟨wr.heap.size, 1, none⟩ = some (.int .u64 (st : Int)) := hks.cell 1
          have HB1 := Lib.hid hb1
          clear hb1 hks
          go_wp2_with fail
          go_roundw
          case rel =>
            have h1 := HBR.out.trans (hal.out.mono hzr)
            refine ⟨k + 1, st, by omega, by go_num, rfl, by omega, (startOf_succ HSK.out).symm ▸ HST.out, (pUpTo_succ HSK.out).2 ⟨hup.out, ?_, ?_⟩, h1.trans (HB1.out.mono h1.size)⟩
            · have := HOK.out
              rw [HSF.out, HST.out] at this
              exact this
            · rw [← HSF.out]; exact hst.out
          case measure => simp [intOf]; omega
      · have hdn : ((sf : Int) != (fr : Int)) = true := by simp; omega
        have hno := Lib.hid (show ¬ POk (e, l) from fun h => hne (by
          have := (h.1.2 k s (List.getElem?_eq_some_iff.1 HSK.out).1 HSK.out).2
          rw [HSF.out, hst.out]; exact this))
        clear hne
        go_wp2_with fail
        go_ret
        rw [dec_false hno.out]
        exact ⟨rfl, HB0.out.trans ((HBR.out.trans (hal.out.mono hzr)).mono hz0)⟩
    · obtain rfl : k = l.length := by omega
      have hdk : decide ((l.length : Int) < (l.length : Int)) = false := by simp
      clear hbr
      by_cases hend : fr = 4611686018427387904
      · have hde : ((fr : Int) == 4611686018427387904) = true := by simp; omega
        have hyes : POk (e, l) := ⟨hup.out, by show startOf l l.length = _; rw [← hst.out]; exact hend⟩
        have HY := Lib.hid hyes
        clear hyes hend
        go_wp2_with fail
        go_ret
        rw [dec_true HY.out]
        exact ⟨by first | rfl | (rw [← hde]; rfl), HB0.out.trans (HBR.out.mono hz0)⟩
      · have hde : ((fr : Int) == 4611686018427387904) = false := by simp; omega
        have hno : ¬ POk (e, l) := fun h => hend (by rw [hst.out]; exact h.2)
        have HY := Lib.hid hno
        clear hno hend
        go_wp2_with fail
        go_ret
        rw [dec_false HY.out]
        exact ⟨by first | rfl | (rw [← hde]; rfl), HB0.out.trans (HBR.out.mono hz0)⟩
end Go.Proofs.Ytnihaaifkogpbaa
