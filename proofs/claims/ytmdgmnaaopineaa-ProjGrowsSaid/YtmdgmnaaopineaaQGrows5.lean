/-
  The law of this claim, part 5 of its proof: the parts Prj, PrC, Prj2, PrD, PrG, PrH, PrI.
-/
import Derived.Test.YtmdgmnaaopineaaQGrows4
/- Chapters 17 and 20: whether a number is an epoch or a position; whether a projection is well-formed: the walk of proj.Right. -/
namespace Go.Proofs.Ytmdgmnaaopineaa
open Go.ChangeShapes Go.WideShapes Go.ChangeAt Go.RowKit
set_option linter.unusedVariables false
abbrev Prj := Nat × List Stp
def EOk (e : Nat) : Prop := 1 ≤ e ∧ e < 4611686018427387904
def PosOk (x : Nat) : Prop := x < 4611686018427387904
/-- Where the stripe of a number begins: where the one ahead ends. -/
def startOf (l : List Stp) : Nat → Nat
  | 0 => 0
  | i + 1 => ((l[i]?).map (fun s => s.2.1)).getD 0
def PUpTo (p : Prj) (k : Nat) : Prop := (EOk p.1 ∧ 1 ≤ p.2.length ∧ p.2.length ≤ 64) ∧ ∀ (i : Nat) (s : Stp), i < k → p.2[i]? = some s → SOk s ∧ s.1 = startOf p.2 i
def POk (p : Prj) : Prop := PUpTo p p.2.length ∧ startOf p.2 p.2.length = 4611686018427387904
theorem startOf_succ {l : List Stp} {k : Nat} {s : Stp} (h : l[k]? = some s) : startOf l (k + 1) = s.2.1 := by
  show ((l[k]?).map (fun s => s.2.1)).getD 0 = _
  rw [h]; rfl
theorem pUpTo_succ {p : Prj} {k : Nat} {s : Stp} (hs : p.2[k]? = some s) : PUpTo p (k + 1) ↔ PUpTo p k ∧ SOk s ∧ s.1 = startOf p.2 k := by
  constructor
  · rintro ⟨a, h⟩
    exact ⟨⟨a, fun i s' hi hs' => h i s' (by omega) hs'⟩, h k s (by omega) hs⟩
  · rintro ⟨⟨a, h⟩, h2⟩
    refine ⟨a, fun i s' hi hs' => ?_⟩
    rcases Nat.lt_or_ge i k with h3 | h3
    · exact h i s' h3 hs'
    · obtain rfl : i = k := by omega
      rw [hs] at hs'
      injection hs' with hs'
      exact hs' ▸ h2
theorem pUpTo_of {p : Prj} {k : Nat} (h : POk p) : PUpTo p k := ⟨h.1.1, fun i s _ hs => h.1.2 i s (List.getElem?_eq_some_iff.1 hs).1 hs⟩

theorem eright_any (e : Nat) (w : World) (he : e ≤ 18446744073709551615) : Calls Try.prog 90 #[.int .u64 (e : Int)] w fun en w' => en = .returned (.bool (dec (EOk e))) ∧ w = w' := by
  by_cases h1 : 1 ≤ e
  · by_cases h2 : e < 4611686018427387904
    · have hd : decide ((1 : Int) ≤ (e : Int)) = true := by simp; omega
      have hd2 : decide ((e : Int) < 4611686018427387904) = true := by simp; omega
      rw [dec_true (show EOk e from ⟨h1, h2⟩)]
      go_enter Try.func90, Try.ntmps90
      go_wp2_with fail
      go_ret
      exact ⟨rfl, rfl⟩
    · have hd : decide ((1 : Int) ≤ (e : Int)) = true := by simp; omega
      have hd2 : decide ((e : Int) < 4611686018427387904) = false := by simp; omega
      rw [dec_false (show ¬ EOk e from fun h => h2 h.2)]
      go_enter Try.func90, Try.ntmps90
      go_wp2_with fail
      go_ret
      exact ⟨rfl, rfl⟩
  · have hd : decide ((1 : Int) ≤ (e : Int)) = false := by simp; omega
    rw [dec_false (show ¬ EOk e from fun h => h1 h.1)]
    go_enter Try.func90, Try.ntmps90
    go_wp2_with fail
    go_ret
    exact ⟨rfl, rfl⟩
theorem reright_any (e : Nat) (w : World) (he : e ≤ 18446744073709551615) : Calls Try.prog 87 #[.int .u64 (e : Int)] w fun en w' => en = .returned (.bool (dec (EOk e))) ∧ w = w' := by
  by_cases h1 : 1 ≤ e
  · by_cases h2 : e < 4611686018427387904
    · have hd : decide ((0 : Int) < (e : Int)) = true := by simp; omega
      have hd2 : decide ((e : Int) ≤ 4611686018427387903) = true := by simp; omega
      rw [dec_true (show EOk e from ⟨h1, h2⟩)]
      go_enter Try.func87, Try.ntmps87
      go_wp2_with fail
      go_ret
      exact ⟨rfl, rfl⟩
    · have hd : decide ((0 : Int) < (e : Int)) = true := by simp; omega
      have hd2 : decide ((e : Int) ≤ 4611686018427387903) = false := by simp; omega
      rw [dec_false (show ¬ EOk e from fun h => h2 h.2)]
      go_enter Try.func87, Try.ntmps87
      go_wp2_with fail
      go_ret
      exact ⟨rfl, rfl⟩
  · have hd : decide ((0 : Int) < (e : Int)) = false := by simp; omega
    rw [dec_false (show ¬ EOk e from fun h => h1 h.1)]
    go_enter Try.func87, Try.ntmps87
    go_wp2_with fail
    go_ret
    exact ⟨rfl, rfl⟩
theorem epos_any (x : Nat) (w : World) (he : x ≤ 18446744073709551615) : Calls Try.prog 81 #[.int .u64 (x : Int)] w fun en w' => en = .returned (.bool (dec (PosOk x))) ∧ w = w' := by
  by_cases h2 : x < 4611686018427387904
  · have hd2 : decide ((x : Int) < 4611686018427387904) = true := by simp; omega
    rw [dec_true (show PosOk x from h2)]
    go_enter Try.func81, Try.ntmps81
    go_wp2_with fail
    go_ret
    exact ⟨by rw [← hd2]; rfl, rfl⟩
  · have hd2 : decide ((x : Int) < 4611686018427387904) = false := by simp; omega
    rw [dec_false (show ¬ PosOk x from h2)]
    go_enter Try.func81, Try.ntmps81
    go_wp2_with fail
    go_ret
    exact ⟨by rw [← hd2]; rfl, rfl⟩
theorem repos_any (x : Nat) (w : World) (he : x ≤ 18446744073709551615) : Calls Try.prog 33 #[.int .u64 (x : Int)] w fun en w' => en = .returned (.bool (dec (PosOk x))) ∧ w = w' := by
  by_cases h2 : x < 4611686018427387904
  · have hd2 : decide ((x : Int) ≤ 4611686018427387903) = true := by simp; omega
    rw [dec_true (show PosOk x from h2)]
    go_enter Try.func33, Try.ntmps33
    go_wp2_with fail
    go_ret
    exact ⟨by rw [← hd2]; rfl, rfl⟩
  · have hd2 : decide ((x : Int) ≤ 4611686018427387903) = false := by simp; omega
    rw [dec_false (show ¬ PosOk x from h2)]
    go_enter Try.func33, Try.ntmps33
    go_wp2_with fail
    go_ret
    exact ⟨by rw [← hd2]; rfl, rfl⟩

theorem stps_at {w : World} {D : Dom} {A : Option Addr} {n c : Nat} {l : List Stp} (h : rpStp.sl w D A n c l) {k : Nat} (hk : k < n) :
    ∃ b off s A' c', A = some ⟨b, off, none⟩ ∧ D b ∧ l[k]? = some s ∧ w.cell? ⟨b, off + k * 3, none⟩ = some (.int .u64 (s.1 : Int)) ∧ w.cell? ⟨b, off + k * 3 + 1, none⟩ = some (.int .u64 (s.2.1 : Int)) ∧ w.cell? ⟨b, off + k * 3 + 2, none⟩ = some (.slice A' s.2.2.length c') ∧
      (rpSlice rpU64).sl w D A' s.2.2.length c' s.2.2 ∧ s.1 ≤ 18446744073709551615 ∧ s.2.1 ≤ 18446744073709551615 := by
  obtain ⟨b, off, s, cs, hA, hb, hx, hc, hg⟩ := Rp.sl_at h hk
  obtain ⟨A', c', rfl, hs, h1, h2⟩ := stp_open hc
  have e : rpStp.size = 3 := by kernel_rfl
  rw [e] at hg
  exact ⟨b, off, s, A', c', hA, hb, hx, by simpa using hg 0 _ rfl, hg 1 _ rfl, hg 2 _ rfl, hs, h1, h2⟩
abbrev prjV (e : Nat) (A : Option Addr) (n c : Nat) : Array Value := #[.int .u64 (e : Int), .slice A n c]

set_option maxRecDepth 100000 in
set_option maxHeartbeats 4000000 in
theorem pright_any {D : Dom} {A : Option Addr} {n c e : Nat} {l : List Stp} {w : World} (hs : rpStp.sl w D A n c l) (hD : ∀ k, D k → k < w.heap.size) (he : e ≤ 18446744073709551615) :
    Calls Try.prog 38 #[.agg (prjV e A n c)] w fun en w' => en = .returned (.bool (dec (POk (e, l)))) ∧ Below w.heap.size w w' := by
  obtain ⟨hlen, hnc, hcm⟩ := Rp.sl_len hs
  unfold maxLen at hcm
  subst hlen
  have hb0 : Below w.heap.size w (w.alloc (.cells (prjV e A l.length c) 25)) := (Below.refl _ _).alloc (Nat.le_refl _) _
  have HS := Lib.hid (Rp.sl_below hs hb0 hD)
  have HB0 := Lib.hid hb0
  have HD := Lib.hid (fun k hk => Nat.lt_of_lt_of_le (hD k hk) hb0.size)
  have HK := Lib.hid (Blk.new w 25 (prjV e A l.length c))
  clear hs hD hb0
  have her := fun w => eright_any e w he
  cases hq : dec (EOk e)
  · rw [hq] at her
    have HE := Lib.hid her
    rw [dec_false (fun h : POk (e, l) => of_not_dec hq h.1.1.1)]
    clear her hq
    go_enter Try.func38, Try.ntmps38
    go_wp2_with fail
    refine (HE.out _).mono ?_; rintro en w1 ⟨rfl, rfl⟩
    go_wp2_with fail
    go_ret
    exact ⟨rfl, HB0.out⟩
  rw [hq] at her
  have HE := Lib.hid her
  have HEO := Lib.hid (of_dec hq)
  clear her hq
  by_cases hpre : 1 ≤ l.length ∧ l.length ≤ 64
  case neg =>
    rw [dec_false (fun h : POk (e, l) => hpre h.1.1.2)]
    have hc : l.length < 1 ∨ (1 ≤ l.length ∧ 64 < l.length) := by omega
    clear hpre
    rcases hc with d1 | ⟨d1, d2⟩
    all_goals
      go_enter Try.func38, Try.ntmps38
      go_wp2_with fail
      refine (HE.out _).mono ?_; rintro en w1 ⟨rfl, rfl⟩
      go_wp2_with fail
      go_ret
      exact ⟨rfl, HB0.out⟩
  obtain ⟨d1, d2⟩ := hpre
  have v1 : decide ((l.length : Int) < 1) = false := by simp; omega
  have v2 : decide ((64 : Int) < (l.length : Int)) = false := by simp; omega
  have HP0 : Hid (PUpTo (e, l) 0) := ⟨⟨HEO.out, d1, d2⟩, fun i s h => by omega⟩
  go_enter Try.func38, Try.ntmps38
  go_wp2_with fail
  refine (HE.out _).mono ?_; rintro en w1 ⟨rfl, rfl⟩
  go_wp2_with fail
  generalize World.alloc w _ = w0 at *
  have hz0 := HB0.out.size
  go_loopw [3, 25] (fun fv i wr => ∃ (k fr : Nat), k ≤ l.length ∧ i = .int .i64 k ∧ fv = .int .u64 (fr : Int) ∧ fr ≤ 18446744073709551615 ∧ Hid (fr = startOf l k) ∧ Hid (PUpTo (e, l) k) ∧ Below w0.heap.size w0 wr) (fun _ i _ => l.length - (intOf i).toNat)
  case atStart => exact ⟨0, 0, by omega, rfl, rfl, by omega, rfl, HP0, Below.refl _ _⟩
  case round =>
    obtain ⟨k, fr, hk, rfl, rfl, hfr, hst, hup, hbr⟩ := hrel
    have HBR := Lib.hid hbr
    have hzr := hbr.size
    by_cases hkn : k < l.length
    · obtain ⟨b, off, s, A2, c2, rfl, hb, hsk, g0, g1, g2, hrow, hs1, hs2⟩ := stps_at (Rp.sl_below HS.out hbr HD.out) hkn
      have HSK := Lib.hid hsk
      have HR := Lib.hid hrow
      have hdk : decide ((k : Int) < (l.length : Int)) = true := by simp; omega
      obtain ⟨sf, hsf⟩ : ∃ sf, sf = s.1 := ⟨_, rfl⟩
      obtain ⟨st, hst2⟩ : ∃ st, st = s.2.1 := ⟨_, rfl⟩
      obtain ⟨sn, hsn⟩ : ∃ sn, sn = s.2.2.length := ⟨_, rfl⟩
      rw [← hsf] at g0 hs1
      rw [← hst2] at g1 hs2
      rw [← hsn] at g2
      have hal := Lib.hid ((Below.refl wr.heap.size wr).alloc (Nat.le_refl _) (.cells (stpV sf st A2 sn c2) 31))
      have HKS := Lib.hid (Blk.new wr 31 (stpV sf st A2 sn c2))
      have HSF := Lib.hid hsf
      have HST := Lib.hid hst2
      have HSN := Lib.hid hsn
      clear hsk hrow hbr hsf hst2 hsn
      by_cases hne : sf = fr
      · subst hne
        have hdn : ((sf : Int) != (sf : Int)) = false := by simp
        have hrt := right_any (f := s.1) (t := s.2.1) (Rp.sl_below HR.out hal.out (fun k hk => Nat.lt_of_lt_of_le (HD.out k hk) hzr)) (fun k hk => Nat.lt_of_lt_of_le (Nat.lt_of_lt_of_le (HD.out k hk) hzr) hal.out.size) (by rw [← HSF.out]; omega) (by rw [← HST.out]; omega)
        rw [← HSF.out, ← HST.out, ← HSN.out] at hrt
        cases hq : dec (SOk (sf, st, s.2.2))
        · rw [hq] at hrt
          have HRT := Lib.hid hrt
          have hno := Lib.hid (show ¬ POk (e, l) from fun h => of_not_dec hq (by
            have := (h.1.2 k s (List.getElem?_eq_some_iff.1 HSK.out).1 HSK.out).1
            rw [HSF.out, HST.out]; exact this))
          clear hrt hq
          go_wp2_with fail
          refine HRT.out.mono ?_; rintro en w1 ⟨rfl, hb1⟩
          go_wp2_with fail
          go_ret
          rw [dec_false hno.out]
          have h1 := HBR.out.trans (hal.out.mono hzr)
          have h2 := h1.trans (hb1.mono h1.size)
          exact ⟨rfl, HB0.out.trans (h2.mono hz0)⟩
        · rw [hq] at hrt
          have HRT := Lib.hid hrt
          have HOK := Lib.hid (of_dec hq)
          clear hrt hq
          go_wp2_with fail
          refine HRT.out.mono ?_; rintro en w1 ⟨rfl, hb1⟩
          have hks := Blk.below (show Blk _ _ _ _ from HKS.out) hb1 (show Blk _ _ _ _ from HKS.out).lt
          have e1 : w1.cell? ⟨wr.heap.size, 1, none⟩ = some (.int .u64 (st : Int)) := hks.cell 1
          have HB1 := Lib.hid hb1
          clear hb1 hks
          go_wp2_with fail
          go_roundw
          case rel =>
            have h1 := HBR.out.trans (hal.out.mono hzr)
            refine ⟨k + 1, st, by omega, by go_num, rfl, by omega, (startOf_succ HSK.out).symm ▸ HST.out, (pUpTo_succ HSK.out).2 ⟨hup.out, ?_, ?_⟩, h1.trans (HB1.out.mono h1.size)⟩
            · have := HOK.out
              rw [HSF.out, HST.out] at this
              exact this
            · rw [← HSF.out]; exact hst.out
          case measure => simp [intOf]; omega
      · have hdn : ((sf : Int) != (fr : Int)) = true := by simp; omega
        have hno := Lib.hid (show ¬ POk (e, l) from fun h => hne (by
          have := (h.1.2 k s (List.getElem?_eq_some_iff.1 HSK.out).1 HSK.out).2
          rw [HSF.out, hst.out]; exact this))
        clear hne
        go_wp2_with fail
        go_ret
        rw [dec_false hno.out]
        exact ⟨rfl, HB0.out.trans ((HBR.out.trans (hal.out.mono hzr)).mono hz0)⟩
    · obtain rfl : k = l.length := by omega
      have hdk : decide ((l.length : Int) < (l.length : Int)) = false := by simp
      clear hbr
      by_cases hend : fr = 4611686018427387904
      · have hde : ((fr : Int) == 4611686018427387904) = true := by simp; omega
        have hyes : POk (e, l) := ⟨hup.out, by show startOf l l.length = _; rw [← hst.out]; exact hend⟩
        have HY := Lib.hid hyes
        clear hyes hend
        go_wp2_with fail
        go_ret
        rw [dec_true HY.out]
        exact ⟨by first | rfl | (rw [← hde]; rfl), HB0.out.trans (HBR.out.mono hz0)⟩
      · have hde : ((fr : Int) == 4611686018427387904) = false := by simp; omega
        have hno : ¬ POk (e, l) := fun h => hend (by rw [hst.out]; exact h.2)
        have HY := Lib.hid hno
        clear hno hend
        go_wp2_with fail
        go_ret
        rw [dec_false HY.out]
        exact ⟨by first | rfl | (rw [← hde]; rfl), HB0.out.trans (HBR.out.mono hz0)⟩
end Go.Proofs.Ytmdgmnaaopineaa
/- proj.Copy. -/
namespace Go.Proofs.Ytmdgmnaaopineaa
open Go.ChangeShapes Go.WideShapes Go.ChangeAt Go.RowKit
set_option linter.unusedVariables false
def TSs (t : TypeId) : Prop := t = 22 ∨ t = 46
theorem tss_stp : ¬ TSs 31 := by unfold TSs; decide
theorem tss_prj : ¬ TSs 25 := by unfold TSs; decide
theorem elemStp : Elem Try.prog 23 31 rpStp.size 40 := Elem.of (z := .agg #[.int .u64 0, .int .u64 0, .slice none 0 0]) Try.underlying23 (by kernel_rfl) rfl (by decide)
abbrev OS (w : World) (base : Nat) (A : Option Addr) (n c : Nat) (l : List Stp) : Prop := OL rpStp TSs (fun _ => False) 31 w base A n c l
theorem own_tb {D0 : Dom} {w : World} {base n c : Nat} {A : Option Addr} {xs : List Value} {e : TypeId} (he : TSs e) (h : w.ownsRow base e 1 (.slice A n c) n xs) : ∀ k, some k = (Value.slice A n c).ownBlock → Tb TSs D0 w k := by
  intro k hk
  rcases h.2 with ⟨hv, _⟩ | ⟨g, cap, cur, hv, hg, hh, _⟩
  · rw [hv] at hk; cases hk
  · rw [hv] at hk
    simp only [Value.ownBlock, Option.some.injEq] at hk
    subst hk
    exact ⟨Blk.lt (w := w) hh, .inr ⟨cur, e, hh, he⟩⟩
theorem LL.tb {D0 : Dom} {w : World} {base n c : Nat} {A : Option Addr} {sets : List (List Nat)} (h : LL w base A n c sets) : (rpSlice rpU64).sl w (Tb TSs D0 w) A n c sets := by
  obtain ⟨vals, ho, hn, hi⟩ := h
  have hrow : ∀ (i : Nat) x, sets[i]? = some x → ∃ v, vals[i]? = some v ∧ (rpSlice rpU64).ok w (Tb TSs D0 w) x [v] := by
    intro i x hx
    obtain ⟨⟨A', c', hv, hw⟩, h64⟩ := hi i x hx
    exact ⟨_, hv, Rp.sl_more (own_u64 hw h64) (own_tb (.inl rfl) hw)⟩
  have hT := own_tb (D0 := D0) (.inr rfl) ho
  rcases ho.2 with ⟨hv, h0⟩ | ⟨g, cap, cur, hv, hg, hh, hnc, hcm, hcs, htake⟩
  · injection hv with h1 h2 h3
    subst h1; subst h3
    have hs0 : sets = [] := List.eq_nil_of_length_eq_zero (by omega)
    subst hs0
    have hn0 : n = 0 := by simpa using hn.symm
    subst hn0
    exact Rp.sl_nil _ _ _ _ _ (by decide)
  · injection hv with h1 h2 h3
    subst h1; subst h3
    subst hn
    refine ⟨_, _, rfl, hnc, hcm, fun _ => ⟨g, 0, rfl, hT g rfl, fun i x hx => ?_⟩⟩
    obtain ⟨v, hvi, hok⟩ := hrow i x hx
    refine ⟨[v], hok, fun j u hu => ?_⟩
    have hj : j = 0 := by
      rcases Nat.eq_zero_or_pos j with h0 | h0
      · exact h0
      · rw [List.getElem?_eq_none (by simp; omega)] at hu; cases hu
    subst hj
    simp only [List.getElem?_cons_zero, Option.some.injEq] at hu
    subst hu
    have hcell := cell_of_row w g (0 + i * (rpSlice rpU64).size + 0) cur 46 (0, 0) hh
    rw [hcell]
    have e1 : 0 + i * (rpSlice rpU64).size + 0 = i := by show 0 + i * 1 + 0 = i; omega
    rw [e1]
    rw [← htake, List.getElem?_take] at hvi
    split at hvi
    · simpa using hvi
    · cases hvi
theorem stp_ok {w : World} {D : Dom} {f t n c : Nat} {A : Option Addr} {sets : List (List Nat)} (hf : f ≤ 18446744073709551615) (ht : t ≤ 18446744073709551615) (h : (rpSlice rpU64).sl w D A n c sets) : rpStp.ok w D (f, t, sets) (stpV f t A n c).toList :=
  ⟨[_], _, rfl, ⟨rfl, by show f < _; omega⟩, [_], _, rfl, ⟨rfl, by show t < _; omega⟩, h⟩
section
variable {D : Dom} {A : Option Addr} {n c e : Nat} {l : List Stp} {w : World}
set_option maxRecDepth 100000 in
set_option maxHeartbeats 4000000 in
theorem prcopy_any (hs : rpStp.sl w D A n c l) (hD : ∀ k, D k → k < w.heap.size) (hn : n ≤ 1000) (hl : ∀ s ∈ l, s.2.2.length ≤ 1000 ∧ ∀ (j : Nat) x, s.2.2[j]? = some x → x.length ≤ 1000) :
    Calls Try.prog 63 #[.agg (prjV e A n c)] w fun en w' => ∃ A2 c2, en = .returned (.agg (prjV e A2 n c2)) ∧ OS w' w.heap.size A2 n c2 l ∧ Below w.heap.size w w' := by
  have H : Hid ((Try.prog.info? 25).map (·.size) = some 2) := by unfold Hid; kernel_rfl
  have hlen := (Rp.sl_len hs).1
  have HZ := Lib.hid (below2 w (.cells (prjV e A n c) 25) (.cells (prjV 0 none 0 0) 25))
  have HK := Lib.hid (blk21 w 25 25 (prjV e A n c) (prjV 0 none 0 0))
  have HR := Lib.hid (blk22 w 25 25 (prjV e A n c) (prjV 0 none 0 0))
  have HS := Lib.hid (show Sl rpStp w D A n c l from ⟨hs, hD⟩)
  have HN := Lib.hid hlen
  have HLE := Lib.hid hl
  clear hs hD hlen hl
  go_enter Try.func63, Try.ntmps63
  go_wp2_with fail
  generalize World.alloc (World.alloc w _) _ = w0 at *
  have k1 := (show Blk w0 w.heap.size 25 _ from HK.out).cell 1
  go_wp2_with fail
  clear k1
  go_loopw [3, 9] (fun o i wr => ∃ (k : Nat) (As : Option Addr) (cs : Nat), k ≤ n ∧ i = .int .i64 k ∧ o = .slice As k cs ∧ Hid (OS wr w.heap.size As k cs (l.take k)) ∧ Hid (Blk wr w.heap.size 25 (prjV e A n c)) ∧ Hid (Blk wr (w.heap.size + 1) 25 (prjV 0 none 0 0)) ∧ Hid (Below w.heap.size w wr)) (fun _ i _ => n - (intOf i).toNat)
  case atStart => exact ⟨0, none, 0, by omega, rfl, rfl, OL.nil _ _ _ _ _ _, HK.out, HR.out, HZ.out⟩
  case round =>
    clear HK HR HZ
    obtain ⟨k, As, cs, hk, rfl, rfl, hll, hkb, hkr, hbel⟩ := hrel
    have hzr := hbel.out.size
    have hltr := (show Blk wr (w.heap.size + 1) 25 _ from hkr.out).lt
    by_cases hkn : k < n
    case neg =>
      obtain rfl : k = n := by omega
      have hd : decide ((k : Int) < (k : Int)) = false := by simp
      have k0 := (show Blk wr w.heap.size 25 _ from hkb.out).cell 0
      have k1 := (show Blk wr w.heap.size 25 _ from hkb.out).cell 1
      have f1 := (show Blk wr w.heap.size 25 _ from hkb.out).frozen 1
      have HL7 := Lib.hid ((show OS wr w.heap.size As k cs (l.take k) from hll.out).put (show Blk wr w.heap.size 25 _ from hkb.out) id tss_prj (by decide) (a := ⟨w.heap.size, 1, none⟩) rfl (.slice As k cs))
      have HR7 := Lib.hid ((show Blk wr (w.heap.size + 1) 25 _ from hkr.out).far (p := ⟨w.heap.size, 1, none⟩) (by dsimp only; omega) (.slice As k cs))
      have HB7 := Lib.hid (hbel.out.setCell (p := ⟨w.heap.size, 1, none⟩) (by dsimp only; omega) (.slice As k cs))
      have HE : Hid (l.take k = l) := List.take_of_length_le (by rw [HN.out]; exact Nat.le_refl _)
      go_wp2_with (refine wpList_put_row rfl 25 (.tmp 2) (.tmp 21) rfl (w.heap.size + 1) (prjV e As k cs) rfl rfl 25 _ HR7.out H.out rfl (by simp [Value.oneCell']) ?_; intro w9 hblk hgr)
      have hl9 := (show OS (wr.setCell ⟨w.heap.size, 1, none⟩ (.slice As k cs)) w.heap.size As k cs (l.take k) from HL7.out).grown HR7.out id tss_prj (by decide) hgr
      rw [HE.out] at hl9
      exact bodyPost_ret (results_cell_row rfl _ _ (w.heap.size + 1) 25 _ (0, 0) _ rfl hblk Try.underlying25 rfl H.out) rfl ⟨As, cs, rfl, hl9, HB7.out.grown hgr HB7.out.size (fun j hj => by injection hj with hj; omega)⟩
    case pos =>
      have hd : decide ((k : Int) < (n : Int)) = true := by simp; omega
      have hkI : (0 : Int) ≤ (k : Int) := by omega
      have hkI2 : (k : Int) < (n : Int) := by omega
      have hsr := keepS HS.out hbel.out
      obtain ⟨bo, off, s, A3, c3, rfl, hbD, hx, g0, g1, g2, hrow, hs1, hs2⟩ := stps_at hsr.1 hkn
      obtain ⟨sf, hsf⟩ : ∃ sf, sf = s.1 := ⟨_, rfl⟩
      obtain ⟨st, hst⟩ : ∃ st, st = s.2.1 := ⟨_, rfl⟩
      obtain ⟨ss, hss⟩ : ∃ ss, ss = s.2.2 := ⟨_, rfl⟩
      have es : s = (sf, st, ss) := by rw [hsf, hst, hss]
      rw [← hsf] at g0 hs1
      rw [← hst] at g1 hs2
      rw [← hss] at g2 hrow
      subst es
      have hle := HLE.out _ (List.mem_of_getElem? hx)
      have HLS := Lib.hid hle
      have hba := below1 wr (.cells (stpV sf st A3 ss.length c3) 31)
      have HRW := Lib.hid (keepS (show Sl (rpSlice rpU64) wr _ A3 ss.length c3 ss from ⟨hrow, hsr.2⟩) hba)
      have HKS := Lib.hid (blk11 wr 31 (stpV sf st A3 ss.length c3))
      have HBA := Lib.hid hba
      have HTK : Hid (l.take (k + 1) = l.take k ++ [(sf, st, ss)]) := by
        show l.take (k + 1) = l.take k ++ [(sf, st, ss)]
        rw [List.take_add_one, hx]; rfl
      have hk16 : k + 1 ≤ maxLen := by unfold maxLen; omega
      clear hx hle hrow hsr hsf hst hss hba
      go_wp2_with fail
      generalize World.alloc wr _ = w4 at *
      have hz4 := HBA.out.size
      have v0 := (show Blk w4 _ _ _ from HKS.out).cell 0
      have v1 := (show Blk w4 _ _ _ from HKS.out).cell 1
      have v2 := (show Blk w4 _ _ _ from HKS.out).cell 2
      clear g0 g1 g2
      go_wp2_with fail
      refine (stcopy_any HRW.out.1 HRW.out.2 HLS.out.1 HLS.out.2).mono ?_; rintro en w5 ⟨A5, c5, rfl, hl5, hb5⟩
      have hb5a := below1 w5 (.cells (stpV sf st A5 ss.length c5) 31)
      have hb45 := stepB HBA.out hb5
      have HB5 := Lib.hid (stepB hb45 hb5a)
      have hz5 := hb5.size
      obtain ⟨vals, hov, hln, hvi⟩ := ((show OS wr w.heap.size As k cs (l.take k) from hll.out).below hb45).below hb5a
      have HOV := Lib.hid hov
      have HVI := Lib.hid hvi
      have HLN := Lib.hid hln
      have HX5 := Lib.hid (stp_ok hs1 hs2 (LL.tb (D0 := fun _ => False) (hl5.below hb5a)))
      have HSR := Lib.hid (Src.blk (size := rpStp.size) (blk11 w5 31 (stpV sf st A5 ss.length c5)) (by kernel_rfl) (by simp [Value.oneCell']))
      clear hl5 hb5 hb5a hb45 hov hvi hln v0 v1 v2
      go_wp2_with (at_builtin; refine wpList_app rfl (.tmp 13) (.tmp 16) _ rfl elemStp rfl HOV.out rfl HSR.out hk16 (by omega) (by simp; omega) ?_; intro A6 c6 w6 ho6 hg6 hat6
                   have HO6 := Lib.hid ho6
                   have HG6 := Lib.hid hg6
                   clear ho6 hg6 hat6)
      have hll6 := (show OS (w5.alloc (.cells (stpV sf st A5 ss.length c5) 31)) w.heap.size As k cs (l.take k) from ⟨vals, HOV.out, HLN.out, HVI.out⟩).push HOV.out HVI.out tss_stp (fun _ h => h.elim) HO6.out HG6.out HX5.out
      have hb6 := HB5.out
      have hkb6 := keepB (show Blk wr w.heap.size 25 _ from hkb.out) hb6
      have hkr6 := keepB (show Blk wr (w.heap.size + 1) 25 _ from hkr.out) hb6
      go_roundw
      case rel => exact ⟨k + 1, A6, c6, by omega, by go_num, rfl, by rw [HTK.out]; exact hll6, hkb6.grown HG6.out (Pen.ne hkb6 HOV.out (by decide)), hkr6.grown HG6.out (Pen.ne hkr6 HOV.out (by decide)), (stepB hbel.out hb6).grown HG6.out (stepB hbel.out hb6).size (fun j hj => (HOV.out.lt j hj).1)⟩
      case measure => simp [intOf]; omega
end
end Go.Proofs.Ytmdgmnaaopineaa
/- The walks of the reference's Right of a projection, and whether stripes are too many. -/
namespace Go.Proofs.Ytmdgmnaaopineaa
open Go.ChangeShapes Go.WideShapes Go.ChangeAt Go.RowKit
set_option linter.unusedVariables false
theorem startOf_pos {l : List Stp} {k : Nat} {s : Stp} (hk : 0 < k) (h : l[k - 1]? = some s) : startOf l k = s.2.1 := by
  obtain ⟨j, rfl⟩ : ∃ j, k = j + 1 := ⟨k - 1, by omega⟩
  exact startOf_succ h

set_option maxRecDepth 100000 in
set_option maxHeartbeats 4000000 in
theorem rpright_any {D : Dom} {A : Option Addr} {n c e : Nat} {l : List Stp} {w : World} (hs : rpStp.sl w D A n c l) (hD : ∀ k, D k → k < w.heap.size) (he : e ≤ 18446744073709551615) :
    Calls Try.prog 29 #[.agg (prjV e A n c)] w fun en w' => en = .returned (.bool (dec (POk (e, l)))) ∧ Below w.heap.size w w' := by
  obtain ⟨hlen, hnc, hcm⟩ := Rp.sl_len hs
  unfold maxLen at hcm
  subst hlen
  have hb0 : Below w.heap.size w (w.alloc (.cells (prjV e A l.length c) 25)) := (Below.refl _ _).alloc (Nat.le_refl _) _
  have HS := Lib.hid (Rp.sl_below hs hb0 hD)
  have HB0 := Lib.hid hb0
  have HD := Lib.hid (fun k hk => Nat.lt_of_lt_of_le (hD k hk) hb0.size)
  have HK := Lib.hid (Blk.new w 25 (prjV e A l.length c))
  clear hs hD hb0
  have her := fun w => reright_any e w he
  cases hq : dec (EOk e)
  · rw [hq] at her
    have HE := Lib.hid her
    rw [dec_false (fun h : POk (e, l) => of_not_dec hq h.1.1.1)]
    clear her hq
    go_enter Try.func29, Try.ntmps29
    go_wp2_with fail
    refine (HE.out _).mono ?_; rintro en w1 ⟨rfl, rfl⟩
    go_wp2_with fail
    go_ret
    exact ⟨rfl, HB0.out⟩
  rw [hq] at her
  have HE := Lib.hid her
  have HEO := Lib.hid (of_dec hq)
  clear her hq
  by_cases hpre : 1 ≤ l.length ∧ l.length ≤ 64
  case neg =>
    rw [dec_false (fun h : POk (e, l) => hpre h.1.1.2)]
    have hc : l.length < 1 ∨ (1 ≤ l.length ∧ 64 < l.length) := by omega
    clear hpre
    rcases hc with d1 | ⟨d1, d2⟩
    all_goals
      go_enter Try.func29, Try.ntmps29
      go_wp2_with fail
      refine (HE.out _).mono ?_; rintro en w1 ⟨rfl, rfl⟩
      go_wp2_with fail
      go_ret
      exact ⟨rfl, HB0.out⟩
  obtain ⟨d1, d2⟩ := hpre
  have v1 : decide ((l.length : Int) < 1) = false := by simp; omega
  have v2 : decide ((64 : Int) < (l.length : Int)) = false := by simp; omega
  have HP0 : Hid (PUpTo (e, l) 0) := ⟨⟨HEO.out, d1, d2⟩, fun i s h => by omega⟩
  obtain ⟨b0, off0, s0, A0, c0, rfl, hb0, hs0, g00, g01, g02, _, hs01, hs02⟩ := stps_at HS.out (show 0 < l.length by omega)
  rw [Nat.zero_mul, Nat.add_zero] at g00
  have HS0 := Lib.hid hs0
  clear hs0 g01 g02 hb0
  obtain ⟨f0, hf0⟩ : ∃ f0, f0 = s0.1 := ⟨_, rfl⟩
  rw [← hf0] at g00 hs01
  have HF0 := Lib.hid hf0
  clear hf0
  by_cases hz : f0 = 0
  case neg =>
    have hn : ((f0 : Int) != 0) = true := by simp; omega
    have hno := Lib.hid (show ¬ POk (e, l) from fun h => hz (by
      have := (h.1.2 0 s0 (List.getElem?_eq_some_iff.1 HS0.out).1 HS0.out).2
      rw [HF0.out]; exact this))
    rw [dec_false hno.out]
    clear hz
    go_enter Try.func29, Try.ntmps29
    go_wp2_with fail
    refine (HE.out _).mono ?_; rintro en w1 ⟨rfl, rfl⟩
    go_wp2_with fail
    go_ret
    exact ⟨rfl, HB0.out⟩
  subst hz
  obtain ⟨b1, off1, s1, A1, c1, hA1, hb1, hs1, g10, g11, g12, _, hs11, hs12⟩ := stps_at HS.out (show l.length - 1 < l.length by omega)
  injection hA1 with hA1
  injection hA1 with hA1 hA2
  subst hA1; subst hA2
  have HS1 := Lib.hid hs1
  clear hs1 g10 g12 hb1
  obtain ⟨t1, ht1⟩ : ∃ t1, t1 = s1.2.1 := ⟨_, rfl⟩
  rw [← ht1] at g11 hs12
  have HT1 := Lib.hid ht1
  have hn1 : ((l.length : Int) - 1).toNat = l.length - 1 := by omega
  have hn2 : ((l.length - 1 : Nat) : Int) = (l.length : Int) - 1 := by omega
  clear ht1
  by_cases hz : t1 = 4611686018427387904
  case neg =>
    have hn : ((t1 : Int) != 4611686018427387904) = true := by simp; omega
    have hno := Lib.hid (show ¬ POk (e, l) from fun h => hz (by
      have := h.2
      rw [startOf_pos (by exact d1) HS1.out] at this
      rw [HT1.out]; exact this))
    rw [dec_false hno.out]
    clear hz
    go_enter Try.func29, Try.ntmps29
    go_wp2_with fail
    refine (HE.out _).mono ?_; rintro en w1 ⟨rfl, rfl⟩
    go_wp2_with fail
    go_ret
    exact ⟨rfl, HB0.out⟩
  have hn : ((t1 : Int) != 4611686018427387904) = false := by simp; omega
  have HZ := Lib.hid hz
  clear hz
  go_enter Try.func29, Try.ntmps29
  go_wp2_with fail
  refine (HE.out _).mono ?_; rintro en w1 ⟨rfl, rfl⟩
  go_wp2_with fail
  clear g00 g11 hn1 hn2
  generalize World.alloc w _ = w0 at *
  have hz0 := HB0.out.size
  have hkl := (show Blk _ _ _ _ from HK.out).lt
  go_loopw [4] (fun i wr => ∃ (k : Nat), k ≤ l.length ∧ i = .int .i64 k ∧ Hid (PUpTo (e, l) k) ∧ Below w0.heap.size w0 wr) (fun i _ => l.length - (intOf i).toNat)
  case atStart => exact ⟨0, by omega, rfl, HP0, Below.refl _ _⟩
  case round =>
    obtain ⟨k, hk, rfl, hup, hbr⟩ := hrel
    have HBR := Lib.hid hbr
    have hzr := hbr.size
    by_cases hkn : k < l.length
    · obtain ⟨b, off, s, A2, c2, hA, hb, hsk, g0, g1, g2, hrow, hs1, hs2⟩ := stps_at (Rp.sl_below HS.out hbr HD.out) hkn
      injection hA with hA
      injection hA with hA hA2
      subst hA; subst hA2
      have hbl : b0 < wr.heap.size := Nat.lt_of_lt_of_le (HD.out _ hb) hzr
      have HSK := Lib.hid hsk
      have HR := Lib.hid hrow
      have hdk : decide ((k : Int) < (l.length : Int)) = true := by simp; omega
      obtain ⟨sf, hsf⟩ : ∃ sf, sf = s.1 := ⟨_, rfl⟩
      obtain ⟨st, hst2⟩ : ∃ st, st = s.2.1 := ⟨_, rfl⟩
      obtain ⟨sn, hsn⟩ : ∃ sn, sn = s.2.2.length := ⟨_, rfl⟩
      rw [← hsf] at g0 hs1
      rw [← hst2] at g1 hs2
      rw [← hsn] at g2
      have HSF := Lib.hid hsf
      have HST := Lib.hid hst2
      have HSN := Lib.hid hsn
      have gq0 : ∀ q : Gr wr.heap.size wr, q.val.cell? ⟨b0, off0 + k * 3, none⟩ = some (.int .u64 (sf : Int)) := fun q => (q.is.cell (p := ⟨b0, off0 + k * 3, none⟩) hbl).trans g0
      have gq1 : ∀ q : Gr wr.heap.size wr, q.val.cell? ⟨b0, off0 + k * 3 + 1, none⟩ = some (.int .u64 (st : Int)) := fun q => (q.is.cell (p := ⟨b0, off0 + k * 3 + 1, none⟩) hbl).trans g1
      have gq2 : ∀ q : Gr wr.heap.size wr, q.val.cell? ⟨b0, off0 + k * 3 + 2, none⟩ = some (.slice A2 sn c2) := fun q => (q.is.cell (p := ⟨b0, off0 + k * 3 + 2, none⟩) hbl).trans g2
      have hbk := HK.out.below hbr hkl
      have gqk : ∀ q : Gr wr.heap.size wr, q.val.cell? ⟨w.heap.size, 1, none⟩ = some (.slice (some ⟨b0, off0, none⟩) l.length c) := fun q => (Blk.below hbk q.is hbk.lt).cell 1
      have hrt : ∀ q : Gr wr.heap.size wr, _ := fun q => rright_any (f := s.1) (t := s.2.1) (Rp.sl_below HR.out q.is (fun k hk => Nat.lt_of_lt_of_le (HD.out k hk) hzr)) (fun k hk => Nat.lt_of_lt_of_le (Nat.lt_of_lt_of_le (HD.out k hk) hzr) q.is.size) (by rw [← HSF.out]; omega) (by rw [← HST.out]; omega)
      rw [← HSF.out, ← HST.out, ← HSN.out] at hrt
      have hk0 : (0 : Int) ≤ (k : Int) := by omega
      have hk1 : (k : Int) < (l.length : Int) := by omega
      clear hsk hrow hbr hsf hst2 hsn hbk g0 g1 g2
      cases hq : dec (SOk (sf, st, s.2.2))
      · rw [hq] at hrt
        have HRT := Lib.hid hrt
        have hno := Lib.hid (show ¬ POk (e, l) from fun h => of_not_dec hq (by
          have := (h.1.2 k s (List.getElem?_eq_some_iff.1 HSK.out).1 HSK.out).1
          rw [HSF.out, HST.out]; exact this))
        clear hrt hq
        go_wp2_with fail
        refine wp_region_grow (by kernel_rfl) (by kernel_rfl) wr.heap.size ?_
        repeat (first | go_big_quiet_step (((go_at_call 46; exact Gr.call _ (Nat.le_refl _) (HRT.out _)))) | quiet_step (((go_at_call 46; exact Gr.call _ (Nat.le_refl _) (HRT.out _)))))
        refine wpQuiet_nil ?_
        rintro w3 ⟨⟨_, hb3⟩, rfl⟩
        clear gq0 gq1 gq2 gqk
        go_wp2_with fail
        go_ret
        rw [dec_false hno.out]
        exact ⟨rfl, HB0.out.trans ((HBR.out.trans (hb3.mono hzr)).mono hz0)⟩
      · rw [hq] at hrt
        have HRT := Lib.hid hrt
        have HOK := Lib.hid (of_dec hq)
        clear hrt hq
        by_cases hkz : k = 0
        · have hd0 : decide (0 < k) = false := by simp; omega
          have hd1 : decide ((0 : Int) < (k : Int)) = false := by simp; omega
          have HKZ := Lib.hid hkz
          clear hkz
          go_wp2_with fail
          refine wp_region_grow (by kernel_rfl) (by kernel_rfl) wr.heap.size ?_
          repeat (first | go_big_quiet_step (((go_at_call 46; exact Gr.call _ (Nat.le_refl _) (HRT.out _)))) | quiet_step (((go_at_call 46; exact Gr.call _ (Nat.le_refl _) (HRT.out _)))))
          refine wpQuiet_nil ?_
          rintro w3 ⟨⟨_, hb3⟩, rfl⟩
          clear gq0 gq1 gq2 gqk
          go_wp2_with fail
          go_roundw
          case rel =>
            refine ⟨k + 1, by omega, by go_num, (pUpTo_succ HSK.out).2 ⟨hup.out, ?_, ?_⟩, HBR.out.trans (hb3.mono hzr)⟩
            · have := HOK.out
              rw [HSF.out, HST.out] at this
              exact this
            · have h0 := HS0.out
              rw [← HKZ.out, HSK.out] at h0
              injection h0 with h0
              rw [h0, HKZ.out, ← HF0.out]; rfl
          case measure => simp [intOf]; omega
        · have hd0 : decide (0 < k) = true := by simp; omega
          have hd1 : decide ((0 : Int) < (k : Int)) = true := by simp; omega
          obtain ⟨b9, off9, s9, A9, c9, hA9, hb9, hs9, g90, g91, g92, _, hs91, hs92⟩ := stps_at (Rp.sl_below HS.out HBR.out HD.out) (show k - 1 < l.length by omega)
          injection hA9 with hA9
          injection hA9 with hA9 hA99
          subst hA9; subst hA99
          obtain ⟨t9, ht9⟩ : ∃ t9, t9 = s9.2.1 := ⟨_, rfl⟩
          rw [← ht9] at g91 hs92
          have HT9 := Lib.hid ht9
          have HS9 := Lib.hid hs9
          have gq9 : ∀ q : Gr wr.heap.size wr, q.val.cell? ⟨b0, off0 + (k - 1) * 3 + 1, none⟩ = some (.int .u64 (t9 : Int)) := fun q => (q.is.cell (p := ⟨b0, off0 + (k - 1) * 3 + 1, none⟩) hbl).trans g91
          have m1 : IntKind.i64.wrap ((k : Int) - 1) = (k : Int) - 1 := IntWalk.i64_in _ (by omega)
          have m2 : (0 : Int) ≤ (k : Int) - 1 := by omega
          have m3 : (k : Int) - 1 < (l.length : Int) := by omega
          have m4 : ((k : Int) - 1).toNat = k - 1 := by omega
          have HKZ := Lib.hid (show 0 < k by omega)
          clear hkz ht9 hs9 g90 g91 g92
          by_cases hne : sf = t9
          · have hdn : ((sf : Int) != (t9 : Int)) = false := by simp; omega
            have HNE := Lib.hid hne
            clear hne
            go_wp2_with fail
            refine wp_region_grow (by kernel_rfl) (by kernel_rfl) wr.heap.size ?_
            repeat (first | go_big_quiet_step (((go_at_call 46; exact Gr.call _ (Nat.le_refl _) (HRT.out _)))) | quiet_step (((go_at_call 46; exact Gr.call _ (Nat.le_refl _) (HRT.out _)))))
            refine wpQuiet_nil ?_
            rintro w3 ⟨⟨_, hb3⟩, rfl⟩
            clear gq0 gq1 gq2 gqk gq9 m1 m4
            go_wp2_with fail
            go_roundw
            case rel =>
              refine ⟨k + 1, by omega, by go_num, (pUpTo_succ HSK.out).2 ⟨hup.out, ?_, ?_⟩, HBR.out.trans (hb3.mono hzr)⟩
              · have := HOK.out
                rw [HSF.out, HST.out] at this
                exact this
              · show s.1 = startOf l k
                rw [← HSF.out, startOf_pos HKZ.out HS9.out, HNE.out, HT9.out]
            case measure => simp [intOf]; omega
          · have hdn : ((sf : Int) != (t9 : Int)) = true := by simp; omega
            have hno := Lib.hid (show ¬ POk (e, l) from fun h => hne (by
              have := (h.1.2 k s (List.getElem?_eq_some_iff.1 HSK.out).1 HSK.out).2
              rw [startOf_pos HKZ.out HS9.out] at this
              rw [HSF.out, HT9.out]; exact this))
            clear hne
            go_wp2_with fail
            refine wp_region_grow (by kernel_rfl) (by kernel_rfl) wr.heap.size ?_
            repeat (first | go_big_quiet_step (((go_at_call 46; exact Gr.call _ (Nat.le_refl _) (HRT.out _)))) | quiet_step (((go_at_call 46; exact Gr.call _ (Nat.le_refl _) (HRT.out _)))))
            refine wpQuiet_nil ?_
            rintro w3 ⟨⟨_, hb3⟩, rfl⟩
            clear gq0 gq1 gq2 gqk gq9 m1 m4
            go_wp2_with fail
            go_ret
            rw [dec_false hno.out]
            exact ⟨rfl, HB0.out.trans ((HBR.out.trans (hb3.mono hzr)).mono hz0)⟩
    · obtain rfl : k = l.length := by omega
      have hdk : decide ((l.length : Int) < (l.length : Int)) = false := by simp
      clear hbr
      have hyes := Lib.hid (show POk (e, l) from ⟨hup.out, by
        show startOf l l.length = _
        rw [startOf_pos (by omega) HS1.out, ← HT1.out]; exact HZ.out⟩)
      go_wp2_with fail
      go_ret
      rw [dec_true hyes.out]
      exact ⟨rfl, HB0.out.trans (HBR.out.mono hz0)⟩

def AnyBool (w : World) (e : Ending) (w' : World) : Prop := ∃ b : Bool, e = .returned (.bool b) ∧ Below w.heap.size w w'
theorem plong_any {D : Dom} {A : Option Addr} {n c e : Nat} {l : List Stp} {w : World} (hs : rpStp.sl w D A n c l) (hD : ∀ k, D k → k < w.heap.size) :
    Calls Try.prog 16 #[.agg (prjV e A n c)] w (AnyBool w) := by
  obtain ⟨hlen, hnc, hcm⟩ := Rp.sl_len hs
  unfold maxLen at hcm
  subst hlen
  have hb0 : Below w.heap.size w (w.alloc (.cells (prjV e A l.length c) 25)) := (Below.refl _ _).alloc (Nat.le_refl _) _
  have HS := Lib.hid (Rp.sl_below hs hb0 hD)
  have HB0 := Lib.hid hb0
  have HD := Lib.hid (fun k hk => Nat.lt_of_lt_of_le (hD k hk) hb0.size)
  have HK := Lib.hid (Blk.new w 25 (prjV e A l.length c))
  clear hs hD hb0
  go_enter Try.func16, Try.ntmps16
  go_wp2_with fail
  generalize World.alloc w _ = w0 at *
  have hz0 := HB0.out.size
  have hkl := (show Blk _ _ _ _ from HK.out).lt
  go_loopw [3] (fun i wr => ∃ k : Nat, k ≤ l.length ∧ k ≤ 70 ∧ i = .int .i64 k ∧ Below w0.heap.size w0 wr) (fun i _ => l.length - (intOf i).toNat)
  case atStart => exact ⟨0, by omega, by omega, rfl, Below.refl _ _⟩
  case round =>
    obtain ⟨k, hk, hk70, rfl, hbr⟩ := hrel
    have HBR := Lib.hid hbr
    have hzr := hbr.size
    have hbk := HK.out.below hbr hkl
    have gk : wr.cell? ⟨w.heap.size, 1, none⟩ = some (.slice A l.length c) := hbk.cell 1
    clear hbk
    by_cases hin : k < l.length ∧ k < 70
    · obtain ⟨h1, h2⟩ := hin
      obtain ⟨b, off, s, A2, c2, rfl, hb, hsk, g0, g1, g2, hrow, hs1, hs2⟩ := stps_at (Rp.sl_below HS.out hbr HD.out) h1
      have HR := Lib.hid hrow
      have hd1 : decide ((k : Int) < (l.length : Int)) = true := by simp; omega
      have hd2 : decide ((k : Int) < 70) = true := by simp; omega
      clear hrow hsk hbr
      go_wp2_with fail
      refine (long_any HR.out (fun k hk => Nat.lt_of_lt_of_le (HD.out k hk) hzr)).mono ?_; rintro en w1 ⟨bb, rfl, _, hb1⟩
      clear g0 g1 g2 gk
      cases bb
      · go_wp2_with fail
        go_roundw
        case rel => exact ⟨k + 1, by omega, by omega, by go_num, HBR.out.trans (hb1.mono hzr)⟩
        case measure => simp [intOf]; omega
      · go_wp2_with fail
        go_ret
        exact ⟨true, rfl, HB0.out.trans ((HBR.out.trans (hb1.mono hzr)).mono hz0)⟩
    · have hc : k = l.length ∨ (k < l.length ∧ k = 70) := by omega
      clear hin hbr
      rcases hc with rfl | ⟨h1, rfl⟩
      · have hd1 : decide ((l.length : Int) < (l.length : Int)) = false := by simp
        go_wp2_with fail
        go_ret
        exact ⟨_, rfl, HB0.out.trans (HBR.out.mono hz0)⟩
      · have hd1 : decide ((70 : Int) < (l.length : Int)) = true := by simp; omega
        go_wp2_with fail
        go_ret
        exact ⟨_, rfl, HB0.out.trans (HBR.out.mono hz0)⟩
end Go.Proofs.Ytmdgmnaaopineaa
/- ref20.copied and ref20.ends. -/
namespace Go.Proofs.Ytmdgmnaaopineaa
open Go.ChangeShapes Go.WideShapes Go.ChangeAt Go.RowKit
set_option linter.unusedVariables false
theorem LL.mono {w : World} {base base' n c : Nat} {A : Option Addr} {sets : List (List Nat)} (h : LL w base A n c sets) (hb : base' ≤ base) : LL w base' A n c sets := by
  obtain ⟨vals, ho, hn, hi⟩ := h
  refine ⟨vals, own_mono ho hb, hn, fun i x hx => ?_⟩
  obtain ⟨⟨A', c', hv, hw⟩, h64⟩ := hi i x hx
  exact ⟨⟨A', c', hv, own_mono hw hb⟩, h64⟩
section
variable {D : Dom} {A : Option Addr} {n c e e2 : Nat} {l : List Stp} {w : World}
set_option maxRecDepth 100000 in
set_option maxHeartbeats 4000000 in
theorem rcopied_any (hs : rpStp.sl w D A n c l) (hD : ∀ k, D k → k < w.heap.size) (hn : n ≤ 1000) (hl : ∀ s ∈ l, s.2.2.length ≤ 1000 ∧ ∀ (j : Nat) x, s.2.2[j]? = some x → x.length ≤ 1000) (he : e2 = e + 1) (he2 : e2 ≤ 18446744073709551615) :
    Calls Try.prog 88 #[.agg (prjV e A n c)] w fun en w' => ∃ A2 c2, en = .returned (.agg (prjV e2 A2 n c2)) ∧ OS w' w.heap.size A2 n c2 l ∧ Below w.heap.size w w' := by
  have H : Hid ((Try.prog.info? 25).map (·.size) = some 2) := by unfold Hid; kernel_rfl
  have hlen := (Rp.sl_len hs).1
  have HZ := Lib.hid (below3 w (.cells (prjV e A n c) 25) (.cells (prjV 0 none 0 0) 25) (.cells (prjV e2 none 0 0) 25))
  have HK := Lib.hid ((blk21 w 25 25 (prjV e A n c) (prjV 0 none 0 0)).alloc (.cells (prjV e2 none 0 0) 25))
  have HR := Lib.hid ((blk22 w 25 25 (prjV e A n c) (prjV 0 none 0 0)).alloc (.cells (prjV e2 none 0 0) 25))
  have HO : Hid (Blk (((w.alloc (.cells (prjV e A n c) 25)).alloc (.cells (prjV 0 none 0 0) 25)).alloc (.cells (prjV e2 none 0 0) 25)) (w.heap.size + 1 + 1) 25 (prjV e2 none 0 0)) := Blk.newAt (by rw [size_alloc, size_alloc]) _ _
  have HS := Lib.hid (show Sl rpStp w D A n c l from ⟨hs, hD⟩)
  have HN := Lib.hid hlen
  have HLE := Lib.hid hl
  have s0 : IntKind.u64.wrap ((e : Int) + 1) = (e2 : Int) := by rw [IntWalk.u64_in _ (by omega)]; omega
  clear hs hD hlen hl he
  go_enter Try.func88, Try.ntmps88
  go_wp2_with fail
  generalize World.alloc (World.alloc (World.alloc w _) _) _ = w0 at *
  go_loopw [4] (fun i wr => ∃ (k : Nat) (As : Option Addr) (cs : Nat), k ≤ n ∧ i = .int .i64 k ∧ Hid (OS wr w.heap.size As k cs (l.take k)) ∧ Hid (Blk wr w.heap.size 25 (prjV e A n c)) ∧ Hid (Blk wr (w.heap.size + 1) 25 (prjV 0 none 0 0)) ∧ Hid (Blk wr (w.heap.size + 1 + 1) 25 (prjV e2 As k cs)) ∧ Hid (Below w.heap.size w wr)) (fun i _ => n - (intOf i).toNat)
  case atStart => exact ⟨0, none, 0, by omega, rfl, OL.nil _ _ _ _ _ _, HK.out, HR.out, HO.out, HZ.out⟩
  case round =>
    clear HK HR HZ HO
    obtain ⟨k, As, cs, hk, rfl, hll, hkb, hkr, hko, hbel⟩ := hrel
    obtain ⟨wo, hwo⟩ : ∃ wo, wo = wr := ⟨_, rfl⟩
    subst hwo
    have hzr := hbel.out.size
    have hlto := (show Blk wo (w.heap.size + 1 + 1) 25 _ from hko.out).lt
    by_cases hkn : k < n
    case neg =>
      obtain rfl : k = n := by omega
      have hd : decide ((k : Int) < (k : Int)) = false := by simp
      have k1 := (show Blk wo w.heap.size 25 _ from hkb.out).cell 1
      have o0 := (show Blk wo (w.heap.size + 1 + 1) 25 _ from hko.out).cell 0
      have o1 := (show Blk wo (w.heap.size + 1 + 1) 25 _ from hko.out).cell 1
      have HE : Hid (l.take k = l) := List.take_of_length_le (by rw [HN.out]; exact Nat.le_refl _)
      go_wp2_with (refine wpList_put_row rfl 25 (.tmp 2) (.tmp 66) rfl (w.heap.size + 1) (prjV e2 As k cs) rfl rfl 25 _ (show Blk _ _ _ _ from hkr.out) H.out rfl (by simp [Value.oneCell']) ?_; intro w9 hblk hgr)
      have hl9 := (show OS wo w.heap.size As k cs (l.take k) from hll.out).grown (show Blk _ _ _ _ from hkr.out) id tss_prj (by decide) hgr
      rw [HE.out] at hl9
      exact bodyPost_ret (results_cell_row rfl _ _ (w.heap.size + 1) 25 _ (0, 0) _ rfl hblk Try.underlying25 rfl H.out) rfl ⟨As, cs, rfl, hl9, hbel.out.grown hgr hbel.out.size (fun j hj => by injection hj with hj; omega)⟩
    case pos =>
      have hd : decide ((k : Int) < (n : Int)) = true := by simp; omega
      have hkI : (0 : Int) ≤ (k : Int) := by omega
      have hkI2 : (k : Int) < (n : Int) := by omega
      have hsr := keepS HS.out hbel.out
      obtain ⟨bo, off, s, A3, c3, rfl, hbD, hx, g0, g1, g2, hrow, hs1, hs2⟩ := stps_at hsr.1 hkn
      have hbo := hsr.2 _ hbD
      obtain ⟨sf, hsf⟩ : ∃ sf, sf = s.1 := ⟨_, rfl⟩
      obtain ⟨st, hst⟩ : ∃ st, st = s.2.1 := ⟨_, rfl⟩
      obtain ⟨ss, hss⟩ : ∃ ss, ss = s.2.2 := ⟨_, rfl⟩
      have es : s = (sf, st, ss) := by rw [hsf, hst, hss]
      rw [← hsf] at g0 hs1
      rw [← hst] at g1 hs2
      rw [← hss] at g2 hrow
      subst es
      obtain ⟨sn, hsn⟩ : ∃ sn, sn = ss.length := ⟨_, rfl⟩
      rw [← hsn] at g2 hrow
      have HSN := Lib.hid hsn
      have hle := HLE.out _ (List.mem_of_getElem? hx)
      have hsn1 : sn ≤ 1000 := by rw [hsn]; exact hle.1
      have HLS := Lib.hid hle.2
      have HRW := Lib.hid (show Sl (rpSlice rpU64) wo _ A3 sn c3 ss from ⟨hrow, hsr.2⟩)
      have HTK : Hid (l.take (k + 1) = l.take k ++ [(sf, st, ss)]) := by
        show l.take (k + 1) = l.take k ++ [(sf, st, ss)]
        rw [List.take_add_one, hx]; rfl
      have hk16 : k + 1 ≤ maxLen := by unfold maxLen; omega
      have k1 := (show Blk wo w.heap.size 25 _ from hkb.out).cell 1
      have G2 := Lib.hid g2
      clear hx hle hrow hsr hsf hst hss hsn
      go_wp2_with fail
      go_region_held3 (fun w' => w'.cell? ⟨w.heap.size, 1, none⟩ = some (.slice (some ⟨bo, off, none⟩) n c) ∧ w'.cell? ⟨bo, off + k * 3, none⟩ = some (.int .u64 (sf : Int)) ∧ w'.cell? ⟨bo, off + k * 3 + 1, none⟩ = some (.int .u64 (st : Int)) ∧ w'.cell? ⟨bo, off + k * 3 + 2, none⟩ = some (.slice A3 sn c3)) (go_keep) (fail)
      go_wp2_with fail
      have HG1 : Hid (Blk (wo.alloc (.cells (stpV sf st none 0 0) 31)).drew wo.heap.size 31 (stpV sf st none 0 0)) := blk11 _ _ _
      have HB1 : Hid (Below wo.heap.size wo (wo.alloc (.cells (stpV sf st none 0 0) 31)).drew) := (below1 wo _).drew
      generalize World.drew (World.alloc wo _) = w1 at *
      clear g0 g1 g2 k1
      go_loopw [6] (fun i wr => ∃ (j : Nat) (Ai : Option Addr) (ci : Nat), j ≤ sn ∧ i = .int .i64 j ∧ Hid (Blk wr wo.heap.size 31 (stpV sf st Ai j ci)) ∧ Hid (LL wr wo.heap.size Ai j ci (ss.take j)) ∧ Hid (Below wo.heap.size wo wr)) (fun i _ => sn - (intOf i).toNat)
      case atStart => exact ⟨0, none, 0, by omega, rfl, HG1.out, LL.nil _ _, HB1.out⟩
      case round =>
        clear HG1 HB1
        obtain ⟨j, Ai, ci, hj, rfl, hsb, hli, hbi⟩ := hrel
        have hzi := hbi.out.size
        have hlts := (show Blk wr wo.heap.size 31 _ from hsb.out).lt
        have hkbi := keepB (show Blk wo w.heap.size 25 _ from hkb.out) hbi.out
        have k1 := hkbi.cell 1
        have g2 := (hbi.out.cell (p := ⟨bo, off + k * 3 + 2, none⟩) hbo).trans G2.out
        by_cases hjn : j < sn
        case neg =>
          obtain rfl : j = sn := by omega
          have hdj : decide ((j : Int) < (j : Int)) = false := by simp
          have HTS : Hid (ss.take j = ss) := List.take_of_length_le (by rw [HSN.out]; exact Nat.le_refl _)
          have hkoi := keepB (show Blk wo (w.heap.size + 1 + 1) 25 _ from hko.out) hbi.out
          have o1 := hkoi.cell 1
          have v0 := (show Blk wr wo.heap.size 31 _ from hsb.out).cell 0
          have v1 := (show Blk wr wo.heap.size 31 _ from hsb.out).cell 1
          have v2 := (show Blk wr wo.heap.size 31 _ from hsb.out).cell 2
          have hba := below1 wr (.cells (stpV sf st Ai j ci) 31)
          have hbw := stepB hbi.out hba
          have HBW := Lib.hid hbw
          obtain ⟨vals, hov, hln, hvi⟩ := (show OS wo w.heap.size As k cs (l.take k) from hll.out).below hbw
          have HOV := Lib.hid hov
          have HVI := Lib.hid hvi
          have HLN := Lib.hid hln
          have hlit := (show LL wr wo.heap.size Ai j ci (ss.take j) from hli.out).below hba
          rw [HTS.out] at hlit
          have HX5 := Lib.hid (stp_ok hs1 hs2 (LL.tb (D0 := fun _ => False) hlit))
          have HSR := Lib.hid (Src.blk (size := rpStp.size) (blk11 wr 31 (stpV sf st Ai j ci)) (by kernel_rfl) (by simp [Value.oneCell']))
          have HKO7 := Lib.hid (keepB hkoi hba)
          clear hba hbw hov hvi hln hlit hkoi hkbi
          go_wp2_with (at_builtin; refine wpList_app rfl (.tmp 61) (.tmp 63) _ rfl elemStp rfl HOV.out rfl HSR.out hk16 (by omega) (by simp; omega) ?_; intro A6 c6 w6 ho6 hg6 hat6
                       have HO6 := Lib.hid ho6
                       have HG6 := Lib.hid hg6
                       have hko6 := (show Blk (wr.alloc (.cells (stpV sf st Ai j ci) 31)) (w.heap.size + 1 + 1) 25 _ from HKO7.out).grown hg6 (Pen.ne (show Blk _ _ _ _ from HKO7.out) HOV.out (by decide))
                       have HKO6 := Lib.hid hko6
                       have q1 := hko6.cell 1
                       have q1f := hko6.frozen 1
                       clear ho6 hg6 hat6 hko6)
          have hll6 := (show OS (wr.alloc (.cells (stpV sf st Ai j ci) 31)) w.heap.size As k cs (l.take k) from ⟨vals, HOV.out, HLN.out, HVI.out⟩).push HOV.out HVI.out tss_stp (fun _ h => h.elim) HO6.out HG6.out HX5.out
          have hll7 := hll6.put (show Blk w6 (w.heap.size + 1 + 1) 25 _ from HKO6.out) id tss_prj (by decide) (a := ⟨w.heap.size + 1 + 1, 1, none⟩) rfl (.slice A6 (k + 1) c6)
          have hkb6 := (keepB (show Blk wo w.heap.size 25 _ from hkb.out) HBW.out).grown HG6.out (Pen.ne (keepB (show Blk wo w.heap.size 25 _ from hkb.out) HBW.out) HOV.out (by decide))
          have hkr6 := (keepB (show Blk wo (w.heap.size + 1) 25 _ from hkr.out) HBW.out).grown HG6.out (Pen.ne (keepB (show Blk wo (w.heap.size + 1) 25 _ from hkr.out) HBW.out) HOV.out (by decide))
          have hb6 := (stepB hbel.out HBW.out).grown HG6.out (stepB hbel.out HBW.out).size (fun j hj => (HOV.out.lt j hj).1)
          go_roundw
          case rel => exact ⟨k + 1, A6, c6, by omega, by go_num, by rw [HTK.out]; exact hll7, hkb6.far (by dsimp only; omega) _, hkr6.far (by dsimp only; omega) _, (show Blk w6 (w.heap.size + 1 + 1) 25 _ from HKO6.out).put 1 _, hb6.setCell (by dsimp only; omega) _⟩
          case measure => simp [intOf]; omega
        case pos =>
          have hdj : decide ((j : Int) < (sn : Int)) = true := by simp; omega
          have hjI : (0 : Int) ≤ (j : Int) := by omega
          have hjI2 : (j : Int) < (sn : Int) := by omega
          have hsr := keepS HRW.out hbi.out
          obtain ⟨b2, off2, x, A4, c4, rfl, hbD2, hx, hcell, hrow⟩ := rows_at hsr.1 hjn
          have hx1 := HLS.out j x hx
          obtain ⟨xn, hxn⟩ : ∃ xn, xn = x.length := ⟨_, rfl⟩
          rw [← hxn] at hcell hrow hx1
          have HXN := Lib.hid hxn
          have HSR := Lib.hid (Src.u64 hrow)
          have HLT := Lib.hid (u64_lt hrow)
          have HTS : Hid (ss.take (j + 1) = ss.take j ++ [x]) := by
            show ss.take (j + 1) = ss.take j ++ [x]
            rw [List.take_add_one, hx]; rfl
          have hmx : 0 + xn ≤ maxLen := by unfold maxLen; omega
          have hj16 : j + 1 ≤ maxLen := by unfold maxLen; omega
          have HNIL := Lib.hid (World.ownsRow_nil wr wo.heap.size 22 1)
          clear hx hrow hsr hxn hkbi
          go_wp2_with (first
            | (at_builtin; refine wpList_app rfl (.tmp 43) (.tmp 52) _ rfl elem64 rfl HNIL.out rfl HSR.out hmx (by omega) (by omega) ?_; intro A5 c5 w5 ho5 hg5 hat5
               have hb5 : Below wr.heap.size wr w5 := (Below.refl _ _).grown hg5 (Nat.le_refl _) (fun j hj => by cases hj)
               have HB5 := Lib.hid hb5
               have ho5' : w5.ownsRow wo.heap.size 22 1 (.slice A5 xn c5) xn (x.map uv) := by
                 have := ho5
                 rw [List.nil_append] at this
                 simpa using this
               have hb5a := below1 w5 (.cells #[.slice A5 xn c5] 46)
               have hsb5 := keepB (show Blk wr wo.heap.size 31 _ from hsb.out) hb5
               have q2 := hsb5.cell 2
               have HO5 := Lib.hid (keepO ho5' hb5a)
               obtain ⟨vals, hov, hln, hvi⟩ := ((show LL wr wo.heap.size Ai j ci (ss.take j) from hli.out).below hb5).below hb5a
               have HOV := Lib.hid hov
               have HVI := Lib.hid hvi
               have HLN := Lib.hid hln
               have HSB5 := Lib.hid (keepB hsb5 hb5a)
               have hz5 := hb5.size
               clear ho5 hg5 hat5 hb5 ho5' hov hvi hln hb5a hsb5)
            | (at_builtin; refine wpList_app rfl (.tmp 55) (.tmp 57) _ rfl elemSets rfl HOV.out rfl (Src.new w5 (.slice A5 xn c5) _ rfl) hj16 (by omega) (by simp; omega) ?_; intro A6 c6 w6 ho6 hg6 hat6
               have HO6 := Lib.hid ho6
               have HG6 := Lib.hid hg6
               have hsb6 := (show Blk (w5.alloc (.cells #[.slice A5 xn c5] 46)) wo.heap.size 31 _ from HSB5.out).grown hg6 (Pen.ne' (show Blk _ _ _ _ from HSB5.out) HOV.out (by decide))
               have HSB6 := Lib.hid hsb6
               have q3 := hsb6.cell 2
               have q3f := hsb6.frozen 2
               clear ho6 hg6 hat6 hsb6))
          have ho6 := HO6.out
          have ho5 := HO5.out
          rw [HXN.out] at ho5
          rw [show Value.slice A5 xn c5 = Value.slice A5 x.length c5 by rw [HXN.out]] at ho6
          have hov6 := HOV.out
          have hg6 := HG6.out
          have hl6 := (show LL (w5.alloc (.cells #[.slice A5 xn c5] 46)) wo.heap.size Ai j ci (ss.take j) from ⟨vals, HOV.out, HLN.out, HVI.out⟩).push HOV.out HVI.out ho6 HG6.out (by rw [← HXN.out] at ho5 ⊢; exact ho5) HLT.out
          have hl7 := hl6.put (show Blk w6 wo.heap.size 31 _ from HSB6.out) (by decide) (by decide) (a := ⟨wo.heap.size, 2, none⟩) rfl (.slice A6 (j + 1) c6)
          have hb6 := (stepB (stepB hbi.out HB5.out) (below1 w5 (.cells #[.slice A5 xn c5] 46))).grown HG6.out (stepB (stepB hbi.out HB5.out) (below1 w5 _)).size (fun j hj => (HOV.out.lt j hj).1)
          go_roundw
          case rel => exact ⟨j + 1, A6, c6, by omega, by go_num, (show Blk w6 wo.heap.size 31 _ from HSB6.out).put 2 _, by rw [HTS.out]; exact hl7, hb6.setCell (by dsimp only; omega) _⟩
          case measure => simp [intOf]; omega
end
section
variable {D : Dom} {A : Option Addr} {n c e : Nat} {l : List Stp} {w : World}
set_option maxRecDepth 100000 in
theorem rends_ok (hs : rpStp.sl w D A n c l) (hD : ∀ k, D k → k < w.heap.size) (hok : POk (e, l)) :
    Calls Try.prog 89 #[.agg (prjV e A n c)] w fun en w' => en = .returned (.tuple #[.agg (prjV e A n c), .int .i64 0]) ∧ Below w.heap.size w w' := by
  have H : Hid ((Try.prog.info? 25).map (·.size) = some 2) := by unfold Hid; kernel_rfl
  have hb0 := below2 w (.cells (prjV e A n c) 25) (.cells (prjV 0 none 0 0) 25)
  have HZ := Lib.hid hb0
  have HK := Lib.hid (blk21 w 25 25 (prjV e A n c) (prjV 0 none 0 0))
  have HR := Lib.hid (blk22 w 25 25 (prjV e A n c) (prjV 0 none 0 0))
  have he64 : e ≤ 18446744073709551615 := by have := hok.1.1.1.2; simp only at this; omega
  have her := fun w => reright_any e w he64
  rw [dec_true hok.1.1.1] at her
  have HE := Lib.hid her
  have hr := rpright_any (Rp.sl_below hs hb0 hD) (fun k hk => Nat.lt_of_lt_of_le (hD k hk) hb0.size) he64
  rw [dec_true hok] at hr
  have HRT := Lib.hid hr
  clear hs hD hb0 her hr hok
  go_enter Try.func89, Try.ntmps89
  go_wp2_with fail
  generalize World.alloc (World.alloc w _) _ = w0 at *
  have k0 := (show Blk w0 w.heap.size 25 _ from HK.out).cell 0
  have k1 := (show Blk w0 w.heap.size 25 _ from HK.out).cell 1
  go_wp2_with fail
  refine (HE.out _).mono ?_; rintro en w1 ⟨rfl, rfl⟩
  go_wp2_with fail
  refine HRT.out.mono ?_; rintro en w1 ⟨rfl, hb1⟩
  have HB1 := Lib.hid (stepB HZ.out hb1)
  have HR1 := Lib.hid (keepB (show Blk w0 (w.heap.size + 1) 25 _ from HR.out) hb1)
  have hk1 := keepB (show Blk w0 w.heap.size 25 _ from HK.out) hb1
  clear k0 k1
  have k0 := hk1.cell 0
  have k1 := hk1.cell 1
  clear hb1 hk1
  go_wp2_with (refine wpList_put_row rfl 25 (.tmp 2) (.tmp 13) rfl (w.heap.size + 1) _ rfl rfl 25 _ (show Blk _ _ _ _ from HR1.out) H.out rfl (by simp [Value.oneCell']) ?_; intro w5 hblk hgr)
  have hbz : Below w.heap.size w w5 := HB1.out.grown hgr HB1.out.size (fun k hk => by injection hk with hk; omega)
  have f0 := hblk.cell 0
  have f1 := hblk.cell 1
  exact bodyPost_ret (v := .tuple #[.agg (prjV e A n c), .int .i64 0]) (by simp [results, Try.results89, go_sem, f0, f1]) rfl ⟨rfl, hbz⟩
set_option maxRecDepth 100000 in
theorem rends_bad (cd : Int) (hs : rpStp.sl w D A n c l) (hD : ∀ k, D k → k < w.heap.size) (he64 : e ≤ 18446744073709551615) (hno : (¬ EOk e ∧ cd = 18) ∨ (EOk e ∧ ¬ POk (e, l) ∧ cd = 3)) :
    Calls Try.prog 89 #[.agg (prjV e A n c)] w fun en w' => en = .returned (.tuple #[.agg (prjV 0 none 0 0), .int .i64 cd]) ∧ Below w.heap.size w w' := by
  have H : Hid ((Try.prog.info? 25).map (·.size) = some 2) := by unfold Hid; kernel_rfl
  have hb0 := below2 w (.cells (prjV e A n c) 25) (.cells (prjV 0 none 0 0) 25)
  have HZ := Lib.hid hb0
  have HK := Lib.hid (blk21 w 25 25 (prjV e A n c) (prjV 0 none 0 0))
  have HR := Lib.hid (blk22 w 25 25 (prjV e A n c) (prjV 0 none 0 0))
  have her := fun w => reright_any e w he64
  have hr := rpright_any (Rp.sl_below hs hb0 hD) (fun k hk => Nat.lt_of_lt_of_le (hD k hk) hb0.size) he64
  clear hs hD hb0
  rcases hno with ⟨h1, rfl⟩ | ⟨h1, h2, rfl⟩
  · rw [dec_false h1] at her
    have HE := Lib.hid her
    clear her hr h1
    go_enter Try.func89, Try.ntmps89
    go_wp2_with fail
    generalize World.alloc (World.alloc w _) _ = w0 at *
    have k0 := (show Blk w0 w.heap.size 25 _ from HK.out).cell 0
    go_wp2_with fail
    refine (HE.out _).mono ?_; rintro en w1 ⟨rfl, rfl⟩
    go_wp2_with (refine wpList_put_row rfl 25 (.tmp 2) (.tmp 8) rfl (w.heap.size + 1) _ rfl rfl 25 _ (show Blk _ _ _ _ from HR.out) H.out rfl (by simp [Value.oneCell']) ?_; intro w5 hblk hgr)
    have hbz : Below w.heap.size w w5 := HZ.out.grown hgr HZ.out.size (fun k hk => by injection hk with hk; omega)
    have f0 := hblk.cell 0
    have f1 := hblk.cell 1
    exact bodyPost_ret (v := .tuple #[.agg (prjV 0 none 0 0), .int .i64 18]) (by simp [results, Try.results89, go_sem, f0, f1]) rfl ⟨rfl, hbz⟩
  · rw [dec_true h1] at her
    have HE := Lib.hid her
    rw [dec_false h2] at hr
    have HRT := Lib.hid hr
    clear her hr h1 h2
    go_enter Try.func89, Try.ntmps89
    go_wp2_with fail
    generalize World.alloc (World.alloc w _) _ = w0 at *
    have k0 := (show Blk w0 w.heap.size 25 _ from HK.out).cell 0
    have k1 := (show Blk w0 w.heap.size 25 _ from HK.out).cell 1
    go_wp2_with fail
    refine (HE.out _).mono ?_; rintro en w1 ⟨rfl, rfl⟩
    go_wp2_with fail
    refine HRT.out.mono ?_; rintro en w1 ⟨rfl, hb1⟩
    have HB1 := Lib.hid (stepB HZ.out hb1)
    have HR1 := Lib.hid (keepB (show Blk w0 (w.heap.size + 1) 25 _ from HR.out) hb1)
    clear hb1 k0 k1
    go_wp2_with (refine wpList_put_row rfl 25 (.tmp 2) (.tmp 12) rfl (w.heap.size + 1) _ rfl rfl 25 _ (show Blk _ _ _ _ from HR1.out) H.out rfl (by simp [Value.oneCell']) ?_; intro w5 hblk hgr)
    have hbz : Below w.heap.size w w5 := HB1.out.grown hgr HB1.out.size (fun k hk => by injection hk with hk; omega)
    have f0 := hblk.cell 0
    have f1 := hblk.cell 1
    exact bodyPost_ret (v := .tuple #[.agg (prjV 0 none 0 0), .int .i64 3]) (by simp [results, Try.results89, go_sem, f0, f1]) rfl ⟨rfl, hbz⟩
end
end Go.Proofs.Ytmdgmnaaopineaa
/- What proj.Grow does with the copy: its function literal. -/
namespace Go.Proofs.Ytmdgmnaaopineaa
open Go.ChangeShapes Go.WideShapes Go.ChangeAt Go.RowKit
set_option linter.unusedVariables false
/-- The stripes that come of other sets from a position on. -/
def growL (l : List Stp) (x : Nat) (sets : List (List Nat)) : List Stp := (match l[l.length - 1]? with | some s => l.set (l.length - 1) (s.1, x, s.2.2) | none => l) ++ [(x, 4611686018427387904, sets)]
theorem growL_eq {l : List Stp} {m x : Nat} {s : Stp} {sets : List (List Nat)} (hm : l.length = m + 1) (hs : l[m]? = some s) : growL l x sets = l.set m (s.1, x, s.2.2) ++ [(x, 4611686018427387904, sets)] := by
  unfold growL
  rw [hm, Nat.add_sub_cancel, hs]
def Grow1 (w : World) (base go e2 x n : Nat) (l : List Stp) (sets : List (List Nat)) (en : Ending) (w' : World) : Prop :=
  en = .returned (.tuple #[]) ∧ ∃ A2 c2, Blk w' go 25 (prjV e2 A2 (n + 1) c2) ∧ OS w' base A2 (n + 1) c2 (growL l x sets) ∧ Below base w w'
section
variable {D D' : Dom} {A A' : Option Addr} {n c n' c' e2 x m base go ga gl gs : Nat} {l : List Stp} {sets : List (List Nat)} {w : World}
set_option maxRecDepth 100000 in
set_option maxHeartbeats 4000000 in
theorem grow1_any (hm : n = m + 1) (hn : n ≤ 1000) (h : OS w base A n c l) (hb : base ≤ w.heap.size) (hgo : base ≤ go) (hk : Blk w go 25 (prjV e2 A n c)) (ha : Blk w ga 22 #[.int .u64 (x : Int)]) (hl : Blk w gl 3 #[.int .i64 (m : Int)]) (hg : Blk w gs 27 #[.slice A' n' c'])
    (ha2 : ga < base) (hl2 : gl < base) (hg2 : gs < base) (hs : (rpSlice rpU64).sl w D' A' n' c' sets) (hD : ∀ k, D' k → k < base) (hx : x ≤ 18446744073709551615) (hn' : n' ≤ 1000) (hl' : ∀ (i : Nat) y, sets[i]? = some y → y.length ≤ 1000) :
    Calls Try.prog 77 #[.pointer (some ⟨go, 0, none⟩), .pointer (some ⟨ga, 0, none⟩), .pointer (some ⟨gl, 0, none⟩), .pointer (some ⟨gs, 0, none⟩)] w (Grow1 w base go e2 x n l sets) := by
  have hlen := h.len
  obtain ⟨s, hsm⟩ : ∃ s, l[m]? = some s := ⟨_, List.getElem?_eq_getElem (by omega)⟩
  have HGL := Lib.hid (growL_eq (x := x) (sets := sets) (by omega) hsm)
  have e3 : rpStp.size = 3 := by kernel_rfl
  obtain ⟨g, v, rfl, hbg, hgl, hfr, hcell, hos⟩ := h.set (i := m) (j := 1) (x' := (s.1, x, s.2.2)) (u := .int .u64 (x : Int)) hsm (by rw [e3]; decide) tss_stp (fun _ h => h.elim) (fun cs hcs => by
    obtain ⟨A0, c0, rfl, h1, h2, h3⟩ := stp_open hcs
    exact stp_ok h2 hx h1)
  rw [e3] at hcell hos
  have hgne : g ≠ go := by
    rintro rfl
    obtain ⟨vals, ho, _⟩ := h
    exact Pen.ne hk ho (by decide) rfl
  have a0 := ha.cell 0
  have l0 := hl.cell 0
  have k1 := hk.cell 1
  have hf1 := hfr (m * 3 + 1)
  have hmI : (0 : Int) ≤ (m : Int) := by omega
  have hmI2 : (m : Int) < (n : Int) := by omega
  have HOS := Lib.hid hos
  have HB1 := Lib.hid ((Below.refl base w).setCell (p := ⟨g, m * 3 + 1, none⟩) (by dsimp only; omega) (.int .u64 (x : Int)))
  have HK := Lib.hid (hk.far (p := ⟨g, m * 3 + 1, none⟩) (fun e => hgne e.symm) (.int .u64 (x : Int)))
  have HA := Lib.hid (ha.far (p := ⟨g, m * 3 + 1, none⟩) (by dsimp only; omega) (.int .u64 (x : Int)))
  have HG := Lib.hid (hg.far (p := ⟨g, m * 3 + 1, none⟩) (by dsimp only; omega) (.int .u64 (x : Int)))
  have a1 := (ha.far (p := ⟨g, m * 3 + 1, none⟩) (by dsimp only; omega) (.int .u64 (x : Int))).cell 0
  have l1 := (hl.far (p := ⟨g, m * 3 + 1, none⟩) (by dsimp only; omega) (.int .u64 (x : Int))).cell 0
  have HSS := Lib.hid (Rp.sl_below hs HB1.out hD)
  have HD := Lib.hid hD
  have HL' := Lib.hid hl'
  clear h hk ha hl hg hs hD hl' hfr hlen hsm hos
  have HM := Lib.hid hm
  clear hm
  go_enter Try.func77, Try.ntmps77
  go_wp2_with fail
  go_region_held3 (fun w' => w'.cell? ⟨go, 1, none⟩ = some (.slice (some ⟨g, 0, none⟩) n c) ∧ w'.cell? ⟨gl, 0, none⟩ = some (.int .i64 (m : Int)) ∧ w'.cell? ⟨ga, 0, none⟩ = some (.int .u64 (x : Int))) (go_keep) (fail)
  clear a0 l0 k1 a1 l1 hcell hf1
  have HB1' : Hid (Below base w (w.setCell ⟨g, m * 3 + 1, none⟩ (.int .u64 (x : Int))).drew) := HB1.out.drew
  have HOS' : Hid (OS (w.setCell ⟨g, m * 3 + 1, none⟩ (.int .u64 (x : Int))).drew base (some ⟨g, 0, none⟩) n c (l.set m (s.1, x, s.2.2))) := HOS.out.same (fun _ _ => rfl) (fun _ _ _ _ => rfl) (Nat.le_refl _)
  have HK' : Hid (Blk (w.setCell ⟨g, m * 3 + 1, none⟩ (.int .u64 (x : Int))).drew go 25 (prjV e2 (some ⟨g, 0, none⟩) n c)) := HK.out
  have HA' : Hid (Blk (w.setCell ⟨g, m * 3 + 1, none⟩ (.int .u64 (x : Int))).drew ga 22 #[.int .u64 (x : Int)]) := HA.out
  have HG' : Hid (Blk (w.setCell ⟨g, m * 3 + 1, none⟩ (.int .u64 (x : Int))).drew gs 27 #[.slice A' n' c']) := HG.out
  have HSS' : Hid ((rpSlice rpU64).sl (w.setCell ⟨g, m * 3 + 1, none⟩ (.int .u64 (x : Int))).drew D' A' n' c' sets) := Rp.sl_below HSS.out ((Below.refl base _).drew) HD.out
  clear HB1 HOS HK HA HG HSS
  generalize World.drew (World.setCell w _ _) = w1 at *
  go_wp2_with fail
  have hz1 := HB1'.out.size
  have hlen1 : (l.set m (s.1, x, s.2.2)).length = n := HOS'.out.len
  have HLEN1 := Lib.hid hlen1
  clear hlen1
  have k1 := (show Blk w1 go 25 _ from HK'.out).cell 1
  have a0 := (show Blk w1 ga 22 _ from HA'.out).cell 0
  have g0 := (show Blk w1 gs 27 _ from HG'.out).cell 0
  have hkl := (show Blk w1 go 25 _ from HK'.out).lt
  have HCP : Hid (∀ w', Below w1.heap.size w1 w' → Calls Try.prog 55 #[.agg (stpV x 4611686018427387904 A' n' c')] w' fun en w'' => ∃ A2 c2, en = .returned (.agg (stpV x 4611686018427387904 A2 n' c2)) ∧ LL w'' w'.heap.size A2 n' c2 sets ∧ Below w'.heap.size w' w'') := fun w' hb =>
    stcopy_any (Rp.sl_below (Rp.sl_below HSS'.out (hb.mono (show base ≤ w1.heap.size by omega)) HD.out) (Below.refl w'.heap.size _) (fun k hk => by have := HD.out k hk; have := hb.size; omega)) (fun k hk => by have := HD.out k hk; have := hb.size; omega) hn' HL'.out
  have hn16 : n + 1 ≤ maxLen := by unfold maxLen; omega
  go_region_law ((first
    | (refine step_app rfl (.tmp 17) (.tmp 22) _ (by rfl) elemStp (by rfl) HO5.out (by rfl) HSR.out hn16 (by omega) (by have := HZ5.out; simp; omega) ?_
       intro A6 c6 w6 ho6 hg6 hat6
       have HO6 := Lib.hid ho6
       have HG6 := Lib.hid hg6
       have hk6 := (show Blk (w5.alloc (.cells (stpV x 4611686018427387904 A5 n' c5) 31)) go 25 _ from HK5.out).grown hg6 (Pen.ne (show Blk _ _ _ _ from HK5.out) HO5.out (by decide))
       have k6 := hk6.cell 1
       have kf6 := hk6.frozen 1
       have HK6 := Lib.hid hk6
       clear ho6 hg6 hat6 hk6)
    | (go_simp; refine (HCP.out _ ((Below.refl _ _).drew)).mono ?_
       rintro en w5 ⟨A5, c5, rfl, hl5, hb5⟩
       have hb5' : Below w1.heap.size w1 w5 := ⟨hb5.os, hb5.tape, hb5.output, hb5.size, hb5.block⟩
       have hba := below1 w5 (.cells (stpV x 4611686018427387904 A5 n' c5) 31)
       have hbw := stepB hb5' hba
       have hk5 := keepB (show Blk w1 go 25 _ from HK'.out) hb5'
       have k5 := hk5.cell 1
       have kf5 := hk5.frozen 1
       have kl5 := hk5.lt
       have HZ5 := Lib.hid hb5'.size
       have HBW := Lib.hid hbw
       have HK5 := Lib.hid (keepB hk5 hba)
       obtain ⟨vals, hov, hln, hvi⟩ := (show OS w1 base (some ⟨g, 0, none⟩) n c _ from HOS'.out).below hbw
       have HO5 := Lib.hid hov
       have HVI := Lib.hid hvi
       have HX5 := Lib.hid (stp_ok (t := 4611686018427387904) hx (by decide) (LL.tb (D0 := fun _ => False) (hl5.below hba)))
       have HSR := Lib.hid (Src.blk (size := rpStp.size) (blk11 w5 31 (stpV x 4611686018427387904 A5 n' c5)) (by kernel_rfl) (by simp [Value.oneCell']))
       clear hl5 hb5 hb5' hba hbw hk5 hov hvi hln
       dsimp only)))
  all_goals
    have hll6 := (show OS (w5.alloc (.cells (stpV x 4611686018427387904 A5 n' c5) 31)) base (some ⟨g, 0, none⟩) n c (l.set m (s.1, x, s.2.2)) from ⟨vals, HO5.out, HLEN1.out, HVI.out⟩).push HO5.out HVI.out tss_stp (fun _ h => h.elim) HO6.out HG6.out HX5.out
    have hll7 := hll6.put (show Blk w6 go 25 _ from HK6.out) id tss_prj (by decide) (a := ⟨go, 1, none⟩) rfl (.slice A6 (n + 1) c6)
    have hbz := HBW.out.size
    have hb6 := (HB1'.out.trans (HBW.out.mono (show base ≤ w1.heap.size by omega))).grown HG6.out (by omega) (fun j hj => (HO5.out.lt j hj).1)
    go_end0
    exact ⟨rfl, A6, c6, (show Blk w6 go 25 _ from HK6.out).put 1 _, by rw [HGL.out]; exact hll7, hb6.setCell hgo _⟩
end
end Go.Proofs.Ytmdgmnaaopineaa
/- proj.next, at the literal of next_grow. -/
namespace Go.Proofs.Ytmdgmnaaopineaa
open Go.ChangeShapes Go.WideShapes Go.ChangeAt Go.RowKit
set_option linter.unusedVariables false
theorem enext_ok (e e2 : Nat) (w : World) (he : EOk e) (he2 : e2 = e + 1) (h2 : EOk e2) : Calls Try.prog 128 #[.int .u64 (e : Int)] w fun en w' => en = .returned (.tuple #[.int .u64 (e2 : Int), .bool true]) ∧ w = w' := by
  have s0 : IntKind.u64.wrap ((e : Int) + 1) = (e2 : Int) := by have := he.2; rw [IntWalk.u64_in _ (by omega)]; omega
  have her := fun w => eright_any e w (by have := he.2; omega)
  rw [dec_true he] at her
  have her2 := fun w => eright_any e2 w (by have := he.2; omega)
  have HE := Lib.hid her
  have hel : (e : Int) ≤ 4611686018427387904 := by have := he.2; omega
  rw [dec_true h2] at her2
  have HE2 := Lib.hid her2
  clear her her2 he he2 h2
  go_enter Try.func128, Try.ntmps128
  go_wp2_with fail
  refine (HE.out _).mono ?_; rintro en w1 ⟨rfl, rfl⟩
  go_wp2_with fail
  refine (HE2.out _).mono ?_; rintro en w1 ⟨rfl, rfl⟩
  go_wp2_with fail
  go_ret2
  exact ⟨rfl, rfl⟩
theorem enext_bad (e e2 : Nat) (w : World) (he : EOk e) (he2 : e2 = e + 1) (h2 : ¬ EOk e2) : Calls Try.prog 128 #[.int .u64 (e : Int)] w fun en w' => en = .returned (.tuple #[.int .u64 0, .bool false]) ∧ w = w' := by
  have s0 : IntKind.u64.wrap ((e : Int) + 1) = (e2 : Int) := by have := he.2; rw [IntWalk.u64_in _ (by omega)]; omega
  have her := fun w => eright_any e w (by have := he.2; omega)
  rw [dec_true he] at her
  have her2 := fun w => eright_any e2 w (by have := he.2; omega)
  have HE := Lib.hid her
  have hel : (e : Int) ≤ 4611686018427387904 := by have := he.2; omega
  rw [dec_false h2] at her2
  have HE2 := Lib.hid her2
  clear her her2 he he2 h2
  go_enter Try.func128, Try.ntmps128
  go_wp2_with fail
  refine (HE.out _).mono ?_; rintro en w1 ⟨rfl, rfl⟩
  go_wp2_with fail
  refine (HE2.out _).mono ?_; rintro en w1 ⟨rfl, rfl⟩
  go_wp2_with fail
  go_ret2
  exact ⟨rfl, rfl⟩
/-- What a function literal makes of the copy. -/
def Turns (w1 : World) (base go e2 : Nat) (l' : List Stp) (en : Ending) (w' : World) : Prop :=
  en = .returned (.tuple #[]) ∧ ∃ A3 n3 c3, Blk w' go 25 (prjV e2 A3 n3 c3) ∧ OS w' base A3 n3 c3 l' ∧ Below base w1 w'
/-- What comes of a projection whose stripes turn to others. -/
def NextB (w : World) (base e2 : Nat) (l' : List Stp) (en : Ending) (w' : World) : Prop :=
  ∃ e3 A2 n2 c2 l2 cd, en = .returned (.tuple #[.agg (prjV e3 A2 n2 c2), .int .i64 cd]) ∧ OS w' base A2 n2 c2 l2 ∧ Below w.heap.size w w' ∧ (EOk e2 → POk (e2, l') → e3 = e2 ∧ l2 = l' ∧ cd = 0) ∧ (EOk e2 → ¬ POk (e2, l') → e3 = 0 ∧ l2 = [] ∧ cd = 3) ∧ (¬ EOk e2 → e3 = 0 ∧ l2 = [] ∧ cd = 18)
section
variable {D : Dom} {A : Option Addr} {n c e e2 q0 q1 q2 : Nat} {l l' : List Stp} {w : World}
set_option maxRecDepth 100000 in
set_option maxHeartbeats 4000000 in
theorem next_grow (hs : rpStp.sl w D A n c l) (hD : ∀ k, D k → k < w.heap.size) (hn : n ≤ 1000) (hl : ∀ s ∈ l, s.2.2.length ≤ 1000 ∧ ∀ (j : Nat) x, s.2.2[j]? = some x → x.length ≤ 1000) (he : EOk e) (he2 : e2 = e + 1)
    (hch : ∀ (w1 : World) (base go : Nat) A2 c2, Below w.heap.size w w1 → w.heap.size ≤ base → base ≤ go → go < w1.heap.size → Blk w1 go 25 (prjV e2 A2 n c2) → OS w1 base A2 n c2 l →
      Calls Try.prog 77 #[.pointer (some ⟨go, 0, none⟩), .pointer (some ⟨q0, 0, none⟩), .pointer (some ⟨q1, 0, none⟩), .pointer (some ⟨q2, 0, none⟩)] w1 (Turns w1 base go e2 l')) :
    Calls Try.prog 76 #[.agg (prjV e A n c), .func (Fn.func 77) #[] #[.pointer (some ⟨q0, 0, none⟩), .pointer (some ⟨q1, 0, none⟩), .pointer (some ⟨q2, 0, none⟩)]] w (fun en w' => ∃ base, w.heap.size ≤ base ∧ NextB w base e2 l' en w') := by
  have H : Hid ((Try.prog.info? 25).map (·.size) = some 2) := by unfold Hid; kernel_rfl
  have hb0 := below2 w (.cells (prjV e A n c) 25) (.cells (prjV 0 none 0 0) 25)
  have HZ := Lib.hid hb0
  have HK := Lib.hid (blk21 w 25 25 (prjV e A n c) (prjV 0 none 0 0))
  have HR := Lib.hid (blk22 w 25 25 (prjV e A n c) (prjV 0 none 0 0))
  have HS := Lib.hid (keepS (show Sl rpStp w D A n c l from ⟨hs, hD⟩) hb0)
  have he64 : e2 ≤ 18446744073709551615 := by have := he.2; omega
  have HLE := Lib.hid hl
  have HCH := Lib.hid hch
  clear hs hD hb0 hl hch
  by_cases h2 : EOk e2
  case neg =>
    have hnx := fun w => enext_bad e e2 w he he2 h2
    have HNX := Lib.hid hnx
    have HN2 := Lib.hid h2
    clear hnx h2 he he2
    go_enter Try.func76, Try.ntmps76
    go_wp2_with fail
    generalize World.alloc (World.alloc w _) _ = w0 at *
    have k0 := (show Blk w0 w.heap.size 25 _ from HK.out).cell 0
    go_wp2_with fail
    refine (HNX.out _).mono ?_; rintro en w1 ⟨rfl, rfl⟩
    go_wp2_with (refine wpList_put_row rfl 25 (.tmp 4) (.tmp 17) rfl (w.heap.size + 1) _ rfl rfl 25 _ (show Blk _ _ _ _ from HR.out) H.out rfl (by simp [Value.oneCell']) ?_; intro w5 hblk hgr)
    have hbz : Below w.heap.size w w5 := HZ.out.grown hgr HZ.out.size (fun k hk => by injection hk with hk; omega)
    have f0 := hblk.cell 0
    have f1 := hblk.cell 1
    refine bodyPost_ret (v := .tuple #[.agg (prjV 0 none 0 0), .int .i64 18]) (by simp [results, Try.results76, go_sem, f0, f1]) rfl ?_
    exact ⟨_, Nat.le_refl _, 0, none, 0, 0, [], 18, rfl, OL.nil _ _ _ _ _ _, hbz, fun h => absurd h HN2.out, fun h => absurd h HN2.out, fun _ => ⟨rfl, rfl, rfl⟩⟩
  case pos =>
    have hnx := fun w => enext_ok e e2 w he he2 h2
    have HNX := Lib.hid hnx
    have HE2 := Lib.hid h2
    clear hnx h2 he he2
    go_enter Try.func76, Try.ntmps76
    go_wp2_with fail
    generalize World.alloc (World.alloc w _) _ = w0 at *
    have hz0 := HZ.out.size
    have hl0 := (show Blk w0 (w.heap.size + 1) 25 _ from HR.out).lt
    have k0 := (show Blk w0 w.heap.size 25 _ from HK.out).cell 0
    have k1 := (show Blk w0 w.heap.size 25 _ from HK.out).cell 1
    go_wp2_with fail
    refine (HNX.out _).mono ?_; rintro en w1 ⟨rfl, rfl⟩
    go_wp2_with fail
    refine (prcopy_any HS.out.1 HS.out.2 hn HLE.out).mono ?_; rintro en w1 ⟨A1, c1, rfl, ho1, hb1⟩
    obtain ⟨go, hgo⟩ : ∃ go, go = w1.heap.size := ⟨_, rfl⟩
    have hba := below1 w1 (.cells (prjV e2 A1 n c1) 25)
    have HB2 := Lib.hid (stepB (stepB HZ.out hb1) hba)
    have HR2 := Lib.hid (keepB (keepB (show Blk w0 (w.heap.size + 1) 25 _ from HR.out) hb1) hba)
    have HG2 := Lib.hid (blk11 w1 25 (prjV e2 A1 n c1))
    have HO2 := Lib.hid (ho1.below hba)
    have hz1 := hb1.size
    clear ho1 hb1 hba k0 k1
    go_wp2_with fail
    rw [← hgo] at HG2
    try rw [← hgo]
    have HGO := Lib.hid hgo
    have hgo1 : w0.heap.size ≤ go := by omega
    clear hgo
    generalize World.alloc w1 _ = w2 at *
    have hgo2 := (show Blk w2 go 25 _ from HG2.out).lt
    refine (HCH.out w2 w0.heap.size go A1 c1 HB2.out hz0 hgo1 hgo2 HG2.out HO2.out).mono ?_; rintro en w3 ⟨rfl, A3, n3, c3, hk3, ho3, hb3⟩
    have hz2 := HB2.out.size
    have HB3 := Lib.hid (HB2.out.trans (hb3.mono hz0))
    have HR3 := Lib.hid (Blk.below (show Blk w2 (w.heap.size + 1) 25 _ from HR2.out) hb3 hl0)
    have hz3 := hb3.size
    have HO3 := Lib.hid ho3
    have hrt := pright_any (e := e2) (OL.sl ho3) (fun k hk => hk) he64
    have g0 := hk3.cell 0
    have g1 := hk3.cell 1
    have HG3 := Lib.hid hk3
    clear hb3 ho3 hk3
    by_cases hok : POk (e2, l')
    case pos =>
      rw [dec_true hok] at hrt
      have HRT := Lib.hid hrt
      have HOK := Lib.hid hok
      clear hrt hok
      go_wp2_with fail
      refine HRT.out.mono ?_; rintro en w4 ⟨rfl, hb4⟩
      have hg4 := keepB (show Blk w3 go 25 _ from HG3.out) hb4
      have HR4 := Lib.hid (keepB (show Blk w3 (w.heap.size + 1) 25 _ from HR3.out) hb4)
      have HB4 := Lib.hid (stepB HB3.out hb4)
      have HO4 := Lib.hid ((show OS w3 w0.heap.size A3 n3 c3 l' from HO3.out).below hb4)
      clear g0 g1
      have g0 := hg4.cell 0
      have g1 := hg4.cell 1
      clear hb4 hg4
      go_wp2_with (refine wpList_put_row rfl 25 (.tmp 4) (.tmp 28) rfl (w.heap.size + 1) _ rfl rfl 25 _ (show Blk _ _ _ _ from HR4.out) H.out rfl (by simp [Value.oneCell']) ?_; intro w5 hblk hgr)
      have hbz : Below w.heap.size w w5 := HB4.out.grown hgr HB4.out.size (fun k hk => by injection hk with hk; omega)
      have ho5 : OS w5 w0.heap.size A3 n3 c3 l' := by
        refine HO4.out.chg ((Chg.of_grown hgr).more (G := fun k => k = w.heap.size + 1) (fun k _ hk => by injection hk)) ?_
        intro k hk _
        subst hk
        exact ⟨id, fun cs t ht => by
          obtain rfl := blk_type (show Blk w4 (w.heap.size + 1) 25 _ from HR4.out) ht
          exact ⟨tss_prj, by decide⟩⟩
      have f0 := hblk.cell 0
      have f1 := hblk.cell 1
      refine bodyPost_ret (v := .tuple #[.agg (prjV e2 A3 n3 c3), .int .i64 0]) (by simp [results, Try.results76, go_sem, f0, f1]) rfl ?_
      exact ⟨_, hz0, e2, A3, n3, c3, l', 0, rfl, ho5, hbz, fun _ _ => ⟨rfl, rfl, rfl⟩, fun _ h => absurd HOK.out h, fun h => absurd HE2.out h⟩
    case neg =>
      rw [dec_false hok] at hrt
      have HRT := Lib.hid hrt
      have HOK := Lib.hid hok
      clear hrt hok
      go_wp2_with fail
      refine HRT.out.mono ?_; rintro en w4 ⟨rfl, hb4⟩
      have HR4 := Lib.hid (keepB (show Blk w3 (w.heap.size + 1) 25 _ from HR3.out) hb4)
      have HB4 := Lib.hid (stepB HB3.out hb4)
      clear g0 g1 hb4
      go_wp2_with (refine wpList_put_row rfl 25 (.tmp 4) (.tmp 27) rfl (w.heap.size + 1) _ rfl rfl 25 _ (show Blk _ _ _ _ from HR4.out) H.out rfl (by simp [Value.oneCell']) ?_; intro w5 hblk hgr)
      have hbz : Below w.heap.size w w5 := HB4.out.grown hgr HB4.out.size (fun k hk => by injection hk with hk; omega)
      have f0 := hblk.cell 0
      have f1 := hblk.cell 1
      refine bodyPost_ret (v := .tuple #[.agg (prjV 0 none 0 0), .int .i64 3]) (by simp [results, Try.results76, go_sem, f0, f1]) rfl ?_
      exact ⟨_, Nat.le_refl _, 0, none, 0, 0, [], 3, rfl, OL.nil _ _ _ _ _ _, hbz, fun _ h => absurd h HOK.out, fun _ _ => ⟨rfl, rfl, rfl⟩, fun h => absurd HE2.out h⟩
end
end Go.Proofs.Ytmdgmnaaopineaa
/- proj.Grow. -/
namespace Go.Proofs.Ytmdgmnaaopineaa
open Go.ChangeShapes Go.WideShapes Go.ChangeAt Go.RowKit
set_option linter.unusedVariables false
/-- No position that can be cut at. -/
def G17 (p : Prj) (x : Nat) : Prop := (∃ s, p.2[p.2.length - 1]? = some s ∧ x ≤ s.1) ∨ 4611686018427387904 ≤ x
open Classical in
/-- What comes of other sets from a position on, and the code. -/
noncomputable def growP (p : Prj) (x : Nat) (sets : List (List Nat)) : Prj × Int :=
  if POk p then if G17 p x then ((0, []), 17) else if p.2.length = 64 then ((0, []), 2) else if EOk (p.1 + 1) then if POk (p.1 + 1, growL p.2 x sets) then ((p.1 + 1, growL p.2 x sets), 0) else ((0, []), 3) else ((0, []), 18) else ((0, []), 3)
section
variable {p : Prj} {x : Nat} {sets : List (List Nat)}
theorem growP_no (h : ¬ POk p) : growP p x sets = ((0, []), 3) := by unfold growP; rw [if_neg h]
theorem growP_17 (h : POk p) (h2 : G17 p x) : growP p x sets = ((0, []), 17) := by unfold growP; rw [if_pos h, if_pos h2]
theorem growP_2 (h : POk p) (h2 : ¬ G17 p x) (h3 : p.2.length = 64) : growP p x sets = ((0, []), 2) := by unfold growP; rw [if_pos h, if_neg h2, if_pos h3]
theorem growP_18 (h : POk p) (h2 : ¬ G17 p x) (h3 : ¬ p.2.length = 64) (h4 : ¬ EOk (p.1 + 1)) : growP p x sets = ((0, []), 18) := by unfold growP; rw [if_pos h, if_neg h2, if_neg h3, if_neg h4]
theorem growP_3 (h : POk p) (h2 : ¬ G17 p x) (h3 : ¬ p.2.length = 64) (h4 : EOk (p.1 + 1)) (h5 : ¬ POk (p.1 + 1, growL p.2 x sets)) : growP p x sets = ((0, []), 3) := by unfold growP; rw [if_pos h, if_neg h2, if_neg h3, if_pos h4, if_neg h5]
theorem growP_0 (h : POk p) (h2 : ¬ G17 p x) (h3 : ¬ p.2.length = 64) (h4 : EOk (p.1 + 1)) (h5 : POk (p.1 + 1, growL p.2 x sets)) : growP p x sets = ((p.1 + 1, growL p.2 x sets), 0) := by unfold growP; rw [if_pos h, if_neg h2, if_neg h3, if_pos h4, if_pos h5]
end
theorem pOk_lens {p : Prj} (h : POk p) : ∀ s ∈ p.2, s.2.2.length ≤ 1000 ∧ ∀ (j : Nat) y, s.2.2[j]? = some y → y.length ≤ 1000 := fun s hs => by
  obtain ⟨i, hi⟩ := List.getElem?_of_mem hs
  have hok := (h.1.2 i s (List.getElem?_eq_some_iff.1 hi).1 hi).1
  refine ⟨by have := hok.2.2.2.1; omega, fun j y hy => ?_⟩
  have := (hok.2.2.2.2 j y hy).2.1
  omega
def GrowIs (p : Prj) (x : Nat) (sets : List (List Nat)) (w : World) (en : Ending) (w' : World) : Prop :=
  ∃ A2 n2 c2, en = .returned (.tuple #[.agg (prjV (growP p x sets).1.1 A2 n2 c2), .int .i64 (growP p x sets).2]) ∧ rpStp.sl w' (fun k => k < w'.heap.size) A2 n2 c2 (growP p x sets).1.2 ∧ Below w.heap.size w w'
theorem growIs_zero {p : Prj} {x : Nat} {sets : List (List Nat)} {w w' : World} {cd : Int} (h : growP p x sets = ((0, []), cd)) (hb : Below w.heap.size w w') : GrowIs p x sets w (.returned (.tuple #[.agg (prjV 0 none 0 0), .int .i64 cd])) w' := by
  unfold GrowIs
  rw [h]
  exact ⟨none, 0, 0, rfl, Rp.sl_nil _ _ _ _ _ (by decide), hb⟩
section
variable {D D' : Dom} {A A' : Option Addr} {n c n' c' e x : Nat} {l : List Stp} {sets : List (List Nat)} {w : World}
theorem growIs_next {w0 w' : World} {en : Ending} {base : Nat} (hok : POk (e, l)) (h2 : ¬ G17 (e, l) x) (h3 : ¬ l.length = 64) (hb : w.heap.size ≤ base) (h : NextB w0 base (e + 1) (growL l x sets) en w') (hbw : Below w.heap.size w w') : GrowIs (e, l) x sets w en w' := by
  obtain ⟨e3, A2, n2, c2, l2, cd, rfl, ho, _, r1, r2, r3⟩ := h
  by_cases he : EOk (e + 1)
  · by_cases hp : POk (e + 1, growL l x sets)
    · obtain ⟨rfl, rfl, rfl⟩ := r1 he hp
      have hg := growP_0 (sets := sets) hok h2 h3 he hp
      unfold GrowIs
      rw [hg]
      exact ⟨_, _, _, rfl, OL.sl ho, hbw⟩
    · obtain ⟨rfl, rfl, rfl⟩ := r2 he hp
      have hg := growP_3 (sets := sets) hok h2 h3 he hp
      unfold GrowIs
      rw [hg]
      exact ⟨_, _, _, rfl, OL.sl ho, hbw⟩
  · obtain ⟨rfl, rfl, rfl⟩ := r3 he
    have hg := growP_18 (sets := sets) hok h2 h3 he
    unfold GrowIs
    rw [hg]
    exact ⟨_, _, _, rfl, OL.sl ho, hbw⟩
set_option maxRecDepth 100000 in
set_option maxHeartbeats 4000000 in
theorem grow_any (hs : rpStp.sl w D A n c l) (hD : ∀ k, D k → k < w.heap.size) (he : e ≤ 18446744073709551615) (hx : x ≤ 18446744073709551615) (hs' : (rpSlice rpU64).sl w D' A' n' c' sets) (hD' : ∀ k, D' k → k < w.heap.size) (hn' : n' ≤ 1000) (hl' : ∀ (i : Nat) y, sets[i]? = some y → y.length ≤ 1000) :
    Calls Try.prog 19 #[.agg (prjV e A n c), .int .u64 (x : Int), .slice A' n' c'] w (GrowIs (e, l) x sets w) := by
  have H : Hid ((Try.prog.info? 25).map (·.size) = some 2) := by unfold Hid; kernel_rfl
  obtain ⟨k1, k2, k3, k4, hb, hz⟩ := four_blks w (prjV e A n c) #[.int .u64 (x : Int)] #[.slice A' n' c'] (prjV 0 none 0 0) 25 22 27 25
  have hlen := (Rp.sl_len hs).1
  have HN := Lib.hid hlen
  have K1 := Lib.hid k1
  have K2 := Lib.hid k2
  have K3 := Lib.hid k3
  have K4 := Lib.hid k4
  have HB := Lib.hid hb
  have HZ := Lib.hid hz
  have HS := Lib.hid (keepS (show Sl rpStp w D A n c l from ⟨hs, hD⟩) hb)
  have HS' := Lib.hid (keepS (show Sl (rpSlice rpU64) w D' A' n' c' sets from ⟨hs', hD'⟩) hb)
  have hr := pright_any (e := e) (Rp.sl_below hs hb hD) (fun k hk => Nat.lt_of_lt_of_le (hD k hk) hb.size) he
  have HL' := Lib.hid hl'
  clear k1 k2 k3 k4 hs hD hs' hD' hl'
  by_cases hok : POk (e, l)
  case neg =>
    rw [dec_false hok] at hr
    have HR := Lib.hid hr
    have HNO := Lib.hid (growP_no (x := x) (sets := sets) hok)
    clear hr hok hb hz hlen
    go_enter Try.func19, Try.ntmps19
    go_wp2_with fail
    generalize World.alloc (World.alloc (World.alloc (World.alloc w _) _) _) _ = w0 at *
    have p0 := (show Blk w0 w.heap.size 25 _ from K1.out).cell 0
    have p1 := (show Blk w0 w.heap.size 25 _ from K1.out).cell 1
    go_wp2_with fail
    refine HR.out.mono ?_; rintro en w1 ⟨rfl, hb1⟩
    have HB1 := Lib.hid (stepB HB.out hb1)
    have K41 := Lib.hid (keepB (show Blk w0 _ 25 _ from K4.out) hb1)
    clear hb1 p0 p1
    go_wp2_with (refine wpList_put_row rfl 25 (.tmp 6) (.tmp 12) rfl (w.heap.size + 1 + 1 + 1) _ rfl rfl 25 _ (show Blk _ _ _ _ from K41.out) H.out rfl (by simp [Value.oneCell']) ?_; intro w5 hblk hgr)
    have hbz : Below w.heap.size w w5 := HB1.out.grown hgr HB1.out.size (fun k hk => by injection hk with hk; omega)
    have f0 := hblk.cell 0
    have f1 := hblk.cell 1
    exact bodyPost_ret (v := .tuple #[.agg (prjV 0 none 0 0), .int .i64 3]) (by simp [results, Try.results19, go_sem, f0, f1]) rfl (growIs_zero HNO.out hbz)
  rw [dec_true hok] at hr
  have HR := Lib.hid hr
  have heo := hok.1.1.1
  have hn1 := hok.1.1.2.1
  have hn64 := hok.1.1.2.2
  simp only at heo hn1 hn64
  obtain ⟨m, hm⟩ : ∃ m, n = m + 1 := ⟨n - 1, by omega⟩
  obtain ⟨s, hsm⟩ : ∃ s, l[m]? = some s := ⟨_, List.getElem?_eq_getElem (by omega)⟩
  have HSM := Lib.hid hsm
  have HM := Lib.hid hm
  have HOK := Lib.hid hok
  have HEO := Lib.hid heo
  have hmI : (0 : Int) ≤ (m : Int) := by omega
  have hmI2 : (m : Int) < (n : Int) := by omega
  have hn64' : n ≤ 64 := by omega
  have hn1' : 1 ≤ n := by omega
  have hsub : IntKind.i64.wrap ((n : Int) - 1) = (m : Int) := by rw [IntWalk.i64_in _ (by omega)]; omega
  have hsub2 : (n : Int) - 1 = (m : Int) := by omega
  have HSUB2 := Lib.hid hsub2
  clear hr hok heo hsm hn1 hn64 hb hz hm hsub2 hlen
  go_enter Try.func19, Try.ntmps19
  go_wp2_with fail
  generalize World.alloc (World.alloc (World.alloc (World.alloc w _) _) _) _ = w0 at *
  have p0 := (show Blk w0 w.heap.size 25 _ from K1.out).cell 0
  have p1 := (show Blk w0 w.heap.size 25 _ from K1.out).cell 1
  go_wp2_with fail
  refine HR.out.mono ?_; rintro en w1 ⟨rfl, hb1⟩
  have HB1 := Lib.hid (stepB HB.out hb1)
  have K11 := Lib.hid (keepB (show Blk w0 _ 25 _ from K1.out) hb1)
  clear p0 p1
  have p1 := (show Blk w1 w.heap.size 25 _ from K11.out).cell 1
  have hba := below1 w1 (.cells #[.int .i64 (m : Int)] 3)
  have hb1a := stepB hb1 hba
  have HB2 := Lib.hid (stepB HB.out hb1a)
  have K12 := Lib.hid (keepB (show Blk w0 _ 25 _ from K1.out) hb1a)
  have K22 := Lib.hid (keepB (show Blk w0 _ 22 _ from K2.out) hb1a)
  have K32 := Lib.hid (keepB (show Blk w0 _ 27 _ from K3.out) hb1a)
  have K42 := Lib.hid (keepB (show Blk w0 _ 25 _ from K4.out) hb1a)
  have K52 := Lib.hid (blk11 w1 3 #[.int .i64 (m : Int)])
  have HS2 := Lib.hid (keepS HS.out hb1a)
  have HS2' := Lib.hid (keepS HS'.out hb1a)
  have hz01 := hb1.size
  have hz0 := HZ.out
  clear hb1 hba hb1a
  go_wp2_with fail
  generalize World.alloc w1 _ = w2 at *
  clear p1
  have hz02 : w0.heap.size ≤ w2.heap.size := by have := (show Blk w2 w1.heap.size 3 _ from K52.out).lt; omega
  obtain ⟨bo, off, s', A3, c3, rfl, hbD, hx', g0, g1, g2, hrow, hs1, hs2⟩ := stps_at HS2.out.1 (k := m) (by omega)
  obtain rfl : s' = s := by
    have := HSM.out
    rw [hx'] at this
    injection this
  obtain ⟨sf, hsf⟩ : ∃ sf, sf = s'.1 := ⟨_, rfl⟩
  rw [← hsf] at g0 hs1
  have HSF := Lib.hid hsf
  have p1 := (show Blk w2 w.heap.size 25 _ from K12.out).cell 1
  have a0 := (show Blk w2 _ 22 _ from K22.out).cell 0
  have l0 := (show Blk w2 _ 3 _ from K52.out).cell 0
  have h17 : G17 (e, l) x ↔ x ≤ sf ∨ 4611686018427387904 ≤ x := by
    unfold G17
    have hlm : l.length - 1 = m := by have := HN.out; have := HM.out; omega
    simp only [hlm, HSM.out]
    rw [HSF.out]
    constructor
    · rintro (⟨s, hs, h⟩ | h)
      · injection hs with hs
        subst hs
        exact .inl h
      · exact .inr h
    · rintro (h | h)
      · exact .inl ⟨s', rfl, h⟩
      · exact .inr h
  have H17 := Lib.hid h17
  clear h17 hx' g1 g2 hrow hs2 hsf
  by_cases hc : x ≤ sf ∨ 4611686018427387904 ≤ x
  case pos =>
    have HG := Lib.hid (growP_17 (sets := sets) HOK.out (H17.out.2 hc))
    have hcc : x ≤ sf ∨ (¬ x ≤ sf ∧ 4611686018427387904 ≤ x) := by omega
    clear hc
    rcases hcc with h1 | ⟨h1, h2⟩
    · have hd : decide (x ≤ sf) = true := by simpa using h1
      clear h1
      go_quiet (fail)
      have HB3 : Hid (Below w.heap.size w (w2.drewN nq)) := ⟨HB2.out.os, HB2.out.tape, HB2.out.output, HB2.out.size, HB2.out.block⟩
      have K43 : Hid (Blk (w2.drewN nq) (w.heap.size + 1 + 1 + 1) 25 (prjV 0 none 0 0)) := K42.out
      generalize World.drewN w2 _ = w3 at *
      go_wp2_with (refine wpList_put_row rfl 25 (.tmp 6) (.tmp 30) rfl (w.heap.size + 1 + 1 + 1) _ rfl rfl 25 _ (show Blk _ _ _ _ from K43.out) H.out rfl (by simp [Value.oneCell']) ?_; intro w5 hblk hgr)
      have hbz : Below w.heap.size w w5 := HB3.out.grown hgr HB3.out.size (fun k hk => by injection hk with hk; omega)
      have f0 := hblk.cell 0
      have f1 := hblk.cell 1
      exact bodyPost_ret (v := .tuple #[.agg (prjV 0 none 0 0), .int .i64 17]) (by simp [results, Try.results19, go_sem, f0, f1]) rfl (growIs_zero HG.out hbz)
    · have hd : decide (x ≤ sf) = false := by simpa using h1
      have hd2 : decide ((4611686018427387904 : Int) ≤ (x : Int)) = true := by simp; omega
      clear h1 h2
      go_quiet (fail)
      have HB3 : Hid (Below w.heap.size w (w2.drewN nq)) := ⟨HB2.out.os, HB2.out.tape, HB2.out.output, HB2.out.size, HB2.out.block⟩
      have K43 : Hid (Blk (w2.drewN nq) (w.heap.size + 1 + 1 + 1) 25 (prjV 0 none 0 0)) := K42.out
      generalize World.drewN w2 _ = w3 at *
      go_wp2_with (refine wpList_put_row rfl 25 (.tmp 6) (.tmp 30) rfl (w.heap.size + 1 + 1 + 1) _ rfl rfl 25 _ (show Blk _ _ _ _ from K43.out) H.out rfl (by simp [Value.oneCell']) ?_; intro w5 hblk hgr)
      have hbz : Below w.heap.size w w5 := HB3.out.grown hgr HB3.out.size (fun k hk => by injection hk with hk; omega)
      have f0 := hblk.cell 0
      have f1 := hblk.cell 1
      exact bodyPost_ret (v := .tuple #[.agg (prjV 0 none 0 0), .int .i64 17]) (by simp [results, Try.results19, go_sem, f0, f1]) rfl (growIs_zero HG.out hbz)
  case neg =>
    have hng : ¬ G17 (e, l) x := fun h => hc (H17.out.1 h)
    have HNG := Lib.hid hng
    have hd : decide (x ≤ sf) = false := by simp; omega
    have hd2 : decide ((4611686018427387904 : Int) ≤ (x : Int)) = false := by simp; omega
    clear hc hng
    go_quiet (fail)
    have HB3 : Hid (Below w.heap.size w (w2.drewN nq)) := ⟨HB2.out.os, HB2.out.tape, HB2.out.output, HB2.out.size, HB2.out.block⟩
    have K43 : Hid (Blk (w2.drewN nq) (w.heap.size + 1 + 1 + 1) 25 (prjV 0 none 0 0)) := K42.out
    have K13 : Hid (Blk (w2.drewN nq) w.heap.size 25 _) := K12.out
    have K23 : Hid (Blk (w2.drewN nq) (w.heap.size + 1) 22 #[.int .u64 (x : Int)]) := K22.out
    have K33 : Hid (Blk (w2.drewN nq) (w.heap.size + 1 + 1) 27 #[.slice A' n' c']) := K32.out
    have K53 : Hid (Blk (w2.drewN nq) w1.heap.size 3 #[.int .i64 (m : Int)]) := K52.out
    have hbq : Below w2.heap.size w2 (w2.drewN nq) := ⟨rfl, rfl, rfl, Nat.le_refl _, fun _ _ => rfl⟩
    have HS3 := Lib.hid (keepS HS2.out hbq)
    have HS3' := Lib.hid (keepS HS2'.out hbq)
    have hz03 : w0.heap.size ≤ (w2.drewN nq).heap.size := Nat.le_trans hz02 hbq.size
    generalize World.drewN w2 _ = w3 at *
    clear g0 p1 a0 l0 hbq
    have p0 := (show Blk w3 w.heap.size 25 _ from K13.out).cell 0
    have p1 := (show Blk w3 w.heap.size 25 _ from K13.out).cell 1
    by_cases h64 : n = 64
    case pos =>
      have hd3 : ((n : Int) == 64) = true := by simp; omega
      have HG := Lib.hid (growP_2 (sets := sets) HOK.out HNG.out (by show l.length = 64; rw [HN.out]; exact h64))
      clear h64
      go_wp2_with (refine wpList_put_row rfl 25 (.tmp 6) (.tmp 36) rfl (w.heap.size + 1 + 1 + 1) _ rfl rfl 25 _ (show Blk _ _ _ _ from K43.out) H.out rfl (by simp [Value.oneCell']) ?_; intro w5 hblk hgr)
      have hbz : Below w.heap.size w w5 := HB3.out.grown hgr HB3.out.size (fun k hk => by injection hk with hk; omega)
      have f0 := hblk.cell 0
      have f1 := hblk.cell 1
      exact bodyPost_ret (v := .tuple #[.agg (prjV 0 none 0 0), .int .i64 2]) (by simp [results, Try.results19, go_sem, f0, f1]) rfl (growIs_zero HG.out hbz)
    case neg =>
      have hd3 : ((n : Int) == 64) = false := by simp; omega
      have HN64 := Lib.hid (show ¬ l.length = 64 by rw [HN.out]; exact h64)
      clear h64
      have HCH : Hid (∀ (w1x : World) (base go : Nat) A2 c2, Below w3.heap.size w3 w1x → w3.heap.size ≤ base → base ≤ go → go < w1x.heap.size → Blk w1x go 25 (prjV (e + 1) A2 n c2) → OS w1x base A2 n c2 l →
          Calls Try.prog 77 #[.pointer (some ⟨go, 0, none⟩), .pointer (some ⟨w.heap.size + 1, 0, none⟩), .pointer (some ⟨w1.heap.size, 0, none⟩), .pointer (some ⟨w.heap.size + 1 + 1, 0, none⟩)] w1x (Turns w1x base go (e + 1) (growL l x sets))) := by
        intro w1x base go A2 c2 hbx hbb hbg hgl hk ho
        have z2 := (show Blk w3 _ _ _ from K23.out).lt
        have z3 := (show Blk w3 _ _ _ from K33.out).lt
        have z5 := (show Blk w3 _ _ _ from K53.out).lt
        have hst := keepS HS3'.out hbx
        exact (grow1_any HM.out (by omega) ho (by omega) hbg hk (keepB (show Blk w3 _ _ _ from K23.out) hbx) (keepB (show Blk w3 _ _ _ from K53.out) hbx) (keepB (show Blk w3 _ _ _ from K33.out) hbx) (by omega) (by omega) (by omega) hst.1 (fun k hk => by have := HS3'.out.2 k hk; omega) hx hn' HL'.out).mono (fun en w' ⟨he, A3, c3, h1, h2, h3⟩ => ⟨he, A3, n + 1, c3, h1, h2, h3⟩)
      have HLE : Hid (∀ s ∈ l, s.2.2.length ≤ 1000 ∧ ∀ (j : Nat) y, s.2.2[j]? = some y → y.length ≤ 1000) := pOk_lens HOK.out
      go_wp2_with fail
      refine (next_grow HS3.out.1 HS3.out.2 (by omega) HLE.out HEO.out rfl HCH.out).mono ?_
      rintro en w4 ⟨base, hbase, e3, A2, n2, c2, l2, cd, rfl, ho, hbw, hr⟩
      have hz3 := HB3.out.size
      have HO4 := Lib.hid ho
      have HB4 := Lib.hid (stepB HB3.out hbw)
      have K44 := Lib.hid (keepB (show Blk w3 _ 25 _ from K43.out) hbw)
      have HR4 := Lib.hid hr
      have HBW := Lib.hid hbw
      have HBA := Lib.hid hbase
      clear ho hbw hr p0 p1 hbase
      go_wp2_with (refine wpList_put_row rfl 25 (.tmp 6) (.tmp 40) rfl (w.heap.size + 1 + 1 + 1) _ rfl rfl 25 _ (show Blk _ _ _ _ from K44.out) H.out rfl (by simp [Value.oneCell']) ?_; intro w5 hblk hgr)
      have hbz : Below w.heap.size w w5 := HB4.out.grown hgr HB4.out.size (fun k hk => by injection hk with hk; omega)
      have ho5 : OS w5 base A2 n2 c2 l2 := HO4.out.grown (show Blk w4 _ 25 _ from K44.out) id tss_prj (by decide) hgr
      have f0 := hblk.cell 0
      have f1 := hblk.cell 1
      refine bodyPost_ret (v := .tuple #[.agg (prjV e3 A2 n2 c2), .int .i64 cd]) (by simp [results, Try.results19, go_sem, f0, f1]) rfl ?_
      refine growIs_next (w0 := w5) (base := base) HOK.out HNG.out HN64.out (by have := HBA.out; omega) ⟨e3, A2, n2, c2, l2, cd, rfl, ho5, Below.refl _ _, HR4.out⟩ hbz
end
end Go.Proofs.Ytmdgmnaaopineaa
