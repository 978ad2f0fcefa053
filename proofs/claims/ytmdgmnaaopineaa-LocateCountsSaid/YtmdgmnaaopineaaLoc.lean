/- Chapter 21: in which stripe a position is: sort.Search, and locate.Stripe. -/
import Derived.Test.YtmdgmnaaopineaaPrj2
namespace Go.Proofs.Ytmdgmnaaopineaa
open Go.ChangeShapes Go.WideShapes Go.ChangeAt Go.RowKit
set_option linter.unusedVariables false
theorem lclos_any {D : Dom} {A : Option Addr} {n c g2 g3 : Nat} {l : List Stp} {w : World} (x i : Nat) {s : Stp} (hs : rpStp.sl w D A n c l) (hD : ∀ k, D k → k < w.heap.size) (c0 : w.cell? ⟨g3, 0, none⟩ = some (.int .u64 (x : Int))) (c1 : w.cell? ⟨g2, 1, none⟩ = some (.slice A n c)) (hi : l[i]? = some s) :
    Calls Try.prog 86 #[.int .i64 (i : Int), .pointer (some ⟨g3, 0, none⟩), .pointer (some ⟨g2, 0, none⟩)] w fun en w' => en = .returned (.bool (decide (x < s.2.1))) ∧ Below w.heap.size w w' := by
  obtain ⟨hlen, hnc, hcm⟩ := Rp.sl_len hs
  unfold maxLen at hcm
  have hin : i < n := by have := (List.getElem?_eq_some_iff.1 hi).1; omega
  obtain ⟨b, off, s', A2, c2, rfl, hb, hsk, g0, g1, g2', hrow, hs1, hs2⟩ := stps_at hs hin
  rw [hi] at hsk
  injection hsk with hsk
  subst hsk
  obtain ⟨t, ht⟩ : ∃ t, t = s.2.1 := ⟨_, rfl⟩
  rw [← ht] at g1 hs2 ⊢
  have hk0 : (0 : Int) ≤ (i : Int) := by omega
  have hk1 : (i : Int) < (n : Int) := by omega
  clear hs hi hrow g0 g2' hlen ht
  go_enter Try.func86, Try.ntmps86
  go_wp2_with fail
  go_quiet (fail)
  go_wp2_with fail
  go_ret
  exact ⟨by simp, ⟨rfl, rfl, rfl, Nat.le_refl _, fun _ _ => rfl⟩⟩
def SearchPost (l : List Stp) (x : Nat) (w : World) (en : Ending) (w' : World) : Prop := ∃ r : Nat, en = .returned (.int .i64 (r : Int)) ∧ r ≤ l.length ∧ startOf l r ≤ x ∧ (r = l.length ∨ ∃ s, l[r]? = some s ∧ x < s.2.1) ∧ Below w.heap.size w w'
set_option maxRecDepth 100000 in
theorem search_any {D : Dom} {A : Option Addr} {c g2 g3 : Nat} {l : List Stp} {w : World} (x : Nat) (hs : rpStp.sl w D A l.length c l) (hD : ∀ k, D k → k < w.heap.size) (c0 : w.cell? ⟨g3, 0, none⟩ = some (.int .u64 (x : Int))) (c1 : w.cell? ⟨g2, 1, none⟩ = some (.slice A l.length c)) (h2 : g2 < w.heap.size) (h3 : g3 < w.heap.size) (hl : l.length ≤ 1000) :
    Calls Try.prog 85 #[.int .i64 (l.length : Int), .func (Fn.func 86) #[] #[.pointer (some ⟨g3, 0, none⟩), .pointer (some ⟨g2, 0, none⟩)]] w (SearchPost l x w) := by
  have HC : Hid (∀ (w1 : World) (i : Nat) (s : Stp), Below w.heap.size w w1 → l[i]? = some s → Calls Try.prog 86 #[.int .i64 (i : Int), .pointer (some ⟨g3, 0, none⟩), .pointer (some ⟨g2, 0, none⟩)] w1 fun en w' => en = .returned (.bool (decide (x < s.2.1))) ∧ Below w1.heap.size w1 w') :=
    fun w1 i s hb hi => lclos_any x i (Rp.sl_below hs hb hD) (fun k hk => Nat.lt_of_lt_of_le (hD k hk) hb.size) ((hb.cell (p := ⟨g3, 0, none⟩) h3).trans c0) ((hb.cell (p := ⟨g2, 1, none⟩) h2).trans c1) hi
  clear hs hD c0 c1
  go_enter Try.func85, Try.ntmps85
  go_wp2_with fail
  go_loopw [5, 6] (fun iv jv wr => ∃ (i j : Nat), i ≤ j ∧ j ≤ l.length ∧ iv = .int .i64 i ∧ jv = .int .i64 j ∧ Hid (startOf l i ≤ x) ∧ Hid (j = l.length ∨ ∃ s, l[j]? = some s ∧ x < s.2.1) ∧ Below w.heap.size w wr) (fun i j _ => (intOf j).toNat - (intOf i).toNat)
  case atStart => exact ⟨0, l.length, by omega, by omega, rfl, rfl, Nat.zero_le _, .inl rfl, Below.refl _ _⟩
  case round =>
    obtain ⟨i, j, hij, hjn, rfl, rfl, hlo, hhi, hbr⟩ := hrel
    have HBR := Lib.hid hbr
    have hzr := hbr.size
    by_cases hlt : i < j
    · have hd : decide ((i : Int) < (j : Int)) = true := by simp; omega
      obtain ⟨h, hh⟩ : ∃ h : Nat, ((i : Int) + j) / 2 = (h : Int) := ⟨(i + j) / 2, by omega⟩
      have hh1 : i ≤ h := by omega
      have hh2 : h < j := by omega
      have hh3 : (h : Int) ≤ 1000 := by omega
      obtain ⟨s, hs⟩ : ∃ s, l[h]? = some s := ⟨_, List.getElem?_eq_getElem (show h < l.length by omega)⟩
      have hc := HC.out wr h s hbr hs
      have HSS := Lib.hid hs
      clear hbr hs
      cases hq : decide (x < s.2.1)
      · rw [hq] at hc
        have HCC := Lib.hid hc
        have HQ := Lib.hid (of_decide_eq_false hq)
        clear hc hq
        go_wp2_with fail
        refine HCC.out.mono ?_; rintro en w1 ⟨rfl, hb1⟩
        go_wp2_with fail
        go_roundw
        case rel => exact ⟨h + 1, j, by omega, hjn, by go_num, rfl, (by show startOf l (h + 1) ≤ x; rw [startOf_succ HSS.out]; have := HQ.out; omega), hhi, HBR.out.trans (hb1.mono hzr)⟩
        case measure => simp [intOf]; omega
      · rw [hq] at hc
        have HCC := Lib.hid hc
        have HQ := Lib.hid (of_decide_eq_true hq)
        clear hc hq
        go_wp2_with fail
        refine HCC.out.mono ?_; rintro en w1 ⟨rfl, hb1⟩
        go_wp2_with fail
        go_roundw
        case rel => exact ⟨i, h, by omega, by omega, rfl, rfl, hlo, .inr ⟨s, HSS.out, HQ.out⟩, HBR.out.trans (hb1.mono hzr)⟩
        case measure => simp [intOf]; omega
    · obtain rfl : i = j := by omega
      have hd : decide ((i : Int) < (i : Int)) = false := by simp
      clear hbr
      go_wp2_with fail
      go_ret
      exact ⟨i, rfl, hjn, hlo.out, hhi.out, HBR.out⟩
/-- Position x is in stripe number r, which is s. -/
def InStripe (l : List Stp) (x r : Nat) (s : Stp) : Prop := l[r]? = some s ∧ s.1 ≤ x ∧ x < s.2.1
def StripePost (l : List Stp) (x : Nat) (w : World) (en : Ending) (w' : World) : Prop := ∃ (r : Nat) (s : Stp), en = .returned (.tuple #[.int .i64 (r : Int), .bool true]) ∧ InStripe l x r s ∧ Below w.heap.size w w'
set_option maxRecDepth 100000 in
theorem lstripe_any {D : Dom} {A : Option Addr} {n c e : Nat} {l : List Stp} {w : World} (x : Nat) (hs : rpStp.sl w D A n c l) (hD : ∀ k, D k → k < w.heap.size) (he : e ≤ 18446744073709551615) (hx : x ≤ 18446744073709551615) (hok : POk (e, l)) (hpos : PosOk x) :
    Calls Try.prog 27 #[.agg (prjV e A n c), .int .u64 (x : Int)] w (StripePost l x w) := by
  obtain ⟨hlen, hnc, hcm⟩ := Rp.sl_len hs
  unfold maxLen at hcm
  subst hlen
  have hb0 : Below w.heap.size w ((w.alloc (.cells (prjV e A l.length c) 25)).alloc (.cells #[.int .u64 (x : Int)] 22)) := ((Below.refl _ _).alloc (Nat.le_refl _) _).alloc (by simp) _
  have hr := pright_any (Rp.sl_below hs hb0 hD) (fun k hk => Nat.lt_of_lt_of_le (hD k hk) hb0.size) he
  rw [dec_true hok] at hr
  have HR := Lib.hid hr
  have hp := fun w => epos_any x w hx
  rw [dec_true hpos] at hp
  have HPS := Lib.hid hp
  have HS := Lib.hid (Rp.sl_below hs hb0 hD)
  have HD := Lib.hid (fun k hk => Nat.lt_of_lt_of_le (hD k hk) hb0.size)
  have HB0 := Lib.hid hb0
  have HK0 : Hid (Blk ((w.alloc (.cells (prjV e A l.length c) 25)).alloc (.cells #[.int .u64 (x : Int)] 22)) w.heap.size 25 (prjV e A l.length c)) := (Blk.newAt rfl _ _).alloc _
  have HK1 : Hid (Blk ((w.alloc (.cells (prjV e A l.length c) 25)).alloc (.cells #[.int .u64 (x : Int)] 22)) (w.heap.size + 1) 22 #[.int .u64 (x : Int)]) := Blk.newAt (size_alloc _ _) _ _
  have HOK := Lib.hid hok
  have HPO := Lib.hid hpos
  have hl64 : l.length ≤ 64 := hok.1.1.2.2
  clear hr hp hs hD hb0 hok hpos
  go_enter Try.func27, Try.ntmps27
  go_wp2_with fail
  generalize World.alloc (World.alloc w _) _ = w0 at *
  have hz0 := HB0.out.size
  refine HR.out.mono ?_; rintro en w1 ⟨rfl, hb1⟩
  have hk0 := Blk.below (show Blk _ _ _ _ from HK0.out) hb1 (show Blk _ _ _ _ from HK0.out).lt
  have hk1 := Blk.below (show Blk _ _ _ _ from HK1.out) hb1 (show Blk _ _ _ _ from HK1.out).lt
  have c0 : w1.cell? ⟨w.heap.size + 1, 0, none⟩ = some (.int .u64 (x : Int)) := hk1.cell 0
  have c1 : w1.cell? ⟨w.heap.size, 1, none⟩ = some (.slice A l.length c) := hk0.cell 1
  have hl0 := hk0.lt
  have hl1 := hk1.lt
  have HB1 := Lib.hid hb1
  clear hb1 hk0 hk1
  go_wp2_with fail
  refine (HPS.out _).mono ?_; rintro en w2 ⟨rfl, rfl⟩
  go_wp2_with fail
  refine (search_any x (Rp.sl_below HS.out HB1.out HD.out) (fun k hk => Nat.lt_of_lt_of_le (HD.out k hk) HB1.out.size) c0 c1 hl0 hl1 (by omega)).mono ?_; rintro en w2 ⟨r, rfl, hr, hlo, hhi, hb2⟩
  have HLO := Lib.hid hlo
  have HHI := Lib.hid hhi
  clear hlo hhi c0 c1
  go_wp2_with fail
  go_ret2
  have hbz := HB0.out.trans ((HB1.out.trans (hb2.mono HB1.out.size)).mono hz0)
  rcases HHI.out with rfl | ⟨s, hs, hxs⟩
  · have h1 := HOK.out.2
    have h2 := HLO.out
    have h3 : x < 4611686018427387904 := HPO.out
    dsimp only at h1
    omega
  · refine ⟨r, s, rfl, ⟨hs, ?_, hxs⟩, hbz⟩
    have := (HOK.out.1.2 r s (List.getElem?_eq_some_iff.1 hs).1 hs).2
    rw [this]; exact HLO.out
theorem lstripe_bad {D : Dom} {A : Option Addr} {n c e : Nat} {l : List Stp} {w : World} (x : Nat) (hs : rpStp.sl w D A n c l) (hD : ∀ k, D k → k < w.heap.size) (he : e ≤ 18446744073709551615) (hx : x ≤ 18446744073709551615) (hno : ¬ (POk (e, l) ∧ PosOk x)) :
    Calls Try.prog 27 #[.agg (prjV e A n c), .int .u64 (x : Int)] w fun en w' => en = .returned (.tuple #[.int .i64 0, .bool false]) ∧ Below w.heap.size w w' := by
  obtain ⟨hlen, hnc, hcm⟩ := Rp.sl_len hs
  unfold maxLen at hcm
  subst hlen
  have hb0 : Below w.heap.size w ((w.alloc (.cells (prjV e A l.length c) 25)).alloc (.cells #[.int .u64 (x : Int)] 22)) := ((Below.refl _ _).alloc (Nat.le_refl _) _).alloc (by simp) _
  have hr := pright_any (Rp.sl_below hs hb0 hD) (fun k hk => Nat.lt_of_lt_of_le (hD k hk) hb0.size) he
  have HB0 := Lib.hid hb0
  have HK1 : Hid (Blk ((w.alloc (.cells (prjV e A l.length c) 25)).alloc (.cells #[.int .u64 (x : Int)] 22)) (w.heap.size + 1) 22 #[.int .u64 (x : Int)]) := Blk.newAt (size_alloc _ _) _ _
  by_cases hok : POk (e, l)
  · rw [dec_true hok] at hr
    have HR := Lib.hid hr
    have hp := fun w => epos_any x w hx
    rw [dec_false (fun h => hno ⟨hok, h⟩)] at hp
    have HPS := Lib.hid hp
    clear hr hp hs hD hb0 hok hno
    go_enter Try.func27, Try.ntmps27
    go_wp2_with fail
    generalize World.alloc (World.alloc w _) _ = w0 at *
    refine HR.out.mono ?_; rintro en w1 ⟨rfl, hb1⟩
    have hk1 := Blk.below (show Blk _ _ _ _ from HK1.out) hb1 (show Blk _ _ _ _ from HK1.out).lt
    have c0 : w1.cell? ⟨w.heap.size + 1, 0, none⟩ = some (.int .u64 (x : Int)) := hk1.cell 0
    have HB1 := Lib.hid hb1
    clear hb1 hk1
    go_wp2_with fail
    refine (HPS.out _).mono ?_; rintro en w2 ⟨rfl, rfl⟩
    go_wp2_with fail
    go_ret2
    exact ⟨rfl, HB0.out.trans (HB1.out.mono HB0.out.size)⟩
  · rw [dec_false hok] at hr
    have HR := Lib.hid hr
    clear hr hs hD hb0 hok hno
    go_enter Try.func27, Try.ntmps27
    go_wp2_with fail
    generalize World.alloc (World.alloc w _) _ = w0 at *
    refine HR.out.mono ?_; rintro en w1 ⟨rfl, hb1⟩
    have HB1 := Lib.hid hb1
    clear hb1
    go_wp2_with fail
    go_ret2
    exact ⟨rfl, HB0.out.trans (HB1.out.mono HB0.out.size)⟩
end Go.Proofs.Ytmdgmnaaopineaa
