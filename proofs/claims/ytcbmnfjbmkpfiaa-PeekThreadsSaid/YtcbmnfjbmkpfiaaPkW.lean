/- Whether links, entries, a batch are more than is gone through. -/
import Derived.Test.YtcbmnfjbmkpfiaaPkK
import Derived.BigQuiet
import Derived.Deep.DeepCutAuto
import Derived.Deep.CutBlock
namespace Go.Proofs.Ytcbmnfjbmkpfiaa
open Go.ChangeShapes Go.WideShapes Go.ChangeAt Go.RowKit
set_option linter.unusedVariables false
def LBd (l : List Lnk) : Prop := l.length ≤ 50 ∧ ∀ x ∈ l, x.2.length ≤ 50
def EBd1 (e : Ent) : Prop := LBd e.1 ∧ e.2.length ≤ 500
def MBd (es : List Ent) : Prop := es.length ≤ 30 ∧ ∀ e ∈ es, EBd1 e
def BBd (es : List Ent) : Prop := MBd es ∧ totL es ≤ 300
/-- A bool that, where it is false, says P. -/
def Unless (w : World) (P : Prop) (e : Ending) (w' : World) : Prop := ∃ r : Bool, e = .returned (.bool r) ∧ (r = false → P) ∧ Below w.heap.size w w'
theorem BBd.ebd {es : List Ent} (h : BBd es) : EBd es :=
  ⟨Nat.le_trans h.1.1 (by decide), fun e he => ⟨Nat.le_trans (h.1.2 e he).1.1 (by decide), fun x hx => Nat.le_trans ((h.1.2 e he).1.2 x hx) (by decide), Nat.le_trans (h.1.2 e he).2 (by decide)⟩⟩
theorem tot_500 {es : List Ent} : ∀ {k : Nat}, (∀ (j : Nat) x, j < k → es[j]? = some x → x.2.length ≤ 500) → totL (es.take k) ≤ 500 * k
  | 0, _ => Nat.zero_le _
  | k + 1, h => by
    have ih := tot_500 (k := k) (fun j x hj hx => h j x (by omega) hx)
    cases hx : es[k]? with
    | none =>
      rw [List.take_add_one, hx]
      simp only [Option.toList_none, List.append_nil]
      omega
    | some x =>
      have := h k x (by omega) hx
      rw [tot_take hx]; omega
section
variable {D : Dom} {A : Option Addr} {n c : Nat} {w : World}
set_option maxRecDepth 100000 in
set_option maxHeartbeats 2000000 in
theorem llong_any {l : List Lnk} (hs : rpLnk.sl w D A n c l) (hD : ∀ k, D k → k < w.heap.size) :
    Calls Try.prog 13 #[.slice A n c] w (Unless w (LBd l)) := by
  obtain ⟨hlen, hnc, hcm⟩ := Rp.sl_len hs
  unfold maxLen at hcm
  have HS := Lib.hid (show Sl rpLnk w D A n c l from ⟨hs, hD⟩)
  have HN := Lib.hid hlen
  clear hs hD hlen
  go_enter Try.func13, Try.ntmps13
  go_wp2_with fail
  go_loopw [3] (fun v3 wr => ∃ k : Nat, k ≤ n ∧ k ≤ 50 ∧ v3 = .int .i64 (k : Int) ∧ Hid (∀ (j : Nat) x, j < k → l[j]? = some x → x.2.length ≤ 50) ∧ Hid (Below w.heap.size w wr)) (fun v3 _ => n - (intOf v3).toNat)
  case atStart => exact ⟨0, by omega, by omega, rfl, fun j x h => absurd h (Nat.not_lt_zero _), Below.refl _ _⟩
  case round =>
    obtain ⟨k, hk, hk50, rfl, hal, hbr⟩ := hrel
    by_cases hin : k < n ∧ k < 50
    · obtain ⟨h1, h2⟩ := hin
      obtain ⟨b, off, x, A2, c2, rfl, _, hx, g0, g1, hrow, _⟩ := lnk_at (keepS HS.out hbr.out).1 h1
      have hkI : (0 : Int) ≤ (k : Int) := by omega
      have hkI2 : (k : Int) < (n : Int) := by omega
      have hd1 : decide ((k : Int) < (n : Int)) = true := by simp; omega
      have hd2 : decide ((k : Int) < 50) = true := by simp; omega
      obtain ⟨q, hq⟩ : ∃ q, decide ((50 : Int) < (x.2.length : Int)) = q := ⟨_, rfl⟩
      have HX := Lib.hid hx
      clear hrow hx
      cases q
      case false =>
        have HL : Hid (x.2.length ≤ 50) := by show _ ≤ _; simp at hq; omega
        go_wp2_with fail
        go_roundw
        case rel => exact ⟨k + 1, by omega, by omega, by go_num, fun j y hj hy => by
          rcases Nat.lt_or_ge j k with h | h
          · exact hal.out j y h hy
          · obtain rfl : j = k := by omega
            have e := HX.out
            rw [hy] at e
            injection e with e
            rw [e]; exact HL.out, hbr⟩
        case measure => simp [intOf]; omega
      case true =>
        go_wp2_with fail
        go_ret
        exact ⟨true, rfl, fun h => (nomatch h), hbr.out⟩
    · have hc : k = n ∨ (k < n ∧ k = 50) := by omega
      clear hin
      rcases hc with rfl | ⟨h1, rfl⟩
      · have hd1 : decide ((k : Int) < (k : Int)) = false := by simp
        go_wp2_with fail
        go_ret
        exact ⟨_, rfl, fun h => ⟨by rw [HN.out]; exact hk50, fun x hx => by
          obtain ⟨j, hj⟩ := List.getElem?_of_mem hx
          exact hal.out j x (by rw [← HN.out]; exact (List.getElem?_eq_some_iff.1 hj).1) hj⟩, hbr.out⟩
      · have hd1 : decide ((50 : Int) < (n : Int)) = true := by simp; omega
        go_wp2_with fail
        go_ret
        exact ⟨_, rfl, fun h => (nomatch h), hbr.out⟩
theorem elong_any {B : Option Addr} {m d : Nat} {e : Ent} (hs : rpLnk.sl w D A n c e.1) (hD : ∀ k, D k → k < w.heap.size) (hm : e.2.length = m) :
    Calls Try.prog 59 #[.agg (entV A n c B m d)] w (Unless w (EBd1 e)) := by
  have hb0 := below1 w (.cells (entV A n c B m d) 45)
  have HB := Lib.hid hb0
  have HK := Lib.hid (blk11 w 45 (entV A n c B m d))
  have HC := Lib.hid (llong_any (Rp.sl_below hs hb0 hD) (fun k hk => Nat.lt_of_lt_of_le (hD k hk) hb0.size))
  have HM := Lib.hid hm
  clear hs hD hb0 hm
  go_enter Try.func59, Try.ntmps59
  go_upto_region 1 with (fail)
  generalize World.alloc w _ = w0 at *
  have k0 := (show Blk w0 w.heap.size 45 (entV A n c B m d) from HK.out).cell 0
  go_wp2_with fail
  refine HC.out.mono ?_; rintro en w1 ⟨r, rfl, hr, hb1⟩
  have HB1 := Lib.hid (stepB HB.out hb1)
  have k1 := (keepB (show Blk w0 w.heap.size 45 (entV A n c B m d) from HK.out) hb1).cell 1
  clear k0 hb1
  cases r
  case true =>
    clear hr
    go_wp2_with fail
    go_ret
    exact ⟨true, rfl, fun h => (nomatch h), HB1.out⟩
  case false =>
    have HR := Lib.hid (hr rfl)
    clear hr
    go_wp2_with fail
    go_ret
    exact ⟨_, rfl, fun h => ⟨HR.out, by rw [HM.out]; simp at h; omega⟩, HB1.out⟩
set_option maxRecDepth 100000 in
set_option maxHeartbeats 2000000 in
theorem many_any {es : List Ent} (hs : rpEnt.sl w D A n c es) (hD : ∀ k, D k → k < w.heap.size) :
    Calls Try.prog 28 #[.slice A n c] w (Unless w (MBd es)) := by
  obtain ⟨hlen, hnc, hcm⟩ := Rp.sl_len hs
  unfold maxLen at hcm
  have HS := Lib.hid (show Sl rpEnt w D A n c es from ⟨hs, hD⟩)
  have HN := Lib.hid hlen
  clear hs hD hlen
  go_enter Try.func28, Try.ntmps28
  go_wp2_with fail
  go_loopw [3] (fun v3 wr => ∃ k : Nat, k ≤ n ∧ k ≤ 30 ∧ v3 = .int .i64 (k : Int) ∧ Hid (∀ (j : Nat) x, j < k → es[j]? = some x → EBd1 x) ∧ Hid (Below w.heap.size w wr)) (fun v3 _ => n - (intOf v3).toNat)
  case atStart => exact ⟨0, by omega, by omega, rfl, fun j x h => absurd h (Nat.not_lt_zero _), Below.refl _ _⟩
  case round =>
    obtain ⟨k, hk, hk50, rfl, hal, hbr⟩ := hrel
    by_cases hin : k < n ∧ k < 30
    · obtain ⟨h1, h2⟩ := hin
      have hsr := keepS HS.out hbr.out
      obtain ⟨b, off, x, A2, c2, B2, d2, rfl, _, hx, g0, g1, hrow, _⟩ := ent_at hsr.1 h1
      have hkI : (0 : Int) ≤ (k : Int) := by omega
      have hkI2 : (k : Int) < (n : Int) := by omega
      have hd1 : decide ((k : Int) < (n : Int)) = true := by simp; omega
      have hd2 : decide ((k : Int) < 30) = true := by simp; omega
      have HX := Lib.hid hx
      have HC := Lib.hid (elong_any (B := B2) (d := d2) hrow hsr.2 rfl)
      clear hrow hx hsr
      go_wp2_with fail
      refine HC.out.mono ?_; rintro en w1 ⟨r, rfl, hr, hb1⟩
      have HB1 := Lib.hid (stepB hbr.out hb1)
      clear g0 g1 hb1
      cases r
      case false =>
        have HR := Lib.hid (hr rfl)
        clear hr
        go_wp2_with fail
        go_roundw
        case rel => exact ⟨k + 1, by omega, by omega, by go_num, fun j y hj hy => by
          rcases Nat.lt_or_ge j k with h | h
          · exact hal.out j y h hy
          · obtain rfl : j = k := by omega
            have e := HX.out
            rw [hy] at e
            injection e with e
            rw [e]; exact HR.out, HB1⟩
        case measure => simp [intOf]; omega
      case true =>
        clear hr
        go_wp2_with fail
        go_ret
        exact ⟨true, rfl, fun h => (nomatch h), HB1.out⟩
    · have hc : k = n ∨ (k < n ∧ k = 30) := by omega
      clear hin
      rcases hc with rfl | ⟨h1, rfl⟩
      · have hd1 : decide ((k : Int) < (k : Int)) = false := by simp
        go_wp2_with fail
        go_ret
        exact ⟨_, rfl, fun h => ⟨by rw [HN.out]; exact hk50, fun x hx => by
          obtain ⟨j, hj⟩ := List.getElem?_of_mem hx
          exact hal.out j x (by rw [← HN.out]; exact (List.getElem?_eq_some_iff.1 hj).1) hj⟩, hbr.out⟩
      · have hd1 : decide ((30 : Int) < (n : Int)) = true := by simp; omega
        go_wp2_with fail
        go_ret
        exact ⟨_, rfl, fun h => (nomatch h), hbr.out⟩
set_option maxRecDepth 100000 in
set_option maxHeartbeats 2000000 in
theorem blong_any {ep b : Nat} {es : List Ent} (hs : rpEnt.sl w D A n c es) (hD : ∀ k, D k → k < w.heap.size) :
    Calls Try.prog 7 #[.agg (batV ep b A n c)] w (Unless w (BBd es)) := by
  obtain ⟨hlen, hnc, hcm⟩ := Rp.sl_len hs
  unfold maxLen at hcm
  have hb0 := below1 w (.cells (batV ep b A n c) 25)
  have HB := Lib.hid hb0
  have HK := Lib.hid (blk11 w 25 (batV ep b A n c))
  have HS := Lib.hid (keepS (show Sl rpEnt w D A n c es from ⟨hs, hD⟩) hb0)
  have HN := Lib.hid hlen
  clear hs hD hlen hb0
  go_enter Try.func7, Try.ntmps7
  go_upto_region 1 with (fail)
  generalize World.alloc w _ = w0 at *
  go_wp2_with fail
  go_loopw [3, 4] (fun v3 v4 wr => ∃ (k : Nat) (s : Int), k ≤ n ∧ k ≤ 30 ∧ v3 = .int .i64 s ∧ v4 = .int .i64 (k : Int) ∧ Hid ((∀ (j : Nat) x, j < k → es[j]? = some x → x.2.length ≤ 500) → s = (totL (es.take k) : Int)) ∧ Hid (wr = w0)) (fun _ v4 _ => n - (intOf v4).toNat)
  case atStart => exact ⟨0, 0, by omega, by omega, rfl, rfl, fun _ => rfl, rfl⟩
  case round =>
    obtain ⟨k, s, hk, hk30, rfl, rfl, hal, hwr⟩ := hrel
    have e := hwr.out
    subst e
    clear hwr
    have k2 := (show Blk wr w.heap.size 25 (batV ep b A n c) from HK.out).cell 2
    by_cases hin : k < n ∧ k < 30
    · obtain ⟨h1, h2⟩ := hin
      obtain ⟨b1, off, x, A2, c2, B2, d2, rfl, _, hx, g0, g1, hrow, _⟩ := ent_at HS.out.1 h1
      have hkI : (0 : Int) ≤ (k : Int) := by omega
      have hkI2 : (k : Int) < (n : Int) := by omega
      have hd1 : decide ((k : Int) < (n : Int)) = true := by simp; omega
      have hd2 : decide ((k : Int) < 30) = true := by simp; omega
      have HX := Lib.hid hx
      clear hrow hx g0
      go_wp2_with fail
      go_roundw
      case rel => exact ⟨k + 1, _, by omega, by omega, rfl, by go_num, fun hall => by
          have e1 := hal.out (fun j y hj hy => hall j y (by omega) hy)
          have e2 := hall k x (by omega) HX.out
          have e3 : totL (es.take k) ≤ 500 * k := tot_500 (fun j y hj hy => hall j y (by omega) hy)
          rw [e1, tot_take HX.out]
          have e4 : wrap64 ((totL (es.take k) : Int) + (x.2.length : Int)) = (totL (es.take k) : Int) + (x.2.length : Int) := IntWalk.wrap64_in _ (by omega)
          rw [e4]
          push_cast; rfl, trivial⟩
      case measure => simp [intOf]; omega
    · have HC := Lib.hid (many_any HS.out.1 HS.out.2)
      have hc : k = n ∨ (k < n ∧ k = 30) := by omega
      clear hin
      rcases hc with rfl | ⟨h1, rfl⟩
      · have hd1 : decide ((k : Int) < (k : Int)) = false := by simp
        go_wp2_with fail
        refine HC.out.mono ?_; rintro en w1 ⟨r, rfl, hr, hb1⟩
        have HB1 := Lib.hid (stepB HB.out hb1)
        clear hb1 k2
        cases r
        case true =>
          clear hr
          go_wp2_with fail
          go_ret
          exact ⟨true, rfl, fun h => (nomatch h), HB1.out⟩
        case false =>
          have HR := Lib.hid (hr rfl)
          clear hr
          go_wp2_with fail
          go_ret
          exact ⟨_, rfl, fun h => ⟨HR.out, by
            have hm := HR.out
            have e1 := hal.out (fun j x _ hx => (hm.2 x (List.mem_of_getElem? hx)).2)
            rw [List.take_of_length_le (by rw [HN.out]; exact Nat.le_refl _)] at e1
            simp at h
            omega⟩, HB1.out⟩
      · have hd1 : decide ((30 : Int) < (n : Int)) = true := by simp; omega
        go_wp2_with fail
        refine HC.out.mono ?_; rintro en w1 ⟨r, rfl, hr, hb1⟩
        have HB1 := Lib.hid (stepB HB.out hb1)
        clear hb1 k2
        cases r
        case true =>
          clear hr
          go_wp2_with fail
          go_ret
          exact ⟨true, rfl, fun h => (nomatch h), HB1.out⟩
        case false =>
          have HR := Lib.hid (hr rfl)
          clear hr
          go_wp2_with fail
          go_ret
          exact ⟨_, rfl, fun h => by
            have hm := HR.out.1
            rw [HN.out] at hm
            omega, HB1.out⟩
end
end Go.Proofs.Ytcbmnfjbmkpfiaa
