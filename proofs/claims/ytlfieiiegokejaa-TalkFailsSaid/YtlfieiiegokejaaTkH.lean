/- Whether a number was asked: slices.ContainsFunc over the log's pairs. -/
import Derived.Test.YtlfieiiegokejaaTkO
import Derived.Test.YtlfieiiegokejaaTkR
import Derived.Deep.DeepCutAuto
import Derived.Deep.CutBlock
import Derived.BigQuiet
import Derived.IntWalk
namespace Go.Proofs.Ytlfieiiegokejaa
open Go.ChangeShapes Go.WideShapes Go.ChangeAt Go.RowKit
set_option linter.unusedVariables false
/-- What the literal has caught: the messages and the answer. -/
structure Caught (w : World) (D : Dom) (A : Option Addr) (n c : Nat) (l : List Ms) (gl ga s : Nat) : Prop where
  sl : rpMs.sl w D A n c l
  dom : ∀ k, D k → k < w.heap.size
  gl0 : w.cell? ⟨gl, 0, none⟩ = some (.slice A n c)
  gl1 : gl < w.heap.size
  ga0 : w.cell? ⟨ga, 2, none⟩ = some (.int .u64 (s : Int))
  ga1 : ga < w.heap.size
/-- Pairs that lie as cells. -/
def PrIn (w : World) (A : Option Addr) (n : Nat) (ps : List Pr2) : Prop :=
  ps.length = n ∧ ∀ (i : Nat) (x : Pr2), ps[i]? = some x → ∃ g, A = some ⟨g, 0, none⟩ ∧ g < w.heap.size ∧ w.cell? ⟨g, i * 2, none⟩ = some (.int .i64 (x.1 : Int)) ∧ w.cell? ⟨g, i * 2 + 1, none⟩ = some (.int .i64 x.2)
section
variable {w w' : World} {D : Dom} {A A' : Option Addr} {n c n' c' gl ga s k : Nat} {l : List Ms} {ps : List Pr2} {a : Int}
theorem Caught.below (h : Caught w D A n c l gl ga s) (hb : Below w.heap.size w w') : Caught w' D A n c l gl ga s :=
  ⟨Rp.sl_below h.sl hb h.dom, fun k hk => Nat.lt_of_lt_of_le (h.dom k hk) hb.size, (hb.cell (p := ⟨gl, 0, none⟩) h.gl1).trans h.gl0, Nat.lt_of_lt_of_le h.gl1 hb.size, (hb.cell (p := ⟨ga, 2, none⟩) h.ga1).trans h.ga0, Nat.lt_of_lt_of_le h.ga1 hb.size⟩
theorem PrIn.below (h : PrIn w A n ps) (hb : Below w.heap.size w w') : PrIn w' A n ps := ⟨h.1, fun i x hx => by
  obtain ⟨g, h1, h2, h3, h4⟩ := h.2 i x hx
  exact ⟨g, h1, Nat.lt_of_lt_of_le h2 hb.size, (hb.cell (p := ⟨g, i * 2, none⟩) h2).trans h3, (hb.cell (p := ⟨g, i * 2 + 1, none⟩) h2).trans h4⟩⟩
theorem prIn_own {base cc : Nat} (h : w.ownsRow base 54 2 (.slice A n cc) n (ps.flatMap pr2)) : PrIn w A n ps := by
  refine ⟨by have := h.1; rw [flat2_len] at this; omega, fun i x hx => ?_⟩
  have e0 := flat2_get ps i 0 (by omega)
  have e1 := flat2_get ps i 1 (by omega)
  rw [hx] at e0 e1
  obtain ⟨g, cur, h1, h2, h3, h4, _⟩ := row_cell h (show (ps.flatMap pr2)[i * 2 + 0]? = some (.int .i64 (x.1 : Int)) from e0)
  obtain ⟨g', cur', h1', h2', h3', h4', _⟩ := row_cell h (show (ps.flatMap pr2)[i * 2 + 1]? = some (.int .i64 x.2) from e1)
  rw [h1] at h1'
  injection h1' with h1'
  injection h1' with h1'
  subst h1'
  exact ⟨g, h1, h3.lt, by simpa using h4, h4'⟩
def eqSq (l : List Ms) (k s : Nat) : Bool := match l[k]? with | some m => m.sq == s | none => false
set_option maxRecDepth 100000 in
set_option maxHeartbeats 1000000 in
theorem ans1_any (h : Caught w D A n c l gl ga s) (hk : k < n) :
    Calls Try.prog 67 #[.agg #[.int .i64 (k : Int), .int .i64 a], .pointer (some ⟨gl, 0, none⟩), .pointer (some ⟨ga, 0, none⟩)] w fun e w' => e = .returned (.bool (eqSq l k s)) ∧ Below w.heap.size w w' := by
  have hb0 := below1 w (.cells #[.int .i64 (k : Int), .int .i64 a] 54)
  have HB := Lib.hid hb0
  have HK := Lib.hid (blk11 w 54 #[.int .i64 (k : Int), .int .i64 a])
  have HC := Lib.hid (h.below hb0)
  clear hb0 h
  obtain ⟨q, hq⟩ : ∃ q, eqSq l k s = q := ⟨_, rfl⟩
  rw [hq]
  have HQ := Lib.hid hq
  clear hq
  go_enter Try.func67, Try.ntmps67
  go_upto_region 1 with (fail)
  generalize World.alloc w _ = w0 at *
  have k0 := (show Blk w0 w.heap.size 54 _ from HK.out).cell 0
  have g0 := HC.out.gl0
  have g1 := HC.out.ga0
  have hkI : (0 : Int) ≤ (k : Int) := by omega
  have hkI2 : (k : Int) < (n : Int) := by omega
  obtain ⟨b, off, m, hd, rfl, _, hm, hin, hc⟩ := ms_at HC.out.sl HC.out.dom hk
  have m2 : w0.cell? ⟨b, off + k * 14 + 2, none⟩ = some (.int .u64 (m.sq : Int)) := hc 2 _ rfl
  have hd2 : ((m.sq : Int) == (s : Int)) = q := by
    rw [← HQ.out]
    unfold eqSq
    rw [hm]
    by_cases e : m.sq = s
    · simp [e]
    · have : ((m.sq : Int) == (s : Int)) = false := by simp; omega
      rw [this]
      symm
      simpa using e
  clear hm hin hc
  go_quiet (fail)
  go_wp2_with fail
  go_ret
  exact ⟨rfl, HB.out.os, HB.out.tape, HB.out.output, HB.out.size, HB.out.block⟩
/-- Whether one of the first k pairs has the number. -/
def AskIn (l : List Ms) (ps : List Pr2) (s k : Nat) : Prop := ∃ (p : Nat) (x : Pr2), p < k ∧ ps[p]? = some x ∧ eqSq l x.1 s = true
set_option maxRecDepth 100000 in
set_option maxHeartbeats 2000000 in
theorem afind_any (h : Caught w D A n c l gl ga s) (hp : PrIn w A' n' ps) (hk : ∀ x ∈ ps, x.1 < n) (hn : n' ≤ 1000) :
    Calls Try.prog 79 #[.slice A' n' c', .func (Fn.func 67) #[] #[.pointer (some ⟨gl, 0, none⟩), .pointer (some ⟨ga, 0, none⟩)]] w fun e w' => ∃ r : Int, e = .returned (.int .i64 r) ∧ (0 ≤ r ∧ AskIn l ps s n' ∨ r = -1 ∧ ¬ AskIn l ps s n') ∧ Below w.heap.size w w' := by
  have HC := Lib.hid h
  have HP := Lib.hid hp
  have HKK := Lib.hid hk
  clear h hp hk
  go_enter Try.func79, Try.ntmps79
  go_wp2_with fail
  go_loopw [8] (fun vi wr => ∃ k : Nat, k ≤ n' ∧ vi = .int .i64 k ∧ Hid (¬ AskIn l ps s k) ∧ Hid (Below w.heap.size w wr)) (fun vi _ => n' - (intOf vi).toNat)
  case atStart => exact ⟨0, Nat.zero_le _, rfl, fun ⟨_, _, h, _⟩ => absurd h (Nat.not_lt_zero _), Below.refl _ _⟩
  case round =>
    obtain ⟨k, hkn', rfl, hat, hbel⟩ := hrel
    have hzr := hbel.out.size
    by_cases hkn : k < n'
    case pos =>
      have hd : decide (k < n') = true := by simpa using hkn
      obtain ⟨x, hx⟩ : ∃ x, ps[k]? = some x := ⟨_, List.getElem?_eq_getElem (by have := HP.out.1; omega)⟩
      obtain ⟨g, hA', _, g0, g1⟩ := (HP.out.below hbel.out).2 k x hx
      subst hA'
      obtain ⟨xk, xa⟩ := x
      have hxn := HKK.out _ (List.mem_of_getElem? hx)
      have HX := Lib.hid hx
      have HCC := Lib.hid (ans1_any (a := xa) (HC.out.below hbel.out) hxn)
      have hkI : (0 : Int) ≤ (k : Int) := by omega
      have hkI2 : (k : Int) < (n' : Int) := by omega
      have z1 : wr.cell? ⟨g, 0 + k * 2, none⟩ = some (.int .i64 (xk : Int)) := by rw [Nat.zero_add]; exact g0
      have z2 : wr.cell? ⟨g, 0 + k * 2 + 1, none⟩ = some (.int .i64 xa) := by rw [Nat.zero_add]; exact g1
      simp only at g0 g1
      obtain ⟨q, hq⟩ : ∃ q, eqSq l xk s = q := ⟨_, rfl⟩
      rw [hq] at HCC
      have HQ := Lib.hid hq
      clear hx hxn hq
      go_wp2_with fail
      refine HCC.out.mono ?_; rintro e w1 ⟨rfl, hb1⟩
      have HB1 := Lib.hid (stepB hbel.out hb1)
      clear hb1 g0 g1 z1 z2
      cases q
      case true =>
        have HM : Hid (AskIn l ps s n') := ⟨k, _, hkn, HX.out, HQ.out⟩
        go_wp2_with fail
        go_ret
        exact ⟨(k : Int), rfl, .inl ⟨by omega, HM.out⟩, HB1.out⟩
      case false =>
        have HM : Hid (¬ AskIn l ps s (k + 1)) := fun ⟨p, y, h1, h2, h3⟩ => by
          rcases Nat.lt_or_ge p k with h4 | h4
          · exact hat.out ⟨p, y, h4, h2, h3⟩
          · obtain rfl : p = k := by omega
            rw [HX.out] at h2
            injection h2 with h2
            subst h2
            rw [HQ.out] at h3
            cases h3
        go_wp2_with fail
        go_roundw
        case rel => exact ⟨k + 1, hkn, by go_num, HM, HB1⟩
        case measure => simp [intOf]; omega
    case neg =>
      have hd : decide (k < n') = false := by simpa using hkn
      obtain rfl : k = n' := by omega
      go_wp2_with fail
      go_ret
      exact ⟨-1, rfl, .inr ⟨rfl, hat.out⟩, hbel.out⟩
set_option maxRecDepth 100000 in
set_option maxHeartbeats 1000000 in
theorem acont_any (h : Caught w D A n c l gl ga s) (hp : PrIn w A' n' ps) (hk : ∀ x ∈ ps, x.1 < n) (hn : n' ≤ 1000) :
    Calls Try.prog 66 #[.slice A' n' c', .func (Fn.func 67) #[] #[.pointer (some ⟨gl, 0, none⟩), .pointer (some ⟨ga, 0, none⟩)]] w fun e w' => e = .returned (.bool (dec (AskIn l ps s n'))) ∧ Below w.heap.size w w' := by
  have HF := Lib.hid (afind_any (c' := c') h hp hk hn)
  clear h hp hk
  go_enter Try.func66, Try.ntmps66
  go_wp2_with fail
  refine HF.out.mono ?_; rintro e w1 ⟨r, rfl, hr, hb⟩
  have HB := Lib.hid hb
  clear hb
  rcases hr with ⟨h1, h2⟩ | ⟨rfl, h2⟩
  · have hd : decide ((0 : Int) ≤ r) = true := by simpa using h1
    have HM := Lib.hid h2
    clear h2
    go_wp2_with fail
    go_ret
    exact ⟨by rw [dec_true HM.out]; rfl, HB.out⟩
  · have HM := Lib.hid h2
    clear h2
    go_wp2_with fail
    go_ret
    exact ⟨by rw [dec_false HM.out]; rfl, HB.out⟩
end
end Go.Proofs.Ytlfieiiegokejaa
