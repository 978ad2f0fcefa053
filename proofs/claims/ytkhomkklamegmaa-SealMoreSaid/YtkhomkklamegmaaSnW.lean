/- The nodes that were sealed, and the tail: the program's walks. -/
import Derived.Test.YtkhomkklamegmaaSnM
import Derived.Test.YtkhomkklamegmaaSr13
import Derived.Test.YtkhomkklamegmaaSeal
import Derived.Test.YtkhomkklamegmaaKeep
import Derived.Test.YtkhomkklamegmaaOpenF
import Derived.Deep.DeepCutAuto
import Derived.Deep.CutBlock
namespace Go.Proofs.Ytkhomkklamegmaa
open Go.ChangeShapes Go.WideShapes Go.ChangeAt Go.RowKit
set_option linter.unusedVariables false
abbrev rpSeaN : Rp Sea := rpPair rpU64 (rpPair rpU64 rpU64)
theorem sea_at {w : World} {D : Dom} {A : Option Addr} {n c : Nat} {l : List Sea} (h : rpSeaN.sl w D A n c l) {k : Nat} (hk : k < n) :
    ∃ b off s, A = some ⟨b, off, none⟩ ∧ D b ∧ l[k]? = some s ∧ w.cell? ⟨b, off + k * 3, none⟩ = some (.int .u64 (s.1 : Int)) ∧ w.cell? ⟨b, off + k * 3 + 1, none⟩ = some (.int .u64 (s.2.1 : Int)) ∧ w.cell? ⟨b, off + k * 3 + 2, none⟩ = some (.int .u64 (s.2.2 : Int)) ∧
      s.1 < 18446744073709551616 ∧ s.2.1 < 18446744073709551616 ∧ s.2.2 < 18446744073709551616 := by
  obtain ⟨b, off, ⟨x, y, z⟩, cs, hA, hb, hx, hc, hg⟩ := Rp.sl_at h hk
  obtain ⟨cs1, cs2, rfl, ⟨rfl, q1⟩, cs3, cs4, rfl, ⟨rfl, q2⟩, ⟨rfl, q3⟩⟩ := hc
  have e : rpSeaN.size = 3 := by kernel_rfl
  rw [e] at hg
  dsimp only at q1 q2 q3
  exact ⟨b, off, (x, y, z), hA, hb, hx, by simpa using hg 0 _ rfl, hg 1 _ rfl, hg 2 _ rfl, q1, q2, q3⟩
/-- The captured list of nodes. -/
def JN (base gv : Nat) (w : World) (acc : List Sea) : Prop :=
  ∃ A c, Blk w gv 55 #[.slice A acc.length c] ∧ w.ownsRow base 22 1 (.slice A acc.length c) acc.length ((acc.map (fun s => s.2.1)).map uv) ∧ base ≤ w.heap.size ∧ base ≤ gv
theorem JN.below {base gv : Nat} {w w' : World} {acc : List Sea} (h : JN base gv w acc) (hb : Below w.heap.size w w') : JN base gv w' acc := by
  obtain ⟨A, c, h1, h2, h3, h4⟩ := h
  exact ⟨A, c, keepB h1 hb, keepO h2 hb, Nat.le_trans h3 hb.size, h4⟩
/-- The captured tail. -/
def JT (base gv : Nat) (w : World) (acc : List Sea) : Prop := Blk w gv 22 #[.int .u64 (maxs acc : Int)] ∧ base ≤ w.heap.size ∧ base ≤ gv ∧ maxs acc < 18446744073709551616
theorem JT.below {base gv : Nat} {w w' : World} {acc : List Sea} (h : JT base gv w acc) (hb : Below w.heap.size w w') : JT base gv w' acc :=
  ⟨keepB h.1 hb, Nat.le_trans h.2.1 hb.size, h.2.2⟩
/-- A literal took one more. -/
def Took (J : Nat → Nat → World → List Sea → Prop) (base gv : Nat) (w : World) (acc : List Sea) (s : Sea) (e : Ending) (w' : World) : Prop := e = .returned (.tuple #[]) ∧ J base gv w' (acc ++ [s]) ∧ Below base w w'
theorem nodes1_any {base gv : Nat} {w : World} {acc : List Sea} {s : Sea} (h : JN base gv w acc) (hm : acc.length ≤ 1000) (h1 : s.2.1 < 18446744073709551616) :
    Calls Try.prog 43 #[.agg (sV s), .pointer (some ⟨gv, 0, none⟩)] w (Took JN base gv w acc s) := by
  obtain ⟨A, c, hk, ho, hbw, hbg⟩ := h
  have hb0 := below1 w (.cells (sV s) 24)
  have HK := Lib.hid (keepB hk hb0)
  have HO := Lib.hid (keepO ho hb0)
  have HX := Lib.hid (blk11 w 24 (sV s))
  have HB := Lib.hid hb0
  have HZ := Lib.hid (Nat.le_trans hbw hb0.size)
  obtain ⟨m, hmm⟩ : ∃ m, m = acc.length := ⟨_, rfl⟩
  rw [← hmm] at HK HO hm
  have HMM := Lib.hid hmm
  clear hk ho hb0 hmm
  go_enter Try.func43, Try.ntmps43
  go_upto_region 1 with (fail)
  generalize World.alloc w _ = w0 at *
  have k0 := (show Blk w0 gv 55 _ from HK.out).cell 0
  have x1 := (show Blk w0 w.heap.size 24 (sV s) from HX.out).cell 1
  have hb1 := below1 w0 (.cells #[.int .u64 (s.2.1 : Int)] 22)
  have HO1 := Lib.hid (keepO (show w0.ownsRow base 22 1 (.slice A m c) m _ from HO.out) hb1)
  have HK1 := Lib.hid (keepB (show Blk w0 gv 55 _ from HK.out) hb1)
  have HSR := Lib.hid (Src.one ((blk11 w0 22 #[.int .u64 (s.2.1 : Int)]).cell 0) (v := uv s.2.1) rfl)
  have HB1 := Lib.hid (stepB HB.out hb1)
  have HZ1 := Lib.hid (Nat.le_trans HZ.out hb1.size)
  clear hb1
  go_wp2_with (at_builtin; refine wpList_app rfl (.tmp 3) (.tmp 6) _ rfl elemN8 rfl HO1.out rfl HSR.out (by unfold maxLen; omega) (by omega) HZ1.out ?_; intro A1 c1 w1 ho1 hg1 hat1
               have hk1 := (show Blk (World.alloc w0 _) gv 55 _ from HK1.out).grown hg1 (Pen.ne' HK1.out HO1.out (by decide))
               have j0 := hk1.cell 0
               have j1 := hk1.frozen 0
               have HK2 := Lib.hid hk1
               have HO2 := Lib.hid ho1
               have HG2 := Lib.hid hg1
               clear hk1 ho1 hg1 hat1)
  go_end0
  have hne : some gv ≠ (Value.slice A1 (m + 1) c1).ownBlock := Pen.ne' HK2.out HO2.out (by decide)
  refine ⟨rfl, ⟨A1, c1, ?_, ?_, ?_, hbg⟩, ?_⟩
  · have := HK2.out.put 0 (.slice A1 (m + 1) c1)
    rw [List.length_append, ← HMM.out]
    exact this
  · have := HO2.out.kept (grown_setCell w1 ⟨gv, 0, none⟩ (.slice A1 (m + 1) c1)) (.inr (fun e => hne e.symm))
    rw [List.length_append, ← HMM.out, List.map_append, List.map_append]
    exact this
  · have h1 := HG2.out.size
    have h2 := HZ1.out
    simp [World.setCell]
    omega
  · have h3 : Below base w w1 := (HB1.out.mono hbw).grown HG2.out HZ1.out (fun q hq => (HO1.out.lt q hq).1)
    exact h3.setCell hbg _
theorem tail1_any {base gv : Nat} {w : World} {acc : List Sea} {s : Sea} (h : JT base gv w acc) (h1 : s.2.2 < 18446744073709551616) :
    Calls Try.prog 46 #[.agg (sV s), .pointer (some ⟨gv, 0, none⟩)] w (Took JT base gv w acc s) := by
  obtain ⟨hk, hbw, hbg, hlt⟩ := h
  have hb0 := below1 w (.cells (sV s) 24)
  have HK := Lib.hid (keepB hk hb0)
  have HX := Lib.hid (blk11 w 24 (sV s))
  have HB := Lib.hid hb0
  have HZ := Lib.hid (Nat.le_trans hbw hb0.size)
  obtain ⟨M, hM⟩ : ∃ M, M = max (maxs acc) s.2.2 := ⟨_, rfl⟩
  have HM : Hid (maxs (acc ++ [s]) = M) := by show maxs (acc ++ [s]) = M; rw [hM, maxs_snoc]
  have y0 : (if (maxs acc : Int) < (s.2.2 : Int) then (s.2.2 : Int) else (maxs acc : Int)) = (M : Int) := by rw [hM]; split <;> omega
  have hMl : M < 18446744073709551616 := by omega
  clear hk hb0 hM
  go_enter Try.func46, Try.ntmps46
  go_upto_region 1 with (fail)
  generalize World.alloc w _ = w0 at *
  have k0 := (show Blk w0 gv 22 _ from HK.out).cell 0
  have k1 := (show Blk w0 gv 22 _ from HK.out).frozen 0
  have x2 := (show Blk w0 w.heap.size 24 (sV s) from HX.out).cell 2
  go_wp2_with fail
  · go_end0
    have e : maxs (acc ++ [s]) = s.2.2 := by rw [maxs_snoc]; omega
    exact ⟨rfl, ⟨by rw [e]; exact HK.out.put 0 _, by have := HZ.out; simp [World.setCell]; omega, hbg, by rw [e]; exact h1⟩, ((HB.out.mono hbw).setCell hbg _)⟩
  · go_end0
    have e : maxs (acc ++ [s]) = maxs acc := by rw [maxs_snoc]; omega
    exact ⟨rfl, ⟨by rw [e]; exact HK.out.put 0 _, by have := HZ.out; simp [World.setCell]; omega, hbg, by rw [e]; exact hlt⟩, ((HB.out.mono hbw).setCell hbg _)⟩
set_option maxRecDepth 100000 in
set_option maxHeartbeats 2000000 in
theorem each_nodes {base gv ep n c : Nat} {w : World} {D : Dom} {A : Option Addr} {l : List Sea} (hs : rpSeaN.sl w D A n c l) (hD : ∀ k, D k → k < base) (hn : n ≤ 1000) (hj : JN base gv w []) (hep : ep < 18446744073709551616) :
    Calls Try.prog 42 #[.slice A n c, .int .u64 (ep : Int), .func (Fn.func 43) #[] #[.pointer (some ⟨gv, 0, none⟩)]] w fun e w' => e = .returned (.tuple #[]) ∧ JN base gv w' (oks l ep) ∧ Below base w w' := by
  have hlen := (Rp.sl_len hs).1
  have HS := Lib.hid hs
  have HD := Lib.hid hD
  have HN := Lib.hid hlen
  have HJ := Lib.hid hj
  clear hs hD hlen hj
  go_enter Try.func42, Try.ntmps42
  go_wp2_with fail
  go_loopw [10] (fun vi wr => ∃ k : Nat, k ≤ n ∧ vi = .int .i64 k ∧ Hid (JN base gv wr (oks (l.take k) ep)) ∧ Hid (Below base w wr)) (fun vi _ => n - (intOf vi).toNat)
  case atStart => exact ⟨0, by omega, rfl, HJ, Below.refl _ _⟩
  case round =>
    obtain ⟨k, hk, rfl, hj, hb⟩ := hrel
    by_cases hkn : k < n
    case neg =>
      obtain rfl : k = n := by omega
      have hd : decide ((k : Int) < (k : Int)) = false := by simp
      have hd' : decide (k < k) = false := by simp
      go_wp2_with fail
      go_end0
      have e : l.take k = l := List.take_of_length_le (by rw [HN.out]; exact Nat.le_refl _)
      have h := hj.out
      rw [e] at h
      exact ⟨rfl, h, hb.out⟩
    case pos =>
      have hd : decide ((k : Int) < (n : Int)) = true := by simp; omega
      have hd' : decide (k < n) = true := by simpa using hkn
      obtain ⟨b, off, s, rfl, hDb, hx, g0, g1, g2, h1, h2, h3⟩ := sea_at HS.out hkn
      have hbb : b < base := HD.out b hDb
      have c0 := (hb.out.cell (p := ⟨b, off + k * 3, none⟩) hbb).trans g0
      have c1 := (hb.out.cell (p := ⟨b, off + k * 3 + 1, none⟩) hbb).trans g1
      have c2 := (hb.out.cell (p := ⟨b, off + k * 3 + 2, none⟩) hbb).trans g2
      have HTK : Hid (l.take (k + 1) = l.take k ++ [s]) := by
        show l.take (k + 1) = l.take k ++ [s]
        rw [List.take_add_one, hx]; rfl
      have HLE : Hid ((oks (l.take k) ep).length ≤ 1000) := by
        show (oks (l.take k) ep).length ≤ 1000
        have a1 := List.length_filter_le (sok ep) (l.take k)
        rw [List.length_take] at a1
        unfold oks; omega
      have hb1 := below1 wr (.cells (sV s) 24)
      have HJ1 := Lib.hid (hj.out.below hb1)
      have HX1 := Lib.hid (blk11 wr 24 (sV s))
      have hbz : base ≤ wr.heap.size := by obtain ⟨_, _, _, _, h, _⟩ := hj.out; exact h
      have HB1 := Lib.hid (hb.out.trans (hb1.mono hbz))
      clear g0 g1 g2 hx hDb hb1
      go_upto_region 3 with (fail)
      generalize hgx : wr.heap.size = gx at *
      generalize World.alloc wr _ = w1 at *
      clear c0 c1 c2
      have x0 := (show Blk w1 gx 24 (sV s) from HX1.out).cell 0
      have x1 := (show Blk w1 gx 24 (sV s) from HX1.out).cell 1
      have x2 := (show Blk w1 gx 24 (sV s) from HX1.out).cell 2
      have hsr := fun w => sright_any s w
      have HSR := Lib.hid hsr
      clear hsr
      cases hq : seaOk s
      case false =>
        have HNO : Hid (oks (l.take (k + 1)) ep = oks (l.take k) ep) := by
          show oks (l.take (k + 1)) ep = oks (l.take k) ep
          rw [HTK.out, oks_snoc, if_neg (by unfold sok; rw [hq]; simp)]
        rw [hq] at HSR
        clear hq
        go_wp2_with fail
        refine (HSR.out _).mono ?_; rintro e w2 ⟨rfl, hb2⟩
        have HJ2 := Lib.hid ((show JN base gv w1 _ from HJ1.out).below hb2)
        have HB2 := Lib.hid ((show Below base w w1 from HB1.out).trans (hb2.mono (by obtain ⟨_, _, _, _, h, _⟩ := (show JN base gv w1 _ from HJ1.out); exact h)))
        clear hb2 x0 x1 x2
        go_wp2_with fail
        go_roundw
        case rel => exact ⟨k + 1, by omega, by go_num, by rw [HNO.out]; exact HJ2, HB2⟩
        case measure => simp [intOf]; omega
      case true =>
        by_cases hee : s.1 = ep
        case neg =>
          have hde : ((s.1 : Int) == (ep : Int)) = false := by simp; omega
          have HNO : Hid (oks (l.take (k + 1)) ep = oks (l.take k) ep) := by
            show oks (l.take (k + 1)) ep = oks (l.take k) ep
            rw [HTK.out, oks_snoc, if_neg (by unfold sok; simp [hee])]
          rw [hq] at HSR
          clear hq hee
          go_wp2_with fail
          refine (HSR.out _).mono ?_; rintro e w2 ⟨rfl, hb2⟩
          have HJ2 := Lib.hid ((show JN base gv w1 _ from HJ1.out).below hb2)
          have HB2 := Lib.hid ((show Below base w w1 from HB1.out).trans (hb2.mono (by obtain ⟨_, _, _, _, h, _⟩ := (show JN base gv w1 _ from HJ1.out); exact h)))
          have hx2 := keepB (show Blk w1 gx 24 (sV s) from HX1.out) hb2
          clear x0 x1 x2
          have x0 := hx2.cell 0
          clear hb2 hx2
          go_wp2_with fail
          go_roundw
          case rel => exact ⟨k + 1, by omega, by go_num, by rw [HNO.out]; exact HJ2, HB2⟩
          case measure => clear hde; simp [intOf]; omega
        case pos =>
          have HNO : Hid (oks (l.take (k + 1)) ep = oks (l.take k) ep ++ [s]) := by
            show oks (l.take (k + 1)) ep = oks (l.take k) ep ++ [s]
            rw [HTK.out, oks_snoc, if_pos (by unfold sok; simp [hee, hq])]
          have hde : ((s.1 : Int) == (ep : Int)) = true := by simp; omega
          rw [hq] at HSR
          clear hq hee
          go_wp2_with fail
          refine (HSR.out _).mono ?_; rintro e w2 ⟨rfl, hb2⟩
          have HJ2 := Lib.hid ((show JN base gv w1 _ from HJ1.out).below hb2)
          have HB2 := Lib.hid ((show Below base w w1 from HB1.out).trans (hb2.mono (by obtain ⟨_, _, _, _, h, _⟩ := (show JN base gv w1 _ from HJ1.out); exact h)))
          have hx2 := keepB (show Blk w1 gx 24 (sV s) from HX1.out) hb2
          clear x0 x1 x2
          have x0 := hx2.cell 0
          have x1 := hx2.cell 1
          have x2 := hx2.cell 2
          clear hb2 hx2
          go_wp2_with fail
          refine (nodes1_any HJ2.out HLE.out h2).mono ?_; rintro e w3 ⟨rfl, hj3, hb3⟩
          have HJ3 := Lib.hid hj3
          have HB3 := Lib.hid ((show Below base w w2 from HB2.out).trans hb3)
          clear hj3 hb3 x0 x1 x2
          go_wp2_with fail
          go_roundw
          case rel => exact ⟨k + 1, by omega, by go_num, by rw [HNO.out]; exact HJ3, HB3⟩
          case measure => clear hde; simp [intOf]; omega
set_option maxRecDepth 100000 in
set_option maxHeartbeats 2000000 in
theorem each_tail {base gv ep n c : Nat} {w : World} {D : Dom} {A : Option Addr} {l : List Sea} (hs : rpSeaN.sl w D A n c l) (hD : ∀ k, D k → k < base) (hn : n ≤ 1000) (hj : JT base gv w []) (hep : ep < 18446744073709551616) :
    Calls Try.prog 42 #[.slice A n c, .int .u64 (ep : Int), .func (Fn.func 46) #[] #[.pointer (some ⟨gv, 0, none⟩)]] w fun e w' => e = .returned (.tuple #[]) ∧ JT base gv w' (oks l ep) ∧ Below base w w' := by
  have hlen := (Rp.sl_len hs).1
  have HS := Lib.hid hs
  have HD := Lib.hid hD
  have HN := Lib.hid hlen
  have HJ := Lib.hid hj
  clear hs hD hlen hj
  go_enter Try.func42, Try.ntmps42
  go_wp2_with fail
  go_loopw [10] (fun vi wr => ∃ k : Nat, k ≤ n ∧ vi = .int .i64 k ∧ Hid (JT base gv wr (oks (l.take k) ep)) ∧ Hid (Below base w wr)) (fun vi _ => n - (intOf vi).toNat)
  case atStart => exact ⟨0, by omega, rfl, HJ, Below.refl _ _⟩
  case round =>
    obtain ⟨k, hk, rfl, hj, hb⟩ := hrel
    by_cases hkn : k < n
    case neg =>
      obtain rfl : k = n := by omega
      have hd : decide ((k : Int) < (k : Int)) = false := by simp
      have hd' : decide (k < k) = false := by simp
      go_wp2_with fail
      go_end0
      have e : l.take k = l := List.take_of_length_le (by rw [HN.out]; exact Nat.le_refl _)
      have h := hj.out
      rw [e] at h
      exact ⟨rfl, h, hb.out⟩
    case pos =>
      have hd : decide ((k : Int) < (n : Int)) = true := by simp; omega
      have hd' : decide (k < n) = true := by simpa using hkn
      obtain ⟨b, off, s, rfl, hDb, hx, g0, g1, g2, h1, h2, h3⟩ := sea_at HS.out hkn
      have hbb : b < base := HD.out b hDb
      have c0 := (hb.out.cell (p := ⟨b, off + k * 3, none⟩) hbb).trans g0
      have c1 := (hb.out.cell (p := ⟨b, off + k * 3 + 1, none⟩) hbb).trans g1
      have c2 := (hb.out.cell (p := ⟨b, off + k * 3 + 2, none⟩) hbb).trans g2
      have HTK : Hid (l.take (k + 1) = l.take k ++ [s]) := by
        show l.take (k + 1) = l.take k ++ [s]
        rw [List.take_add_one, hx]; rfl
      have HLE : Hid ((oks (l.take k) ep).length ≤ 1000) := by
        show (oks (l.take k) ep).length ≤ 1000
        have a1 := List.length_filter_le (sok ep) (l.take k)
        rw [List.length_take] at a1
        unfold oks; omega
      have hb1 := below1 wr (.cells (sV s) 24)
      have HJ1 := Lib.hid (hj.out.below hb1)
      have HX1 := Lib.hid (blk11 wr 24 (sV s))
      have hbz : base ≤ wr.heap.size := hj.out.2.1
      have HB1 := Lib.hid (hb.out.trans (hb1.mono hbz))
      clear g0 g1 g2 hx hDb hb1
      go_upto_region 3 with (fail)
      generalize hgx : wr.heap.size = gx at *
      generalize World.alloc wr _ = w1 at *
      clear c0 c1 c2
      have x0 := (show Blk w1 gx 24 (sV s) from HX1.out).cell 0
      have x1 := (show Blk w1 gx 24 (sV s) from HX1.out).cell 1
      have x2 := (show Blk w1 gx 24 (sV s) from HX1.out).cell 2
      have hsr := fun w => sright_any s w
      have HSR := Lib.hid hsr
      clear hsr
      cases hq : seaOk s
      case false =>
        have HNO : Hid (oks (l.take (k + 1)) ep = oks (l.take k) ep) := by
          show oks (l.take (k + 1)) ep = oks (l.take k) ep
          rw [HTK.out, oks_snoc, if_neg (by unfold sok; rw [hq]; simp)]
        rw [hq] at HSR
        clear hq
        go_wp2_with fail
        refine (HSR.out _).mono ?_; rintro e w2 ⟨rfl, hb2⟩
        have HJ2 := Lib.hid ((show JT base gv w1 _ from HJ1.out).below hb2)
        have HB2 := Lib.hid ((show Below base w w1 from HB1.out).trans (hb2.mono (show JT base gv w1 _ from HJ1.out).2.1))
        clear hb2 x0 x1 x2
        go_wp2_with fail
        go_roundw
        case rel => exact ⟨k + 1, by omega, by go_num, by rw [HNO.out]; exact HJ2, HB2⟩
        case measure => simp [intOf]; omega
      case true =>
        by_cases hee : s.1 = ep
        case neg =>
          have hde : ((s.1 : Int) == (ep : Int)) = false := by simp; omega
          have HNO : Hid (oks (l.take (k + 1)) ep = oks (l.take k) ep) := by
            show oks (l.take (k + 1)) ep = oks (l.take k) ep
            rw [HTK.out, oks_snoc, if_neg (by unfold sok; simp [hee])]
          rw [hq] at HSR
          clear hq hee
          go_wp2_with fail
          refine (HSR.out _).mono ?_; rintro e w2 ⟨rfl, hb2⟩
          have HJ2 := Lib.hid ((show JT base gv w1 _ from HJ1.out).below hb2)
          have HB2 := Lib.hid ((show Below base w w1 from HB1.out).trans (hb2.mono (show JT base gv w1 _ from HJ1.out).2.1))
          have hx2 := keepB (show Blk w1 gx 24 (sV s) from HX1.out) hb2
          clear x0 x1 x2
          have x0 := hx2.cell 0
          clear hb2 hx2
          go_wp2_with fail
          go_roundw
          case rel => exact ⟨k + 1, by omega, by go_num, by rw [HNO.out]; exact HJ2, HB2⟩
          case measure => clear hde; simp [intOf]; omega
        case pos =>
          have HNO : Hid (oks (l.take (k + 1)) ep = oks (l.take k) ep ++ [s]) := by
            show oks (l.take (k + 1)) ep = oks (l.take k) ep ++ [s]
            rw [HTK.out, oks_snoc, if_pos (by unfold sok; simp [hee, hq])]
          have hde : ((s.1 : Int) == (ep : Int)) = true := by simp; omega
          rw [hq] at HSR
          clear hq hee
          go_wp2_with fail
          refine (HSR.out _).mono ?_; rintro e w2 ⟨rfl, hb2⟩
          have HJ2 := Lib.hid ((show JT base gv w1 _ from HJ1.out).below hb2)
          have HB2 := Lib.hid ((show Below base w w1 from HB1.out).trans (hb2.mono (show JT base gv w1 _ from HJ1.out).2.1))
          have hx2 := keepB (show Blk w1 gx 24 (sV s) from HX1.out) hb2
          clear x0 x1 x2
          have x0 := hx2.cell 0
          have x1 := hx2.cell 1
          have x2 := hx2.cell 2
          clear hb2 hx2
          go_wp2_with fail
          refine (tail1_any HJ2.out h3).mono ?_; rintro e w3 ⟨rfl, hj3, hb3⟩
          have HJ3 := Lib.hid hj3
          have HB3 := Lib.hid ((show Below base w w2 from HB2.out).trans hb3)
          clear hj3 hb3 x0 x1 x2
          go_wp2_with fail
          go_roundw
          case rel => exact ⟨k + 1, by omega, by go_num, by rw [HNO.out]; exact HJ3, HB3⟩
          case measure => clear hde; simp [intOf]; omega
end Go.Proofs.Ytkhomkklamegmaa
