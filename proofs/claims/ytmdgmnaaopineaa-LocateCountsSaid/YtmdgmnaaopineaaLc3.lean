/- The reference's Count. -/
import Derived.Test.YtmdgmnaaopineaaSh4
import Derived.Test.YtmdgmnaaopineaaLcM
namespace Go.Proofs.Ytmdgmnaaopineaa
open Go.ChangeShapes Go.WideShapes Go.ChangeAt Go.RowKit
set_option linter.unusedVariables false
section
variable {D : Dom} {A : Option Addr} {n c e x B : Nat} {l : List Stp} {w : World}
theorem prj_posOk {p : Nat} (h : p < 4611686018427387904) : PosOk p := h
set_option maxRecDepth 100000 in
set_option maxHeartbeats 4000000 in
theorem rcount_any (hs : rpStp.sl w D A n c l) (hD : ∀ k, D k → k < w.heap.size) (he : e ≤ 18446744073709551615) (hok : POk (e, l)) (hBB : B ≤ 4611686018427387904) {N : Nat} (hN : N = cnt l x B) :
    Calls Try.prog 72 #[.agg (prjV e A n c), .int .u64 (x : Int), .int .u64 (B : Int)] w fun en w' => en = .returned (.int .u64 (N : Int)) ∧ Below w.heap.size w w' := by
  have hb0 := below1 w (.cells (prjV e A n c) 25)
  have HS := Lib.hid (keepS (show Sl rpStp w D A n c l from ⟨hs, hD⟩) hb0)
  have HB := Lib.hid hb0
  have HK := Lib.hid (blk11 w 25 (prjV e A n c))
  have HOK := Lib.hid hok
  have HNN := Lib.hid hN
  clear hs hD hb0 hok hN
  go_enter Try.func72, Try.ntmps72
  go_upto_region 1 with (fail)
  generalize World.alloc w _ = w0 at *
  go_wp2_with fail
  go_loopw [7, 8] (fun v7 v8 wr => ∃ (p S : Nat), p ≤ B ∧ v7 = .int .u64 (S : Int) ∧ v8 = .int .u64 (p : Int) ∧ Hid (S = cnt l x p) ∧ Hid (Below w0.heap.size w0 wr)) (fun _ v8 _ => B - (intOf v8).toNat)
  case atStart => exact ⟨0, 0, by omega, rfl, rfl, rfl, Below.refl _ _⟩
  case round =>
    obtain ⟨p, S, hp, rfl, rfl, hS, hbel⟩ := hrel
    have hzr := hbel.out.size
    by_cases hpB : p < B
    case neg =>
      obtain rfl : p = B := by omega
      have hd : decide (p < p) = false := by simp
      have HE : Hid (S = N) := by show _ = _; rw [hS.out, HNN.out]
      go_wp2_with fail
      go_ret
      exact ⟨by rw [HE.out]; rfl, stepB HB.out hbel.out⟩
    case pos =>
      have hd : decide (p < B) = true := by simpa using hpB
      obtain ⟨r, s, hin⟩ := inStripe_some (x := p) HOK.out (show p < 4611686018427387904 by omega)
      have hkr := keepB (show Blk w0 w.heap.size 25 _ from HK.out) hbel.out
      have k0 := hkr.cell 0
      have k1 := hkr.cell 1
      have hsr := keepS HS.out hbel.out
      obtain ⟨nd, A', c', hnd, hsl, hcall⟩ := rnodes_ok (e := e) p hsr.1 hsr.2 he (by omega) HOK.out (show p < 4611686018427387904 by omega) hin
      have hnn := nodesAt_some HOK.out hin hnd
      have HC := Lib.hid (hcall wr (Below.refl _ _))
      have hcs : cnt l x (p + 1) = cnt l x p + if x ∈ nd then 1 else 0 := by rw [cnt_succ, hnn]
      rw [← hS.out] at hcs
      have HCS := Lib.hid hcs
      have hS62 : S ≤ p := by have h1 := cnt_le l x p; have h2 := hS.out; omega
      have HSN := Lib.hid (show Sl rpU64 wr D A' nd.length c' nd from ⟨hsl, hsr.2⟩)
      obtain ⟨m, hm⟩ : ∃ m, m = nd.length := ⟨_, rfl⟩
      rw [← hm] at HC HSN
      have hw : IntKind.u64.wrap ((S : Int) + 1) = ((S + 1 : Nat) : Int) := by rw [IntWalk.u64_in _ (by omega)]; omega
      have hw2 : IntKind.u64.wrap ((p : Int) + 1) = ((p + 1 : Nat) : Int) := by rw [IntWalk.u64_in _ (by omega)]; omega
      clear hin hsr hnd hsl hcall hnn hcs hm hkr
      go_wp2_with fail
      refine HC.out.mono ?_; rintro en w5 ⟨rfl, hb5⟩
      have HB5 := Lib.hid (stepB hbel.out hb5)
      have HH := Lib.hid (has_any x (keepS HSN.out hb5).1)
      clear hb5 k0 k1
      go_wp2_with fail
      refine HH.out.mono ?_; rintro en w6 ⟨rfl, rfl⟩
      by_cases hx : x ∈ nd
      · rw [dec_true hx]
        have HR : Hid (S + 1 = cnt l x (p + 1)) := by show _ = _; rw [HCS.out, if_pos hx]
        clear hx
        go_wp2_with fail
        go_roundw
        case rel => exact ⟨p + 1, S + 1, by omega, by go_num, by go_num, HR, HB5⟩
        case measure => simp [intOf]; omega
      · rw [dec_false hx]
        have HR : Hid (S = cnt l x (p + 1)) := by show _ = _; rw [HCS.out, if_neg hx]; rfl
        clear hx
        go_wp2_with fail
        go_roundw
        case rel => exact ⟨p + 1, S, by omega, by go_num, by go_num, HR, HB5⟩
        case measure => simp [intOf]; omega
end
end Go.Proofs.Ytmdgmnaaopineaa
