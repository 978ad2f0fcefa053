/- stripe.Nodes, stripe.Set. -/
import Derived.Test.YtmdgmnaaopineaaSh2
import Derived.Test.YtmdgmnaaopineaaShM
import Derived.Test.YtmdgmnaaopineaaSr11
import Derived.Deep.DeepCutAuto
import Derived.Deep.CutBlock
namespace Go.Proofs.Ytmdgmnaaopineaa
open Go.ChangeShapes Go.WideShapes Go.ChangeAt Go.RowKit
set_option linter.unusedVariables false
/-- All nodes of a good stripe, rising. -/
def AllIs (sets : List (List Nat)) (w : World) (e : Ending) (w' : World) : Prop :=
  ∃ (A : Option Addr) (c : Nat) (r : List Nat), e = .returned (.slice A r.length c) ∧ w'.ownsRow w.heap.size 22 1 (.slice A r.length c) r.length (r.map uv) ∧ r.Perm sets.flatten ∧ Rises r ∧ Below w.heap.size w w'
section
variable {D : Dom} {A : Option Addr} {n c f t : Nat} {sets : List (List Nat)} {w : World}
set_option maxRecDepth 100000 in
set_option maxHeartbeats 1000000 in
theorem stnodes_any (hs : (rpSlice rpU64).sl w D A n c sets) (hD : ∀ k, D k → k < w.heap.size) (hok : SOk (f, t, sets)) (hf : f ≤ 18446744073709551615) (ht : t ≤ 18446744073709551615) :
    Calls Try.prog 66 #[.agg (stpV f t A n c)] w (AllIs sets w) := by
  have hb0 := below1 w (.cells (stpV f t A n c) 31)
  have HS := Lib.hid (keepS (show Sl (rpSlice rpU64) w D A n c sets from ⟨hs, hD⟩) hb0)
  have hlen := (Rp.sl_len hs).1
  have hn : n ≤ 100 := by have h8 : sets.length ≤ 8 := hok.2.2.2.1; omega
  have h64 := sok_flat hok
  have hr := right_any (f := f) (t := t) HS.out.1 HS.out.2 hf ht
  rw [dec_true hok] at hr
  have HR := Lib.hid hr
  have HB := Lib.hid hb0
  have HK := Lib.hid (blk11 w 31 (stpV f t A n c))
  have HND := Lib.hid (sok_nodup hok)
  have H64 := Lib.hid h64
  clear hs hD hb0 hr hlen hok h64
  go_enter Try.func66, Try.ntmps66
  go_upto_region 1 with (fail)
  generalize World.alloc w _ = w0 at *
  have k0 := (show Blk w0 w.heap.size 31 _ from HK.out).cell 0
  have k1 := (show Blk w0 w.heap.size 31 _ from HK.out).cell 1
  have k2 := (show Blk w0 w.heap.size 31 _ from HK.out).cell 2
  go_wp2_with fail
  refine HR.out.mono ?_; rintro e w1 ⟨rfl, hb⟩
  have HS1 := Lib.hid (keepS HS.out hb)
  have HB1 := Lib.hid (stepB HB.out hb)
  have hk1 := keepB (show Blk w0 w.heap.size 31 _ from HK.out) hb
  clear k0 k1 k2 hb
  have k2 := hk1.cell 2
  clear hk1
  go_wp2_with fail
  refine (concat_any HS1.out.1 HS1.out.2 hn (Nat.le_trans H64.out (by omega))).mono ?_; rintro e w2 ⟨A2, c2, rfl, ho, hb⟩
  obtain ⟨m, hm⟩ : ∃ m, m = sets.flatten.length := ⟨_, rfl⟩
  have h64' := H64.out
  rw [← hm] at ho h64'
  rw [← hm]
  have HM := Lib.hid hm
  have HO := Lib.hid (own_down ho HB1.out.size)
  have HB2 := Lib.hid (stepB HB1.out hb)
  clear ho hb hm k2
  go_wp2_with fail
  refine (sort_own (l := sets.flatten) HO.out (by omega)).mono ?_; rintro e w3 ⟨r, rfl, hp, hsr, ho, hc⟩
  have HB3 := Lib.hid (HB2.out.trans (hc.below HB2.out.size (fun k hk => (HO.out.lt k hk.symm).1)))
  have HO3 := Lib.hid ho
  have HP := Lib.hid hp
  have HSR := Lib.hid hsr
  have HRL : Hid (r.length = m) := by show r.length = m; rw [HM.out]; exact hp.length_eq
  clear hp hsr ho hc
  go_wp2_with fail
  go_ret
  refine ⟨A2, c2, r, ?_, ?_, HP.out, rises_sorted HSR.out (HP.out.nodup_iff.2 HND.out), HB3.out⟩
  · rw [HRL.out]; rfl
  · rw [HRL.out]; exact HO3.out
theorem stset1_any {g x : Nat} {l : List Nat} (hl : rpU64.sl w D A n c l) (hg : w.cell? ⟨g, 0, none⟩ = some (.int .u64 (x : Int))) :
    Calls Try.prog 120 #[.slice A n c, .pointer (some ⟨g, 0, none⟩)] w fun e w' => e = .returned (.bool (dec (x ∈ l))) ∧ w = w' := by
  have HC := Lib.hid (contains_any x hl)
  clear hl
  go_enter Try.func120, Try.ntmps120
  go_wp2_with fail
  refine HC.out.mono ?_; rintro e w1 ⟨rfl, rfl⟩
  go_wp2_with fail
  go_ret
  exact ⟨rfl, rfl⟩
/-- The first set that has x, or -1. -/
def FindIs (sets : List (List Nat)) (x : Nat) (w : World) (e : Ending) (w' : World) : Prop :=
  ∃ r : Int, e = .returned (.int .i64 r) ∧ ((∃ k : Nat, r = k ∧ k < sets.length ∧ AtSet sets x sets.length k true) ∨ (r = -1 ∧ AtSet sets x sets.length 0 false)) ∧ w = w'
set_option maxRecDepth 100000 in
set_option maxHeartbeats 1000000 in
theorem stfind_any {g x : Nat} (hs : (rpSlice rpU64).sl w D A n c sets) (hn : n ≤ 100) (hg : w.cell? ⟨g, 0, none⟩ = some (.int .u64 (x : Int))) :
    Calls Try.prog 119 #[.slice A n c, .func (Fn.func 120) #[] #[.pointer (some ⟨g, 0, none⟩)]] w (FindIs sets x w) := by
  have HN := Lib.hid (Rp.sl_len hs).1
  have HS := Lib.hid hs
  have HG := Lib.hid hg
  clear hs hg
  go_enter Try.func119, Try.ntmps119
  go_wp2_with fail
  go_loopw [8] (fun vi wr => ∃ k : Nat, k ≤ n ∧ vi = .int .i64 k ∧ Hid (AtSet sets x k 0 false) ∧ wr = w) (fun vi _ => n - (intOf vi).toNat)
  case atStart => exact ⟨0, Nat.zero_le _, rfl, atSet_zero _ _, rfl⟩
  case round =>
    obtain ⟨k, hkn', rfl, hat, hw⟩ := hrel
    subst hw
    by_cases hkn : k < n
    case pos =>
      have hd : decide (k < n) = true := by simpa using hkn
      obtain ⟨b, off, l, A3, c3, rfl, hbD, hx, hcell, hrow⟩ := rows_at HS.out hkn
      have HC := Lib.hid (stset1_any hrow HG.out)
      have hkI : (0 : Int) ≤ (k : Int) := by omega
      have hkI2 : (k : Int) < (n : Int) := by omega
      have HX := Lib.hid hx
      clear hrow hx hbD
      go_wp2_with fail
      refine HC.out.mono ?_; rintro e w1 ⟨rfl, rfl⟩
      by_cases hm : x ∈ l
      · rw [dec_true hm]
        have HA := Lib.hid (atSet_yes HX.out hm)
        clear hm
        go_wp2_with fail
        go_ret
        refine ⟨(k : Int), rfl, .inl ⟨k, rfl, by rw [HN.out]; exact hkn, fun _ => ⟨by rw [HN.out]; exact hkn, (HA.out.1 rfl).2⟩, fun h => (by cases h)⟩, rfl⟩
      · rw [dec_false hm]
        have HA := Lib.hid (atSet_no hat.out HX.out hm)
        clear hm
        go_wp2_with fail
        go_roundw
        case rel => exact ⟨k + 1, hkn, by go_num, HA, trivial⟩
        case measure => simp [intOf]; omega
    case neg =>
      have hd : decide (k < n) = false := by simpa using hkn
      obtain rfl : k = n := by omega
      go_wp2_with fail
      go_ret
      exact ⟨-1, rfl, .inr ⟨rfl, by rw [HN.out]; exact hat.out⟩, rfl⟩
end
end Go.Proofs.Ytmdgmnaaopineaa
