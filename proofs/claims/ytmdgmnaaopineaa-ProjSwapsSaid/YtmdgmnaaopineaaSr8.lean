/- A row parted in what is as small as the pivot and what is greater. -/
import Derived.Test.YtmdgmnaaopineaaSr7
import Derived.Deep.DeepCutAuto
import Derived.Deep.CutBlock
namespace Go.Proofs.Ytmdgmnaaopineaa
open Go.ChangeShapes Go.WideShapes Go.ChangeAt Go.RowKit
set_option linter.unusedVariables false
section
variable {p : Int → Bool} {d : Array Int} {i j q r : Nat}
theorem scanUp_go (h : q ≤ j) (hp : p d[q]! = true) : Sort.scanUp p d j q = Sort.scanUp p d j (q + 1) := by
  rw [Sort.scanUp, if_pos (by simp [h, hp])]
theorem scanUp_stop (h : ¬ q ≤ j ∨ p d[q]! = false) : Sort.scanUp p d j q = q := by
  rw [Sort.scanUp, if_neg]
  rcases h with h | h
  · simp [h]
  · simp [h]
theorem scanDown_go (hq : q = r + 1) (h : i ≤ q) (hp : p d[q]! = true) : Sort.scanDown p d i q = Sort.scanDown p d i r := by
  subst hq
  rw [Sort.scanDown, if_pos (by simp [h, hp])]
theorem scanDown_stop (h : ¬ i ≤ q ∨ p d[q]! = false) : Sort.scanDown p d i q = q := by
  cases q with
  | zero => rfl
  | succ r =>
    rw [Sort.scanDown, if_neg]
    rcases h with h | h
    · simp [h]
    · simp [h]
/-- Where the two scans stop, unless they have passed one another. -/
theorem scans_part {p' : Int → Bool} (hp : ∀ x, p' x = !p x) {I2 J2 : Nat} (hI : Sort.scanUp p d j i = I2) (hJ : Sort.scanDown p' d I2 j = J2) (h1 : I2 ≤ J2) (h0 : 0 < I2) : I2 < J2 := by
  have hu := Sort.scanUp_spec p d j _ i rfl
  have hd := Sort.scanDown_spec p' d I2 j
  rw [hI] at hu
  rw [hJ] at hd
  rcases Nat.lt_or_ge I2 J2 with h | h
  · exact h
  · obtain rfl : I2 = J2 := by omega
    have e1 := hu.2.2.2 (by have := hd.1; omega)
    have e2 := hd.2.2.2 (Nat.le_refl _) h0
    rw [hp, e1] at e2
    cases e2
end
/-- A row of numbers, its pivot parted off: where, and what is known. -/
def ParEq (w : World) (blk off a b : Nat) (d : Array Int) (pivot : Nat) (e : Ending) (w' : World) : Prop :=
  e = .returned (.int .i64 ((Sort.partitionEqual lti d a b pivot).1 : Int)) ∧ SW w w' blk off d (Sort.partitionEqual lti d a b pivot).2
set_option maxRecDepth 100000 in
set_option maxHeartbeats 8000000 in
theorem spareq_any {blk off cap a b n pivot : Nat} {d : Array Int} {w : World} (hH : Sort.Holds eu w blk off d) (hl : blk < w.heap.size) (hn : d.size = n) (hap : a ≤ pivot) (hpb : pivot < b) (hb : b ≤ n) (hsz : n < 65536) :
    Calls Try.prog 155 #[.slice (some ⟨blk, off, none⟩) n cap, .int .i64 a, .int .i64 b, .int .i64 pivot] w (ParEq w blk off a b d pivot) := by
  have HS := Lib.hid (SW.refl hH hl)
  have HN := Lib.hid hn
  obtain ⟨m, hm⟩ : ∃ m, m = b - 1 := ⟨_, rfl⟩
  have y0 : (b : Int) - 1 = (m : Int) := by omega
  have hmb : m < b := by omega
  have ham : a ≤ m := by omega
  have han : a < n := by omega
  have hpivotn : pivot < n := by omega
  have HM := Lib.hid hm
  clear hn hH hl hm
  go_enter Try.func155, Try.ntmps155
  go_upto_region 1 with (fail)
  have hdn : d.size = n := HS.out.sz.trans HN.out
  obtain ⟨X, hX⟩ : ∃ X, X = d[a]! := ⟨_, rfl⟩
  obtain ⟨Y, hY⟩ : ∃ X, X = d[pivot]! := ⟨_, rfl⟩
  have c1 := HS.out.cell (t := a) (by omega)
  have c2 := HS.out.cell (t := pivot) (by omega)
  have z1 := HS.out.frozen (t := a) (by omega)
  have z2 := HS.out.frozen (t := pivot) (by omega)
  rw [← hX] at c1
  rw [← hY] at c2
  obtain ⟨Z, hZ⟩ := cell?_setCell_some (p := ⟨blk, off + a, none⟩) (x := .int .u64 Y) c2
  have HX := Lib.hid hX
  have HY := Lib.hid hY
  have HDN := Lib.hid hdn
  clear hX hY hdn
  go_wp2_with fail
  go_region
  have HS1 : Hid (SW w (World.drew ((w.setCell ⟨blk, off + a, none⟩ (.int .u64 Y)).setCell ⟨blk, off + pivot, none⟩ (.int .u64 X))) blk off d (Sort.swp d a pivot)) :=
    SW.same (HS.out.swpv (w := w) (by rw [HDN.out]; exact han) (by rw [HDN.out]; exact hpivotn) HX.out HY.out rfl rfl rfl rfl) rfl rfl rfl rfl
  clear c1 c2 z1 z2 hZ
  try change Code.wp _ _ _ _ (World.drew ((w.setCell ⟨blk, off + a, none⟩ (.int .u64 Y)).setCell ⟨blk, off + pivot, none⟩ (.int .u64 X)))
  generalize World.drew (World.setCell (World.setCell w _ _) _ _) = w1 at *
  clear HX HY HDN
  obtain ⟨d1, hd1⟩ : ∃ d1, d1 = Sort.swp d a pivot := ⟨_, rfl⟩
  rw [← hd1] at HS1
  have HD1 := Lib.hid hd1
  clear hd1
  go_wp2_with fail
  try simp only [y0]
  go_loopw [9, 10] (fun vi vj wr => ∃ (i j : Nat) (dk : Array Int), a < i ∧ i ≤ j + 1 ∧ j < b ∧ vi = .int .i64 i ∧ vj = .int .i64 j ∧ Hid (SW w wr blk off d dk) ∧ Hid (Sort.partEqLoop lti a i j dk = Sort.partEqLoop lti a (a + 1) m d1)) (fun vi vj _ => (intOf vj + 1 - intOf vi).toNat)
  case atStart => exact ⟨a + 1, m, d1, Nat.lt_succ_self _, by omega, hmb, by go_num, rfl, HS1, rfl⟩
  case round =>
    obtain ⟨i, j, dk, hai, hij, hjb, rfl, rfl, HSW, hpl⟩ := hrel
    clear y0
    obtain ⟨I2, hI2⟩ : ∃ I2, Sort.scanUp (fun x => !lti dk[a]! x) dk j i = I2 := ⟨_, rfl⟩
    obtain ⟨J2, hJ2⟩ : ∃ J2, Sort.scanDown (fun x => lti dk[a]! x) dk I2 j = J2 := ⟨_, rfl⟩
    have su := Sort.scanUp_spec (fun x => !lti dk[a]! x) dk j _ i rfl
    have sd := Sort.scanDown_spec (fun x => lti dk[a]! x) dk I2 j
    rw [hI2] at su
    rw [hJ2] at sd
    have hI2a : i ≤ I2 := su.1
    have hI2b : I2 ≤ j + 1 := su.2.1 hij
    have hJ2a : J2 ≤ j := sd.1
    have hJ2b : I2 ≤ J2 + 1 := sd.2.1 hI2b
    have HPT : Hid (I2 ≤ J2 → I2 < J2) := fun h => scans_part (p' := (fun x => lti dk[a]! x)) (fun x => by simp) hI2 hJ2 h (by omega)
    have HIJ2 := Lib.hid hI2b
    have HEQ := Lib.hid (Sort.partEqLoop_eq lti a i j dk)
    have HI2 := Lib.hid hI2
    have HJ2 := Lib.hid hJ2
    clear su sd hI2 hJ2
    go_upto_block 2 with (fail)
    go_cut [9] from 29 to 82 (fun sv wx => sv = .int .i64 (I2 : Int) ∧ Hid (SW w wx blk off d dk))
    case first =>
      go_wp2_with fail
      go_loopw [9] (fun vi wr => ∃ q : Nat, i ≤ q ∧ q ≤ j + 1 ∧ vi = .int .i64 q ∧ Hid (SW w wr blk off d dk) ∧ Hid (Sort.scanUp (fun x => !lti dk[a]! x) dk j q = I2)) (fun vi _ => j + 1 - (intOf vi).toNat)
      case atStart => exact ⟨i, Nat.le_refl _, hij, rfl, HSW, HI2⟩
      case round =>
        obtain ⟨q, h1, h2, rfl, hs', hsc⟩ := hrel
        by_cases hle : q ≤ j
        case neg =>
          have hdl : decide (q ≤ j) = false := by simpa using hle
          have HE : Hid (q = I2) := (scanUp_stop (.inl hle)).symm.trans hsc.out
          go_wp2_with fail
          go_quiet (fail)
          go_wp2_with fail
          go_meet
          exact ⟨by rw [HE.out], hs'.out.same rfl rfl rfl rfl⟩
        case pos =>
          have hdl : decide (q ≤ j) = true := by simpa using hle
          have hdn : dk.size = n := hs'.out.sz.trans HN.out
          have hqn : q < n := by omega
          obtain ⟨X, hX⟩ : ∃ X, X = dk[q]! := ⟨_, rfl⟩
          obtain ⟨V, hV⟩ : ∃ X, X = dk[a]! := ⟨_, rfl⟩
          have c1 := hs'.out.cell (t := q) (by omega)
          have c2 := hs'.out.cell (t := a) (by omega)
          rw [← hX] at c1
          rw [← hV] at c2
          have HX := Lib.hid hX
          have HV := Lib.hid hV
          clear hX hV hdn
          cases hless : lti V X
          case true =>
            have HL : Hid (∀ w, Calls Try.prog 154 #[.int .u64 V, .int .u64 X] w fun e w' => e = .returned (.bool true) ∧ w' = w) := fun w => less_is hless w
            have HE : Hid (q = I2) := (scanUp_stop (.inr (by show (!lti dk[a]! dk[q]!) = false; rw [← HX.out, ← HV.out, hless]; rfl))).symm.trans hsc.out
            clear hless
            go_wp2_with fail
            go_quiet ((go_at_call 154; exact Calls.quiet_of_same (HL.out _)))
            go_wp2_with fail
            go_meet
            exact ⟨by rw [HE.out], hs'.out.same rfl rfl rfl rfl⟩
          case false =>
            have HL : Hid (∀ w, Calls Try.prog 154 #[.int .u64 V, .int .u64 X] w fun e w' => e = .returned (.bool false) ∧ w' = w) := fun w => less_is hless w
            have HE : Hid (Sort.scanUp (fun x => !lti dk[a]! x) dk j (q + 1) = I2) := (scanUp_go hle (by show (!lti dk[a]! dk[q]!) = true; rw [← HX.out, ← HV.out, hless]; rfl)).symm.trans hsc.out
            clear hless
            go_wp2_with fail
            go_quiet ((go_at_call 154; exact Calls.quiet_of_same (HL.out _)))
            go_wp2_with fail
            go_roundw
            case rel => exact ⟨q + 1, Nat.le_succ_of_le h1, Nat.succ_le_succ hle, by go_num, hs'.out.same rfl rfl rfl rfl, HE⟩
            case measure =>  simp [intOf]; omega
    case rest =>
      obtain ⟨rfl, hcw⟩ := hcut

      have HSW := hcw
      go_upto_block 4 with (fail)
      go_cut [10] from 29 to 82 (fun sv wx => sv = .int .i64 (J2 : Int) ∧ Hid (SW w wx blk off d dk))
      case first =>
        go_wp2_with fail
        go_loopw [10] (fun vj wr => ∃ q : Nat, I2 ≤ q + 1 ∧ q ≤ j ∧ vj = .int .i64 q ∧ Hid (SW w wr blk off d dk) ∧ Hid (Sort.scanDown (fun x => lti dk[a]! x) dk I2 q = J2)) (fun vj _ => (intOf vj).toNat)
        case atStart => exact ⟨j, HIJ2.out, Nat.le_refl _, rfl, HSW, HJ2⟩
        case round =>
          obtain ⟨q, h1, h2, rfl, hs', hsc⟩ := hrel
          by_cases hle : I2 ≤ q
          case neg =>
            have hdl : decide (I2 ≤ q) = false := by simpa using hle
            have HE : Hid (q = J2) := (scanDown_stop (.inl hle)).symm.trans hsc.out
            go_wp2_with fail
            go_quiet (fail)
            go_wp2_with fail
            go_meet
            exact ⟨by rw [HE.out], hs'.out.same rfl rfl rfl rfl⟩
          case pos =>
            have hdl : decide (I2 ≤ q) = true := by simpa using hle
            have hdn : dk.size = n := hs'.out.sz.trans HN.out
            have hqn : q < n := by omega
            obtain ⟨X, hX⟩ : ∃ X, X = dk[q]! := ⟨_, rfl⟩
            obtain ⟨V, hV⟩ : ∃ X, X = dk[a]! := ⟨_, rfl⟩
            have c1 := hs'.out.cell (t := q) (by omega)
            have c2 := hs'.out.cell (t := a) (by omega)
            rw [← hX] at c1
            rw [← hV] at c2
            have HX := Lib.hid hX
            have HV := Lib.hid hV
            obtain ⟨r, hr⟩ : ∃ r, q = r + 1 := ⟨q - 1, by omega⟩
            have hrI : I2 ≤ r + 1 := by omega
            have hrj : r ≤ j := by omega
            have hrq : r < q := by omega
            have x1 : (q : Int) - 1 = (r : Int) := by omega
            have HR := Lib.hid hr
            clear hX hV hdn hr
            cases hless : lti V X
            case false =>
              have HL : Hid (∀ w, Calls Try.prog 154 #[.int .u64 V, .int .u64 X] w fun e w' => e = .returned (.bool false) ∧ w' = w) := fun w => less_is hless w
              have HE : Hid (q = J2) := (scanDown_stop (.inr (by show lti dk[a]! dk[q]! = false; rw [← HX.out, ← HV.out, hless]))).symm.trans hsc.out
              clear hless
              go_wp2_with fail
              go_quiet ((go_at_call 154; exact Calls.quiet_of_same (HL.out _)))
              go_wp2_with fail
              go_meet
              exact ⟨by rw [HE.out], hs'.out.same rfl rfl rfl rfl⟩
            case true =>
              have HL : Hid (∀ w, Calls Try.prog 154 #[.int .u64 V, .int .u64 X] w fun e w' => e = .returned (.bool true) ∧ w' = w) := fun w => less_is hless w
              have HE : Hid (Sort.scanDown (fun x => lti dk[a]! x) dk I2 r = J2) := (scanDown_go HR.out hle (by show lti dk[a]! dk[q]! = true; rw [← HX.out, ← HV.out, hless])).symm.trans hsc.out
              clear hless
              go_wp2_with fail
              go_quiet ((go_at_call 154; exact Calls.quiet_of_same (HL.out _)))
              go_wp2_with fail
              go_roundw
              case rel => exact ⟨r, hrI, hrj, rfl, hs'.out.same rfl rfl rfl rfl, HE⟩
              case measure => clear x1; simp [intOf]; omega
      case rest =>
        obtain ⟨rfl, hcw⟩ := hcut

        have HSW := hcw
        by_cases hgt : J2 < I2
        case pos =>
          have hdg : decide (J2 < I2) = true := by simpa using hgt
          have HE : Hid ((I2, dk) = Sort.partEqLoop lti a (a + 1) m d1) := by
            have h := HEQ.out
            rw [HI2.out, HJ2.out, if_pos hgt] at h
            exact h.symm.trans hpl.out
          go_wp2_with fail
          go_ret
          have hz : Sort.partitionEqual lti d a b pivot = (I2, dk) := by
            unfold Sort.partitionEqual
            rw [← HM.out, ← HD1.out]; exact HE.out.symm
          unfold ParEq
          rw [hz]
          exact ⟨rfl, HSW.out⟩
        case neg =>
          have hdg : decide (J2 < I2) = false := by simpa using hgt
          have hlt : I2 < J2 := HPT.out (by omega)
          have hI2n : I2 < n := by omega
          have hJ2n : J2 < n := by omega
          have HE : Hid (Sort.partEqLoop lti a (I2 + 1) (J2 - 1) (Sort.swp dk I2 J2) = Sort.partEqLoop lti a (a + 1) m d1) := by
            have h := HEQ.out
            rw [HI2.out, HJ2.out, if_neg (by omega)] at h
            exact h.symm.trans hpl.out
          obtain ⟨k, hk⟩ : ∃ k, k = J2 - 1 := ⟨_, rfl⟩
          rw [← hk] at HE
          have y1 : (J2 : Int) - 1 = (k : Int) := by omega
          have hkb : k < b := by omega
          have hik : I2 + 1 ≤ k + 1 := by omega
          have hkj : k < j := by omega
          have haI : a < I2 + 1 := by omega
          clear hk
          go_upto_region 8 with (fail)
          have hdn : dk.size = n := HSW.out.sz.trans HN.out
          obtain ⟨X, hX⟩ : ∃ X, X = dk[I2]! := ⟨_, rfl⟩
          obtain ⟨Y, hY⟩ : ∃ X, X = dk[J2]! := ⟨_, rfl⟩
          have c1 := HSW.out.cell (t := I2) (by omega)
          have c2 := HSW.out.cell (t := J2) (by omega)
          have z1 := HSW.out.frozen (t := I2) (by omega)
          have z2 := HSW.out.frozen (t := J2) (by omega)
          rw [← hX] at c1
          rw [← hY] at c2
          obtain ⟨Z, hZ⟩ := cell?_setCell_some (p := ⟨blk, off + I2, none⟩) (x := .int .u64 Y) c2
          have HX := Lib.hid hX
          have HY := Lib.hid hY
          have HDN := Lib.hid hdn
          clear hX hY hdn
          go_wp2_with fail
          go_region
          have HS2 : Hid (SW w (World.drew ((wc.setCell ⟨blk, off + I2, none⟩ (.int .u64 Y)).setCell ⟨blk, off + J2, none⟩ (.int .u64 X))) blk off d (Sort.swp dk I2 J2)) :=
            SW.same (HSW.out.swpv (w := wc) (by rw [HDN.out]; exact hI2n) (by rw [HDN.out]; exact hJ2n) HX.out HY.out rfl rfl rfl rfl) rfl rfl rfl rfl
          clear c1 c2 z1 z2 hZ
          try change Code.wp _ _ _ _ (World.drew ((wc.setCell ⟨blk, off + I2, none⟩ (.int .u64 Y)).setCell ⟨blk, off + J2, none⟩ (.int .u64 X)))
          generalize World.drew (World.setCell (World.setCell wc _ _) _ _) = w2 at *
          clear HX HY HDN
          go_wp2_with fail
          go_roundw
          case rel => exact ⟨I2 + 1, k, _, haI, hik, hkb, by go_num, rfl, HS2, HE⟩
          case measure => clear y1; simp [intOf]; omega
end Go.Proofs.Ytmdgmnaaopineaa
