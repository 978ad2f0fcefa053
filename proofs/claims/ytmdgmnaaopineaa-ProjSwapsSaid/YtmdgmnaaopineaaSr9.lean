/- A row parted by a pivot. -/
import Derived.Test.YtmdgmnaaopineaaSr8
import Derived.Deep.DeepCutAuto
import Derived.Deep.CutBlock
namespace Go.Proofs.Ytmdgmnaaopineaa
open Go.ChangeShapes Go.WideShapes Go.ChangeAt Go.RowKit
set_option linter.unusedVariables false
/-- A row of numbers parted: where the pivot stands, whether it was parted before. -/
def ParT (w : World) (blk off a b : Nat) (d : Array Int) (pivot : Nat) (e : Ending) (w' : World) : Prop :=
  e = .returned (.tuple #[.int .i64 ((Sort.partition lti d a b pivot).1 : Int), .bool (Sort.partition lti d a b pivot).2.1]) ∧ SW w w' blk off d (Sort.partition lti d a b pivot).2.2
set_option maxRecDepth 100000 in
set_option maxHeartbeats 8000000 in
theorem spart_any {blk off cap a b n pivot : Nat} {d : Array Int} {w : World} (hH : Sort.Holds eu w blk off d) (hl : blk < w.heap.size) (hn : d.size = n) (hap : a ≤ pivot) (hpb : pivot < b) (hb : b ≤ n) (hsz : n < 65536) :
    Calls Try.prog 156 #[.slice (some ⟨blk, off, none⟩) n cap, .int .i64 a, .int .i64 b, .int .i64 pivot] w (ParT w blk off a b d pivot) := by
  have HS := Lib.hid (SW.refl hH hl)
  have HN := Lib.hid hn
  obtain ⟨j, hj⟩ : ∃ j, j = b - 1 := ⟨_, rfl⟩
  obtain ⟨i, hi⟩ : ∃ i, i = a + 1 := ⟨_, rfl⟩
  have y0 : (b : Int) - 1 = (j : Int) := by omega
  have y1 : (a : Int) + 1 = (i : Int) := by omega
  have hjb : j < b := by omega
  have haj : a ≤ j := by omega
  have han : a < n := by omega
  have hai : a < i := by omega
  have hij : i ≤ j + 1 := by omega
  have hpivotn : pivot < n := by omega
  have HJ := Lib.hid hj
  have HI := Lib.hid hi
  clear hn hH hl hj hi
  go_enter Try.func156, Try.ntmps156
  go_upto_region 1 with (fail)
  have hdn : d.size = n := HS.out.sz.trans HN.out
  obtain ⟨X, hX⟩ : ∃ X, X = d[a]! := ⟨_, rfl⟩
  obtain ⟨Y, hY⟩ : ∃ X, X = d[pivot]! := ⟨_, rfl⟩
  have c1 := HS.out.cell (t := a) (by omega)
  have c2 := HS.out.cell (t := pivot) (by omega)
  have z1 := HS.out.frozen (t := a) (by omega)
  have z2 := HS.out.frozen (t := pivot) (by omega)
  rw [← hX] at c1
  rw [← hY] at c2
  obtain ⟨Z, hZ⟩ := cell?_setCell_some (p := ⟨blk, off + a, none⟩) (x := .int .u64 Y) c2
  have HX := Lib.hid hX
  have HY := Lib.hid hY
  have HDN := Lib.hid hdn
  clear hX hY hdn
  go_wp2_with fail
  go_region
  have HS1 : Hid (SW w (World.drew ((w.setCell ⟨blk, off + a, none⟩ (.int .u64 Y)).setCell ⟨blk, off + pivot, none⟩ (.int .u64 X))) blk off d (Sort.swp d a pivot)) :=
    SW.same (HS.out.swpv (w := w) (by rw [HDN.out]; exact han) (by rw [HDN.out]; exact hpivotn) HX.out HY.out rfl rfl rfl rfl) rfl rfl rfl rfl
  clear c1 c2 z1 z2 hZ
  try change Code.wp _ _ _ _ (World.drew ((w.setCell ⟨blk, off + a, none⟩ (.int .u64 Y)).setCell ⟨blk, off + pivot, none⟩ (.int .u64 X)))
  generalize World.drew (World.setCell (World.setCell w _ _) _ _) = w1 at *
  clear HX HY HDN
  obtain ⟨dk, hd1⟩ : ∃ d1, d1 = Sort.swp d a pivot := ⟨_, rfl⟩
  rw [← hd1] at HS1
  have HD1 := Lib.hid hd1
  clear hd1
  have HSW := HS1
  obtain ⟨I2, hI2⟩ : ∃ I2, Sort.scanUp (fun x => lti x dk[a]!) dk j i = I2 := ⟨_, rfl⟩
  obtain ⟨J2, hJ2⟩ : ∃ J2, Sort.scanDown (fun x => !lti x dk[a]!) dk I2 j = J2 := ⟨_, rfl⟩
  have su := Sort.scanUp_spec (fun x => lti x dk[a]!) dk j _ i rfl
  have sd := Sort.scanDown_spec (fun x => !lti x dk[a]!) dk I2 j
  rw [hI2] at su
  rw [hJ2] at sd
  have hI2a : i ≤ I2 := su.1
  have hI2b : I2 ≤ j + 1 := su.2.1 hij
  have hJ2a : J2 ≤ j := sd.1
  have hJ2b : I2 ≤ J2 + 1 := sd.2.1 hI2b
  have HPT : Hid (I2 ≤ J2 → I2 < J2) := fun h => scans_part (p' := (fun x => !lti x dk[a]!)) (fun x => by simp) hI2 hJ2 h (by omega)
  have HIJ2 := Lib.hid hI2b
  have HI2 := Lib.hid hI2
  have HJ2 := Lib.hid hJ2
  clear su sd hI2 hJ2
  have HPD : Hid (Sort.partition lti d a b pivot = if J2 < I2 then (J2, true, Sort.swp dk J2 a) else ((Sort.partLoop lti a (I2 + 1) (J2 - 1) (Sort.swp dk I2 J2)).1, false, Sort.swp (Sort.partLoop lti a (I2 + 1) (J2 - 1) (Sort.swp dk I2 J2)).2 (Sort.partLoop lti a (I2 + 1) (J2 - 1) (Sort.swp dk I2 J2)).1 a)) := by
    show Sort.partition lti d a b pivot = _
    unfold Sort.partition
    simp only []
    rw [← HD1.out, ← HJ.out, ← HI.out, HI2.out, HJ2.out]
  clear HI HJ
  go_upto_block 0 with (fail)
  try simp only [y0, y1]
  go_upto_block 0 with (fail)
  go_cut [10] from 30 to 167 (fun sv wx => sv = .int .i64 (I2 : Int) ∧ Hid (SW w wx blk off d dk))
  case first =>
    go_wp2_with fail
    go_loopw [10] (fun vi wr => ∃ q : Nat, i ≤ q ∧ q ≤ j + 1 ∧ vi = .int .i64 q ∧ Hid (SW w wr blk off d dk) ∧ Hid (Sort.scanUp (fun x => lti x dk[a]!) dk j q = I2)) (fun vi _ => j + 1 - (intOf vi).toNat)
    case atStart => exact ⟨i, Nat.le_refl _, hij, rfl, HSW, HI2⟩
    case round =>
      obtain ⟨q, h1, h2, rfl, hs', hsc⟩ := hrel
      by_cases hle : q ≤ j
      case neg =>
        have hdl : decide (q ≤ j) = false := by simpa using hle
        have HE : Hid (q = I2) := (scanUp_stop (.inl hle)).symm.trans hsc.out
        go_wp2_with fail
        go_quiet (fail)
        go_wp2_with fail
        go_meet
        exact ⟨by rw [HE.out], hs'.out.same rfl rfl rfl rfl⟩
      case pos =>
        have hdl : decide (q ≤ j) = true := by simpa using hle
        have hdn : dk.size = n := hs'.out.sz.trans HN.out
        have hqn : q < n := by omega
        obtain ⟨X, hX⟩ : ∃ X, X = dk[q]! := ⟨_, rfl⟩
        obtain ⟨V, hV⟩ : ∃ X, X = dk[a]! := ⟨_, rfl⟩
        have c1 := hs'.out.cell (t := q) (by omega)
        have c2 := hs'.out.cell (t := a) (by omega)
        rw [← hX] at c1
        rw [← hV] at c2
        have HX := Lib.hid hX
        have HV := Lib.hid hV
        clear hX hV hdn
        cases hless : lti X V
        case false =>
          have HL : Hid (∀ w, Calls Try.prog 154 #[.int .u64 X, .int .u64 V] w fun e w' => e = .returned (.bool false) ∧ w' = w) := fun w => less_is hless w
          have HE : Hid (q = I2) := (scanUp_stop (.inr (by show lti dk[q]! dk[a]! = false; rw [← HX.out, ← HV.out, hless]))).symm.trans hsc.out
          clear hless
          go_wp2_with fail
          go_quiet ((go_at_call 154; exact Calls.quiet_of_same (HL.out _)))
          go_wp2_with fail
          go_meet
          exact ⟨by rw [HE.out], hs'.out.same rfl rfl rfl rfl⟩
        case true =>
          have HL : Hid (∀ w, Calls Try.prog 154 #[.int .u64 X, .int .u64 V] w fun e w' => e = .returned (.bool true) ∧ w' = w) := fun w => less_is hless w
          have HE : Hid (Sort.scanUp (fun x => lti x dk[a]!) dk j (q + 1) = I2) := (scanUp_go hle (by show lti dk[q]! dk[a]! = true; rw [← HX.out, ← HV.out, hless])).symm.trans hsc.out
          clear hless
          go_wp2_with fail
          go_quiet ((go_at_call 154; exact Calls.quiet_of_same (HL.out _)))
          go_wp2_with fail
          go_roundw
          case rel => exact ⟨q + 1, Nat.le_succ_of_le h1, Nat.succ_le_succ hle, by go_num, hs'.out.same rfl rfl rfl rfl, HE⟩
          case measure =>  simp [intOf]; omega
  case rest =>
    obtain ⟨rfl, hcw⟩ := hcut

    have HSW := hcw
    go_upto_block 2 with (fail)
    go_cut [11] from 30 to 167 (fun sv wx => sv = .int .i64 (J2 : Int) ∧ Hid (SW w wx blk off d dk))
    case first =>
      go_wp2_with fail
      go_loopw [11] (fun vj wr => ∃ q : Nat, I2 ≤ q + 1 ∧ q ≤ j ∧ vj = .int .i64 q ∧ Hid (SW w wr blk off d dk) ∧ Hid (Sort.scanDown (fun x => !lti x dk[a]!) dk I2 q = J2)) (fun vj _ => (intOf vj).toNat)
      case atStart => exact ⟨j, HIJ2.out, Nat.le_refl _, rfl, HSW, HJ2⟩
      case round =>
        obtain ⟨q, h1, h2, rfl, hs', hsc⟩ := hrel
        by_cases hle : I2 ≤ q
        case neg =>
          have hdl : decide (I2 ≤ q) = false := by simpa using hle
          have HE : Hid (q = J2) := (scanDown_stop (.inl hle)).symm.trans hsc.out
          go_wp2_with fail
          go_quiet (fail)
          go_wp2_with fail
          go_meet
          exact ⟨by rw [HE.out], hs'.out.same rfl rfl rfl rfl⟩
        case pos =>
          have hdl : decide (I2 ≤ q) = true := by simpa using hle
          have hdn : dk.size = n := hs'.out.sz.trans HN.out
          have hqn : q < n := by omega
          obtain ⟨X, hX⟩ : ∃ X, X = dk[q]! := ⟨_, rfl⟩
          obtain ⟨V, hV⟩ : ∃ X, X = dk[a]! := ⟨_, rfl⟩
          have c1 := hs'.out.cell (t := q) (by omega)
          have c2 := hs'.out.cell (t := a) (by omega)
          rw [← hX] at c1
          rw [← hV] at c2
          have HX := Lib.hid hX
          have HV := Lib.hid hV
          obtain ⟨r, hr⟩ : ∃ r, q = r + 1 := ⟨q - 1, by omega⟩
          have hrI : I2 ≤ r + 1 := by omega
          have hrj : r ≤ j := by omega
          have hrq : r < q := by omega
          have x1 : (q : Int) - 1 = (r : Int) := by omega
          have HR := Lib.hid hr
          clear hX hV hdn hr
          cases hless : lti X V
          case true =>
            have HL : Hid (∀ w, Calls Try.prog 154 #[.int .u64 X, .int .u64 V] w fun e w' => e = .returned (.bool true) ∧ w' = w) := fun w => less_is hless w
            have HE : Hid (q = J2) := (scanDown_stop (.inr (by show (!lti dk[q]! dk[a]!) = false; rw [← HX.out, ← HV.out, hless]; rfl))).symm.trans hsc.out
            clear hless
            go_wp2_with fail
            go_quiet ((go_at_call 154; exact Calls.quiet_of_same (HL.out _)))
            go_wp2_with fail
            go_meet
            exact ⟨by rw [HE.out], hs'.out.same rfl rfl rfl rfl⟩
          case false =>
            have HL : Hid (∀ w, Calls Try.prog 154 #[.int .u64 X, .int .u64 V] w fun e w' => e = .returned (.bool false) ∧ w' = w) := fun w => less_is hless w
            have HE : Hid (Sort.scanDown (fun x => !lti x dk[a]!) dk I2 r = J2) := (scanDown_go HR.out hle (by show (!lti dk[q]! dk[a]!) = true; rw [← HX.out, ← HV.out, hless]; rfl)).symm.trans hsc.out
            clear hless
            go_wp2_with fail
            go_quiet ((go_at_call 154; exact Calls.quiet_of_same (HL.out _)))
            go_wp2_with fail
            go_roundw
            case rel => exact ⟨r, hrI, hrj, rfl, hs'.out.same rfl rfl rfl rfl, HE⟩
            case measure => clear x1; simp [intOf]; omega
    case rest =>
      obtain ⟨rfl, hcw⟩ := hcut

      have HSW := hcw
      clear y0 y1
      by_cases hgt : J2 < I2
      case pos =>
        have hdg : decide (J2 < I2) = true := by simpa using hgt
        have hJ2n : J2 < n := by omega
        have HE : Hid (Sort.partition lti d a b pivot = (J2, true, Sort.swp dk J2 a)) := by
          have h := HPD.out
          rw [if_pos hgt] at h
          exact h
        go_upto_region 8 with (fail)
        have hdn : dk.size = n := HSW.out.sz.trans HN.out
        obtain ⟨X, hX⟩ : ∃ X, X = dk[J2]! := ⟨_, rfl⟩
        obtain ⟨Y, hY⟩ : ∃ X, X = dk[a]! := ⟨_, rfl⟩
        have c1 := HSW.out.cell (t := J2) (by omega)
        have c2 := HSW.out.cell (t := a) (by omega)
        have z1 := HSW.out.frozen (t := J2) (by omega)
        have z2 := HSW.out.frozen (t := a) (by omega)
        rw [← hX] at c1
        rw [← hY] at c2
        obtain ⟨Z, hZ⟩ := cell?_setCell_some (p := ⟨blk, off + J2, none⟩) (x := .int .u64 Y) c2
        have HX := Lib.hid hX
        have HY := Lib.hid hY
        have HDN := Lib.hid hdn
        clear hX hY hdn
        go_wp2_with fail
        go_region
        have HS3 : Hid (SW w (World.drew ((wc.setCell ⟨blk, off + J2, none⟩ (.int .u64 Y)).setCell ⟨blk, off + a, none⟩ (.int .u64 X))) blk off d (Sort.swp dk J2 a)) :=
          SW.same (HSW.out.swpv (w := wc) (by rw [HDN.out]; exact hJ2n) (by rw [HDN.out]; exact han) HX.out HY.out rfl rfl rfl rfl) rfl rfl rfl rfl
        clear c1 c2 z1 z2 hZ
        try change Code.wp _ _ _ _ (World.drew ((wc.setCell ⟨blk, off + J2, none⟩ (.int .u64 Y)).setCell ⟨blk, off + a, none⟩ (.int .u64 X)))
        generalize World.drew (World.setCell (World.setCell wc _ _) _ _) = w3 at *
        clear HX HY HDN
        go_wp2_with fail
        go_ret2
        unfold ParT
        rw [HE.out]
        exact ⟨rfl, HS3.out⟩
      case neg =>
        have hdg : decide (J2 < I2) = false := by simpa using hgt
        have hlt : I2 < J2 := HPT.out (by omega)
        have hI2n : I2 < n := by omega
        have hJ2n : J2 < n := by omega
        obtain ⟨k, hk⟩ : ∃ k, k = J2 - 1 := ⟨_, rfl⟩
        have HE : Hid (Sort.partition lti d a b pivot = ((Sort.partLoop lti a (I2 + 1) k (Sort.swp dk I2 J2)).1, false, Sort.swp (Sort.partLoop lti a (I2 + 1) k (Sort.swp dk I2 J2)).2 (Sort.partLoop lti a (I2 + 1) k (Sort.swp dk I2 J2)).1 a)) := by
          have h := HPD.out
          rw [if_neg hgt, ← hk] at h
          exact h
        have y2 : (J2 : Int) - 1 = (k : Int) := by omega
        have hkb : k < b := by omega
        have hik : I2 + 1 ≤ k + 1 := by omega
        have haI : a < I2 + 1 := by omega
        clear hk
        go_upto_region 10 with (fail)
        have hdn : dk.size = n := HSW.out.sz.trans HN.out
        obtain ⟨X, hX⟩ : ∃ X, X = dk[I2]! := ⟨_, rfl⟩
        obtain ⟨Y, hY⟩ : ∃ X, X = dk[J2]! := ⟨_, rfl⟩
        have c1 := HSW.out.cell (t := I2) (by omega)
        have c2 := HSW.out.cell (t := J2) (by omega)
        have z1 := HSW.out.frozen (t := I2) (by omega)
        have z2 := HSW.out.frozen (t := J2) (by omega)
        rw [← hX] at c1
        rw [← hY] at c2
        obtain ⟨Z, hZ⟩ := cell?_setCell_some (p := ⟨blk, off + I2, none⟩) (x := .int .u64 Y) c2
        have HX := Lib.hid hX
        have HY := Lib.hid hY
        have HDN := Lib.hid hdn
        clear hX hY hdn
        go_wp2_with fail
        go_region
        have HS2 : Hid (SW w (World.drew ((wc.setCell ⟨blk, off + I2, none⟩ (.int .u64 Y)).setCell ⟨blk, off + J2, none⟩ (.int .u64 X))) blk off d (Sort.swp dk I2 J2)) :=
          SW.same (HSW.out.swpv (w := wc) (by rw [HDN.out]; exact hI2n) (by rw [HDN.out]; exact hJ2n) HX.out HY.out rfl rfl rfl rfl) rfl rfl rfl rfl
        clear c1 c2 z1 z2 hZ
        try change Code.wp _ _ _ _ (World.drew ((wc.setCell ⟨blk, off + I2, none⟩ (.int .u64 Y)).setCell ⟨blk, off + J2, none⟩ (.int .u64 X)))
        generalize World.drew (World.setCell (World.setCell wc _ _) _ _) = w2 at *
        clear HX HY HDN
        obtain ⟨d0, hd0⟩ : ∃ d1, d1 = Sort.swp dk I2 J2 := ⟨_, rfl⟩
        rw [← hd0] at HS2 HE
        clear hd0
        obtain ⟨r0, hr0⟩ : ∃ r0, r0 = Sort.partLoop lti a (I2 + 1) k d0 := ⟨_, rfl⟩
        rw [← hr0] at HE
        have HR0 := Lib.hid hr0
        clear hr0 HI2 HJ2 HIJ2 HPT HPD HSW HS1 HD1
        go_wp2_with fail
        try simp only [y2]
        go_loopw [10, 11] (fun vi vj wr => ∃ (i j : Nat) (dk : Array Int), a < i ∧ i ≤ j + 1 ∧ j < b ∧ vi = .int .i64 i ∧ vj = .int .i64 j ∧ Hid (SW w wr blk off d dk) ∧ Hid (Sort.partLoop lti a i j dk = r0)) (fun vi vj _ => (intOf vj + 1 - intOf vi).toNat)
        case atStart => exact ⟨I2 + 1, k, d0, haI, hik, hkb, by go_num, rfl, HS2, HR0.out.symm⟩
        case round =>
          clear y2 hI2a hI2b hJ2a hJ2b hlt hdg hgt hI2n hJ2n hkb hik haI hij hai haj hjb
          obtain ⟨i, j, dk, hai, hij, hjb, rfl, rfl, HSW, hpl⟩ := hrel
          obtain ⟨I2, hI2⟩ : ∃ I2, Sort.scanUp (fun x => lti x dk[a]!) dk j i = I2 := ⟨_, rfl⟩
          obtain ⟨J2, hJ2⟩ : ∃ J2, Sort.scanDown (fun x => !lti x dk[a]!) dk I2 j = J2 := ⟨_, rfl⟩
          have su := Sort.scanUp_spec (fun x => lti x dk[a]!) dk j _ i rfl
          have sd := Sort.scanDown_spec (fun x => !lti x dk[a]!) dk I2 j
          rw [hI2] at su
          rw [hJ2] at sd
          have hI2a : i ≤ I2 := su.1
          have hI2b : I2 ≤ j + 1 := su.2.1 hij
          have hJ2a : J2 ≤ j := sd.1
          have hJ2b : I2 ≤ J2 + 1 := sd.2.1 hI2b
          have HPT : Hid (I2 ≤ J2 → I2 < J2) := fun h => scans_part (p' := (fun x => !lti x dk[a]!)) (fun x => by simp) hI2 hJ2 h (by omega)
          have HIJ2 := Lib.hid hI2b
          have HI2 := Lib.hid hI2
          have HJ2 := Lib.hid hJ2
          clear su sd hI2 hJ2
          have HEQ := Lib.hid (Sort.partLoop_eq lti a i j dk)
          go_upto_block 6 with (fail)
          go_cut [10] from 99 to 152 (fun sv wx => sv = .int .i64 (I2 : Int) ∧ Hid (SW w wx blk off d dk))
          case first =>
            go_wp2_with fail
            go_loopw [10] (fun vi wr => ∃ q : Nat, i ≤ q ∧ q ≤ j + 1 ∧ vi = .int .i64 q ∧ Hid (SW w wr blk off d dk) ∧ Hid (Sort.scanUp (fun x => lti x dk[a]!) dk j q = I2)) (fun vi _ => j + 1 - (intOf vi).toNat)
            case atStart => exact ⟨i, Nat.le_refl _, hij, rfl, HSW, HI2⟩
            case round =>
              obtain ⟨q, h1, h2, rfl, hs', hsc⟩ := hrel
              by_cases hle : q ≤ j
              case neg =>
                have hdl : decide (q ≤ j) = false := by simpa using hle
                have HE : Hid (q = I2) := (scanUp_stop (.inl hle)).symm.trans hsc.out
                go_wp2_with fail
                go_quiet (fail)
                go_wp2_with fail
                go_meet
                exact ⟨by rw [HE.out], hs'.out.same rfl rfl rfl rfl⟩
              case pos =>
                have hdl : decide (q ≤ j) = true := by simpa using hle
                have hdn : dk.size = n := hs'.out.sz.trans HN.out
                have hqn : q < n := by omega
                obtain ⟨X, hX⟩ : ∃ X, X = dk[q]! := ⟨_, rfl⟩
                obtain ⟨V, hV⟩ : ∃ X, X = dk[a]! := ⟨_, rfl⟩
                have c1 := hs'.out.cell (t := q) (by omega)
                have c2 := hs'.out.cell (t := a) (by omega)
                rw [← hX] at c1
                rw [← hV] at c2
                have HX := Lib.hid hX
                have HV := Lib.hid hV
                clear hX hV hdn
                cases hless : lti X V
                case false =>
                  have HL : Hid (∀ w, Calls Try.prog 154 #[.int .u64 X, .int .u64 V] w fun e w' => e = .returned (.bool false) ∧ w' = w) := fun w => less_is hless w
                  have HE : Hid (q = I2) := (scanUp_stop (.inr (by show lti dk[q]! dk[a]! = false; rw [← HX.out, ← HV.out, hless]))).symm.trans hsc.out
                  clear hless
                  go_wp2_with fail
                  go_quiet ((go_at_call 154; exact Calls.quiet_of_same (HL.out _)))
                  go_wp2_with fail
                  go_meet
                  exact ⟨by rw [HE.out], hs'.out.same rfl rfl rfl rfl⟩
                case true =>
                  have HL : Hid (∀ w, Calls Try.prog 154 #[.int .u64 X, .int .u64 V] w fun e w' => e = .returned (.bool true) ∧ w' = w) := fun w => less_is hless w
                  have HE : Hid (Sort.scanUp (fun x => lti x dk[a]!) dk j (q + 1) = I2) := (scanUp_go hle (by show lti dk[q]! dk[a]! = true; rw [← HX.out, ← HV.out, hless])).symm.trans hsc.out
                  clear hless
                  go_wp2_with fail
                  go_quiet ((go_at_call 154; exact Calls.quiet_of_same (HL.out _)))
                  go_wp2_with fail
                  go_roundw
                  case rel => exact ⟨q + 1, Nat.le_succ_of_le h1, Nat.succ_le_succ hle, by go_num, hs'.out.same rfl rfl rfl rfl, HE⟩
                  case measure =>  simp [intOf]; omega
          case rest =>
            obtain ⟨rfl, hcw⟩ := hcut

            have HSW := hcw
            go_upto_block 8 with (fail)
            go_cut [11] from 99 to 152 (fun sv wx => sv = .int .i64 (J2 : Int) ∧ Hid (SW w wx blk off d dk))
            case first =>
              go_wp2_with fail
              go_loopw [11] (fun vj wr => ∃ q : Nat, I2 ≤ q + 1 ∧ q ≤ j ∧ vj = .int .i64 q ∧ Hid (SW w wr blk off d dk) ∧ Hid (Sort.scanDown (fun x => !lti x dk[a]!) dk I2 q = J2)) (fun vj _ => (intOf vj).toNat)
              case atStart => exact ⟨j, HIJ2.out, Nat.le_refl _, rfl, HSW, HJ2⟩
              case round =>
                obtain ⟨q, h1, h2, rfl, hs', hsc⟩ := hrel
                by_cases hle : I2 ≤ q
                case neg =>
                  have hdl : decide (I2 ≤ q) = false := by simpa using hle
                  have HE : Hid (q = J2) := (scanDown_stop (.inl hle)).symm.trans hsc.out
                  go_wp2_with fail
                  go_quiet (fail)
                  go_wp2_with fail
                  go_meet
                  exact ⟨by rw [HE.out], hs'.out.same rfl rfl rfl rfl⟩
                case pos =>
                  have hdl : decide (I2 ≤ q) = true := by simpa using hle
                  have hdn : dk.size = n := hs'.out.sz.trans HN.out
                  have hqn : q < n := by omega
                  obtain ⟨X, hX⟩ : ∃ X, X = dk[q]! := ⟨_, rfl⟩
                  obtain ⟨V, hV⟩ : ∃ X, X = dk[a]! := ⟨_, rfl⟩
                  have c1 := hs'.out.cell (t := q) (by omega)
                  have c2 := hs'.out.cell (t := a) (by omega)
                  rw [← hX] at c1
                  rw [← hV] at c2
                  have HX := Lib.hid hX
                  have HV := Lib.hid hV
                  obtain ⟨r, hr⟩ : ∃ r, q = r + 1 := ⟨q - 1, by omega⟩
                  have hrI : I2 ≤ r + 1 := by omega
                  have hrj : r ≤ j := by omega
                  have hrq : r < q := by omega
                  have x1 : (q : Int) - 1 = (r : Int) := by omega
                  have HR := Lib.hid hr
                  clear hX hV hdn hr
                  cases hless : lti X V
                  case true =>
                    have HL : Hid (∀ w, Calls Try.prog 154 #[.int .u64 X, .int .u64 V] w fun e w' => e = .returned (.bool true) ∧ w' = w) := fun w => less_is hless w
                    have HE : Hid (q = J2) := (scanDown_stop (.inr (by show (!lti dk[q]! dk[a]!) = false; rw [← HX.out, ← HV.out, hless]; rfl))).symm.trans hsc.out
                    clear hless
                    go_wp2_with fail
                    go_quiet ((go_at_call 154; exact Calls.quiet_of_same (HL.out _)))
                    go_wp2_with fail
                    go_meet
                    exact ⟨by rw [HE.out], hs'.out.same rfl rfl rfl rfl⟩
                  case false =>
                    have HL : Hid (∀ w, Calls Try.prog 154 #[.int .u64 X, .int .u64 V] w fun e w' => e = .returned (.bool false) ∧ w' = w) := fun w => less_is hless w
                    have HE : Hid (Sort.scanDown (fun x => !lti x dk[a]!) dk I2 r = J2) := (scanDown_go HR.out hle (by show (!lti dk[q]! dk[a]!) = true; rw [← HX.out, ← HV.out, hless]; rfl)).symm.trans hsc.out
                    clear hless
                    go_wp2_with fail
                    go_quiet ((go_at_call 154; exact Calls.quiet_of_same (HL.out _)))
                    go_wp2_with fail
                    go_roundw
                    case rel => exact ⟨r, hrI, hrj, rfl, hs'.out.same rfl rfl rfl rfl, HE⟩
                    case measure => clear x1; simp [intOf]; omega
            case rest =>
              obtain ⟨rfl, hcw⟩ := hcut

              have HSW := hcw
              by_cases hgt : J2 < I2
              case pos =>
                have hdg : decide (J2 < I2) = true := by simpa using hgt
                have hJ2n : J2 < n := by omega
                have HF : Hid ((J2, dk) = r0) := by
                  have h := HEQ.out
                  rw [HI2.out, HJ2.out, if_pos hgt] at h
                  exact h.symm.trans hpl.out
                go_upto_region 21 with (fail)
                have hdn : dk.size = n := HSW.out.sz.trans HN.out
                obtain ⟨X, hX⟩ : ∃ X, X = dk[J2]! := ⟨_, rfl⟩
                obtain ⟨Y, hY⟩ : ∃ X, X = dk[a]! := ⟨_, rfl⟩
                have c1 := HSW.out.cell (t := J2) (by omega)
                have c2 := HSW.out.cell (t := a) (by omega)
                have z1 := HSW.out.frozen (t := J2) (by omega)
                have z2 := HSW.out.frozen (t := a) (by omega)
                rw [← hX] at c1
                rw [← hY] at c2
                obtain ⟨Z, hZ⟩ := cell?_setCell_some (p := ⟨blk, off + J2, none⟩) (x := .int .u64 Y) c2
                have HX := Lib.hid hX
                have HY := Lib.hid hY
                have HDN := Lib.hid hdn
                clear hX hY hdn
                go_wp2_with fail
                go_region
                have HS4 : Hid (SW w (World.drew ((wc.setCell ⟨blk, off + J2, none⟩ (.int .u64 Y)).setCell ⟨blk, off + a, none⟩ (.int .u64 X))) blk off d (Sort.swp dk J2 a)) :=
                  SW.same (HSW.out.swpv (w := wc) (by rw [HDN.out]; exact hJ2n) (by rw [HDN.out]; exact han) HX.out HY.out rfl rfl rfl rfl) rfl rfl rfl rfl
                clear c1 c2 z1 z2 hZ
                try change Code.wp _ _ _ _ (World.drew ((wc.setCell ⟨blk, off + J2, none⟩ (.int .u64 Y)).setCell ⟨blk, off + a, none⟩ (.int .u64 X)))
                generalize World.drew (World.setCell (World.setCell wc _ _) _ _) = w4 at *
                clear HX HY HDN
                go_wp2_with fail
                go_ret2
                unfold ParT
                rw [HE.out, ← HF.out]
                exact ⟨rfl, HS4.out⟩
              case neg =>
                have hdg : decide (J2 < I2) = false := by simpa using hgt
                have hlt : I2 < J2 := HPT.out (by omega)
                have hI2n : I2 < n := by omega
                have hJ2n : J2 < n := by omega
                have HF : Hid (Sort.partLoop lti a (I2 + 1) (J2 - 1) (Sort.swp dk I2 J2) = r0) := by
                  have h := HEQ.out
                  rw [HI2.out, HJ2.out, if_neg (by omega)] at h
                  exact h.symm.trans hpl.out
                obtain ⟨k, hk⟩ : ∃ k, k = J2 - 1 := ⟨_, rfl⟩
                rw [← hk] at HF
                have y1 : (J2 : Int) - 1 = (k : Int) := by omega
                have hkb : k < b := by omega
                have hik : I2 + 1 ≤ k + 1 := by omega
                have hkj : k < j := by omega
                have haI : a < I2 + 1 := by omega
                clear hk
                go_upto_region 18 with (fail)
                have hdn : dk.size = n := HSW.out.sz.trans HN.out
                obtain ⟨X, hX⟩ : ∃ X, X = dk[I2]! := ⟨_, rfl⟩
                obtain ⟨Y, hY⟩ : ∃ X, X = dk[J2]! := ⟨_, rfl⟩
                have c1 := HSW.out.cell (t := I2) (by omega)
                have c2 := HSW.out.cell (t := J2) (by omega)
                have z1 := HSW.out.frozen (t := I2) (by omega)
                have z2 := HSW.out.frozen (t := J2) (by omega)
                rw [← hX] at c1
                rw [← hY] at c2
                obtain ⟨Z, hZ⟩ := cell?_setCell_some (p := ⟨blk, off + I2, none⟩) (x := .int .u64 Y) c2
                have HX := Lib.hid hX
                have HY := Lib.hid hY
                have HDN := Lib.hid hdn
                clear hX hY hdn
                go_wp2_with fail
                go_region
                have HS5 : Hid (SW w (World.drew ((wc.setCell ⟨blk, off + I2, none⟩ (.int .u64 Y)).setCell ⟨blk, off + J2, none⟩ (.int .u64 X))) blk off d (Sort.swp dk I2 J2)) :=
                  SW.same (HSW.out.swpv (w := wc) (by rw [HDN.out]; exact hI2n) (by rw [HDN.out]; exact hJ2n) HX.out HY.out rfl rfl rfl rfl) rfl rfl rfl rfl
                clear c1 c2 z1 z2 hZ
                try change Code.wp _ _ _ _ (World.drew ((wc.setCell ⟨blk, off + I2, none⟩ (.int .u64 Y)).setCell ⟨blk, off + J2, none⟩ (.int .u64 X)))
                generalize World.drew (World.setCell (World.setCell wc _ _) _ _) = w5 at *
                clear HX HY HDN
                go_wp2_with fail
                go_roundw
                case rel => exact ⟨I2 + 1, k, _, haI, hik, hkb, by go_num, rfl, HS5, HF⟩
                case measure => clear y1; simp [intOf]; omega
end Go.Proofs.Ytmdgmnaaopineaa
