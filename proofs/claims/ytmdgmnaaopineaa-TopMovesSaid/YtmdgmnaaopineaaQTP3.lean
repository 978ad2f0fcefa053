/-
  'tholepintop.TopMoves' returns true for every input, and each argument reads behind the call as it read before. No condition.
-/
import Derived.Deep.DeepCutAuto
import Derived.Deep.CutBlock
import Derived.RegionTactic
import Derived.Deep.Slices
import Derived.Deep.Fields
import Derived.ChangeOld
import Derived.OpenShut
import Derived.ShutString
import Derived.Test.YtmdgmnaaopineaaRows
import Derived.Test.YtmdgmnaaopineaaQTP2
/- locate.First. -/
namespace Go.Proofs.Ytmdgmnaaopineaa
open Go.ChangeShapes Go.WideShapes Go.ChangeAt Go.RowKit
set_option linter.unusedVariables false
set_option maxRecDepth 100000 in
theorem fld3 (a b x : Int) (n2 c2 : Nat) (A2 : Option Addr) (w : World) : (Instr.field 48 (.agg #[.int .i64 a, .int .i64 b, .int .u64 x, .slice A2 n2 c2]) 3).run Try.prog w = .ok (.slice A2 n2 c2) w := rfl
section
variable {D D' : Dom} {A A' : Option Addr} {n c e n' c' e' : Nat} {l l' : List Stp} {w : World}
set_option maxRecDepth 100000 in
set_option maxHeartbeats 2000000 in
theorem first_bad (hs : rpStp.sl w D A n c l) (hs' : rpStp.sl w D' A' n' c' l') (hD : ∀ k, D k → k < w.heap.size) (hD' : ∀ k, D' k → k < w.heap.size) (he : e ≤ 18446744073709551615) (he' : e' ≤ 18446744073709551615) (hno : ¬ (POk (e, l) ∧ POk (e', l'))) :
    Calls Try.prog 23 #[.agg (prjV e A n c), .agg (prjV e' A' n' c')] w fun en w' => en = .returned (.tuple #[.int .u64 0, .bool false]) ∧ Below w.heap.size w w' := by
  by_cases h1 : POk (e, l)
  case neg =>
    have H1 := Lib.hid h1
    clear h1 hno
    have pa_0 := Lib.hid (blk21 w 25 25 (prjV e A n c) (prjV e' A' n' c'))
    have pb_0 := Lib.hid (blk22 w 25 25 (prjV e A n c) (prjV e' A' n' c'))
    have hb := below2 w (.cells (prjV e A n c) 25) (.cells (prjV e' A' n' c') 25)
    have BB_0 := Lib.hid hb
    have sa_0 := Lib.hid (keepS (show Sl rpStp w D A n c l from ⟨hs, hD⟩) hb)
    have sb_0 := Lib.hid (keepS (show Sl rpStp w D' A' n' c' l' from ⟨hs', hD'⟩) hb)
    clear hb hs hs' hD hD'
    go_enter Try.func23, Try.ntmps23
    go_wp2_with fail
    generalize World.alloc (World.alloc w _) _ = w0 at *
    have z_pa0_0 := (show Blk w0 w.heap.size 25 (prjV e A n c) from pa_0.out).cell 0
    have z_pa1_0 := (show Blk w0 w.heap.size 25 (prjV e A n c) from pa_0.out).cell 1
    have z_pb0_0 := (show Blk w0 (w.heap.size + 1) 25 (prjV e' A' n' c') from pb_0.out).cell 0
    have z_pb1_0 := (show Blk w0 (w.heap.size + 1) 25 (prjV e' A' n' c') from pb_0.out).cell 1
    go_wp2_with fail
    have hr := pright_any (sa_0.out).1 (sa_0.out).2 he
    rw [dec_false H1.out] at hr
    have HR := Lib.hid hr
    clear hr
    refine (HR.out).mono ?_; rintro en w1 ⟨rfl, hb⟩
    have pa_1 : Hid (Blk w1 w.heap.size 25 (prjV e A n c)) := keepB pa_0.out hb
    have pb_1 : Hid (Blk w1 (w.heap.size + 1) 25 (prjV e' A' n' c')) := keepB pb_0.out hb
    have sa_1 : Hid (Sl rpStp w1 D A n c l) := keepS sa_0.out hb
    have sb_1 : Hid (Sl rpStp w1 D' A' n' c' l') := keepS sb_0.out hb
    have BB_1 : Hid (Below w.heap.size w w1) := stepB BB_0.out hb
    clear z_pa0_0 z_pa1_0 z_pb0_0 z_pb1_0
    clear hb
    have z_pb0_1 := (show Blk w1 (w.heap.size + 1) 25 (prjV e' A' n' c') from pb_1.out).cell 0
    have z_pb1_1 := (show Blk w1 (w.heap.size + 1) 25 (prjV e' A' n' c') from pb_1.out).cell 1
    go_wp2_with fail
    go_ret2
    exact ⟨rfl, BB_1.out⟩
  case pos =>
    have HNO : Hid (¬ POk (e', l')) := fun h => hno ⟨h1, h⟩
    have H1 := Lib.hid h1
    clear h1 hno
    have pa_0 := Lib.hid (blk21 w 25 25 (prjV e A n c) (prjV e' A' n' c'))
    have pb_0 := Lib.hid (blk22 w 25 25 (prjV e A n c) (prjV e' A' n' c'))
    have hb := below2 w (.cells (prjV e A n c) 25) (.cells (prjV e' A' n' c') 25)
    have BB_0 := Lib.hid hb
    have sa_0 := Lib.hid (keepS (show Sl rpStp w D A n c l from ⟨hs, hD⟩) hb)
    have sb_0 := Lib.hid (keepS (show Sl rpStp w D' A' n' c' l' from ⟨hs', hD'⟩) hb)
    clear hb hs hs' hD hD'
    go_enter Try.func23, Try.ntmps23
    go_wp2_with fail
    generalize World.alloc (World.alloc w _) _ = w0 at *
    have z_pa0_0 := (show Blk w0 w.heap.size 25 (prjV e A n c) from pa_0.out).cell 0
    have z_pa1_0 := (show Blk w0 w.heap.size 25 (prjV e A n c) from pa_0.out).cell 1
    have z_pb0_0 := (show Blk w0 (w.heap.size + 1) 25 (prjV e' A' n' c') from pb_0.out).cell 0
    have z_pb1_0 := (show Blk w0 (w.heap.size + 1) 25 (prjV e' A' n' c') from pb_0.out).cell 1
    go_wp2_with fail
    have hr := pright_any (sa_0.out).1 (sa_0.out).2 he
    rw [dec_true H1.out] at hr
    have HR := Lib.hid hr
    clear hr
    refine (HR.out).mono ?_; rintro en w1 ⟨rfl, hb⟩
    have pa_1 : Hid (Blk w1 w.heap.size 25 (prjV e A n c)) := keepB pa_0.out hb
    have pb_1 : Hid (Blk w1 (w.heap.size + 1) 25 (prjV e' A' n' c')) := keepB pb_0.out hb
    have sa_1 : Hid (Sl rpStp w1 D A n c l) := keepS sa_0.out hb
    have sb_1 : Hid (Sl rpStp w1 D' A' n' c' l') := keepS sb_0.out hb
    have BB_1 : Hid (Below w.heap.size w w1) := stepB BB_0.out hb
    clear z_pa0_0 z_pa1_0 z_pb0_0 z_pb1_0
    clear hb
    have z_pb0_1 := (show Blk w1 (w.heap.size + 1) 25 (prjV e' A' n' c') from pb_1.out).cell 0
    have z_pb1_1 := (show Blk w1 (w.heap.size + 1) 25 (prjV e' A' n' c') from pb_1.out).cell 1
    go_wp2_with fail
    have hr := pright_any (sb_1.out).1 (sb_1.out).2 he'
    rw [dec_false HNO.out] at hr
    have HR2 := Lib.hid hr
    clear hr
    refine (HR2.out).mono ?_; rintro en w2 ⟨rfl, hb⟩
    have pa_2 : Hid (Blk w2 w.heap.size 25 (prjV e A n c)) := keepB pa_1.out hb
    have pb_2 : Hid (Blk w2 (w.heap.size + 1) 25 (prjV e' A' n' c')) := keepB pb_1.out hb
    have sa_2 : Hid (Sl rpStp w2 D A n c l) := keepS sa_1.out hb
    have sb_2 : Hid (Sl rpStp w2 D' A' n' c' l') := keepS sb_1.out hb
    have BB_2 : Hid (Below w.heap.size w w2) := stepB BB_1.out hb
    clear z_pb0_1 z_pb1_1
    clear hb
    go_wp2_with fail
    go_ret2
    exact ⟨rfl, BB_2.out⟩
set_option maxRecDepth 100000 in
set_option maxHeartbeats 4000000 in
theorem first_ok (hs : rpStp.sl w D A n c l) (hs' : rpStp.sl w D' A' n' c' l') (hD : ∀ k, D k → k < w.heap.size) (hD' : ∀ k, D' k → k < w.heap.size) (he : e ≤ 18446744073709551615) (he' : e' ≤ 18446744073709551615) (h1 : POk (e, l)) (h2 : POk (e', l')) :
    Calls Try.prog 23 #[.agg (prjV e A n c), .agg (prjV e' A' n' c')] w fun en w' => (∃ r ok, en = .returned (.tuple #[.int .u64 ((r : Nat) : Int), .bool ok]) ∧ FirstIs l l' r ok) ∧ Below w.heap.size w w' := by
  have H1 := Lib.hid h1
  have H2 := Lib.hid h2
  have hnn := (Rp.sl_len hs).2.2
  have hnn' := (Rp.sl_len hs').2.2
  have hln := (Rp.sl_len hs).1
  have hln' := (Rp.sl_len hs').1
  unfold maxLen at hnn hnn'
  have HLN := Lib.hid hln
  have HLN' := Lib.hid hln'
  clear h1 h2 hln hln'
  have pa_0 := Lib.hid (blk21 w 25 25 (prjV e A n c) (prjV e' A' n' c'))
  have pb_0 := Lib.hid (blk22 w 25 25 (prjV e A n c) (prjV e' A' n' c'))
  have hb := below2 w (.cells (prjV e A n c) 25) (.cells (prjV e' A' n' c') 25)
  have BB_0 := Lib.hid hb
  have sa_0 := Lib.hid (keepS (show Sl rpStp w D A n c l from ⟨hs, hD⟩) hb)
  have sb_0 := Lib.hid (keepS (show Sl rpStp w D' A' n' c' l' from ⟨hs', hD'⟩) hb)
  clear hb hs hs' hD hD'
  go_enter Try.func23, Try.ntmps23
  go_wp2_with fail
  generalize World.alloc (World.alloc w _) _ = w0 at *
  have z_pa0_0 := (show Blk w0 w.heap.size 25 (prjV e A n c) from pa_0.out).cell 0
  have z_pa1_0 := (show Blk w0 w.heap.size 25 (prjV e A n c) from pa_0.out).cell 1
  have z_pb0_0 := (show Blk w0 (w.heap.size + 1) 25 (prjV e' A' n' c') from pb_0.out).cell 0
  have z_pb1_0 := (show Blk w0 (w.heap.size + 1) 25 (prjV e' A' n' c') from pb_0.out).cell 1
  go_wp2_with fail
  have hr := pright_any (sa_0.out).1 (sa_0.out).2 he
  rw [dec_true H1.out] at hr
  have HR := Lib.hid hr
  clear hr
  refine (HR.out).mono ?_; rintro en w1 ⟨rfl, hb⟩
  have pa_1 : Hid (Blk w1 w.heap.size 25 (prjV e A n c)) := keepB pa_0.out hb
  have pb_1 : Hid (Blk w1 (w.heap.size + 1) 25 (prjV e' A' n' c')) := keepB pb_0.out hb
  have sa_1 : Hid (Sl rpStp w1 D A n c l) := keepS sa_0.out hb
  have sb_1 : Hid (Sl rpStp w1 D' A' n' c' l') := keepS sb_0.out hb
  have BB_1 : Hid (Below w.heap.size w w1) := stepB BB_0.out hb
  clear z_pa0_0 z_pa1_0 z_pb0_0 z_pb1_0
  clear hb
  have z_pb0_1 := (show Blk w1 (w.heap.size + 1) 25 (prjV e' A' n' c') from pb_1.out).cell 0
  have z_pb1_1 := (show Blk w1 (w.heap.size + 1) 25 (prjV e' A' n' c') from pb_1.out).cell 1
  go_wp2_with fail
  have hr := pright_any (sb_1.out).1 (sb_1.out).2 he'
  rw [dec_true H2.out] at hr
  have HR2 := Lib.hid hr
  clear hr
  refine (HR2.out).mono ?_; rintro en w2 ⟨rfl, hb⟩
  have pa_2 : Hid (Blk w2 w.heap.size 25 (prjV e A n c)) := keepB pa_1.out hb
  have pb_2 : Hid (Blk w2 (w.heap.size + 1) 25 (prjV e' A' n' c')) := keepB pb_1.out hb
  have sa_2 : Hid (Sl rpStp w2 D A n c l) := keepS sa_1.out hb
  have sb_2 : Hid (Sl rpStp w2 D' A' n' c' l') := keepS sb_1.out hb
  have BB_2 : Hid (Below w.heap.size w w2) := stepB BB_1.out hb
  clear z_pb0_1 z_pb1_1
  clear hb
  go_wp2_with fail
  go_loopw [6] (fun i wr => ∃ p : Nat, p ≤ 4611686018427387904 ∧ i = .int .u64 p ∧ Hid (∀ q, q < p → nodesAt l q = nodesAt l' q) ∧ Hid (Blk wr w.heap.size 25 (prjV e A n c)) ∧ Hid (Blk wr (w.heap.size + 1) 25 (prjV e' A' n' c')) ∧ Hid (Sl rpStp wr D A n c l) ∧ Hid (Sl rpStp wr D' A' n' c' l') ∧ Hid (Below w.heap.size w wr)) (fun i _ => 4611686018427387904 - (intOf i).toNat)
  case atStart => exact ⟨0, by omega, rfl, fun q h => by omega, pa_2.out, pb_2.out, sa_2.out, sb_2.out, BB_2.out⟩
  case round =>
    clear HR HR2 pa_0 pb_0 sa_0 sb_0 BB_0 pa_1 pb_1 sa_1 sb_1 BB_1 pa_2 pb_2 sa_2 sb_2 BB_2
    obtain ⟨p, hp, rfl, hsh, pa_100, pb_100, sa_100, sb_100, BB_100⟩ := hrel
    obtain ⟨w100, hw100⟩ : ∃ w100, w100 = wr := ⟨_, rfl⟩
    subst hw100
    have z_pa0_100 := (show Blk w100 w.heap.size 25 (prjV e A n c) from pa_100.out).cell 0
    have z_pa1_100 := (show Blk w100 w.heap.size 25 (prjV e A n c) from pa_100.out).cell 1
    have z_pb0_100 := (show Blk w100 (w.heap.size + 1) 25 (prjV e' A' n' c') from pb_100.out).cell 0
    have z_pb1_100 := (show Blk w100 (w.heap.size + 1) 25 (prjV e' A' n' c') from pb_100.out).cell 1
    have hpos := fun w => epos_any p w (by omega)
    by_cases hp2 : p < 4611686018427387904
    case neg =>
      have HPE := Lib.hid (show p = 4611686018427387904 by omega)
      rw [dec_false (show ¬ PosOk p from hp2)] at hpos
      have HPOS := Lib.hid hpos
      clear hpos hp2
      go_wp2_with fail
      refine (HPOS.out _).mono ?_; rintro en wx ⟨rfl, rfl⟩
      go_wp2_with fail
      go_ret2
      exact ⟨⟨0, false, rfl, .inr ⟨rfl, rfl, fun q hq => hsh.out q (by rw [HPE.out]; exact hq)⟩⟩, BB_100.out⟩
    case pos =>
      rw [dec_true (show PosOk p from hp2)] at hpos
      have HPOS := Lib.hid hpos
      clear hpos
      go_wp2_with fail
      refine (HPOS.out _).mono ?_; rintro en wx ⟨rfl, rfl⟩
      go_wp2_with fail
      refine (lstripe_any p (sa_100.out).1 (sa_100.out).2 he (by omega) H1.out hp2).mono ?_; rintro en w101 ⟨i, s, rfl, hin, hb⟩
      have HI := Lib.hid hin
      clear hin
      have pa_101 : Hid (Blk w101 w.heap.size 25 (prjV e A n c)) := keepB pa_100.out hb
      have pb_101 : Hid (Blk w101 (w.heap.size + 1) 25 (prjV e' A' n' c')) := keepB pb_100.out hb
      have sa_101 : Hid (Sl rpStp w101 D A n c l) := keepS sa_100.out hb
      have sb_101 : Hid (Sl rpStp w101 D' A' n' c' l') := keepS sb_100.out hb
      have BB_101 : Hid (Below w.heap.size w w101) := stepB BB_100.out hb
      clear z_pa0_100 z_pa1_100 z_pb0_100 z_pb1_100
      clear hb
      have z_pb0_101 := (show Blk w101 (w.heap.size + 1) 25 (prjV e' A' n' c') from pb_101.out).cell 0
      have z_pb1_101 := (show Blk w101 (w.heap.size + 1) 25 (prjV e' A' n' c') from pb_101.out).cell 1
      go_wp2_with fail
      refine (lstripe_any p (sb_101.out).1 (sb_101.out).2 he' (by omega) H2.out hp2).mono ?_; rintro en w102 ⟨k, t, rfl, hin, hb⟩
      have HK := Lib.hid hin
      clear hin
      have pa_102 : Hid (Blk w102 w.heap.size 25 (prjV e A n c)) := keepB pa_101.out hb
      have pb_102 : Hid (Blk w102 (w.heap.size + 1) 25 (prjV e' A' n' c')) := keepB pb_101.out hb
      have sa_102 : Hid (Sl rpStp w102 D A n c l) := keepS sa_101.out hb
      have sb_102 : Hid (Sl rpStp w102 D' A' n' c' l') := keepS sb_101.out hb
      have BB_102 : Hid (Below w.heap.size w w102) := stepB BB_101.out hb
      clear z_pb0_101 z_pb1_101
      clear hb
      have hi : i < n := by rw [← HLN.out]; exact (List.getElem?_eq_some_iff.1 HI.out.1).1
      have hk : k < n' := by rw [← HLN'.out]; exact (List.getElem?_eq_some_iff.1 HK.out.1).1
      obtain ⟨b1, o1, s', A1, c1, rfl, hb1, he1, x0, x1, x2, hr1, hf1, ht1⟩ := stps_at (sa_102.out).1 hi
      obtain rfl : s' = s := by have h := HI.out.1; rw [he1] at h; injection h
      obtain ⟨b2, o2, t', A2, c2, rfl, hb2, he2, y0, y1, y2, hr2, hf2, ht2⟩ := stps_at (sb_102.out).1 hk
      obtain rfl : t' = t := by have h := HK.out.1; rw [he2] at h; injection h
      have hb1l := (sa_102.out).2 _ hb1
      have hb2l := (sb_102.out).2 _ hb2
      have HE1 := Lib.hid he1
      have HE2 := Lib.hid he2
      have hi0 : (0 : Int) ≤ (i : Int) := by omega
      have hi1 : (i : Int) < (n : Int) := by omega
      have hk0 : (0 : Int) ≤ (k : Int) := by omega
      have hk1 : (k : Int) < (n' : Int) := by omega
      clear hb1 hb2 he1 he2 hr1 hr2
      have z_pa0_102 := (show Blk w102 w.heap.size 25 (prjV e (some ⟨b1, o1, none⟩) n c) from pa_102.out).cell 0
      have z_pa1_102 := (show Blk w102 w.heap.size 25 (prjV e (some ⟨b1, o1, none⟩) n c) from pa_102.out).cell 1
      have z_pb0_102 := (show Blk w102 (w.heap.size + 1) 25 (prjV e' (some ⟨b2, o2, none⟩) n' c') from pb_102.out).cell 0
      have z_pb1_102 := (show Blk w102 (w.heap.size + 1) 25 (prjV e' (some ⟨b2, o2, none⟩) n' c') from pb_102.out).cell 1
      have lu_pa_102 := (show Blk w102 w.heap.size 25 (prjV e (some ⟨b1, o1, none⟩) n c) from pa_102.out).lt
      have lu_pb_102 := (show Blk w102 (w.heap.size + 1) 25 (prjV e' (some ⟨b2, o2, none⟩) n' c') from pb_102.out).lt
      go_upto_region 7 with (fail)
      go_cut [11, 12] from 23 to 77 (fun x y wx => ∃ gx gy : Nat, x = .pointer (some ⟨gx, 0, none⟩) ∧ y = .pointer (some ⟨gy, 0, none⟩) ∧ Hid (Blk wx gx 31 (#[.int .u64 (s'.1 : Int), .int .u64 (s'.2.1 : Int), .slice A1 s'.2.2.length c1])) ∧ Hid (Blk wx gy 31 (#[.int .u64 (t'.1 : Int), .int .u64 (t'.2.1 : Int), .slice A2 t'.2.2.length c2])) ∧ Hid (Below w102.heap.size w102 wx))
      case first =>
        go_region_held3 (fun w' => w'.cell? ⟨w.heap.size, 1, none⟩ = some (.slice (some ⟨b1, o1, none⟩) n c) ∧ w'.cell? ⟨w.heap.size + 1, 1, none⟩ = some (.slice (some ⟨b2, o2, none⟩) n' c') ∧ w'.cell? ⟨b1, o1 + i * 3, none⟩ = some (.int .u64 (s'.1 : Int)) ∧ w'.cell? ⟨b1, o1 + i * 3 + 1, none⟩ = some (.int .u64 (s'.2.1 : Int)) ∧ w'.cell? ⟨b1, o1 + i * 3 + 2, none⟩ = some (.slice A1 s'.2.2.length c1) ∧ w'.cell? ⟨b2, o2 + k * 3, none⟩ = some (.int .u64 (t'.1 : Int)) ∧ w'.cell? ⟨b2, o2 + k * 3 + 1, none⟩ = some (.int .u64 (t'.2.1 : Int)) ∧ w'.cell? ⟨b2, o2 + k * 3 + 2, none⟩ = some (.slice A2 t'.2.2.length c2))
          (first | exact ⟨z_pa1_102, z_pb1_102, x0, x1, x2, y0, y1, y2⟩ | go_keep)
          (fail)
        · go_wp2_with fail
          go_meet
          exact ⟨_, _, rfl, rfl, blk21 _ _ _ _ _, blk22 _ _ _ _ _, (below2 _ _ _).drew⟩
        · go_wp2_with fail
          go_meet
          exact ⟨_, _, rfl, rfl, blk22 _ _ _ _ _, blk21 _ _ _ _ _, (below2 _ _ _).drew⟩
      case rest =>
        clear z_pa0_102 z_pa1_102 z_pb0_102 z_pb1_102 lu_pa_102 lu_pb_102
        clear x0 x1 x2 y0 y1 y2
        obtain ⟨gx, gy, rfl, rfl, bx, bz, hb⟩ := hcut
        have pa_103 : Hid (Blk wc w.heap.size 25 (prjV e (some ⟨b1, o1, none⟩) n c)) := keepB pa_102.out hb.out
        have pb_103 : Hid (Blk wc (w.heap.size + 1) 25 (prjV e' (some ⟨b2, o2, none⟩) n' c')) := keepB pb_102.out hb.out
        have sa_103 : Hid (Sl rpStp wc D (some ⟨b1, o1, none⟩) n c l) := keepS sa_102.out hb.out
        have sb_103 : Hid (Sl rpStp wc D' (some ⟨b2, o2, none⟩) n' c' l') := keepS sb_102.out hb.out
        have BB_103 : Hid (Below w.heap.size w wc) := stepB BB_102.out hb.out
        have px_103 : Hid (Blk wc gx 31 (#[.int .u64 (s'.1 : Int), .int .u64 (s'.2.1 : Int), .slice A1 s'.2.2.length c1])) := bx
        have pz_103 : Hid (Blk wc gy 31 (#[.int .u64 (t'.1 : Int), .int .u64 (t'.2.1 : Int), .slice A2 t'.2.2.length c2])) := bz
        clear bx bz hb
        have hso := inStripe_ok H1.out HI.out
        have hto := inStripe_ok H2.out HK.out
        have hsm : s'.2.1 ≤ 4611686018427387904 := hso.2.1
        have htm : t'.2.1 ≤ 4611686018427387904 := hto.2.1
        have hs8 : s'.2.2.length ≤ 8 := hso.2.2.2.1
        have ht8 : t'.2.2.length ≤ 8 := hto.2.2.2.1
        have hps : p < s'.2.1 := HI.out.2.2
        have hpt : p < t'.2.1 := HK.out.2.2
        obtain ⟨E, hE1, hE2, hE3⟩ : ∃ E, E ≤ s'.2.1 ∧ E ≤ t'.2.1 ∧ (E = s'.2.1 ∨ E = t'.2.1) := ⟨min s'.2.1 t'.2.1, Nat.min_le_left _ _, Nat.min_le_right _ _, by omega⟩
        obtain ⟨P, hP⟩ : ∃ P, P = s'.2.2.length * t'.2.2.length := ⟨_, rfl⟩
        have hP64 : P ≤ 64 := by rw [hP]; exact Nat.mul_le_mul hs8 ht8
        have HP := Lib.hid hP
        have HRO : Hid (∀ (A A' : Option Addr) (f t f' t2 c c' : Nat) (w : World), Calls Try.prog 82 #[.agg #[.int .u64 (f : Int), .int .u64 (t : Int), .slice A s'.2.2.length c], .agg #[.int .u64 (f' : Int), .int .u64 (t2 : Int), .slice A' t'.2.2.length c']] w fun en w' => en = .returned (.int .u64 (P : Int)) ∧ Below w.heap.size w w') := fun A A' f t f' t2 c c' w => by rw [HP.out]; exact rounds_any w hs8 ht8
        obtain ⟨M, hM1, hM2, hM3⟩ : ∃ M, M ≤ E ∧ M ≤ p + P ∧ (M = E ∨ M = p + P) := ⟨min E (p + P), Nat.min_le_left _ _, Nat.min_le_right _ _, by omega⟩
        have s3 : IntKind.u64.wrap ((p : Int) + (P : Int)) = (p : Int) + (P : Int) := IntWalk.u64_in _ (by omega)
        have HS1 := Lib.hid hso
        have HT1 := Lib.hid hto
        have HM3 := Lib.hid hM3
        have HPE : Hid (p < E) := (by omega : p < E)
        have HE1 := Lib.hid hE1
        have HE2 := Lib.hid hE2
        clear hP hso hto hM3
        have z_px1_103 := (show Blk wc gx 31 (#[.int .u64 (s'.1 : Int), .int .u64 (s'.2.1 : Int), .slice A1 s'.2.2.length c1]) from px_103.out).cell 1
        have z_pz1_103 := (show Blk wc gy 31 (#[.int .u64 (t'.1 : Int), .int .u64 (t'.2.1 : Int), .slice A2 t'.2.2.length c2]) from pz_103.out).cell 1
        go_upto_region 8 with (fail)
        go_cut [13] from 23 to 77 (fun x wx => x = .int .u64 (E : Int) ∧ wx = wc)
        case first =>
          by_cases hts : t'.2.1 < s'.2.1
          · have htI : (t'.2.1 : Int) < (s'.2.1 : Int) := by omega
            have hee : t'.2.1 = E := by omega
            go_wp2_with fail
            go_meet
            exact ⟨rfl, rfl⟩
          · have htI : ¬ (t'.2.1 : Int) < (s'.2.1 : Int) := by omega
            have hee : s'.2.1 = E := by omega
            go_wp2_with fail
            go_meet
            exact ⟨rfl, rfl⟩
        case rest =>
          obtain ⟨rfl, rfl⟩ := hcut
          clear z_px1_103 z_pz1_103
          clear hE3
          go_wp2_with fail
          go_loopw [14] (fun i wr => ∃ q : Nat, p ≤ q ∧ q ≤ M ∧ i = .int .u64 q ∧ Hid (∀ r, p ≤ r → r < q → nodesAt l r = nodesAt l' r) ∧ Hid (Blk wr w.heap.size 25 (prjV e (some ⟨b1, o1, none⟩) n c)) ∧ Hid (Blk wr (w.heap.size + 1) 25 (prjV e' (some ⟨b2, o2, none⟩) n' c')) ∧ Hid (Sl rpStp wr D (some ⟨b1, o1, none⟩) n c l) ∧ Hid (Sl rpStp wr D' (some ⟨b2, o2, none⟩) n' c' l') ∧ Hid (Blk wr gx 31 (#[.int .u64 (s'.1 : Int), .int .u64 (s'.2.1 : Int), .slice A1 s'.2.2.length c1])) ∧ Hid (Blk wr gy 31 (#[.int .u64 (t'.1 : Int), .int .u64 (t'.2.1 : Int), .slice A2 t'.2.2.length c2])) ∧ Hid (Below w.heap.size w wr)) (fun i _ => M - (intOf i).toNat)
          case atStart => exact ⟨p, Nat.le_refl _, by have := HM3.out; have := HPE.out; omega, rfl, fun r h h2 => by omega, pa_103.out, pb_103.out, sa_103.out, sb_103.out, px_103.out, pz_103.out, BB_103.out⟩
          case round =>
            clear pa_103 pb_103 sa_103 sb_103 px_103 pz_103 BB_103
            obtain ⟨q, hpq, hqM, rfl, hsh2, pa_200, pb_200, sa_200, sb_200, px_200, pz_200, BB_200⟩ := hrel
            obtain ⟨w200, hw200⟩ : ∃ w200, w200 = wr := ⟨_, rfl⟩
            subst hw200
            have z_px0_200 := (show Blk w200 gx 31 (#[.int .u64 (s'.1 : Int), .int .u64 (s'.2.1 : Int), .slice A1 s'.2.2.length c1]) from px_200.out).cell 0
            have z_px1_200 := (show Blk w200 gx 31 (#[.int .u64 (s'.1 : Int), .int .u64 (s'.2.1 : Int), .slice A1 s'.2.2.length c1]) from px_200.out).cell 1
            have z_px2_200 := (show Blk w200 gx 31 (#[.int .u64 (s'.1 : Int), .int .u64 (s'.2.1 : Int), .slice A1 s'.2.2.length c1]) from px_200.out).cell 2
            have z_pz0_200 := (show Blk w200 gy 31 (#[.int .u64 (t'.1 : Int), .int .u64 (t'.2.1 : Int), .slice A2 t'.2.2.length c2]) from pz_200.out).cell 0
            have z_pz1_200 := (show Blk w200 gy 31 (#[.int .u64 (t'.1 : Int), .int .u64 (t'.2.1 : Int), .slice A2 t'.2.2.length c2]) from pz_200.out).cell 1
            have z_pz2_200 := (show Blk w200 gy 31 (#[.int .u64 (t'.1 : Int), .int .u64 (t'.2.1 : Int), .slice A2 t'.2.2.length c2]) from pz_200.out).cell 2
            go_upto_region 10 with (fail)
            obtain ⟨bq, hbq⟩ : ∃ b : Bool, b = decide (q < M) := ⟨_, rfl⟩
            have HBQ := Lib.hid hbq
            clear hbq
            go_cut [61] from 53 to 76 (fun x wx => x = .bool bq ∧ Hid (Below w200.heap.size w200 wx))
            case first =>
              by_cases hPE : p + P < E
              · by_cases hqm : q < M
                · have hPI : (p : Int) + (P : Int) < (E : Int) := by omega
                  have hd : decide ((q : Int) < (p : Int) + (P : Int)) = true := by simp; have := HM3.out; omega
                  have hd2 : decide (q < p + P) = true := by simp; have := HM3.out; omega
                  have hr := decide_eq_true hqm
                  have HR0 := Lib.hid hr
                  clear hr hqm
                  go_wp2_with fail
                  refine (HRO.out _ _ _ _ _ _ _ _ _).mono ?_; rintro en w201 ⟨rfl, hb⟩
                  go_wp2_with fail
                  go_meet
                  exact ⟨by rw [HBQ.out, HR0.out], hb⟩
                · have hPI : (p : Int) + (P : Int) < (E : Int) := by omega
                  have hd : decide ((q : Int) < (p : Int) + (P : Int)) = false := by simp; have := HM3.out; omega
                  have hd2 : decide (q < p + P) = false := by simp; have := HM3.out; omega
                  have hr := decide_eq_false hqm
                  have HR0 := Lib.hid hr
                  clear hr hqm
                  go_wp2_with fail
                  refine (HRO.out _ _ _ _ _ _ _ _ _).mono ?_; rintro en w201 ⟨rfl, hb⟩
                  go_wp2_with fail
                  go_meet
                  exact ⟨by rw [HBQ.out, HR0.out], hb⟩
              · by_cases hqm : q < M
                · have hPI : ¬ (p : Int) + (P : Int) < (E : Int) := by omega
                  have hd : decide ((q : Int) < (E : Int)) = true := by simp; have := HM3.out; omega
                  have hd2 : decide (q < E) = true := by simp; have := HM3.out; omega
                  have hr := decide_eq_true hqm
                  have HR0 := Lib.hid hr
                  clear hr hqm
                  go_wp2_with fail
                  refine (HRO.out _ _ _ _ _ _ _ _ _).mono ?_; rintro en w201 ⟨rfl, hb⟩
                  go_wp2_with fail
                  go_meet
                  exact ⟨by rw [HBQ.out, HR0.out], hb⟩
                · have hPI : ¬ (p : Int) + (P : Int) < (E : Int) := by omega
                  have hd : decide ((q : Int) < (E : Int)) = false := by simp; have := HM3.out; omega
                  have hd2 : decide (q < E) = false := by simp; have := HM3.out; omega
                  have hr := decide_eq_false hqm
                  have HR0 := Lib.hid hr
                  clear hr hqm
                  go_wp2_with fail
                  refine (HRO.out _ _ _ _ _ _ _ _ _).mono ?_; rintro en w201 ⟨rfl, hb⟩
                  go_wp2_with fail
                  go_meet
                  exact ⟨by rw [HBQ.out, HR0.out], hb⟩
            case rest =>
              obtain ⟨rfl, hb⟩ := hcut
              clear z_px0_200 z_px1_200 z_px2_200 z_pz0_200 z_pz1_200 z_pz2_200
              have pa_201 : Hid (Blk wc w.heap.size 25 (prjV e (some ⟨b1, o1, none⟩) n c)) := keepB pa_200.out hb.out
              have pb_201 : Hid (Blk wc (w.heap.size + 1) 25 (prjV e' (some ⟨b2, o2, none⟩) n' c')) := keepB pb_200.out hb.out
              have sa_201 : Hid (Sl rpStp wc D (some ⟨b1, o1, none⟩) n c l) := keepS sa_200.out hb.out
              have sb_201 : Hid (Sl rpStp wc D' (some ⟨b2, o2, none⟩) n' c' l') := keepS sb_200.out hb.out
              have px_201 : Hid (Blk wc gx 31 (#[.int .u64 (s'.1 : Int), .int .u64 (s'.2.1 : Int), .slice A1 s'.2.2.length c1])) := keepB px_200.out hb.out
              have pz_201 : Hid (Blk wc gy 31 (#[.int .u64 (t'.1 : Int), .int .u64 (t'.2.1 : Int), .slice A2 t'.2.2.length c2])) := keepB pz_200.out hb.out
              have BB_201 : Hid (Below w.heap.size w wc) := stepB BB_200.out hb.out
              clear hb
              cases bq
              case false =>
                have hqm : ¬ q < M := of_decide_eq_false HBQ.out.symm
                have hqe : q = M := by omega
                have HQE := Lib.hid hqe
                clear hqe hqm
                go_wp2_with fail
                go_roundw
                case rel =>
                  refine ⟨E, by omega, rfl, fun r hr => ?_, pa_201.out, pb_201.out, sa_201.out, sb_201.out, BB_201.out⟩
                  rcases Nat.lt_or_ge r p with h | h
                  · exact hsh.out r h
                  · refine moved_period H1.out H2.out HI.out HK.out HE1.out HE2.out (fun x h1 h2 h3 => hsh2.out x h1 ?_) r h hr
                    rw [HQE.out]
                    rw [← HP.out] at h3
                    have := HM3.out
                    omega
                case measure => have := HPE.out; simp [intOf]; omega
              case true =>
                have hqm : q < M := of_decide_eq_true HBQ.out.symm
                have hinA := inStripe_to HI.out hpq (show q < s'.2.1 by omega)
                have hinB := inStripe_to HK.out hpq (show q < t'.2.1 by omega)
                have HIA := Lib.hid hinA
                have HIB := Lib.hid hinB
                clear hinA hinB
                have z_pa0_201 := (show Blk wc w.heap.size 25 (prjV e (some ⟨b1, o1, none⟩) n c) from pa_201.out).cell 0
                have z_pa1_201 := (show Blk wc w.heap.size 25 (prjV e (some ⟨b1, o1, none⟩) n c) from pa_201.out).cell 1
                have z_pb0_201 := (show Blk wc (w.heap.size + 1) 25 (prjV e' (some ⟨b2, o2, none⟩) n' c') from pb_201.out).cell 0
                have z_pb1_201 := (show Blk wc (w.heap.size + 1) 25 (prjV e' (some ⟨b2, o2, none⟩) n' c') from pb_201.out).cell 1
                go_wp2_with fail
                have HPA : Hid (∀ w', Below wc.heap.size wc w' → Calls Try.prog 84 #[.agg (prjV e (some ⟨b1, o1, none⟩) n c), .int .i64 (i : Int), .int .u64 (q : Int)] w' (PlacePost l q i w')) := fun w' hb => place_any q (keepS sa_201.out hb).1 (keepS sa_201.out hb).2 (by omega) HIA.out HS1.out
                have HPB : Hid (∀ w', Below wc.heap.size wc w' → Calls Try.prog 84 #[.agg (prjV e' (some ⟨b2, o2, none⟩) n' c'), .int .i64 (k : Int), .int .u64 (q : Int)] w' (PlacePost l' q k w')) := fun w' hb => place_any q (keepS sb_201.out hb).1 (keepS sb_201.out hb).2 (by omega) HIB.out HT1.out
                have HCK : Hid (∀ w', Below wc.heap.size wc w' → w'.cell? ⟨w.heap.size, 0, none⟩ = some (.int .u64 (e : Int)) ∧ w'.cell? ⟨w.heap.size, 1, none⟩ = some (.slice (some ⟨b1, o1, none⟩) n c) ∧ w'.cell? ⟨w.heap.size + 1, 0, none⟩ = some (.int .u64 (e' : Int)) ∧ w'.cell? ⟨w.heap.size + 1, 1, none⟩ = some (.slice (some ⟨b2, o2, none⟩) n' c')) := fun w' hb => ⟨(keepB (show Blk wc w.heap.size 25 (prjV e (some ⟨b1, o1, none⟩) n c) from pa_201.out) hb).cell 0, (keepB (show Blk wc w.heap.size 25 (prjV e (some ⟨b1, o1, none⟩) n c) from pa_201.out) hb).cell 1, (keepB (show Blk wc (w.heap.size + 1) 25 (prjV e' (some ⟨b2, o2, none⟩) n' c') from pb_201.out) hb).cell 0, (keepB (show Blk wc (w.heap.size + 1) 25 (prjV e' (some ⟨b2, o2, none⟩) n' c') from pb_201.out) hb).cell 1⟩
                by_cases hnn2 : nodesAt l q = nodesAt l' q
                case neg =>
                  have HNN := Lib.hid hnn2
                  clear hnn2
                  go_region_held3 (fun w' => w'.cell? ⟨w.heap.size, 0, none⟩ = some (.int .u64 (e : Int)) ∧ w'.cell? ⟨w.heap.size, 1, none⟩ = some (.slice (some ⟨b1, o1, none⟩) n c) ∧ w'.cell? ⟨w.heap.size + 1, 0, none⟩ = some (.int .u64 (e' : Int)) ∧ w'.cell? ⟨w.heap.size + 1, 1, none⟩ = some (.slice (some ⟨b2, o2, none⟩) n' c'))
                    (first | exact HCK.out _ HBY.out | exact HCK.out _ HBZ.out | exact HCK.out _ HBA.out | exact HCK.out _ HBB.out | exact HCK.out _ (Below.refl _ _) | exact HCK.out _ (Below.refl _ _).drew | go_keep)
                    (first
                      | (go_at_call 84; refine (HPA.out _ HBB.out).mono ?_; rintro en wz ⟨Ka, Na, nda, Aa, na, ca, Da, rfl, hpl, hsl, hdl, hb⟩; have HBZ : Hid (Below wc.heap.size wc wz) := stepB HBB.out hb; have HSA : Hid (Sl rpU64 wz Da Aa na ca nda) := ⟨hsl, fun k hk => (hdl k hk).2⟩; have HSB := Lib.hid (keepS HSB0.out hb); have HPLA := Lib.hid hpl; have hfa := fld3 i Ka Na na ca Aa; clear hpl hsl hdl hb)
                      | (go_at_call 84; refine (HPB.out _ HBA.out).mono ?_; rintro en wz ⟨Kb, Nb, ndb, Ab, nb, cb, Db, rfl, hpl, hsl, hdl, hb⟩; have HBZ : Hid (Below wc.heap.size wc wz) := stepB HBA.out hb; have HSB : Hid (Sl rpU64 wz Db Ab nb cb ndb) := ⟨hsl, fun k hk => (hdl k hk).2⟩; have HSA := Lib.hid (keepS HSA0.out hb); have HPLB := Lib.hid hpl; have hfb := fld3 k Kb Nb nb cb Ab; clear hpl hsl hdl hb)
                      | (go_at_call 84; refine (HPA.out _ (Below.refl _ _).drew).mono ?_; rintro en wa ⟨Ka, Na, nda, Aa, na, ca, Da, rfl, hpl, hsl, hdl, hb⟩; have HBA : Hid (Below wc.heap.size wc wa) := ⟨hb.os, hb.tape, hb.output, hb.size, hb.block⟩; have HSA0 : Hid (Sl rpU64 wa Da Aa na ca nda) := ⟨hsl, fun k hk => (hdl k hk).2⟩; have HPLA := Lib.hid hpl; have hfa := fld3 i Ka Na na ca Aa; clear hpl hsl hdl hb)
                      | (go_at_call 84; refine (HPB.out _ (Below.refl _ _).drew).mono ?_; rintro en wa ⟨Kb, Nb, ndb, Ab, nb, cb, Db, rfl, hpl, hsl, hdl, hb⟩; have HBB : Hid (Below wc.heap.size wc wa) := ⟨hb.os, hb.tape, hb.output, hb.size, hb.block⟩; have HSB0 : Hid (Sl rpU64 wa Db Ab nb cb ndb) := ⟨hsl, fun k hk => (hdl k hk).2⟩; have HPLB := Lib.hid hpl; have hfb := fld3 k Kb Nb nb cb Ab; clear hpl hsl hdl hb)
                      | (go_at_call 83; have heq := eq64_any HSA.out.1 HSB.out.1 HSA.out.2 HSB.out.2; rw [dec_false (by rw [← place_nodes H1.out HPLA.out, ← place_nodes H2.out HPLB.out]; exact HNN.out)] at heq; refine heq.mono ?_; rintro en wy ⟨rfl, hb⟩; have HBY : Hid (Below wc.heap.size wc wy) := stepB HBZ.out hb; clear hb heq))
                  · go_wp2_with fail
                    go_ret2
                    refine ⟨⟨q, true, rfl, .inl ⟨rfl, by omega, HNN.out, fun r hr => ?_⟩⟩, stepB BB_201.out HBY.out⟩
                    rcases Nat.lt_or_ge r p with h | h
                    · exact hsh.out r h
                    · exact hsh2.out r h hr
                case pos =>
                  have HNN := Lib.hid hnn2
                  clear hnn2
                  go_region_held3 (fun w' => w'.cell? ⟨w.heap.size, 0, none⟩ = some (.int .u64 (e : Int)) ∧ w'.cell? ⟨w.heap.size, 1, none⟩ = some (.slice (some ⟨b1, o1, none⟩) n c) ∧ w'.cell? ⟨w.heap.size + 1, 0, none⟩ = some (.int .u64 (e' : Int)) ∧ w'.cell? ⟨w.heap.size + 1, 1, none⟩ = some (.slice (some ⟨b2, o2, none⟩) n' c'))
                    (first | exact HCK.out _ HBY.out | exact HCK.out _ HBZ.out | exact HCK.out _ HBA.out | exact HCK.out _ HBB.out | exact HCK.out _ (Below.refl _ _) | exact HCK.out _ (Below.refl _ _).drew | go_keep)
                    (first
                      | (go_at_call 84; refine (HPA.out _ HBB.out).mono ?_; rintro en wz ⟨Ka, Na, nda, Aa, na, ca, Da, rfl, hpl, hsl, hdl, hb⟩; have HBZ : Hid (Below wc.heap.size wc wz) := stepB HBB.out hb; have HSA : Hid (Sl rpU64 wz Da Aa na ca nda) := ⟨hsl, fun k hk => (hdl k hk).2⟩; have HSB := Lib.hid (keepS HSB0.out hb); have HPLA := Lib.hid hpl; have hfa := fld3 i Ka Na na ca Aa; clear hpl hsl hdl hb)
                      | (go_at_call 84; refine (HPB.out _ HBA.out).mono ?_; rintro en wz ⟨Kb, Nb, ndb, Ab, nb, cb, Db, rfl, hpl, hsl, hdl, hb⟩; have HBZ : Hid (Below wc.heap.size wc wz) := stepB HBA.out hb; have HSB : Hid (Sl rpU64 wz Db Ab nb cb ndb) := ⟨hsl, fun k hk => (hdl k hk).2⟩; have HSA := Lib.hid (keepS HSA0.out hb); have HPLB := Lib.hid hpl; have hfb := fld3 k Kb Nb nb cb Ab; clear hpl hsl hdl hb)
                      | (go_at_call 84; refine (HPA.out _ (Below.refl _ _).drew).mono ?_; rintro en wa ⟨Ka, Na, nda, Aa, na, ca, Da, rfl, hpl, hsl, hdl, hb⟩; have HBA : Hid (Below wc.heap.size wc wa) := ⟨hb.os, hb.tape, hb.output, hb.size, hb.block⟩; have HSA0 : Hid (Sl rpU64 wa Da Aa na ca nda) := ⟨hsl, fun k hk => (hdl k hk).2⟩; have HPLA := Lib.hid hpl; have hfa := fld3 i Ka Na na ca Aa; clear hpl hsl hdl hb)
                      | (go_at_call 84; refine (HPB.out _ (Below.refl _ _).drew).mono ?_; rintro en wa ⟨Kb, Nb, ndb, Ab, nb, cb, Db, rfl, hpl, hsl, hdl, hb⟩; have HBB : Hid (Below wc.heap.size wc wa) := ⟨hb.os, hb.tape, hb.output, hb.size, hb.block⟩; have HSB0 : Hid (Sl rpU64 wa Db Ab nb cb ndb) := ⟨hsl, fun k hk => (hdl k hk).2⟩; have HPLB := Lib.hid hpl; have hfb := fld3 k Kb Nb nb cb Ab; clear hpl hsl hdl hb)
                      | (go_at_call 83; have heq := eq64_any HSA.out.1 HSB.out.1 HSA.out.2 HSB.out.2; rw [dec_true (by rw [← place_nodes H1.out HPLA.out, ← place_nodes H2.out HPLB.out]; exact HNN.out)] at heq; refine heq.mono ?_; rintro en wy ⟨rfl, hb⟩; have HBY : Hid (Below wc.heap.size wc wy) := stepB HBZ.out hb; clear hb heq))
                  · go_wp2_with fail
                    go_roundw
                    case rel =>
                      refine ⟨q + 1, by omega, by omega, by go_num, fun r h1 h2 => ?_, keepB pa_201.out HBY.out, keepB pb_201.out HBY.out, keepS sa_201.out HBY.out, keepS sb_201.out HBY.out, keepB px_201.out HBY.out, keepB pz_201.out HBY.out, stepB BB_201.out HBY.out⟩
                      rcases Nat.lt_or_ge r q with h | h
                      · exact hsh2.out r h1 h
                      · obtain rfl : r = q := by omega
                        exact HNN.out
                    case measure => simp [intOf]; omega
end
end Go.Proofs.Ytmdgmnaaopineaa
/- How a law's arguments open: from the reading of a value of Go to plain data. -/
namespace Go.Proofs.Ytmdgmnaaopineaa
open Go.RowKit Go.ChangeShapes Go.WideShapes Go.Deep

def Opens {α : Type} (P : Program) (T : TypeId) (r : Rp α) : Prop :=
  ∀ (H : Type) (enc : TypeId × Value → H) (w : World) (held : Bool) (fuel : Nat) (cs : List Value) (x : DataW H × List MemPlace),
    DataW.trod enc P w 0 (fun _ => true) held fuel T cs = some x → ∃ a, r.ok w (lt w.heap.size) a cs

section
variable {P : Program} {T : TypeId} {α β γ δ : Type}
theorem opens_u8 (ht : P.underlying T = some (.int .u8)) : Opens P T rpU8 := fun H enc w held fuel cs x h => by
  obtain ⟨n, rfl, _, hw⟩ := DataW.trod_int ht h
  obtain ⟨h0, h1⟩ := bounds_u8 hw
  obtain ⟨u, rfl⟩ := byte_of (v := n) h0 (by omega)
  exact ⟨u, rfl⟩
theorem opens_u64 (ht : P.underlying T = some (.int .u64)) : Opens P T rpU64 := fun H enc w held fuel cs x h => by
  obtain ⟨n, rfl, _, hw⟩ := DataW.trod_int ht h
  obtain ⟨h0, h1⟩ := bounds_u64 hw
  exact ⟨n.toNat, by rw [Int.toNat_of_nonneg h0], by omega⟩
theorem opens_int (ht : P.underlying T = some (.int .i64)) : Opens P T rpInt := fun H enc w held fuel cs x h => by
  obtain ⟨n, rfl, _, hw⟩ := DataW.trod_int ht h
  obtain ⟨h0, h1⟩ := bounds_i64 hw
  exact ⟨n, rfl, h0, by omega⟩
theorem opens_bool (ht : P.underlying T = some .bool) : Opens P T rpBool := fun H enc w held fuel cs x h => by
  obtain ⟨b, rfl, _⟩ := DataW.trod_bool ht h
  exact ⟨b, rfl⟩
theorem opens_slice {e : TypeId} {r : Rp α} (ht : P.underlying T = some (.slice e)) (he : Opens P e r) (hc : P.cellsOf e = r.size) (hs : 0 < r.size) : Opens P T (rpSlice r) := fun H enc w held fuel cs x h => by
  rcases open_slice ht h with ⟨rfl, _⟩ | ⟨a, len, cap, m, n, D, Pl, rfl, _, hl, hm, hmm, _, hi⟩
  · exact ⟨[], none, 0, rfl, Nat.zero_le _, by decide, fun h => absurd h (by simp)⟩
  · have hex : ∀ i, i < len → ∃ y : α, ∃ cs', r.ok w (lt w.heap.size) y cs' ∧ ∀ j u, cs'[j]? = some u → w.cell? (a.add (i * r.size + j)) = some u := by
      intro i hil
      obtain ⟨cs', hcs, htr⟩ := hi i (by rw [hmm]; simp; omega)
      obtain ⟨y, hy⟩ := he H enc w held n cs' _ htr
      obtain ⟨_, hlen, hat⟩ := World.cells?_some hcs
      refine ⟨y, cs', hy, fun j u hu => ?_⟩
      have hj : j < P.cellsOf e := by rw [← hlen]; exact (List.getElem?_eq_some_iff.1 hu).1
      have := hat j hj
      rw [hc, Go.Deep.add_add] at this
      rw [this]; exact hu
    have hchoose : ∀ k, k ≤ len → ∃ l : List α, l.length = k ∧ ∀ (i : Nat) (y : α), l[i]? = some y → ∃ cs', r.ok w (lt w.heap.size) y cs' ∧ ∀ j u, cs'[j]? = some u → w.cell? (a.add (i * r.size + j)) = some u := by
      intro k
      induction k with
      | zero => exact fun _ => ⟨[], rfl, fun i y h => by simp at h⟩
      | succ k ih =>
        intro hk
        obtain ⟨l, hll, hg⟩ := ih (by omega)
        obtain ⟨y, cs', hy, hcell⟩ := hex k (by omega)
        refine ⟨l ++ [y], by simp [hll], fun i z hz => ?_⟩
        rcases Nat.lt_trichotomy i k with hik | hik | hik
        · exact hg i z (by rwa [List.getElem?_append_left (by omega)] at hz)
        · subst hik
          rw [List.getElem?_append_right (by omega), hll, Nat.sub_self] at hz
          simp only [List.getElem?_cons_zero, Option.some.injEq] at hz
          subst hz
          exact ⟨cs', hy, hcell⟩
        · rw [List.getElem?_eq_none (by simp; omega)] at hz; cases hz
    obtain ⟨l, hll, hg⟩ := hchoose len (Nat.le_refl _)
    refine ⟨l, some a, cap, by rw [hll], by omega, hm, fun hp => ?_⟩
    obtain ⟨cs0, hok, hc0⟩ := hg 0 l[0] (List.getElem?_eq_getElem hp)
    have hcs0 : 0 < cs0.length := by rw [r.len hok]; exact hs
    have hcell := hc0 0 cs0[0] (List.getElem?_eq_getElem hcs0)
    have hsp : (a.add (0 * r.size + 0)) = a := by simp [Addr.add]
    rw [hsp] at hcell
    have hspot : a.spot = none := World.cell?_spot hcell
    obtain ⟨b, off, spot⟩ := a
    subst hspot
    refine ⟨b, off, rfl, World.block_lt_of_cell? w _ hcell, fun i y hy => ?_⟩
    obtain ⟨cs', hok', hcc⟩ := hg i y hy
    refine ⟨cs', hok', fun j u hu => ?_⟩
    have := hcc j u hu
    have hplain : (⟨b, off, none⟩ : Addr).add (i * r.size + j) = ⟨b, off + i * r.size + j, none⟩ := by
      unfold Addr.add; split
      · simp
      · simp; omega
    rwa [hplain] at this
theorem opens_via (f : β → α) {r : Rp α} (h : Opens P T r) (g : α → β) (hg : ∀ a, f (g a) = a) : Opens P T (rpVia f r) := fun H enc w held fuel cs x hx => by
  obtain ⟨a, ha⟩ := h H enc w held fuel cs x hx
  exact ⟨g a, by show r.ok _ _ (f (g a)) _; rw [hg]; exact ha⟩
theorem opens_struct2 {r : Rp α} {s : Rp β} {f0 f1 : Field} (ht : P.underlying T = some (.struct #[f0, f1])) (h0 : Opens P f0.type r) (h1 : Opens P f1.type s)
    (hc : (f0.offset, P.cellsOf f0.type, f1.offset, P.cellsOf f1.type, P.cellsOf T) = (0, r.size, r.size, s.size, r.size + s.size)) : Opens P T (rpPair r s) := fun H enc w held fuel cs x h => by
  obtain ⟨xs, n, _, _, hlen, hxl, hf⟩ := DataW.trod_struct ht h
  simp only [Prod.mk.injEq] at hc
  obtain ⟨c0, c1, c2, c3, c4⟩ := hc
  have g0 := hf 0 f0 rfl
  have g1 := hf 1 f1 rfl
  have hxl' : xs.length = 2 := by simpa using hxl
  rw [List.getElem?_eq_getElem (by omega)] at g0 g1
  rw [c0, c1, List.drop_zero] at g0
  rw [c2, c3] at g1
  obtain ⟨a, ha⟩ := h0 H enc w held n _ _ g0
  obtain ⟨b, hb⟩ := h1 H enc w held n _ _ g1
  refine ⟨(a, b), _, _, ?_, ha, hb⟩
  rw [List.take_of_length_le (l := List.drop r.size cs) (by rw [List.length_drop]; omega), List.take_append_drop]
end
end Go.Proofs.Ytmdgmnaaopineaa
/- Opening a struct of four fields. -/
namespace Go.Proofs.Ytmdgmnaaopineaa
open Go.ChangeShapes Go.WideShapes Go.ChangeAt Go.RowKit
set_option linter.unusedVariables false
section
variable {P : Program} {T : TypeId} {α β γ δ : Type}
theorem opens_struct4 {r : Rp α} {s : Rp β} {t : Rp γ} {u : Rp δ} {f0 f1 f2 f3 : Field} (ht : P.underlying T = some (.struct #[f0, f1, f2, f3])) (h0 : Opens P f0.type r) (h1 : Opens P f1.type s) (h2 : Opens P f2.type t) (h3 : Opens P f3.type u)
    (hc : (f0.offset, P.cellsOf f0.type, f1.offset, P.cellsOf f1.type, f2.offset, P.cellsOf f2.type, f3.offset, P.cellsOf f3.type, P.cellsOf T) = (0, r.size, r.size, s.size, r.size + s.size, t.size, r.size + s.size + t.size, u.size, r.size + s.size + t.size + u.size)) : Opens P T (rpPair r (rpPair s (rpPair t u))) := fun H enc w held fuel cs x h => by
  obtain ⟨xs, n, _, _, hlen, hxl, hf⟩ := DataW.trod_struct ht h
  simp only [Prod.mk.injEq] at hc
  obtain ⟨c0, c1, c2, c3, c4, c5, c6, c7, c8⟩ := hc
  have g0 := hf 0 f0 rfl
  have g1 := hf 1 f1 rfl
  have g2 := hf 2 f2 rfl
  have g3 := hf 3 f3 rfl
  have hxl' : xs.length = 4 := by simpa using hxl
  rw [List.getElem?_eq_getElem (by omega)] at g0 g1 g2 g3
  rw [c0, c1, List.drop_zero] at g0
  rw [c2, c3] at g1
  rw [c4, c5] at g2
  rw [c6, c7] at g3
  obtain ⟨a, ha⟩ := h0 H enc w held n _ _ g0
  obtain ⟨b, hb⟩ := h1 H enc w held n _ _ g1
  obtain ⟨c, hcc⟩ := h2 H enc w held n _ _ g2
  obtain ⟨d, hd⟩ := h3 H enc w held n _ _ g3
  refine ⟨(a, b, c, d), _, _, ?_, ha, _, _, rfl, hb, _, _, rfl, hcc, hd⟩
  rw [List.take_of_length_le (l := List.drop (r.size + s.size + t.size) cs) (by rw [List.length_drop]; omega)]
  simp only [← List.drop_drop, List.take_append_drop]
theorem opens_struct3 {r : Rp α} {s : Rp β} {t : Rp γ} {f0 f1 f2 : Field} (ht : P.underlying T = some (.struct #[f0, f1, f2])) (h0 : Opens P f0.type r) (h1 : Opens P f1.type s) (h2 : Opens P f2.type t)
    (hc : (f0.offset, P.cellsOf f0.type, f1.offset, P.cellsOf f1.type, f2.offset, P.cellsOf f2.type, P.cellsOf T) = (0, r.size, r.size, s.size, r.size + s.size, t.size, r.size + s.size + t.size)) : Opens P T (rpPair r (rpPair s t)) := fun H enc w held fuel cs x h => by
  obtain ⟨xs, n, _, _, hlen, hxl, hf⟩ := DataW.trod_struct ht h
  simp only [Prod.mk.injEq] at hc
  obtain ⟨c0, c1, c2, c3, c4, c5, c6⟩ := hc
  have g0 := hf 0 f0 rfl
  have g1 := hf 1 f1 rfl
  have g2 := hf 2 f2 rfl
  have hxl' : xs.length = 3 := by simpa using hxl
  rw [List.getElem?_eq_getElem (by omega)] at g0 g1 g2
  rw [c0, c1, List.drop_zero] at g0
  rw [c2, c3] at g1
  rw [c4, c5] at g2
  obtain ⟨a, ha⟩ := h0 H enc w held n _ _ g0
  obtain ⟨b, hb⟩ := h1 H enc w held n _ _ g1
  obtain ⟨c, hcc⟩ := h2 H enc w held n _ _ g2
  refine ⟨(a, b, c), _, _, ?_, ha, _, _, rfl, hb, hcc⟩
  rw [List.take_of_length_le (l := List.drop (r.size + s.size) cs) (by rw [List.length_drop]; omega)]
  simp only [← List.drop_drop, List.take_append_drop]
end
end Go.Proofs.Ytmdgmnaaopineaa
/- Opening an array of two elements. -/
namespace Go.Proofs.Ytmdgmnaaopineaa
open Go.ChangeShapes Go.WideShapes Go.ChangeAt Go.RowKit
set_option linter.unusedVariables false
section
variable {P : Program} {T : TypeId} {α : Type}
theorem opens_array2 {r : Rp α} {e : TypeId} (ht : P.underlying T = some (.array 2 e)) (h0 : Opens P e r) (hc : (P.cellsOf e, P.cellsOf T) = (r.size, r.size + r.size)) : Opens P T (rpPair r r) := fun H enc w held fuel cs x h => by
  obtain ⟨xs, n, _, _, hlen, hxl, hf⟩ := DataW.trod_array ht h
  simp only [Prod.mk.injEq] at hc
  obtain ⟨c0, c1⟩ := hc
  have g0 := hf 0 (by decide)
  have g1 := hf 1 (by decide)
  rw [List.getElem?_eq_getElem (by omega)] at g0 g1
  rw [c0, Nat.zero_mul, List.drop_zero] at g0
  rw [c0, Nat.one_mul] at g1
  obtain ⟨a, ha⟩ := h0 H enc w held n _ _ g0
  obtain ⟨b, hb⟩ := h0 H enc w held n _ _ g1
  refine ⟨(a, b), _, _, ?_, ha, hb⟩
  rw [List.take_of_length_le (l := List.drop r.size cs) (by rw [List.length_drop]; omega), List.take_append_drop]
theorem okWide_array {w : World} {n : Nat} {e : TypeId} {k base} {v : Value} (ht : P.underlying T = some (.array n e)) (h : Value.okWide P w k base T v) : ∃ cs, v = .agg cs ∧ cs.size = P.cellsOf T := by
  simp only [Value.okWide, ht] at h
  obtain ⟨cs, h1, h2, _⟩ := h
  exact ⟨cs, h1, h2⟩
end
end Go.Proofs.Ytmdgmnaaopineaa
/- The walk of TopMoves. -/
namespace Go.Proofs.Ytmdgmnaaopineaa
open Go.ChangeShapes Go.WideShapes Go.ChangeAt Go.RowKit
set_option linter.unusedVariables false
abbrev rpPrjT : Rp Prj := rpPair rpU64 (rpSlice rpStp)
theorem prjt_open {w : World} {D : Dom} {x : Prj} {cs : List Value} (h : rpPrjT.ok w D x cs) : ∃ A c, cs = [.int .u64 (x.1 : Int), .slice A x.2.length c] ∧ rpStp.sl w D A x.2.length c x.2 ∧ x.1 ≤ 18446744073709551615 := by
  obtain ⟨cs1, cs2, rfl, ⟨rfl, q1⟩, h4⟩ := h
  obtain ⟨A, c, rfl, hs⟩ := Rp.sl_form h4
  exact ⟨A, c, rfl, hs, by omega⟩
theorem stands_self2 (b : List UInt8) : Stands b 0 b := fun j u h => by rw [Nat.zero_add]; exact h
section
variable {D D' : Dom} {A A' : Option Addr} {n c n' c' e x y : Nat} {l : List Stp} {sets : List (List Nat)} {w : World} {cd : Int}
set_option maxRecDepth 100000 in
set_option maxHeartbeats 4000000 in
theorem top_bad (hs : rpStp.sl w D A n c l) (hs' : (rpSlice rpU64).sl w D' A' n' c' sets) (hD : ∀ k, D k → k < w.heap.size) (hD' : ∀ k, D' k → k < w.heap.size) (he : e ≤ 18446744073709551615) (hx : x ≤ 18446744073709551615) (hy : y ≤ 18446744073709551615) (hcd : cd ≠ 0) (hg : growP (e, l) x sets = ((0, []), cd)) :
    Calls Try.prog 3 #[.agg (prjV e A n c), .agg #[.int .u64 (x : Int), .int .u64 (y : Int)], .slice A' n' c'] w fun en w' => en = .returned (.bool true) ∧ Below w.heap.size w w' := by
  have HLEN2 := Lib.hid (Rp.sl_len hs').1
  have hcd0 : (cd != 0) = true := by simpa using hcd
  clear hcd
  have HG := Lib.hid hg
  have pa_0 := Lib.hid (blk21 w 25 26 (prjV e A n c) #[.int .u64 (x : Int), .int .u64 (y : Int)])
  have tw_0 := Lib.hid (blk22 w 25 26 (prjV e A n c) #[.int .u64 (x : Int), .int .u64 (y : Int)])
  have hb := below2 w (.cells (prjV e A n c) 25) (.cells #[.int .u64 (x : Int), .int .u64 (y : Int)] 26)
  have BB_0 := Lib.hid hb
  have sa_0 := Lib.hid (keepS (show Sl rpStp w D A n c l from ⟨hs, hD⟩) hb)
  have ss_0 := Lib.hid (keepS (show Sl (rpSlice rpU64) w D' A' n' c' sets from ⟨hs', hD'⟩) hb)
  clear hb hs hs' hD hD' hg
  go_enter Try.func3, Try.ntmps3
  go_wp2_with fail
  generalize World.alloc (World.alloc w _) _ = w0 at *
  have z_pa0_0 := (show Blk w0 w.heap.size 25 (prjV e A n c) from pa_0.out).cell 0
  have z_pa1_0 := (show Blk w0 w.heap.size 25 (prjV e A n c) from pa_0.out).cell 1
  go_wp2_with fail
  refine (plong_any (e := e) (sa_0.out).1 (sa_0.out).2).mono ?_; rintro en w1 ⟨bb, rfl, hb⟩
  have pa_1 : Hid (Blk w1 w.heap.size 25 (prjV e A n c)) := keepB pa_0.out hb
  have tw_1 : Hid (Blk w1 (w.heap.size + 1) 26 #[.int .u64 (x : Int), .int .u64 (y : Int)]) := keepB tw_0.out hb
  have sa_1 : Hid (Sl rpStp w1 D A n c l) := keepS sa_0.out hb
  have ss_1 : Hid (Sl (rpSlice rpU64) w1 D' A' n' c' sets) := keepS ss_0.out hb
  have BB_1 : Hid (Below w.heap.size w w1) := stepB BB_0.out hb
  clear z_pa0_0 z_pa1_0
  clear hb
  cases bb
  case true =>
    go_wp2_with fail
    refine (lives_any _).mono ?_; rintro en w2 ⟨rfl, hb⟩
    have pa_2 : Hid (Blk w2 w.heap.size 25 (prjV e A n c)) := keepB pa_1.out hb
    have tw_2 : Hid (Blk w2 (w.heap.size + 1) 26 #[.int .u64 (x : Int), .int .u64 (y : Int)]) := keepB tw_1.out hb
    have sa_2 : Hid (Sl rpStp w2 D A n c l) := keepS sa_1.out hb
    have ss_2 : Hid (Sl (rpSlice rpU64) w2 D' A' n' c' sets) := keepS ss_1.out hb
    have BB_2 : Hid (Below w.heap.size w w2) := stepB BB_1.out hb
    clear hb
    go_wp2_with fail
    go_ret
    exact ⟨rfl, BB_2.out⟩
  go_wp2_with fail
  refine (long_any (f := 0) (t := 0) (ss_1.out).1 (ss_1.out).2).mono ?_; rintro en w2 ⟨bb, rfl, hlg, hb⟩
  have pa_2 : Hid (Blk w2 w.heap.size 25 (prjV e A n c)) := keepB pa_1.out hb
  have tw_2 : Hid (Blk w2 (w.heap.size + 1) 26 #[.int .u64 (x : Int), .int .u64 (y : Int)]) := keepB tw_1.out hb
  have sa_2 : Hid (Sl rpStp w2 D A n c l) := keepS sa_1.out hb
  have ss_2 : Hid (Sl (rpSlice rpU64) w2 D' A' n' c' sets) := keepS ss_1.out hb
  have BB_2 : Hid (Below w.heap.size w w2) := stepB BB_1.out hb
  clear hb
  cases bb
  case true =>
    clear hlg
    go_wp2_with fail
    refine (lives_any _).mono ?_; rintro en w3 ⟨rfl, hb⟩
    have pa_3 : Hid (Blk w3 w.heap.size 25 (prjV e A n c)) := keepB pa_2.out hb
    have tw_3 : Hid (Blk w3 (w.heap.size + 1) 26 #[.int .u64 (x : Int), .int .u64 (y : Int)]) := keepB tw_2.out hb
    have sa_3 : Hid (Sl rpStp w3 D A n c l) := keepS sa_2.out hb
    have ss_3 : Hid (Sl (rpSlice rpU64) w3 D' A' n' c' sets) := keepS ss_2.out hb
    have BB_3 : Hid (Below w.heap.size w w3) := stepB BB_2.out hb
    clear hb
    go_wp2_with fail
    go_ret
    exact ⟨rfl, BB_3.out⟩
  obtain ⟨hl20, hr20⟩ := hlg rfl
  have hn20 : n' ≤ 1000 := by have := HLEN2.out; omega
  have HR20 : Hid (∀ (i : Nat) y, sets[i]? = some y → y.length ≤ 1000) := fun i y hy => by have := hr20 i y hy; omega
  clear hlg hl20 hr20
  go_wp2_with fail
  have zq_tw0_2 : ∀ qx0 : Gr w2.heap.size w2, qx0.val.cell? ⟨(w.heap.size + 1), 0, none⟩ = _ := fun qx0 => (keepB (show Blk w2 (w.heap.size + 1) 26 #[.int .u64 (x : Int), .int .u64 (y : Int)] from tw_2.out) qx0.is).cell 0
  have zq_tw1_2 : ∀ qx0 : Gr w2.heap.size w2, qx0.val.cell? ⟨(w.heap.size + 1), 1, none⟩ = _ := fun qx0 => (keepB (show Blk w2 (w.heap.size + 1) 26 #[.int .u64 (x : Int), .int .u64 (y : Int)] from tw_2.out) qx0.is).cell 1
  refine wp_region_grow (by kernel_rfl) (by kernel_rfl) w2.heap.size ?_
  repeat (first | go_big_quiet_step (fail) | quiet_step (fail))
  refine wpQuiet_nil ?_
  rintro w3 ⟨⟨_, hb⟩, rfl⟩
  clear zq_tw0_2 zq_tw1_2
  have pa_3 : Hid (Blk w3 w.heap.size 25 (prjV e A n c)) := keepB pa_2.out hb
  have tw_3 : Hid (Blk w3 (w.heap.size + 1) 26 #[.int .u64 (x : Int), .int .u64 (y : Int)]) := keepB tw_2.out hb
  have sa_3 : Hid (Sl rpStp w3 D A n c l) := keepS sa_2.out hb
  have ss_3 : Hid (Sl (rpSlice rpU64) w3 D' A' n' c' sets) := keepS ss_2.out hb
  have BB_3 : Hid (Below w.heap.size w w3) := stepB BB_2.out hb
  clear hb
  have z_pa0_3 := (show Blk w3 w.heap.size 25 (prjV e A n c) from pa_3.out).cell 0
  have z_pa1_3 := (show Blk w3 w.heap.size 25 (prjV e A n c) from pa_3.out).cell 1
  go_wp2_with fail
  refine (grow_is2 HG.out (sa_3.out) he hx (ss_3.out) hn20 HR20.out).mono ?_; rintro en w4 ⟨Aq, nq, cq, rfl, hsq, hb⟩
  obtain ⟨Dq, hsd⟩ : ∃ Dq, Sl rpStp w4 Dq Aq nq cq [] := ⟨_, hsq, fun k hk => hk⟩
  clear hsq
  have pa_4 : Hid (Blk w4 w.heap.size 25 (prjV e A n c)) := keepB pa_3.out hb
  have tw_4 : Hid (Blk w4 (w.heap.size + 1) 26 #[.int .u64 (x : Int), .int .u64 (y : Int)]) := keepB tw_3.out hb
  have sa_4 : Hid (Sl rpStp w4 D A n c l) := keepS sa_3.out hb
  have ss_4 : Hid (Sl (rpSlice rpU64) w4 D' A' n' c' sets) := keepS ss_3.out hb
  have BB_4 : Hid (Below w.heap.size w w4) := stepB BB_3.out hb
  have sq_4 : Hid (Sl rpStp w4 Dq Aq nq cq []) := hsd
  clear z_pa0_3 z_pa1_3
  clear hb
  clear hsd
  go_upto_region 5 with (fail)
  have hb : Below w4.heap.size w4 (w4.alloc (.cells (prjV 0 Aq nq cq) 25)) := below1 _ (.cells (prjV 0 Aq nq cq) 25)
  have pa_5 : Hid (Blk (w4.alloc (.cells (prjV 0 Aq nq cq) 25)) w.heap.size 25 (prjV e A n c)) := keepB pa_4.out hb
  have tw_5 : Hid (Blk (w4.alloc (.cells (prjV 0 Aq nq cq) 25)) (w.heap.size + 1) 26 #[.int .u64 (x : Int), .int .u64 (y : Int)]) := keepB tw_4.out hb
  have sa_5 : Hid (Sl rpStp (w4.alloc (.cells (prjV 0 Aq nq cq) 25)) D A n c l) := keepS sa_4.out hb
  have ss_5 : Hid (Sl (rpSlice rpU64) (w4.alloc (.cells (prjV 0 Aq nq cq) 25)) D' A' n' c' sets) := keepS ss_4.out hb
  have sq_5 : Hid (Sl rpStp (w4.alloc (.cells (prjV 0 Aq nq cq) 25)) Dq Aq nq cq []) := keepS sq_4.out hb
  have BB_5 : Hid (Below w.heap.size w (w4.alloc (.cells (prjV 0 Aq nq cq) 25))) := stepB BB_4.out hb
  have sz_4 := BB_4.out.size
  have pq_5 : Hid (Blk (w4.alloc (.cells (prjV 0 Aq nq cq) 25)) w4.heap.size 25 (prjV 0 Aq nq cq)) := blk11 _ _ _
  clear hb
  generalize hgq : w4.heap.size = gq at *
  generalize World.alloc w4 _ = w5 at *
  go_wp2_with fail
  refine (lives_any _).mono ?_; rintro en w6 ⟨rfl, hb⟩
  have pa_6 : Hid (Blk w6 w.heap.size 25 (prjV e A n c)) := keepB pa_5.out hb
  have tw_6 : Hid (Blk w6 (w.heap.size + 1) 26 #[.int .u64 (x : Int), .int .u64 (y : Int)]) := keepB tw_5.out hb
  have sa_6 : Hid (Sl rpStp w6 D A n c l) := keepS sa_5.out hb
  have ss_6 : Hid (Sl (rpSlice rpU64) w6 D' A' n' c' sets) := keepS ss_5.out hb
  have sq_6 : Hid (Sl rpStp w6 Dq Aq nq cq []) := keepS sq_5.out hb
  have pq_6 : Hid (Blk w6 gq 25 (prjV 0 Aq nq cq)) := keepB pq_5.out hb
  have BB_6 : Hid (Below w.heap.size w w6) := stepB BB_5.out hb
  clear hb
  go_wp2_with fail
  go_ret
  exact ⟨rfl, BB_6.out⟩
set_option maxRecDepth 100000 in
set_option maxHeartbeats 4000000 in
theorem top_ok (hs : rpStp.sl w D A n c l) (hs' : (rpSlice rpU64).sl w D' A' n' c' sets) (hD : ∀ k, D k → k < w.heap.size) (hD' : ∀ k, D' k → k < w.heap.size) (he : e ≤ 18446744073709551615) (hx : x ≤ 18446744073709551615) (hy : y ≤ 18446744073709551615) (h1 : POk (e, l)) (h5 : POk (e + 1, growL l x sets)) (hg : growP (e, l) x sets = ((e + 1, growL l x sets), 0)) :
    Calls Try.prog 3 #[.agg (prjV e A n c), .agg #[.int .u64 (x : Int), .int .u64 (y : Int)], .slice A' n' c'] w fun en w' => en = .returned (.bool true) ∧ Below w.heap.size w w' := by
  have HLEN2 := Lib.hid (Rp.sl_len hs').1
  have hGN : y < x → nodesAt l y = nodesAt (growL l x sets) y := fun h => grow_nodes h1 h5 h (by have := grow_lt h5; unfold PosOk; omega)
  have hGP : ∀ r K N nd r' K' N' nd', y < x → PlaceIs l y r K N nd → PlaceIs (growL l x sets) y r' K' N' nd' → r' = r ∧ N' = N := fun r K N nd r' K' N' nd' h p1 p2 => grow_place h5 h p1 p2
  have hGF : ∀ r ok, FirstIs l (growL l x sets) r ok → ok = true → ¬ r < x := fun r ok h => grow_first h1 h5 h
  have hlt := grow_lt h5
  obtain ⟨qe, hqe⟩ : ∃ qe, qe = e + 1 := ⟨_, rfl⟩
  obtain ⟨ql, hql⟩ : ∃ ql, ql = growL l x sets := ⟨_, rfl⟩
  rw [← hql] at hGN hGP hGF
  rw [← hqe, ← hql] at hg h5
  have hqe64 : qe ≤ 18446744073709551615 := by have := h5.1.1.1.2; simp only at this; omega
  have hsd := prjF_stands h5 (stands_self2 (prb (qe, ql)))
  rw [Nat.zero_add] at hsd
  have HSD := Lib.hid hsd
  have hpl := prb_len h5
  have HPL := Lib.hid hpl
  have H1 := Lib.hid h1
  have H5 := Lib.hid h5
  have HGN := Lib.hid hGN
  have HGP := Lib.hid hGP
  have HGF := Lib.hid hGF
  clear hqe hql h1 h5 hGN hGP hGF hsd hpl
  have HG := Lib.hid hg
  have pa_0 := Lib.hid (blk21 w 25 26 (prjV e A n c) #[.int .u64 (x : Int), .int .u64 (y : Int)])
  have tw_0 := Lib.hid (blk22 w 25 26 (prjV e A n c) #[.int .u64 (x : Int), .int .u64 (y : Int)])
  have hb := below2 w (.cells (prjV e A n c) 25) (.cells #[.int .u64 (x : Int), .int .u64 (y : Int)] 26)
  have BB_0 := Lib.hid hb
  have sa_0 := Lib.hid (keepS (show Sl rpStp w D A n c l from ⟨hs, hD⟩) hb)
  have ss_0 := Lib.hid (keepS (show Sl (rpSlice rpU64) w D' A' n' c' sets from ⟨hs', hD'⟩) hb)
  clear hb hs hs' hD hD' hg
  go_enter Try.func3, Try.ntmps3
  go_wp2_with fail
  generalize World.alloc (World.alloc w _) _ = w0 at *
  have z_pa0_0 := (show Blk w0 w.heap.size 25 (prjV e A n c) from pa_0.out).cell 0
  have z_pa1_0 := (show Blk w0 w.heap.size 25 (prjV e A n c) from pa_0.out).cell 1
  go_wp2_with fail
  refine (plong_any (e := e) (sa_0.out).1 (sa_0.out).2).mono ?_; rintro en w1 ⟨bb, rfl, hb⟩
  have pa_1 : Hid (Blk w1 w.heap.size 25 (prjV e A n c)) := keepB pa_0.out hb
  have tw_1 : Hid (Blk w1 (w.heap.size + 1) 26 #[.int .u64 (x : Int), .int .u64 (y : Int)]) := keepB tw_0.out hb
  have sa_1 : Hid (Sl rpStp w1 D A n c l) := keepS sa_0.out hb
  have ss_1 : Hid (Sl (rpSlice rpU64) w1 D' A' n' c' sets) := keepS ss_0.out hb
  have BB_1 : Hid (Below w.heap.size w w1) := stepB BB_0.out hb
  clear z_pa0_0 z_pa1_0
  clear hb
  cases bb
  case true =>
    go_wp2_with fail
    refine (lives_any _).mono ?_; rintro en w2 ⟨rfl, hb⟩
    have pa_2 : Hid (Blk w2 w.heap.size 25 (prjV e A n c)) := keepB pa_1.out hb
    have tw_2 : Hid (Blk w2 (w.heap.size + 1) 26 #[.int .u64 (x : Int), .int .u64 (y : Int)]) := keepB tw_1.out hb
    have sa_2 : Hid (Sl rpStp w2 D A n c l) := keepS sa_1.out hb
    have ss_2 : Hid (Sl (rpSlice rpU64) w2 D' A' n' c' sets) := keepS ss_1.out hb
    have BB_2 : Hid (Below w.heap.size w w2) := stepB BB_1.out hb
    clear hb
    go_wp2_with fail
    go_ret
    exact ⟨rfl, BB_2.out⟩
  go_wp2_with fail
  refine (long_any (f := 0) (t := 0) (ss_1.out).1 (ss_1.out).2).mono ?_; rintro en w2 ⟨bb, rfl, hlg, hb⟩
  have pa_2 : Hid (Blk w2 w.heap.size 25 (prjV e A n c)) := keepB pa_1.out hb
  have tw_2 : Hid (Blk w2 (w.heap.size + 1) 26 #[.int .u64 (x : Int), .int .u64 (y : Int)]) := keepB tw_1.out hb
  have sa_2 : Hid (Sl rpStp w2 D A n c l) := keepS sa_1.out hb
  have ss_2 : Hid (Sl (rpSlice rpU64) w2 D' A' n' c' sets) := keepS ss_1.out hb
  have BB_2 : Hid (Below w.heap.size w w2) := stepB BB_1.out hb
  clear hb
  cases bb
  case true =>
    clear hlg
    go_wp2_with fail
    refine (lives_any _).mono ?_; rintro en w3 ⟨rfl, hb⟩
    have pa_3 : Hid (Blk w3 w.heap.size 25 (prjV e A n c)) := keepB pa_2.out hb
    have tw_3 : Hid (Blk w3 (w.heap.size + 1) 26 #[.int .u64 (x : Int), .int .u64 (y : Int)]) := keepB tw_2.out hb
    have sa_3 : Hid (Sl rpStp w3 D A n c l) := keepS sa_2.out hb
    have ss_3 : Hid (Sl (rpSlice rpU64) w3 D' A' n' c' sets) := keepS ss_2.out hb
    have BB_3 : Hid (Below w.heap.size w w3) := stepB BB_2.out hb
    clear hb
    go_wp2_with fail
    go_ret
    exact ⟨rfl, BB_3.out⟩
  obtain ⟨hl20, hr20⟩ := hlg rfl
  have hn20 : n' ≤ 1000 := by have := HLEN2.out; omega
  have HR20 : Hid (∀ (i : Nat) y, sets[i]? = some y → y.length ≤ 1000) := fun i y hy => by have := hr20 i y hy; omega
  clear hlg hl20 hr20
  go_wp2_with fail
  have zq_tw0_2 : ∀ qx0 : Gr w2.heap.size w2, qx0.val.cell? ⟨(w.heap.size + 1), 0, none⟩ = _ := fun qx0 => (keepB (show Blk w2 (w.heap.size + 1) 26 #[.int .u64 (x : Int), .int .u64 (y : Int)] from tw_2.out) qx0.is).cell 0
  have zq_tw1_2 : ∀ qx0 : Gr w2.heap.size w2, qx0.val.cell? ⟨(w.heap.size + 1), 1, none⟩ = _ := fun qx0 => (keepB (show Blk w2 (w.heap.size + 1) 26 #[.int .u64 (x : Int), .int .u64 (y : Int)] from tw_2.out) qx0.is).cell 1
  refine wp_region_grow (by kernel_rfl) (by kernel_rfl) w2.heap.size ?_
  repeat (first | go_big_quiet_step (fail) | quiet_step (fail))
  refine wpQuiet_nil ?_
  rintro w3 ⟨⟨_, hb⟩, rfl⟩
  clear zq_tw0_2 zq_tw1_2
  have pa_3 : Hid (Blk w3 w.heap.size 25 (prjV e A n c)) := keepB pa_2.out hb
  have tw_3 : Hid (Blk w3 (w.heap.size + 1) 26 #[.int .u64 (x : Int), .int .u64 (y : Int)]) := keepB tw_2.out hb
  have sa_3 : Hid (Sl rpStp w3 D A n c l) := keepS sa_2.out hb
  have ss_3 : Hid (Sl (rpSlice rpU64) w3 D' A' n' c' sets) := keepS ss_2.out hb
  have BB_3 : Hid (Below w.heap.size w w3) := stepB BB_2.out hb
  clear hb
  have z_pa0_3 := (show Blk w3 w.heap.size 25 (prjV e A n c) from pa_3.out).cell 0
  have z_pa1_3 := (show Blk w3 w.heap.size 25 (prjV e A n c) from pa_3.out).cell 1
  go_wp2_with fail
  refine (grow_is2 HG.out (sa_3.out) he hx (ss_3.out) hn20 HR20.out).mono ?_; rintro en w4 ⟨Aq, nq, cq, rfl, hsq, hb⟩
  obtain ⟨Dq, hsd⟩ : ∃ Dq, Sl rpStp w4 Dq Aq nq cq ql := ⟨_, hsq, fun k hk => hk⟩
  clear hsq
  have pa_4 : Hid (Blk w4 w.heap.size 25 (prjV e A n c)) := keepB pa_3.out hb
  have tw_4 : Hid (Blk w4 (w.heap.size + 1) 26 #[.int .u64 (x : Int), .int .u64 (y : Int)]) := keepB tw_3.out hb
  have sa_4 : Hid (Sl rpStp w4 D A n c l) := keepS sa_3.out hb
  have ss_4 : Hid (Sl (rpSlice rpU64) w4 D' A' n' c' sets) := keepS ss_3.out hb
  have BB_4 : Hid (Below w.heap.size w w4) := stepB BB_3.out hb
  have sq_4 : Hid (Sl rpStp w4 Dq Aq nq cq ql) := hsd
  clear z_pa0_3 z_pa1_3
  clear hb
  clear hsd
  go_upto_region 5 with (fail)
  have hb : Below w4.heap.size w4 (w4.alloc (.cells (prjV qe Aq nq cq) 25)) := below1 _ (.cells (prjV qe Aq nq cq) 25)
  have pa_5 : Hid (Blk (w4.alloc (.cells (prjV qe Aq nq cq) 25)) w.heap.size 25 (prjV e A n c)) := keepB pa_4.out hb
  have tw_5 : Hid (Blk (w4.alloc (.cells (prjV qe Aq nq cq) 25)) (w.heap.size + 1) 26 #[.int .u64 (x : Int), .int .u64 (y : Int)]) := keepB tw_4.out hb
  have sa_5 : Hid (Sl rpStp (w4.alloc (.cells (prjV qe Aq nq cq) 25)) D A n c l) := keepS sa_4.out hb
  have ss_5 : Hid (Sl (rpSlice rpU64) (w4.alloc (.cells (prjV qe Aq nq cq) 25)) D' A' n' c' sets) := keepS ss_4.out hb
  have sq_5 : Hid (Sl rpStp (w4.alloc (.cells (prjV qe Aq nq cq) 25)) Dq Aq nq cq ql) := keepS sq_4.out hb
  have BB_5 : Hid (Below w.heap.size w (w4.alloc (.cells (prjV qe Aq nq cq) 25))) := stepB BB_4.out hb
  have sz_4 := BB_4.out.size
  have pq_5 : Hid (Blk (w4.alloc (.cells (prjV qe Aq nq cq) 25)) w4.heap.size 25 (prjV qe Aq nq cq)) := blk11 _ _ _
  clear hb
  generalize hgq : w4.heap.size = gq at *
  generalize World.alloc w4 _ = w5 at *
  have z_pq0_5 := (show Blk w5 gq 25 (prjV qe Aq nq cq) from pq_5.out).cell 0
  have z_pq1_5 := (show Blk w5 gq 25 (prjV qe Aq nq cq) from pq_5.out).cell 1
  go_wp2_with fail
  refine (prbytes_ok (sq_5.out).1 (sq_5.out).2 H5.out).mono ?_; rintro en w6 ⟨A1, m1, c1, rfl, ho, hb⟩
  have pa_6 : Hid (Blk w6 w.heap.size 25 (prjV e A n c)) := keepB pa_5.out hb
  have tw_6 : Hid (Blk w6 (w.heap.size + 1) 26 #[.int .u64 (x : Int), .int .u64 (y : Int)]) := keepB tw_5.out hb
  have sa_6 : Hid (Sl rpStp w6 D A n c l) := keepS sa_5.out hb
  have ss_6 : Hid (Sl (rpSlice rpU64) w6 D' A' n' c' sets) := keepS ss_5.out hb
  have sq_6 : Hid (Sl rpStp w6 Dq Aq nq cq ql) := keepS sq_5.out hb
  have pq_6 : Hid (Blk w6 gq 25 (prjV qe Aq nq cq)) := keepB pq_5.out hb
  have BB_6 : Hid (Below w.heap.size w w6) := stepB BB_5.out hb
  have ob_6 : Hid (w6.ownsRow w.heap.size 5 1 (.slice A1 m1 c1) m1 ((prb (qe, ql)).map bv)) := own_mono ho BB_5.out.size
  clear z_pq0_5 z_pq1_5
  clear hb
  have hm1 : m1 = (prb (qe, ql)).length := by have := ho.1; simpa using this.symm
  have hm1k : m1 ≤ 21720 := by have := HPL.out; omega
  clear ho hm1
  go_wp2_with fail
  have hdec := prdec_any (own_bytes ob_6.out) (fun k hk => own_lt ob_6.out hk) (by omega)
  rw [HSD.out] at hdec
  have hef : endF (prb (qe, ql)).length (prb (qe, ql)).length (0, 0) = (0, 0) := if_neg (Nat.lt_irrefl _)
  have hgp0 : gotP (qe, ql) (0, 0) = (qe, ql) := if_pos rfl
  simp only [hef, hgp0] at hdec
  have HDEC := Lib.hid hdec
  clear hdec hef hgp0
  refine (HDEC.out).mono ?_; rintro en w7 ⟨Au, nu, cu, rfl, hou, hb⟩
  obtain ⟨Du, hsu⟩ : ∃ Du, Sl rpStp w7 Du Au nu cu ql := ⟨_, OL.sl hou, fun k hk => hk⟩
  clear hou
  have pa_7 : Hid (Blk w7 w.heap.size 25 (prjV e A n c)) := keepB pa_6.out hb
  have tw_7 : Hid (Blk w7 (w.heap.size + 1) 26 #[.int .u64 (x : Int), .int .u64 (y : Int)]) := keepB tw_6.out hb
  have sa_7 : Hid (Sl rpStp w7 D A n c l) := keepS sa_6.out hb
  have ss_7 : Hid (Sl (rpSlice rpU64) w7 D' A' n' c' sets) := keepS ss_6.out hb
  have sq_7 : Hid (Sl rpStp w7 Dq Aq nq cq ql) := keepS sq_6.out hb
  have pq_7 : Hid (Blk w7 gq 25 (prjV qe Aq nq cq)) := keepB pq_6.out hb
  have ob_7 : Hid (w7.ownsRow w.heap.size 5 1 (.slice A1 m1 c1) m1 ((prb (qe, ql)).map bv)) := keepO ob_6.out hb
  have BB_7 : Hid (Below w.heap.size w w7) := stepB BB_6.out hb
  have su_7 : Hid (Sl rpStp w7 Du Au nu cu ql) := hsu
  clear hb
  clear hsu
  go_upto_region 9 with (fail)
  have hb : Below w7.heap.size w7 ((w7.alloc (.cells (prjV qe Au nu cu) 25)).alloc (.cells (fltV (0, 0)) 40)) := below2 _ (.cells (prjV qe Au nu cu) 25) (.cells (fltV (0, 0)) 40)
  have pa_8 : Hid (Blk ((w7.alloc (.cells (prjV qe Au nu cu) 25)).alloc (.cells (fltV (0, 0)) 40)) w.heap.size 25 (prjV e A n c)) := keepB pa_7.out hb
  have tw_8 : Hid (Blk ((w7.alloc (.cells (prjV qe Au nu cu) 25)).alloc (.cells (fltV (0, 0)) 40)) (w.heap.size + 1) 26 #[.int .u64 (x : Int), .int .u64 (y : Int)]) := keepB tw_7.out hb
  have sa_8 : Hid (Sl rpStp ((w7.alloc (.cells (prjV qe Au nu cu) 25)).alloc (.cells (fltV (0, 0)) 40)) D A n c l) := keepS sa_7.out hb
  have ss_8 : Hid (Sl (rpSlice rpU64) ((w7.alloc (.cells (prjV qe Au nu cu) 25)).alloc (.cells (fltV (0, 0)) 40)) D' A' n' c' sets) := keepS ss_7.out hb
  have sq_8 : Hid (Sl rpStp ((w7.alloc (.cells (prjV qe Au nu cu) 25)).alloc (.cells (fltV (0, 0)) 40)) Dq Aq nq cq ql) := keepS sq_7.out hb
  have pq_8 : Hid (Blk ((w7.alloc (.cells (prjV qe Au nu cu) 25)).alloc (.cells (fltV (0, 0)) 40)) gq 25 (prjV qe Aq nq cq)) := keepB pq_7.out hb
  have ob_8 : Hid (((w7.alloc (.cells (prjV qe Au nu cu) 25)).alloc (.cells (fltV (0, 0)) 40)).ownsRow w.heap.size 5 1 (.slice A1 m1 c1) m1 ((prb (qe, ql)).map bv)) := keepO ob_7.out hb
  have su_8 : Hid (Sl rpStp ((w7.alloc (.cells (prjV qe Au nu cu) 25)).alloc (.cells (fltV (0, 0)) 40)) Du Au nu cu ql) := keepS su_7.out hb
  have BB_8 : Hid (Below w.heap.size w ((w7.alloc (.cells (prjV qe Au nu cu) 25)).alloc (.cells (fltV (0, 0)) 40))) := stepB BB_7.out hb
  have sz_7 := BB_7.out.size
  have pu_8 : Hid (Blk ((w7.alloc (.cells (prjV qe Au nu cu) 25)).alloc (.cells (fltV (0, 0)) 40)) w7.heap.size 25 (prjV qe Au nu cu)) := blk21 _ _ _ _ _
  have fu_8 : Hid (Blk ((w7.alloc (.cells (prjV qe Au nu cu) 25)).alloc (.cells (fltV (0, 0)) 40)) (w7.heap.size + 1) 40 (fltV (0, 0))) := blk22 _ _ _ _ _
  clear hb
  generalize hgu : w7.heap.size = gu at *
  generalize World.alloc (World.alloc w7 _) _ = w8 at *
  have z_pq0_8 := (show Blk w8 gq 25 (prjV qe Aq nq cq) from pq_8.out).cell 0
  have z_pq1_8 := (show Blk w8 gq 25 (prjV qe Aq nq cq) from pq_8.out).cell 1
  have z_pu0_8 := (show Blk w8 gu 25 (prjV qe Au nu cu) from pu_8.out).cell 0
  have z_pu1_8 := (show Blk w8 gu 25 (prjV qe Au nu cu) from pu_8.out).cell 1
  have z_fu0_8 := (show Blk w8 (gu + 1) 40 (fltV (0, 0)) from fu_8.out).cell 0
  go_wp2_with fail
  have hss := prsame_any (e := qe) (e' := qe) (sq_8.out).1 (su_8.out).1 (sq_8.out).2 (su_8.out).2
  rw [dec_true rfl] at hss
  have HSS := Lib.hid hss
  clear hss
  refine (HSS.out).mono ?_; rintro en w9 ⟨rfl, hb⟩
  have pa_9 : Hid (Blk w9 w.heap.size 25 (prjV e A n c)) := keepB pa_8.out hb
  have tw_9 : Hid (Blk w9 (w.heap.size + 1) 26 #[.int .u64 (x : Int), .int .u64 (y : Int)]) := keepB tw_8.out hb
  have sa_9 : Hid (Sl rpStp w9 D A n c l) := keepS sa_8.out hb
  have ss_9 : Hid (Sl (rpSlice rpU64) w9 D' A' n' c' sets) := keepS ss_8.out hb
  have sq_9 : Hid (Sl rpStp w9 Dq Aq nq cq ql) := keepS sq_8.out hb
  have pq_9 : Hid (Blk w9 gq 25 (prjV qe Aq nq cq)) := keepB pq_8.out hb
  have ob_9 : Hid (w9.ownsRow w.heap.size 5 1 (.slice A1 m1 c1) m1 ((prb (qe, ql)).map bv)) := keepO ob_8.out hb
  have su_9 : Hid (Sl rpStp w9 Du Au nu cu ql) := keepS su_8.out hb
  have pu_9 : Hid (Blk w9 gu 25 (prjV qe Au nu cu)) := keepB pu_8.out hb
  have fu_9 : Hid (Blk w9 (gu + 1) 40 (fltV (0, 0))) := keepB fu_8.out hb
  have BB_9 : Hid (Below w.heap.size w w9) := stepB BB_8.out hb
  clear z_pq0_8 z_pq1_8 z_pu0_8 z_pu1_8 z_fu0_8
  clear hb
  have z_pa0_9 := (show Blk w9 w.heap.size 25 (prjV e A n c) from pa_9.out).cell 0
  have z_pa1_9 := (show Blk w9 w.heap.size 25 (prjV e A n c) from pa_9.out).cell 1
  have z_pu0_9 := (show Blk w9 gu 25 (prjV qe Au nu cu) from pu_9.out).cell 0
  have z_pu1_9 := (show Blk w9 gu 25 (prjV qe Au nu cu) from pu_9.out).cell 1
  go_wp2_with fail
  refine (first_ok (e := e) (e' := qe) (sa_9.out).1 (su_9.out).1 (sa_9.out).2 (su_9.out).2 he hqe64 H1.out H5.out).mono ?_; rintro en w10 ⟨⟨r, ok, rfl, hf⟩, hb⟩
  have pa_10 : Hid (Blk w10 w.heap.size 25 (prjV e A n c)) := keepB pa_9.out hb
  have tw_10 : Hid (Blk w10 (w.heap.size + 1) 26 #[.int .u64 (x : Int), .int .u64 (y : Int)]) := keepB tw_9.out hb
  have sa_10 : Hid (Sl rpStp w10 D A n c l) := keepS sa_9.out hb
  have ss_10 : Hid (Sl (rpSlice rpU64) w10 D' A' n' c' sets) := keepS ss_9.out hb
  have sq_10 : Hid (Sl rpStp w10 Dq Aq nq cq ql) := keepS sq_9.out hb
  have pq_10 : Hid (Blk w10 gq 25 (prjV qe Aq nq cq)) := keepB pq_9.out hb
  have ob_10 : Hid (w10.ownsRow w.heap.size 5 1 (.slice A1 m1 c1) m1 ((prb (qe, ql)).map bv)) := keepO ob_9.out hb
  have su_10 : Hid (Sl rpStp w10 Du Au nu cu ql) := keepS su_9.out hb
  have pu_10 : Hid (Blk w10 gu 25 (prjV qe Au nu cu)) := keepB pu_9.out hb
  have fu_10 : Hid (Blk w10 (gu + 1) 40 (fltV (0, 0))) := keepB fu_9.out hb
  have BB_10 : Hid (Below w.heap.size w w10) := stepB BB_9.out hb
  clear z_pa0_9 z_pa1_9 z_pu0_9 z_pu1_9
  clear hb
  have hfb := HGF.out r ok hf
  clear hf
  cases ok
  case true =>
    have hrx : ¬ r < x := hfb rfl
    have hlx : decide (r < x) = false := by simp; omega
    clear hfb hrx
    by_cases hyx : y < x
    case neg =>
      have hge : decide ((y : Int) ≥ (x : Int)) = true := by simp; omega
      have hge2 : decide (x ≤ y) = true := by simp; omega
      clear hyx hge
      go_wp2_with fail
      refine (lives_any _).mono ?_; rintro en w11 ⟨rfl, hb⟩
      have pa_11 : Hid (Blk w11 w.heap.size 25 (prjV e A n c)) := keepB pa_10.out hb
      have tw_11 : Hid (Blk w11 (w.heap.size + 1) 26 #[.int .u64 (x : Int), .int .u64 (y : Int)]) := keepB tw_10.out hb
      have sa_11 : Hid (Sl rpStp w11 D A n c l) := keepS sa_10.out hb
      have ss_11 : Hid (Sl (rpSlice rpU64) w11 D' A' n' c' sets) := keepS ss_10.out hb
      have sq_11 : Hid (Sl rpStp w11 Dq Aq nq cq ql) := keepS sq_10.out hb
      have pq_11 : Hid (Blk w11 gq 25 (prjV qe Aq nq cq)) := keepB pq_10.out hb
      have ob_11 : Hid (w11.ownsRow w.heap.size 5 1 (.slice A1 m1 c1) m1 ((prb (qe, ql)).map bv)) := keepO ob_10.out hb
      have su_11 : Hid (Sl rpStp w11 Du Au nu cu ql) := keepS su_10.out hb
      have pu_11 : Hid (Blk w11 gu 25 (prjV qe Au nu cu)) := keepB pu_10.out hb
      have fu_11 : Hid (Blk w11 (gu + 1) 40 (fltV (0, 0))) := keepB fu_10.out hb
      have BB_11 : Hid (Below w.heap.size w w11) := stepB BB_10.out hb
      clear hb
      go_wp2_with fail
      go_ret
      exact ⟨rfl, BB_11.out⟩
    have hge : decide ((y : Int) ≥ (x : Int)) = false := by simp; omega
    have hge2 : decide (x ≤ y) = false := by simp; omega
    clear hge
    have hpo : PosOk y := by unfold PosOk; omega
    have hnn := HGN.out hyx
    have HGQ := Lib.hid (fun r K N nd r' K' N' nd' => HGP.out r K N nd r' K' N' nd' hyx)
    clear hyx
    have HNN := Lib.hid hnn
    have HPO := Lib.hid hpo
    clear hnn hpo
    have z_pa0_10 := (show Blk w10 w.heap.size 25 (prjV e A n c) from pa_10.out).cell 0
    have z_pa1_10 := (show Blk w10 w.heap.size 25 (prjV e A n c) from pa_10.out).cell 1
    go_wp2_with fail
    refine (at_ok (e := e) y (sa_10.out).1 (sa_10.out).2 he hy H1.out HPO.out).mono ?_; rintro en w11 ⟨rx, kx, nx, ndx, Ax, lx, cx, Dx, rfl, hpx, hsx, hdx, hb⟩
    have pa_11 : Hid (Blk w11 w.heap.size 25 (prjV e A n c)) := keepB pa_10.out hb
    have tw_11 : Hid (Blk w11 (w.heap.size + 1) 26 #[.int .u64 (x : Int), .int .u64 (y : Int)]) := keepB tw_10.out hb
    have sa_11 : Hid (Sl rpStp w11 D A n c l) := keepS sa_10.out hb
    have ss_11 : Hid (Sl (rpSlice rpU64) w11 D' A' n' c' sets) := keepS ss_10.out hb
    have sq_11 : Hid (Sl rpStp w11 Dq Aq nq cq ql) := keepS sq_10.out hb
    have pq_11 : Hid (Blk w11 gq 25 (prjV qe Aq nq cq)) := keepB pq_10.out hb
    have ob_11 : Hid (w11.ownsRow w.heap.size 5 1 (.slice A1 m1 c1) m1 ((prb (qe, ql)).map bv)) := keepO ob_10.out hb
    have su_11 : Hid (Sl rpStp w11 Du Au nu cu ql) := keepS su_10.out hb
    have pu_11 : Hid (Blk w11 gu 25 (prjV qe Au nu cu)) := keepB pu_10.out hb
    have fu_11 : Hid (Blk w11 (gu + 1) 40 (fltV (0, 0))) := keepB fu_10.out hb
    have BB_11 : Hid (Below w.heap.size w w11) := stepB BB_10.out hb
    clear z_pa0_10 z_pa1_10
    clear hb
    have HPX := Lib.hid hpx
    clear hpx hsx hdx
    go_upto_region 17 with (fail)
    have hb : Below w11.heap.size w11 (w11.alloc (.cells (#[.int .i64 (rx : Int), .int .i64 (kx : Int), .int .u64 (nx : Int), .slice Ax lx cx]) 48)) := below1 _ (.cells (#[.int .i64 (rx : Int), .int .i64 (kx : Int), .int .u64 (nx : Int), .slice Ax lx cx]) 48)
    have pa_12 : Hid (Blk (w11.alloc (.cells (#[.int .i64 (rx : Int), .int .i64 (kx : Int), .int .u64 (nx : Int), .slice Ax lx cx]) 48)) w.heap.size 25 (prjV e A n c)) := keepB pa_11.out hb
    have tw_12 : Hid (Blk (w11.alloc (.cells (#[.int .i64 (rx : Int), .int .i64 (kx : Int), .int .u64 (nx : Int), .slice Ax lx cx]) 48)) (w.heap.size + 1) 26 #[.int .u64 (x : Int), .int .u64 (y : Int)]) := keepB tw_11.out hb
    have sa_12 : Hid (Sl rpStp (w11.alloc (.cells (#[.int .i64 (rx : Int), .int .i64 (kx : Int), .int .u64 (nx : Int), .slice Ax lx cx]) 48)) D A n c l) := keepS sa_11.out hb
    have ss_12 : Hid (Sl (rpSlice rpU64) (w11.alloc (.cells (#[.int .i64 (rx : Int), .int .i64 (kx : Int), .int .u64 (nx : Int), .slice Ax lx cx]) 48)) D' A' n' c' sets) := keepS ss_11.out hb
    have sq_12 : Hid (Sl rpStp (w11.alloc (.cells (#[.int .i64 (rx : Int), .int .i64 (kx : Int), .int .u64 (nx : Int), .slice Ax lx cx]) 48)) Dq Aq nq cq ql) := keepS sq_11.out hb
    have pq_12 : Hid (Blk (w11.alloc (.cells (#[.int .i64 (rx : Int), .int .i64 (kx : Int), .int .u64 (nx : Int), .slice Ax lx cx]) 48)) gq 25 (prjV qe Aq nq cq)) := keepB pq_11.out hb
    have ob_12 : Hid ((w11.alloc (.cells (#[.int .i64 (rx : Int), .int .i64 (kx : Int), .int .u64 (nx : Int), .slice Ax lx cx]) 48)).ownsRow w.heap.size 5 1 (.slice A1 m1 c1) m1 ((prb (qe, ql)).map bv)) := keepO ob_11.out hb
    have su_12 : Hid (Sl rpStp (w11.alloc (.cells (#[.int .i64 (rx : Int), .int .i64 (kx : Int), .int .u64 (nx : Int), .slice Ax lx cx]) 48)) Du Au nu cu ql) := keepS su_11.out hb
    have pu_12 : Hid (Blk (w11.alloc (.cells (#[.int .i64 (rx : Int), .int .i64 (kx : Int), .int .u64 (nx : Int), .slice Ax lx cx]) 48)) gu 25 (prjV qe Au nu cu)) := keepB pu_11.out hb
    have fu_12 : Hid (Blk (w11.alloc (.cells (#[.int .i64 (rx : Int), .int .i64 (kx : Int), .int .u64 (nx : Int), .slice Ax lx cx]) 48)) (gu + 1) 40 (fltV (0, 0))) := keepB fu_11.out hb
    have BB_12 : Hid (Below w.heap.size w (w11.alloc (.cells (#[.int .i64 (rx : Int), .int .i64 (kx : Int), .int .u64 (nx : Int), .slice Ax lx cx]) 48))) := stepB BB_11.out hb
    have sz_11 := BB_11.out.size
    have px_12 : Hid (Blk (w11.alloc (.cells (#[.int .i64 (rx : Int), .int .i64 (kx : Int), .int .u64 (nx : Int), .slice Ax lx cx]) 48)) w11.heap.size 48 (#[.int .i64 (rx : Int), .int .i64 (kx : Int), .int .u64 (nx : Int), .slice Ax lx cx])) := blk11 _ _ _
    clear hb
    generalize hgx : w11.heap.size = gx at *
    generalize World.alloc w11 _ = w12 at *
    have z_pu0_12 := (show Blk w12 gu 25 (prjV qe Au nu cu) from pu_12.out).cell 0
    have z_pu1_12 := (show Blk w12 gu 25 (prjV qe Au nu cu) from pu_12.out).cell 1
    go_wp2_with fail
    refine (at_ok (e := qe) y (su_12.out).1 (su_12.out).2 hqe64 hy H5.out HPO.out).mono ?_; rintro en w13 ⟨ry, ky, ny, ndy, Ay, ly, cy, Dy, rfl, hpy, hsy, hdy, hb⟩
    have pa_13 : Hid (Blk w13 w.heap.size 25 (prjV e A n c)) := keepB pa_12.out hb
    have tw_13 : Hid (Blk w13 (w.heap.size + 1) 26 #[.int .u64 (x : Int), .int .u64 (y : Int)]) := keepB tw_12.out hb
    have sa_13 : Hid (Sl rpStp w13 D A n c l) := keepS sa_12.out hb
    have ss_13 : Hid (Sl (rpSlice rpU64) w13 D' A' n' c' sets) := keepS ss_12.out hb
    have sq_13 : Hid (Sl rpStp w13 Dq Aq nq cq ql) := keepS sq_12.out hb
    have pq_13 : Hid (Blk w13 gq 25 (prjV qe Aq nq cq)) := keepB pq_12.out hb
    have ob_13 : Hid (w13.ownsRow w.heap.size 5 1 (.slice A1 m1 c1) m1 ((prb (qe, ql)).map bv)) := keepO ob_12.out hb
    have su_13 : Hid (Sl rpStp w13 Du Au nu cu ql) := keepS su_12.out hb
    have pu_13 : Hid (Blk w13 gu 25 (prjV qe Au nu cu)) := keepB pu_12.out hb
    have fu_13 : Hid (Blk w13 (gu + 1) 40 (fltV (0, 0))) := keepB fu_12.out hb
    have px_13 : Hid (Blk w13 gx 48 (#[.int .i64 (rx : Int), .int .i64 (kx : Int), .int .u64 (nx : Int), .slice Ax lx cx])) := keepB px_12.out hb
    have BB_13 : Hid (Below w.heap.size w w13) := stepB BB_12.out hb
    clear z_pu0_12 z_pu1_12
    clear hb
    have e1 : rx = ry := (HGQ.out _ _ _ _ _ _ _ _ HPX.out hpy).1.symm
    have e2 : nx = ny := (HGQ.out _ _ _ _ _ _ _ _ HPX.out hpy).2.symm
    clear hpy hsy hdy HPX
    subst e1
    subst e2
    go_upto_region 18 with (fail)
    have hb : Below w13.heap.size w13 (w13.alloc (.cells (#[.int .i64 (rx : Int), .int .i64 (ky : Int), .int .u64 (nx : Int), .slice Ay ly cy]) 48)) := below1 _ (.cells (#[.int .i64 (rx : Int), .int .i64 (ky : Int), .int .u64 (nx : Int), .slice Ay ly cy]) 48)
    have pa_14 : Hid (Blk (w13.alloc (.cells (#[.int .i64 (rx : Int), .int .i64 (ky : Int), .int .u64 (nx : Int), .slice Ay ly cy]) 48)) w.heap.size 25 (prjV e A n c)) := keepB pa_13.out hb
    have tw_14 : Hid (Blk (w13.alloc (.cells (#[.int .i64 (rx : Int), .int .i64 (ky : Int), .int .u64 (nx : Int), .slice Ay ly cy]) 48)) (w.heap.size + 1) 26 #[.int .u64 (x : Int), .int .u64 (y : Int)]) := keepB tw_13.out hb
    have sa_14 : Hid (Sl rpStp (w13.alloc (.cells (#[.int .i64 (rx : Int), .int .i64 (ky : Int), .int .u64 (nx : Int), .slice Ay ly cy]) 48)) D A n c l) := keepS sa_13.out hb
    have ss_14 : Hid (Sl (rpSlice rpU64) (w13.alloc (.cells (#[.int .i64 (rx : Int), .int .i64 (ky : Int), .int .u64 (nx : Int), .slice Ay ly cy]) 48)) D' A' n' c' sets) := keepS ss_13.out hb
    have sq_14 : Hid (Sl rpStp (w13.alloc (.cells (#[.int .i64 (rx : Int), .int .i64 (ky : Int), .int .u64 (nx : Int), .slice Ay ly cy]) 48)) Dq Aq nq cq ql) := keepS sq_13.out hb
    have pq_14 : Hid (Blk (w13.alloc (.cells (#[.int .i64 (rx : Int), .int .i64 (ky : Int), .int .u64 (nx : Int), .slice Ay ly cy]) 48)) gq 25 (prjV qe Aq nq cq)) := keepB pq_13.out hb
    have ob_14 : Hid ((w13.alloc (.cells (#[.int .i64 (rx : Int), .int .i64 (ky : Int), .int .u64 (nx : Int), .slice Ay ly cy]) 48)).ownsRow w.heap.size 5 1 (.slice A1 m1 c1) m1 ((prb (qe, ql)).map bv)) := keepO ob_13.out hb
    have su_14 : Hid (Sl rpStp (w13.alloc (.cells (#[.int .i64 (rx : Int), .int .i64 (ky : Int), .int .u64 (nx : Int), .slice Ay ly cy]) 48)) Du Au nu cu ql) := keepS su_13.out hb
    have pu_14 : Hid (Blk (w13.alloc (.cells (#[.int .i64 (rx : Int), .int .i64 (ky : Int), .int .u64 (nx : Int), .slice Ay ly cy]) 48)) gu 25 (prjV qe Au nu cu)) := keepB pu_13.out hb
    have fu_14 : Hid (Blk (w13.alloc (.cells (#[.int .i64 (rx : Int), .int .i64 (ky : Int), .int .u64 (nx : Int), .slice Ay ly cy]) 48)) (gu + 1) 40 (fltV (0, 0))) := keepB fu_13.out hb
    have px_14 : Hid (Blk (w13.alloc (.cells (#[.int .i64 (rx : Int), .int .i64 (ky : Int), .int .u64 (nx : Int), .slice Ay ly cy]) 48)) gx 48 (#[.int .i64 (rx : Int), .int .i64 (kx : Int), .int .u64 (nx : Int), .slice Ax lx cx])) := keepB px_13.out hb
    have BB_14 : Hid (Below w.heap.size w (w13.alloc (.cells (#[.int .i64 (rx : Int), .int .i64 (ky : Int), .int .u64 (nx : Int), .slice Ay ly cy]) 48))) := stepB BB_13.out hb
    have sz_13 := BB_13.out.size
    have py_14 : Hid (Blk (w13.alloc (.cells (#[.int .i64 (rx : Int), .int .i64 (ky : Int), .int .u64 (nx : Int), .slice Ay ly cy]) 48)) w13.heap.size 48 (#[.int .i64 (rx : Int), .int .i64 (ky : Int), .int .u64 (nx : Int), .slice Ay ly cy])) := blk11 _ _ _
    clear hb
    generalize hgy : w13.heap.size = gy at *
    generalize World.alloc w13 _ = w14 at *
    have z_pa0_14 := (show Blk w14 w.heap.size 25 (prjV e A n c) from pa_14.out).cell 0
    have z_pa1_14 := (show Blk w14 w.heap.size 25 (prjV e A n c) from pa_14.out).cell 1
    have z_pu0_14 := (show Blk w14 gu 25 (prjV qe Au nu cu) from pu_14.out).cell 0
    have z_pu1_14 := (show Blk w14 gu 25 (prjV qe Au nu cu) from pu_14.out).cell 1
    go_wp2_with fail
    have hmv := moved_any (e := e) (e' := qe) y (sa_14.out).1 (su_14.out).1 (sa_14.out).2 (su_14.out).2 he hqe64 hy
    rw [dec_false (show ¬ MovedIs l ql e qe y from fun h => h.2.2 HNN.out)] at hmv
    have HMV := Lib.hid hmv
    clear hmv
    refine (HMV.out).mono ?_; rintro en w15 ⟨rfl, hb⟩
    have pa_15 : Hid (Blk w15 w.heap.size 25 (prjV e A n c)) := keepB pa_14.out hb
    have tw_15 : Hid (Blk w15 (w.heap.size + 1) 26 #[.int .u64 (x : Int), .int .u64 (y : Int)]) := keepB tw_14.out hb
    have sa_15 : Hid (Sl rpStp w15 D A n c l) := keepS sa_14.out hb
    have ss_15 : Hid (Sl (rpSlice rpU64) w15 D' A' n' c' sets) := keepS ss_14.out hb
    have sq_15 : Hid (Sl rpStp w15 Dq Aq nq cq ql) := keepS sq_14.out hb
    have pq_15 : Hid (Blk w15 gq 25 (prjV qe Aq nq cq)) := keepB pq_14.out hb
    have ob_15 : Hid (w15.ownsRow w.heap.size 5 1 (.slice A1 m1 c1) m1 ((prb (qe, ql)).map bv)) := keepO ob_14.out hb
    have su_15 : Hid (Sl rpStp w15 Du Au nu cu ql) := keepS su_14.out hb
    have pu_15 : Hid (Blk w15 gu 25 (prjV qe Au nu cu)) := keepB pu_14.out hb
    have fu_15 : Hid (Blk w15 (gu + 1) 40 (fltV (0, 0))) := keepB fu_14.out hb
    have px_15 : Hid (Blk w15 gx 48 (#[.int .i64 (rx : Int), .int .i64 (kx : Int), .int .u64 (nx : Int), .slice Ax lx cx])) := keepB px_14.out hb
    have py_15 : Hid (Blk w15 gy 48 (#[.int .i64 (rx : Int), .int .i64 (ky : Int), .int .u64 (nx : Int), .slice Ay ly cy])) := keepB py_14.out hb
    have BB_15 : Hid (Below w.heap.size w w15) := stepB BB_14.out hb
    clear z_pa0_14 z_pa1_14 z_pu0_14 z_pu1_14
    clear hb
    have z_px0_15 := (show Blk w15 gx 48 (#[.int .i64 (rx : Int), .int .i64 (kx : Int), .int .u64 (nx : Int), .slice Ax lx cx]) from px_15.out).cell 0
    have z_px2_15 := (show Blk w15 gx 48 (#[.int .i64 (rx : Int), .int .i64 (kx : Int), .int .u64 (nx : Int), .slice Ax lx cx]) from px_15.out).cell 2
    have z_py0_15 := (show Blk w15 gy 48 (#[.int .i64 (rx : Int), .int .i64 (ky : Int), .int .u64 (nx : Int), .slice Ay ly cy]) from py_15.out).cell 0
    have z_py2_15 := (show Blk w15 gy 48 (#[.int .i64 (rx : Int), .int .i64 (ky : Int), .int .u64 (nx : Int), .slice Ay ly cy]) from py_15.out).cell 2
    go_wp2_with fail
    refine (lives_any _).mono ?_; rintro en w16 ⟨rfl, hb⟩
    have pa_16 : Hid (Blk w16 w.heap.size 25 (prjV e A n c)) := keepB pa_15.out hb
    have tw_16 : Hid (Blk w16 (w.heap.size + 1) 26 #[.int .u64 (x : Int), .int .u64 (y : Int)]) := keepB tw_15.out hb
    have sa_16 : Hid (Sl rpStp w16 D A n c l) := keepS sa_15.out hb
    have ss_16 : Hid (Sl (rpSlice rpU64) w16 D' A' n' c' sets) := keepS ss_15.out hb
    have sq_16 : Hid (Sl rpStp w16 Dq Aq nq cq ql) := keepS sq_15.out hb
    have pq_16 : Hid (Blk w16 gq 25 (prjV qe Aq nq cq)) := keepB pq_15.out hb
    have ob_16 : Hid (w16.ownsRow w.heap.size 5 1 (.slice A1 m1 c1) m1 ((prb (qe, ql)).map bv)) := keepO ob_15.out hb
    have su_16 : Hid (Sl rpStp w16 Du Au nu cu ql) := keepS su_15.out hb
    have pu_16 : Hid (Blk w16 gu 25 (prjV qe Au nu cu)) := keepB pu_15.out hb
    have fu_16 : Hid (Blk w16 (gu + 1) 40 (fltV (0, 0))) := keepB fu_15.out hb
    have px_16 : Hid (Blk w16 gx 48 (#[.int .i64 (rx : Int), .int .i64 (kx : Int), .int .u64 (nx : Int), .slice Ax lx cx])) := keepB px_15.out hb
    have py_16 : Hid (Blk w16 gy 48 (#[.int .i64 (rx : Int), .int .i64 (ky : Int), .int .u64 (nx : Int), .slice Ay ly cy])) := keepB py_15.out hb
    have BB_16 : Hid (Below w.heap.size w w16) := stepB BB_15.out hb
    clear z_px0_15 z_px2_15 z_py0_15 z_py2_15
    clear hb
    go_wp2_with fail
    go_ret
    exact ⟨rfl, BB_16.out⟩
  case false =>
    clear hfb
    by_cases hyx : y < x
    case neg =>
      have hge : decide ((y : Int) ≥ (x : Int)) = true := by simp; omega
      have hge2 : decide (x ≤ y) = true := by simp; omega
      clear hyx hge
      go_wp2_with fail
      refine (lives_any _).mono ?_; rintro en w11 ⟨rfl, hb⟩
      have pa_11 : Hid (Blk w11 w.heap.size 25 (prjV e A n c)) := keepB pa_10.out hb
      have tw_11 : Hid (Blk w11 (w.heap.size + 1) 26 #[.int .u64 (x : Int), .int .u64 (y : Int)]) := keepB tw_10.out hb
      have sa_11 : Hid (Sl rpStp w11 D A n c l) := keepS sa_10.out hb
      have ss_11 : Hid (Sl (rpSlice rpU64) w11 D' A' n' c' sets) := keepS ss_10.out hb
      have sq_11 : Hid (Sl rpStp w11 Dq Aq nq cq ql) := keepS sq_10.out hb
      have pq_11 : Hid (Blk w11 gq 25 (prjV qe Aq nq cq)) := keepB pq_10.out hb
      have ob_11 : Hid (w11.ownsRow w.heap.size 5 1 (.slice A1 m1 c1) m1 ((prb (qe, ql)).map bv)) := keepO ob_10.out hb
      have su_11 : Hid (Sl rpStp w11 Du Au nu cu ql) := keepS su_10.out hb
      have pu_11 : Hid (Blk w11 gu 25 (prjV qe Au nu cu)) := keepB pu_10.out hb
      have fu_11 : Hid (Blk w11 (gu + 1) 40 (fltV (0, 0))) := keepB fu_10.out hb
      have BB_11 : Hid (Below w.heap.size w w11) := stepB BB_10.out hb
      clear hb
      go_wp2_with fail
      go_ret
      exact ⟨rfl, BB_11.out⟩
    have hge : decide ((y : Int) ≥ (x : Int)) = false := by simp; omega
    have hge2 : decide (x ≤ y) = false := by simp; omega
    clear hge
    have hpo : PosOk y := by unfold PosOk; omega
    have hnn := HGN.out hyx
    have HGQ := Lib.hid (fun r K N nd r' K' N' nd' => HGP.out r K N nd r' K' N' nd' hyx)
    clear hyx
    have HNN := Lib.hid hnn
    have HPO := Lib.hid hpo
    clear hnn hpo
    have z_pa0_10 := (show Blk w10 w.heap.size 25 (prjV e A n c) from pa_10.out).cell 0
    have z_pa1_10 := (show Blk w10 w.heap.size 25 (prjV e A n c) from pa_10.out).cell 1
    go_wp2_with fail
    refine (at_ok (e := e) y (sa_10.out).1 (sa_10.out).2 he hy H1.out HPO.out).mono ?_; rintro en w11 ⟨rx, kx, nx, ndx, Ax, lx, cx, Dx, rfl, hpx, hsx, hdx, hb⟩
    have pa_11 : Hid (Blk w11 w.heap.size 25 (prjV e A n c)) := keepB pa_10.out hb
    have tw_11 : Hid (Blk w11 (w.heap.size + 1) 26 #[.int .u64 (x : Int), .int .u64 (y : Int)]) := keepB tw_10.out hb
    have sa_11 : Hid (Sl rpStp w11 D A n c l) := keepS sa_10.out hb
    have ss_11 : Hid (Sl (rpSlice rpU64) w11 D' A' n' c' sets) := keepS ss_10.out hb
    have sq_11 : Hid (Sl rpStp w11 Dq Aq nq cq ql) := keepS sq_10.out hb
    have pq_11 : Hid (Blk w11 gq 25 (prjV qe Aq nq cq)) := keepB pq_10.out hb
    have ob_11 : Hid (w11.ownsRow w.heap.size 5 1 (.slice A1 m1 c1) m1 ((prb (qe, ql)).map bv)) := keepO ob_10.out hb
    have su_11 : Hid (Sl rpStp w11 Du Au nu cu ql) := keepS su_10.out hb
    have pu_11 : Hid (Blk w11 gu 25 (prjV qe Au nu cu)) := keepB pu_10.out hb
    have fu_11 : Hid (Blk w11 (gu + 1) 40 (fltV (0, 0))) := keepB fu_10.out hb
    have BB_11 : Hid (Below w.heap.size w w11) := stepB BB_10.out hb
    clear z_pa0_10 z_pa1_10
    clear hb
    have HPX := Lib.hid hpx
    clear hpx hsx hdx
    go_upto_region 17 with (fail)
    have hb : Below w11.heap.size w11 (w11.alloc (.cells (#[.int .i64 (rx : Int), .int .i64 (kx : Int), .int .u64 (nx : Int), .slice Ax lx cx]) 48)) := below1 _ (.cells (#[.int .i64 (rx : Int), .int .i64 (kx : Int), .int .u64 (nx : Int), .slice Ax lx cx]) 48)
    have pa_12 : Hid (Blk (w11.alloc (.cells (#[.int .i64 (rx : Int), .int .i64 (kx : Int), .int .u64 (nx : Int), .slice Ax lx cx]) 48)) w.heap.size 25 (prjV e A n c)) := keepB pa_11.out hb
    have tw_12 : Hid (Blk (w11.alloc (.cells (#[.int .i64 (rx : Int), .int .i64 (kx : Int), .int .u64 (nx : Int), .slice Ax lx cx]) 48)) (w.heap.size + 1) 26 #[.int .u64 (x : Int), .int .u64 (y : Int)]) := keepB tw_11.out hb
    have sa_12 : Hid (Sl rpStp (w11.alloc (.cells (#[.int .i64 (rx : Int), .int .i64 (kx : Int), .int .u64 (nx : Int), .slice Ax lx cx]) 48)) D A n c l) := keepS sa_11.out hb
    have ss_12 : Hid (Sl (rpSlice rpU64) (w11.alloc (.cells (#[.int .i64 (rx : Int), .int .i64 (kx : Int), .int .u64 (nx : Int), .slice Ax lx cx]) 48)) D' A' n' c' sets) := keepS ss_11.out hb
    have sq_12 : Hid (Sl rpStp (w11.alloc (.cells (#[.int .i64 (rx : Int), .int .i64 (kx : Int), .int .u64 (nx : Int), .slice Ax lx cx]) 48)) Dq Aq nq cq ql) := keepS sq_11.out hb
    have pq_12 : Hid (Blk (w11.alloc (.cells (#[.int .i64 (rx : Int), .int .i64 (kx : Int), .int .u64 (nx : Int), .slice Ax lx cx]) 48)) gq 25 (prjV qe Aq nq cq)) := keepB pq_11.out hb
    have ob_12 : Hid ((w11.alloc (.cells (#[.int .i64 (rx : Int), .int .i64 (kx : Int), .int .u64 (nx : Int), .slice Ax lx cx]) 48)).ownsRow w.heap.size 5 1 (.slice A1 m1 c1) m1 ((prb (qe, ql)).map bv)) := keepO ob_11.out hb
    have su_12 : Hid (Sl rpStp (w11.alloc (.cells (#[.int .i64 (rx : Int), .int .i64 (kx : Int), .int .u64 (nx : Int), .slice Ax lx cx]) 48)) Du Au nu cu ql) := keepS su_11.out hb
    have pu_12 : Hid (Blk (w11.alloc (.cells (#[.int .i64 (rx : Int), .int .i64 (kx : Int), .int .u64 (nx : Int), .slice Ax lx cx]) 48)) gu 25 (prjV qe Au nu cu)) := keepB pu_11.out hb
    have fu_12 : Hid (Blk (w11.alloc (.cells (#[.int .i64 (rx : Int), .int .i64 (kx : Int), .int .u64 (nx : Int), .slice Ax lx cx]) 48)) (gu + 1) 40 (fltV (0, 0))) := keepB fu_11.out hb
    have BB_12 : Hid (Below w.heap.size w (w11.alloc (.cells (#[.int .i64 (rx : Int), .int .i64 (kx : Int), .int .u64 (nx : Int), .slice Ax lx cx]) 48))) := stepB BB_11.out hb
    have sz_11 := BB_11.out.size
    have px_12 : Hid (Blk (w11.alloc (.cells (#[.int .i64 (rx : Int), .int .i64 (kx : Int), .int .u64 (nx : Int), .slice Ax lx cx]) 48)) w11.heap.size 48 (#[.int .i64 (rx : Int), .int .i64 (kx : Int), .int .u64 (nx : Int), .slice Ax lx cx])) := blk11 _ _ _
    clear hb
    generalize hgx : w11.heap.size = gx at *
    generalize World.alloc w11 _ = w12 at *
    have z_pu0_12 := (show Blk w12 gu 25 (prjV qe Au nu cu) from pu_12.out).cell 0
    have z_pu1_12 := (show Blk w12 gu 25 (prjV qe Au nu cu) from pu_12.out).cell 1
    go_wp2_with fail
    refine (at_ok (e := qe) y (su_12.out).1 (su_12.out).2 hqe64 hy H5.out HPO.out).mono ?_; rintro en w13 ⟨ry, ky, ny, ndy, Ay, ly, cy, Dy, rfl, hpy, hsy, hdy, hb⟩
    have pa_13 : Hid (Blk w13 w.heap.size 25 (prjV e A n c)) := keepB pa_12.out hb
    have tw_13 : Hid (Blk w13 (w.heap.size + 1) 26 #[.int .u64 (x : Int), .int .u64 (y : Int)]) := keepB tw_12.out hb
    have sa_13 : Hid (Sl rpStp w13 D A n c l) := keepS sa_12.out hb
    have ss_13 : Hid (Sl (rpSlice rpU64) w13 D' A' n' c' sets) := keepS ss_12.out hb
    have sq_13 : Hid (Sl rpStp w13 Dq Aq nq cq ql) := keepS sq_12.out hb
    have pq_13 : Hid (Blk w13 gq 25 (prjV qe Aq nq cq)) := keepB pq_12.out hb
    have ob_13 : Hid (w13.ownsRow w.heap.size 5 1 (.slice A1 m1 c1) m1 ((prb (qe, ql)).map bv)) := keepO ob_12.out hb
    have su_13 : Hid (Sl rpStp w13 Du Au nu cu ql) := keepS su_12.out hb
    have pu_13 : Hid (Blk w13 gu 25 (prjV qe Au nu cu)) := keepB pu_12.out hb
    have fu_13 : Hid (Blk w13 (gu + 1) 40 (fltV (0, 0))) := keepB fu_12.out hb
    have px_13 : Hid (Blk w13 gx 48 (#[.int .i64 (rx : Int), .int .i64 (kx : Int), .int .u64 (nx : Int), .slice Ax lx cx])) := keepB px_12.out hb
    have BB_13 : Hid (Below w.heap.size w w13) := stepB BB_12.out hb
    clear z_pu0_12 z_pu1_12
    clear hb
    have e1 : rx = ry := (HGQ.out _ _ _ _ _ _ _ _ HPX.out hpy).1.symm
    have e2 : nx = ny := (HGQ.out _ _ _ _ _ _ _ _ HPX.out hpy).2.symm
    clear hpy hsy hdy HPX
    subst e1
    subst e2
    go_upto_region 18 with (fail)
    have hb : Below w13.heap.size w13 (w13.alloc (.cells (#[.int .i64 (rx : Int), .int .i64 (ky : Int), .int .u64 (nx : Int), .slice Ay ly cy]) 48)) := below1 _ (.cells (#[.int .i64 (rx : Int), .int .i64 (ky : Int), .int .u64 (nx : Int), .slice Ay ly cy]) 48)
    have pa_14 : Hid (Blk (w13.alloc (.cells (#[.int .i64 (rx : Int), .int .i64 (ky : Int), .int .u64 (nx : Int), .slice Ay ly cy]) 48)) w.heap.size 25 (prjV e A n c)) := keepB pa_13.out hb
    have tw_14 : Hid (Blk (w13.alloc (.cells (#[.int .i64 (rx : Int), .int .i64 (ky : Int), .int .u64 (nx : Int), .slice Ay ly cy]) 48)) (w.heap.size + 1) 26 #[.int .u64 (x : Int), .int .u64 (y : Int)]) := keepB tw_13.out hb
    have sa_14 : Hid (Sl rpStp (w13.alloc (.cells (#[.int .i64 (rx : Int), .int .i64 (ky : Int), .int .u64 (nx : Int), .slice Ay ly cy]) 48)) D A n c l) := keepS sa_13.out hb
    have ss_14 : Hid (Sl (rpSlice rpU64) (w13.alloc (.cells (#[.int .i64 (rx : Int), .int .i64 (ky : Int), .int .u64 (nx : Int), .slice Ay ly cy]) 48)) D' A' n' c' sets) := keepS ss_13.out hb
    have sq_14 : Hid (Sl rpStp (w13.alloc (.cells (#[.int .i64 (rx : Int), .int .i64 (ky : Int), .int .u64 (nx : Int), .slice Ay ly cy]) 48)) Dq Aq nq cq ql) := keepS sq_13.out hb
    have pq_14 : Hid (Blk (w13.alloc (.cells (#[.int .i64 (rx : Int), .int .i64 (ky : Int), .int .u64 (nx : Int), .slice Ay ly cy]) 48)) gq 25 (prjV qe Aq nq cq)) := keepB pq_13.out hb
    have ob_14 : Hid ((w13.alloc (.cells (#[.int .i64 (rx : Int), .int .i64 (ky : Int), .int .u64 (nx : Int), .slice Ay ly cy]) 48)).ownsRow w.heap.size 5 1 (.slice A1 m1 c1) m1 ((prb (qe, ql)).map bv)) := keepO ob_13.out hb
    have su_14 : Hid (Sl rpStp (w13.alloc (.cells (#[.int .i64 (rx : Int), .int .i64 (ky : Int), .int .u64 (nx : Int), .slice Ay ly cy]) 48)) Du Au nu cu ql) := keepS su_13.out hb
    have pu_14 : Hid (Blk (w13.alloc (.cells (#[.int .i64 (rx : Int), .int .i64 (ky : Int), .int .u64 (nx : Int), .slice Ay ly cy]) 48)) gu 25 (prjV qe Au nu cu)) := keepB pu_13.out hb
    have fu_14 : Hid (Blk (w13.alloc (.cells (#[.int .i64 (rx : Int), .int .i64 (ky : Int), .int .u64 (nx : Int), .slice Ay ly cy]) 48)) (gu + 1) 40 (fltV (0, 0))) := keepB fu_13.out hb
    have px_14 : Hid (Blk (w13.alloc (.cells (#[.int .i64 (rx : Int), .int .i64 (ky : Int), .int .u64 (nx : Int), .slice Ay ly cy]) 48)) gx 48 (#[.int .i64 (rx : Int), .int .i64 (kx : Int), .int .u64 (nx : Int), .slice Ax lx cx])) := keepB px_13.out hb
    have BB_14 : Hid (Below w.heap.size w (w13.alloc (.cells (#[.int .i64 (rx : Int), .int .i64 (ky : Int), .int .u64 (nx : Int), .slice Ay ly cy]) 48))) := stepB BB_13.out hb
    have sz_13 := BB_13.out.size
    have py_14 : Hid (Blk (w13.alloc (.cells (#[.int .i64 (rx : Int), .int .i64 (ky : Int), .int .u64 (nx : Int), .slice Ay ly cy]) 48)) w13.heap.size 48 (#[.int .i64 (rx : Int), .int .i64 (ky : Int), .int .u64 (nx : Int), .slice Ay ly cy])) := blk11 _ _ _
    clear hb
    generalize hgy : w13.heap.size = gy at *
    generalize World.alloc w13 _ = w14 at *
    have z_pa0_14 := (show Blk w14 w.heap.size 25 (prjV e A n c) from pa_14.out).cell 0
    have z_pa1_14 := (show Blk w14 w.heap.size 25 (prjV e A n c) from pa_14.out).cell 1
    have z_pu0_14 := (show Blk w14 gu 25 (prjV qe Au nu cu) from pu_14.out).cell 0
    have z_pu1_14 := (show Blk w14 gu 25 (prjV qe Au nu cu) from pu_14.out).cell 1
    go_wp2_with fail
    have hmv := moved_any (e := e) (e' := qe) y (sa_14.out).1 (su_14.out).1 (sa_14.out).2 (su_14.out).2 he hqe64 hy
    rw [dec_false (show ¬ MovedIs l ql e qe y from fun h => h.2.2 HNN.out)] at hmv
    have HMV := Lib.hid hmv
    clear hmv
    refine (HMV.out).mono ?_; rintro en w15 ⟨rfl, hb⟩
    have pa_15 : Hid (Blk w15 w.heap.size 25 (prjV e A n c)) := keepB pa_14.out hb
    have tw_15 : Hid (Blk w15 (w.heap.size + 1) 26 #[.int .u64 (x : Int), .int .u64 (y : Int)]) := keepB tw_14.out hb
    have sa_15 : Hid (Sl rpStp w15 D A n c l) := keepS sa_14.out hb
    have ss_15 : Hid (Sl (rpSlice rpU64) w15 D' A' n' c' sets) := keepS ss_14.out hb
    have sq_15 : Hid (Sl rpStp w15 Dq Aq nq cq ql) := keepS sq_14.out hb
    have pq_15 : Hid (Blk w15 gq 25 (prjV qe Aq nq cq)) := keepB pq_14.out hb
    have ob_15 : Hid (w15.ownsRow w.heap.size 5 1 (.slice A1 m1 c1) m1 ((prb (qe, ql)).map bv)) := keepO ob_14.out hb
    have su_15 : Hid (Sl rpStp w15 Du Au nu cu ql) := keepS su_14.out hb
    have pu_15 : Hid (Blk w15 gu 25 (prjV qe Au nu cu)) := keepB pu_14.out hb
    have fu_15 : Hid (Blk w15 (gu + 1) 40 (fltV (0, 0))) := keepB fu_14.out hb
    have px_15 : Hid (Blk w15 gx 48 (#[.int .i64 (rx : Int), .int .i64 (kx : Int), .int .u64 (nx : Int), .slice Ax lx cx])) := keepB px_14.out hb
    have py_15 : Hid (Blk w15 gy 48 (#[.int .i64 (rx : Int), .int .i64 (ky : Int), .int .u64 (nx : Int), .slice Ay ly cy])) := keepB py_14.out hb
    have BB_15 : Hid (Below w.heap.size w w15) := stepB BB_14.out hb
    clear z_pa0_14 z_pa1_14 z_pu0_14 z_pu1_14
    clear hb
    have z_px0_15 := (show Blk w15 gx 48 (#[.int .i64 (rx : Int), .int .i64 (kx : Int), .int .u64 (nx : Int), .slice Ax lx cx]) from px_15.out).cell 0
    have z_px2_15 := (show Blk w15 gx 48 (#[.int .i64 (rx : Int), .int .i64 (kx : Int), .int .u64 (nx : Int), .slice Ax lx cx]) from px_15.out).cell 2
    have z_py0_15 := (show Blk w15 gy 48 (#[.int .i64 (rx : Int), .int .i64 (ky : Int), .int .u64 (nx : Int), .slice Ay ly cy]) from py_15.out).cell 0
    have z_py2_15 := (show Blk w15 gy 48 (#[.int .i64 (rx : Int), .int .i64 (ky : Int), .int .u64 (nx : Int), .slice Ay ly cy]) from py_15.out).cell 2
    go_wp2_with fail
    refine (lives_any _).mono ?_; rintro en w16 ⟨rfl, hb⟩
    have pa_16 : Hid (Blk w16 w.heap.size 25 (prjV e A n c)) := keepB pa_15.out hb
    have tw_16 : Hid (Blk w16 (w.heap.size + 1) 26 #[.int .u64 (x : Int), .int .u64 (y : Int)]) := keepB tw_15.out hb
    have sa_16 : Hid (Sl rpStp w16 D A n c l) := keepS sa_15.out hb
    have ss_16 : Hid (Sl (rpSlice rpU64) w16 D' A' n' c' sets) := keepS ss_15.out hb
    have sq_16 : Hid (Sl rpStp w16 Dq Aq nq cq ql) := keepS sq_15.out hb
    have pq_16 : Hid (Blk w16 gq 25 (prjV qe Aq nq cq)) := keepB pq_15.out hb
    have ob_16 : Hid (w16.ownsRow w.heap.size 5 1 (.slice A1 m1 c1) m1 ((prb (qe, ql)).map bv)) := keepO ob_15.out hb
    have su_16 : Hid (Sl rpStp w16 Du Au nu cu ql) := keepS su_15.out hb
    have pu_16 : Hid (Blk w16 gu 25 (prjV qe Au nu cu)) := keepB pu_15.out hb
    have fu_16 : Hid (Blk w16 (gu + 1) 40 (fltV (0, 0))) := keepB fu_15.out hb
    have px_16 : Hid (Blk w16 gx 48 (#[.int .i64 (rx : Int), .int .i64 (kx : Int), .int .u64 (nx : Int), .slice Ax lx cx])) := keepB px_15.out hb
    have py_16 : Hid (Blk w16 gy 48 (#[.int .i64 (rx : Int), .int .i64 (ky : Int), .int .u64 (nx : Int), .slice Ay ly cy])) := keepB py_15.out hb
    have BB_16 : Hid (Below w.heap.size w w16) := stepB BB_15.out hb
    clear z_px0_15 z_px2_15 z_py0_15 z_py2_15
    clear hb
    go_wp2_with fail
    go_ret
    exact ⟨rfl, BB_16.out⟩
end
theorem top_any {D D' : Dom} {A A' : Option Addr} {n c n' c' e x y : Nat} {l : List Stp} {sets : List (List Nat)} {w : World} (hs : rpStp.sl w D A n c l) (hs' : (rpSlice rpU64).sl w D' A' n' c' sets) (hD : ∀ k, D k → k < w.heap.size) (hD' : ∀ k, D' k → k < w.heap.size) (he : e ≤ 18446744073709551615) (hx : x ≤ 18446744073709551615) (hy : y ≤ 18446744073709551615) :
    Calls Try.prog 3 #[.agg (prjV e A n c), .agg #[.int .u64 (x : Int), .int .u64 (y : Int)], .slice A' n' c'] w fun en w' => en = .returned (.bool true) ∧ Below w.heap.size w w' := by
  rcases growP_ways2 (e, l) x sets with ⟨cd, hcd, hg⟩ | ⟨h1, h5, hg⟩
  · exact top_bad hs hs' hD hD' he hx hy hcd hg
  · exact top_ok hs hs' hD hD' he hx hy h1 h5 hg
theorem pair_open {w : World} {D : Dom} {x : Nat × Nat} {cs : List Value} (h : (rpPair rpU64 rpU64).ok w D x cs) : cs = [.int .u64 (x.1 : Int), .int .u64 (x.2 : Int)] ∧ x.1 ≤ 18446744073709551615 ∧ x.2 ≤ 18446744073709551615 := by
  obtain ⟨cs1, cs2, rfl, ⟨rfl, q1⟩, ⟨rfl, q2⟩⟩ := h
  exact ⟨rfl, by omega, by omega⟩
theorem topMoves_st (cs : Array Value) (p : Prj) (cs2 : Array Value) (xy : Nat × Nat) (A : Option Addr) (n c : Nat) (sets : List (List Nat)) (w : World) (hp : rpPrjT.ok w (lt w.heap.size) p cs.toList) (hxy : (rpPair rpU64 rpU64).ok w (lt w.heap.size) xy cs2.toList) (hs : (rpSlice rpU64).sl w (lt w.heap.size) A n c sets) :
    Calls Try.prog 3 #[.agg cs, .agg cs2, .slice A n c] w fun e w' => e = .returned (.bool true) ∧ Below w.heap.size w w' := by
  obtain ⟨A1, c1, hcs, hsp, he⟩ := prjt_open hp
  obtain ⟨hcs2, hx, hy⟩ := pair_open hxy
  rw [agg_of hcs, agg_of hcs2]
  exact top_any hsp hs (fun k hk => hk) (fun k hk => hk) he hx hy
end Go.Proofs.Ytmdgmnaaopineaa
/-
  'tholepintop.TopMoves' returns true for every input, and each argument reads behind the call as it read before. No condition.
-/
namespace Go.Proofs.Ytmdgmnaaopineaa.topMoves
open Go.ChangeShapes Go.WideShapes Go.ChangeAt Go.RowKit
open Go.ChangeMaps (open_string shut_string)
set_option linter.unusedVariables false

theorem own : ownKnob Try.prog.godebug = none := by kernel_rfl
theorem laidOut : laidOutB Try.prog = true := by kernel_rfl

set_option maxRecDepth 100000 in
theorem lifted (os : Os) (started : os.Started) (H : Type) (enc : TypeId × Value → H) :
    ReturnsInHanded {} Try.checked os 3 .any (Rows.topMovesSpec.pre6 enc Try.prog Try.f3 Rows.topMovesRow.domain false) (Rows.topMovesSpec.post enc Try.prog Try.f3 false true false false) := by
  refine returnsInHanded_of_change (C := Try.checked) own started (by kernel_rfl) Try.func3
    (ChangeSpec.witness6 (enc := enc) (C := Try.checked) false ⟨#[], #[.agg #[.int .u64 0, .slice none 0 0], .agg #[.int .u64 0, .int .u64 0], .slice none 0 0], []⟩ 8 (by kernel_rfl) (by kernel_rfl) (by kernel_rfl) (by kernel_rfl)) ?_
  intro W base args ds gs before hval0 hW hcnd _
  have hval : ∀ (j : Nat) t v, Try.f3.params[j]? = some t → args[j]? = some v → Value.okWide Try.prog W .any base t v := hval0
  have hW' := hW
  obtain ⟨p, q, hA0, hV, rfl, hfz, hnd⟩ := hW
  have hA : DataW.TrodAll enc Try.prog W 0 (fun _ => true) true Try.f3.params.toList args.toList ds p := hA0
  rw [Try.params3] at hA hval
  obtain ⟨v0, vs0, d0, ds0, p0, q0, hargs, rfl, rfl, h0, r0⟩ := trodAll_cons hA
  obtain ⟨v1, vs1, d1, ds1, p1, q1, rfl, rfl, rfl, h1, r1⟩ := trodAll_cons r0
  obtain ⟨v2, vs2, d2, ds2, p2, q2, rfl, rfl, rfl, h2, r2⟩ := trodAll_cons r1
  obtain ⟨rfl, rfl, rfl⟩ := trodAll_nil r2
  obtain rfl : args = #[v0, v1, v2] := by cases args; simp_all
  obtain ⟨rfl, rfl⟩ := trodVars_none hV
  have k0 := h0
  have lt0 : ∀ x ∈ p0, x.block < W.heap.size := by obtain ⟨m, hm⟩ := k0; exact DataW.trod_lt m _ _ _ hm
  obtain ⟨cs0, rfl, hsz0⟩ := okWide_struct Try.underlying25 (hval 0 25 v0 rfl rfl)
  obtain ⟨x0, w0⟩ : ∃ x, (rpPrjT).ok W (lt W.heap.size) x cs0.toList := by
    obtain ⟨fuel, hf⟩ := h0
    obtain ⟨x, hx⟩ := (opens_struct2 Try.underlying25 (opens_u64 Try.underlying22) (opens_slice Try.underlying23 (opens_struct3 Try.underlying31 (opens_u64 Try.underlying22) (opens_u64 Try.underlying22) (opens_slice Try.underlying27 (opens_slice Try.underlying46 (opens_u64 Try.underlying22) (by kernel_rfl) (by decide)) (by kernel_rfl) (by decide)) (by kernel_rfl)) (by kernel_rfl) (by decide)) (by kernel_rfl)) H enc W _ fuel _ _ hf
    exact ⟨x, hx⟩
  have k1 := h1
  have lt1 : ∀ x ∈ p1, x.block < W.heap.size := by obtain ⟨m, hm⟩ := k1; exact DataW.trod_lt m _ _ _ hm
  obtain ⟨cs1, rfl, hsz1⟩ := okWide_array Try.underlying26 (hval 1 26 v1 rfl rfl)
  obtain ⟨x1, w1⟩ : ∃ x, (rpPair rpU64 rpU64).ok W (lt W.heap.size) x cs1.toList := by
    obtain ⟨fuel, hf⟩ := h1
    obtain ⟨x, hx⟩ := (opens_array2 Try.underlying26 (opens_u64 Try.underlying22) (by kernel_rfl)) H enc W _ fuel _ _ hf
    exact ⟨x, hx⟩
  have k2 := h2
  have lt2 : ∀ x ∈ p2, x.block < W.heap.size := by obtain ⟨m, hm⟩ := k2; exact DataW.trod_lt m _ _ _ hm
  obtain ⟨a2, len2, cap2, rfl⟩ := okWide_slice Try.underlying27 (hval 2 27 v2 rfl rfl)
  obtain ⟨l2, w2⟩ : ∃ l, (rpSlice rpU64).sl W (lt W.heap.size) a2 len2 cap2 l := by
    obtain ⟨fuel, hf⟩ := h2
    obtain ⟨l, hl⟩ := (opens_slice Try.underlying27 (opens_slice Try.underlying46 (opens_u64 Try.underlying22) (by kernel_rfl) (by decide)) (by kernel_rfl) (by decide)) H enc W _ fuel _ _ hf
    exact ⟨l, hl⟩
  clear hA0 hval0
  refine (topMoves_st cs0 x0 cs1 x1 a2 len2 cap2 l2 W w0 w1 w2).mono fun e W' ⟨he, bel⟩ => ?_
  subst he
  exact ⟨_, rfl, _, _, _, [], _, [], hW', trodAll_mk1 (shut_bool Try.underlying4 _), (trodAll_cons_mk (Below.trod laidOut (by kernel_rfl) (of_decide_eq_true (by kernel_rfl)) k0 bel lt0) (trodAll_cons_mk (Below.trod laidOut (by kernel_rfl) (of_decide_eq_true (by kernel_rfl)) k1 bel lt1) (trodAll_cons_mk (Below.trod laidOut (by kernel_rfl) (of_decide_eq_true (by kernel_rfl)) k2 bel lt2) trodAll_mk0))), rfl, bel.frame _, fun h => by cases h⟩

theorem over : Rows.topMovesRow.holds Try.pinned (OpenSpec.ofChange Rows.topMovesSpec) :=
  OpenClaim.holds_of_wide 3 Try.f3 rfl rfl rfl rfl rfl rfl rfl ⟨rfl, rfl, rfl, rfl, rfl⟩ rfl rfl rfl rfl rfl (by kernel_rfl) Try.func3 (by kernel_rfl)
    (of_decide_eq_true (by kernel_rfl)) (by unfold Func.isWrapper; first | (rw [if_pos (by decide +kernel)]; kernel_rfl) | (rw [if_neg (by decide +kernel)]; exact ⟨rfl, rfl⟩))
    (fun os started H enc _ => lifted os started H enc)

theorem proved : Rows.TopMovesSaid := over
#print axioms proved
end Go.Proofs.Ytmdgmnaaopineaa.topMoves
