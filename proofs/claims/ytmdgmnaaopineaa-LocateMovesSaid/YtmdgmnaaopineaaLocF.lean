/- locate.First. -/
import Derived.Test.YtmdgmnaaopineaaLocG
import Derived.Deep.DeepCutAuto
import Derived.Deep.CutBlock
import Derived.RegionTactic
namespace Go.Proofs.Ytmdgmnaaopineaa
open Go.ChangeShapes Go.WideShapes Go.ChangeAt Go.RowKit
set_option linter.unusedVariables false
set_option maxRecDepth 100000 in
theorem fld3 (a b x : Int) (n2 c2 : Nat) (A2 : Option Addr) (w : World) : (Instr.field 48 (.agg #[.int .i64 a, .int .i64 b, .int .u64 x, .slice A2 n2 c2]) 3).run Try.prog w = .ok (.slice A2 n2 c2) w := rfl
section
variable {D D' : Dom} {A A' : Option Addr} {n c e n' c' e' : Nat} {l l' : List Stp} {w : World}
set_option maxRecDepth 100000 in
set_option maxHeartbeats 2000000 in
theorem first_bad (hs : rpStp.sl w D A n c l) (hs' : rpStp.sl w D' A' n' c' l') (hD : ∀ k, D k → k < w.heap.size) (hD' : ∀ k, D' k → k < w.heap.size) (he : e ≤ 18446744073709551615) (he' : e' ≤ 18446744073709551615) (hno : ¬ (POk (e, l) ∧ POk (e', l'))) :
    Calls Try.prog 23 #[.agg (prjV e A n c), .agg (prjV e' A' n' c')] w fun en w' => en = .returned (.tuple #[.int .u64 0, .bool false]) ∧ Below w.heap.size w w' := by
  by_cases h1 : POk (e, l)
  case neg =>
    have H1 := Lib.hid h1
    clear h1 hno
    have pa_0 := Lib.hid (blk21 w 25 25 (prjV e A n c) (prjV e' A' n' c'))
    have pb_0 := Lib.hid (blk22 w 25 25 (prjV e A n c) (prjV e' A' n' c'))
    have hb := below2 w (.cells (prjV e A n c) 25) (.cells (prjV e' A' n' c') 25)
    have BB_0 := Lib.hid hb
    have sa_0 := Lib.hid (keepS (show Sl rpStp w D A n c l from ⟨hs, hD⟩) hb)
    have sb_0 := Lib.hid (keepS (show Sl rpStp w D' A' n' c' l' from ⟨hs', hD'⟩) hb)
    clear hb hs hs' hD hD'
    go_enter Try.func23, Try.ntmps23
    go_wp2_with fail
    generalize World.alloc (World.alloc w _) _ = w0 at *
    have z_pa0_0 := (show Blk w0 w.heap.size 25 (prjV e A n c) from pa_0.out).cell 0
    have z_pa1_0 := (show Blk w0 w.heap.size 25 (prjV e A n c) from pa_0.out).cell 1
    have z_pb0_0 := (show Blk w0 (w.heap.size + 1) 25 (prjV e' A' n' c') from pb_0.out).cell 0
    have z_pb1_0 := (show Blk w0 (w.heap.size + 1) 25 (prjV e' A' n' c') from pb_0.out).cell 1
    go_wp2_with fail
    have hr := pright_any (sa_0.out).1 (sa_0.out).2 he
    rw [dec_false H1.out] at hr
    have HR := Lib.hid hr
    clear hr
    refine (HR.out).mono ?_; rintro en w1 ⟨rfl, hb⟩
    have pa_1 : Hid (Blk w1 w.heap.size 25 (prjV e A n c)) := keepB pa_0.out hb
    have pb_1 : Hid (Blk w1 (w.heap.size + 1) 25 (prjV e' A' n' c')) := keepB pb_0.out hb
    have sa_1 : Hid (Sl rpStp w1 D A n c l) := keepS sa_0.out hb
    have sb_1 : Hid (Sl rpStp w1 D' A' n' c' l') := keepS sb_0.out hb
    have BB_1 : Hid (Below w.heap.size w w1) := stepB BB_0.out hb
    clear z_pa0_0 z_pa1_0 z_pb0_0 z_pb1_0
    clear hb
    have z_pb0_1 := (show Blk w1 (w.heap.size + 1) 25 (prjV e' A' n' c') from pb_1.out).cell 0
    have z_pb1_1 := (show Blk w1 (w.heap.size + 1) 25 (prjV e' A' n' c') from pb_1.out).cell 1
    go_wp2_with fail
    go_ret2
    exact ⟨rfl, BB_1.out⟩
  case pos =>
    have HNO : Hid (¬ POk (e', l')) := fun h => hno ⟨h1, h⟩
    have H1 := Lib.hid h1
    clear h1 hno
    have pa_0 := Lib.hid (blk21 w 25 25 (prjV e A n c) (prjV e' A' n' c'))
    have pb_0 := Lib.hid (blk22 w 25 25 (prjV e A n c) (prjV e' A' n' c'))
    have hb := below2 w (.cells (prjV e A n c) 25) (.cells (prjV e' A' n' c') 25)
    have BB_0 := Lib.hid hb
    have sa_0 := Lib.hid (keepS (show Sl rpStp w D A n c l from ⟨hs, hD⟩) hb)
    have sb_0 := Lib.hid (keepS (show Sl rpStp w D' A' n' c' l' from ⟨hs', hD'⟩) hb)
    clear hb hs hs' hD hD'
    go_enter Try.func23, Try.ntmps23
    go_wp2_with fail
    generalize World.alloc (World.alloc w _) _ = w0 at *
    have z_pa0_0 := (show Blk w0 w.heap.size 25 (prjV e A n c) from pa_0.out).cell 0
    have z_pa1_0 := (show Blk w0 w.heap.size 25 (prjV e A n c) from pa_0.out).cell 1
    have z_pb0_0 := (show Blk w0 (w.heap.size + 1) 25 (prjV e' A' n' c') from pb_0.out).cell 0
    have z_pb1_0 := (show Blk w0 (w.heap.size + 1) 25 (prjV e' A' n' c') from pb_0.out).cell 1
    go_wp2_with fail
    have hr := pright_any (sa_0.out).1 (sa_0.out).2 he
    rw [dec_true H1.out] at hr
    have HR := Lib.hid hr
    clear hr
    refine (HR.out).mono ?_; rintro en w1 ⟨rfl, hb⟩
    have pa_1 : Hid (Blk w1 w.heap.size 25 (prjV e A n c)) := keepB pa_0.out hb
    have pb_1 : Hid (Blk w1 (w.heap.size + 1) 25 (prjV e' A' n' c')) := keepB pb_0.out hb
    have sa_1 : Hid (Sl rpStp w1 D A n c l) := keepS sa_0.out hb
    have sb_1 : Hid (Sl rpStp w1 D' A' n' c' l') := keepS sb_0.out hb
    have BB_1 : Hid (Below w.heap.size w w1) := stepB BB_0.out hb
    clear z_pa0_0 z_pa1_0 z_pb0_0 z_pb1_0
    clear hb
    have z_pb0_1 := (show Blk w1 (w.heap.size + 1) 25 (prjV e' A' n' c') from pb_1.out).cell 0
    have z_pb1_1 := (show Blk w1 (w.heap.size + 1) 25 (prjV e' A' n' c') from pb_1.out).cell 1
    go_wp2_with fail
    have hr := pright_any (sb_1.out).1 (sb_1.out).2 he'
    rw [dec_false HNO.out] at hr
    have HR2 := Lib.hid hr
    clear hr
    refine (HR2.out).mono ?_; rintro en w2 ⟨rfl, hb⟩
    have pa_2 : Hid (Blk w2 w.heap.size 25 (prjV e A n c)) := keepB pa_1.out hb
    have pb_2 : Hid (Blk w2 (w.heap.size + 1) 25 (prjV e' A' n' c')) := keepB pb_1.out hb
    have sa_2 : Hid (Sl rpStp w2 D A n c l) := keepS sa_1.out hb
    have sb_2 : Hid (Sl rpStp w2 D' A' n' c' l') := keepS sb_1.out hb
    have BB_2 : Hid (Below w.heap.size w w2) := stepB BB_1.out hb
    clear z_pb0_1 z_pb1_1
    clear hb
    go_wp2_with fail
    go_ret2
    exact ⟨rfl, BB_2.out⟩
set_option maxRecDepth 100000 in
set_option maxHeartbeats 4000000 in
theorem first_ok (hs : rpStp.sl w D A n c l) (hs' : rpStp.sl w D' A' n' c' l') (hD : ∀ k, D k → k < w.heap.size) (hD' : ∀ k, D' k → k < w.heap.size) (he : e ≤ 18446744073709551615) (he' : e' ≤ 18446744073709551615) (h1 : POk (e, l)) (h2 : POk (e', l')) :
    Calls Try.prog 23 #[.agg (prjV e A n c), .agg (prjV e' A' n' c')] w fun en w' => (∃ r ok, en = .returned (.tuple #[.int .u64 ((r : Nat) : Int), .bool ok]) ∧ FirstIs l l' r ok) ∧ Below w.heap.size w w' := by
  have H1 := Lib.hid h1
  have H2 := Lib.hid h2
  have hnn := (Rp.sl_len hs).2.2
  have hnn' := (Rp.sl_len hs').2.2
  have hln := (Rp.sl_len hs).1
  have hln' := (Rp.sl_len hs').1
  unfold maxLen at hnn hnn'
  have HLN := Lib.hid hln
  have HLN' := Lib.hid hln'
  clear h1 h2 hln hln'
  have pa_0 := Lib.hid (blk21 w 25 25 (prjV e A n c) (prjV e' A' n' c'))
  have pb_0 := Lib.hid (blk22 w 25 25 (prjV e A n c) (prjV e' A' n' c'))
  have hb := below2 w (.cells (prjV e A n c) 25) (.cells (prjV e' A' n' c') 25)
  have BB_0 := Lib.hid hb
  have sa_0 := Lib.hid (keepS (show Sl rpStp w D A n c l from ⟨hs, hD⟩) hb)
  have sb_0 := Lib.hid (keepS (show Sl rpStp w D' A' n' c' l' from ⟨hs', hD'⟩) hb)
  clear hb hs hs' hD hD'
  go_enter Try.func23, Try.ntmps23
  go_wp2_with fail
  generalize World.alloc (World.alloc w _) _ = w0 at *
  have z_pa0_0 := (show Blk w0 w.heap.size 25 (prjV e A n c) from pa_0.out).cell 0
  have z_pa1_0 := (show Blk w0 w.heap.size 25 (prjV e A n c) from pa_0.out).cell 1
  have z_pb0_0 := (show Blk w0 (w.heap.size + 1) 25 (prjV e' A' n' c') from pb_0.out).cell 0
  have z_pb1_0 := (show Blk w0 (w.heap.size + 1) 25 (prjV e' A' n' c') from pb_0.out).cell 1
  go_wp2_with fail
  have hr := pright_any (sa_0.out).1 (sa_0.out).2 he
  rw [dec_true H1.out] at hr
  have HR := Lib.hid hr
  clear hr
  refine (HR.out).mono ?_; rintro en w1 ⟨rfl, hb⟩
  have pa_1 : Hid (Blk w1 w.heap.size 25 (prjV e A n c)) := keepB pa_0.out hb
  have pb_1 : Hid (Blk w1 (w.heap.size + 1) 25 (prjV e' A' n' c')) := keepB pb_0.out hb
  have sa_1 : Hid (Sl rpStp w1 D A n c l) := keepS sa_0.out hb
  have sb_1 : Hid (Sl rpStp w1 D' A' n' c' l') := keepS sb_0.out hb
  have BB_1 : Hid (Below w.heap.size w w1) := stepB BB_0.out hb
  clear z_pa0_0 z_pa1_0 z_pb0_0 z_pb1_0
  clear hb
  have z_pb0_1 := (show Blk w1 (w.heap.size + 1) 25 (prjV e' A' n' c') from pb_1.out).cell 0
  have z_pb1_1 := (show Blk w1 (w.heap.size + 1) 25 (prjV e' A' n' c') from pb_1.out).cell 1
  go_wp2_with fail
  have hr := pright_any (sb_1.out).1 (sb_1.out).2 he'
  rw [dec_true H2.out] at hr
  have HR2 := Lib.hid hr
  clear hr
  refine (HR2.out).mono ?_; rintro en w2 ⟨rfl, hb⟩
  have pa_2 : Hid (Blk w2 w.heap.size 25 (prjV e A n c)) := keepB pa_1.out hb
  have pb_2 : Hid (Blk w2 (w.heap.size + 1) 25 (prjV e' A' n' c')) := keepB pb_1.out hb
  have sa_2 : Hid (Sl rpStp w2 D A n c l) := keepS sa_1.out hb
  have sb_2 : Hid (Sl rpStp w2 D' A' n' c' l') := keepS sb_1.out hb
  have BB_2 : Hid (Below w.heap.size w w2) := stepB BB_1.out hb
  clear z_pb0_1 z_pb1_1
  clear hb
  go_wp2_with fail
  go_loopw [6] (fun i wr => ∃ p : Nat, p ≤ 4611686018427387904 ∧ i = .int .u64 p ∧ Hid (∀ q, q < p → nodesAt l q = nodesAt l' q) ∧ Hid (Blk wr w.heap.size 25 (prjV e A n c)) ∧ Hid (Blk wr (w.heap.size + 1) 25 (prjV e' A' n' c')) ∧ Hid (Sl rpStp wr D A n c l) ∧ Hid (Sl rpStp wr D' A' n' c' l') ∧ Hid (Below w.heap.size w wr)) (fun i _ => 4611686018427387904 - (intOf i).toNat)
  case atStart => exact ⟨0, by omega, rfl, fun q h => by omega, pa_2.out, pb_2.out, sa_2.out, sb_2.out, BB_2.out⟩
  case round =>
    clear HR HR2 pa_0 pb_0 sa_0 sb_0 BB_0 pa_1 pb_1 sa_1 sb_1 BB_1 pa_2 pb_2 sa_2 sb_2 BB_2
    obtain ⟨p, hp, rfl, hsh, pa_100, pb_100, sa_100, sb_100, BB_100⟩ := hrel
    obtain ⟨w100, hw100⟩ : ∃ w100, w100 = wr := ⟨_, rfl⟩
    subst hw100
    have z_pa0_100 := (show Blk w100 w.heap.size 25 (prjV e A n c) from pa_100.out).cell 0
    have z_pa1_100 := (show Blk w100 w.heap.size 25 (prjV e A n c) from pa_100.out).cell 1
    have z_pb0_100 := (show Blk w100 (w.heap.size + 1) 25 (prjV e' A' n' c') from pb_100.out).cell 0
    have z_pb1_100 := (show Blk w100 (w.heap.size + 1) 25 (prjV e' A' n' c') from pb_100.out).cell 1
    have hpos := fun w => epos_any p w (by omega)
    by_cases hp2 : p < 4611686018427387904
    case neg =>
      have HPE := Lib.hid (show p = 4611686018427387904 by omega)
      rw [dec_false (show ¬ PosOk p from hp2)] at hpos
      have HPOS := Lib.hid hpos
      clear hpos hp2
      go_wp2_with fail
      refine (HPOS.out _).mono ?_; rintro en wx ⟨rfl, rfl⟩
      go_wp2_with fail
      go_ret2
      exact ⟨⟨0, false, rfl, .inr ⟨rfl, rfl, fun q hq => hsh.out q (by rw [HPE.out]; exact hq)⟩⟩, BB_100.out⟩
    case pos =>
      rw [dec_true (show PosOk p from hp2)] at hpos
      have HPOS := Lib.hid hpos
      clear hpos
      go_wp2_with fail
      refine (HPOS.out _).mono ?_; rintro en wx ⟨rfl, rfl⟩
      go_wp2_with fail
      refine (lstripe_any p (sa_100.out).1 (sa_100.out).2 he (by omega) H1.out hp2).mono ?_; rintro en w101 ⟨i, s, rfl, hin, hb⟩
      have HI := Lib.hid hin
      clear hin
      have pa_101 : Hid (Blk w101 w.heap.size 25 (prjV e A n c)) := keepB pa_100.out hb
      have pb_101 : Hid (Blk w101 (w.heap.size + 1) 25 (prjV e' A' n' c')) := keepB pb_100.out hb
      have sa_101 : Hid (Sl rpStp w101 D A n c l) := keepS sa_100.out hb
      have sb_101 : Hid (Sl rpStp w101 D' A' n' c' l') := keepS sb_100.out hb
      have BB_101 : Hid (Below w.heap.size w w101) := stepB BB_100.out hb
      clear z_pa0_100 z_pa1_100 z_pb0_100 z_pb1_100
      clear hb
      have z_pb0_101 := (show Blk w101 (w.heap.size + 1) 25 (prjV e' A' n' c') from pb_101.out).cell 0
      have z_pb1_101 := (show Blk w101 (w.heap.size + 1) 25 (prjV e' A' n' c') from pb_101.out).cell 1
      go_wp2_with fail
      refine (lstripe_any p (sb_101.out).1 (sb_101.out).2 he' (by omega) H2.out hp2).mono ?_; rintro en w102 ⟨k, t, rfl, hin, hb⟩
      have HK := Lib.hid hin
      clear hin
      have pa_102 : Hid (Blk w102 w.heap.size 25 (prjV e A n c)) := keepB pa_101.out hb
      have pb_102 : Hid (Blk w102 (w.heap.size + 1) 25 (prjV e' A' n' c')) := keepB pb_101.out hb
      have sa_102 : Hid (Sl rpStp w102 D A n c l) := keepS sa_101.out hb
      have sb_102 : Hid (Sl rpStp w102 D' A' n' c' l') := keepS sb_101.out hb
      have BB_102 : Hid (Below w.heap.size w w102) := stepB BB_101.out hb
      clear z_pb0_101 z_pb1_101
      clear hb
      have hi : i < n := by rw [← HLN.out]; exact (List.getElem?_eq_some_iff.1 HI.out.1).1
      have hk : k < n' := by rw [← HLN'.out]; exact (List.getElem?_eq_some_iff.1 HK.out.1).1
      obtain ⟨b1, o1, s', A1, c1, rfl, hb1, he1, x0, x1, x2, hr1, hf1, ht1⟩ := stps_at (sa_102.out).1 hi
      obtain rfl : s' = s := by have h := HI.out.1; rw [he1] at h; injection h
      obtain ⟨b2, o2, t', A2, c2, rfl, hb2, he2, y0, y1, y2, hr2, hf2, ht2⟩ := stps_at (sb_102.out).1 hk
      obtain rfl : t' = t := by have h := HK.out.1; rw [he2] at h; injection h
      have hb1l := (sa_102.out).2 _ hb1
      have hb2l := (sb_102.out).2 _ hb2
      have HE1 := Lib.hid he1
      have HE2 := Lib.hid he2
      have hi0 : (0 : Int) ≤ (i : Int) := by omega
      have hi1 : (i : Int) < (n : Int) := by omega
      have hk0 : (0 : Int) ≤ (k : Int) := by omega
      have hk1 : (k : Int) < (n' : Int) := by omega
      clear hb1 hb2 he1 he2 hr1 hr2
      have z_pa0_102 := (show Blk w102 w.heap.size 25 (prjV e (some ⟨b1, o1, none⟩) n c) from pa_102.out).cell 0
      have z_pa1_102 := (show Blk w102 w.heap.size 25 (prjV e (some ⟨b1, o1, none⟩) n c) from pa_102.out).cell 1
      have z_pb0_102 := (show Blk w102 (w.heap.size + 1) 25 (prjV e' (some ⟨b2, o2, none⟩) n' c') from pb_102.out).cell 0
      have z_pb1_102 := (show Blk w102 (w.heap.size + 1) 25 (prjV e' (some ⟨b2, o2, none⟩) n' c') from pb_102.out).cell 1
      have lu_pa_102 := (show Blk w102 w.heap.size 25 (prjV e (some ⟨b1, o1, none⟩) n c) from pa_102.out).lt
      have lu_pb_102 := (show Blk w102 (w.heap.size + 1) 25 (prjV e' (some ⟨b2, o2, none⟩) n' c') from pb_102.out).lt
      go_upto_region 7 with (fail)
      go_cut [11, 12] from 23 to 77 (fun x y wx => ∃ gx gy : Nat, x = .pointer (some ⟨gx, 0, none⟩) ∧ y = .pointer (some ⟨gy, 0, none⟩) ∧ Hid (Blk wx gx 31 (#[.int .u64 (s'.1 : Int), .int .u64 (s'.2.1 : Int), .slice A1 s'.2.2.length c1])) ∧ Hid (Blk wx gy 31 (#[.int .u64 (t'.1 : Int), .int .u64 (t'.2.1 : Int), .slice A2 t'.2.2.length c2])) ∧ Hid (Below w102.heap.size w102 wx))
      case first =>
        go_region_held3 (fun w' => w'.cell? ⟨w.heap.size, 1, none⟩ = some (.slice (some ⟨b1, o1, none⟩) n c) ∧ w'.cell? ⟨w.heap.size + 1, 1, none⟩ = some (.slice (some ⟨b2, o2, none⟩) n' c') ∧ w'.cell? ⟨b1, o1 + i * 3, none⟩ = some (.int .u64 (s'.1 : Int)) ∧ w'.cell? ⟨b1, o1 + i * 3 + 1, none⟩ = some (.int .u64 (s'.2.1 : Int)) ∧ w'.cell? ⟨b1, o1 + i * 3 + 2, none⟩ = some (.slice A1 s'.2.2.length c1) ∧ w'.cell? ⟨b2, o2 + k * 3, none⟩ = some (.int .u64 (t'.1 : Int)) ∧ w'.cell? ⟨b2, o2 + k * 3 + 1, none⟩ = some (.int .u64 (t'.2.1 : Int)) ∧ w'.cell? ⟨b2, o2 + k * 3 + 2, none⟩ = some (.slice A2 t'.2.2.length c2))
          (first | exact ⟨z_pa1_102, z_pb1_102, x0, x1, x2, y0, y1, y2⟩ | go_keep)
          (fail)
        · go_wp2_with fail
          go_meet
          exact ⟨_, _, rfl, rfl, blk21 _ _ _ _ _, blk22 _ _ _ _ _, (below2 _ _ _).drew⟩
        · go_wp2_with fail
          go_meet
          exact ⟨_, _, rfl, rfl, blk22 _ _ _ _ _, blk21 _ _ _ _ _, (below2 _ _ _).drew⟩
      case rest =>
        clear z_pa0_102 z_pa1_102 z_pb0_102 z_pb1_102 lu_pa_102 lu_pb_102
        clear x0 x1 x2 y0 y1 y2
        obtain ⟨gx, gy, rfl, rfl, bx, bz, hb⟩ := hcut
        have pa_103 : Hid (Blk wc w.heap.size 25 (prjV e (some ⟨b1, o1, none⟩) n c)) := keepB pa_102.out hb.out
        have pb_103 : Hid (Blk wc (w.heap.size + 1) 25 (prjV e' (some ⟨b2, o2, none⟩) n' c')) := keepB pb_102.out hb.out
        have sa_103 : Hid (Sl rpStp wc D (some ⟨b1, o1, none⟩) n c l) := keepS sa_102.out hb.out
        have sb_103 : Hid (Sl rpStp wc D' (some ⟨b2, o2, none⟩) n' c' l') := keepS sb_102.out hb.out
        have BB_103 : Hid (Below w.heap.size w wc) := stepB BB_102.out hb.out
        have px_103 : Hid (Blk wc gx 31 (#[.int .u64 (s'.1 : Int), .int .u64 (s'.2.1 : Int), .slice A1 s'.2.2.length c1])) := bx
        have pz_103 : Hid (Blk wc gy 31 (#[.int .u64 (t'.1 : Int), .int .u64 (t'.2.1 : Int), .slice A2 t'.2.2.length c2])) := bz
        clear bx bz hb
        have hso := inStripe_ok H1.out HI.out
        have hto := inStripe_ok H2.out HK.out
        have hsm : s'.2.1 ≤ 4611686018427387904 := hso.2.1
        have htm : t'.2.1 ≤ 4611686018427387904 := hto.2.1
        have hs8 : s'.2.2.length ≤ 8 := hso.2.2.2.1
        have ht8 : t'.2.2.length ≤ 8 := hto.2.2.2.1
        have hps : p < s'.2.1 := HI.out.2.2
        have hpt : p < t'.2.1 := HK.out.2.2
        obtain ⟨E, hE1, hE2, hE3⟩ : ∃ E, E ≤ s'.2.1 ∧ E ≤ t'.2.1 ∧ (E = s'.2.1 ∨ E = t'.2.1) := ⟨min s'.2.1 t'.2.1, Nat.min_le_left _ _, Nat.min_le_right _ _, by omega⟩
        obtain ⟨P, hP⟩ : ∃ P, P = s'.2.2.length * t'.2.2.length := ⟨_, rfl⟩
        have hP64 : P ≤ 64 := by rw [hP]; exact Nat.mul_le_mul hs8 ht8
        have HP := Lib.hid hP
        have HRO : Hid (∀ (A A' : Option Addr) (f t f' t2 c c' : Nat) (w : World), Calls Try.prog 82 #[.agg #[.int .u64 (f : Int), .int .u64 (t : Int), .slice A s'.2.2.length c], .agg #[.int .u64 (f' : Int), .int .u64 (t2 : Int), .slice A' t'.2.2.length c']] w fun en w' => en = .returned (.int .u64 (P : Int)) ∧ Below w.heap.size w w') := fun A A' f t f' t2 c c' w => by rw [HP.out]; exact rounds_any w hs8 ht8
        obtain ⟨M, hM1, hM2, hM3⟩ : ∃ M, M ≤ E ∧ M ≤ p + P ∧ (M = E ∨ M = p + P) := ⟨min E (p + P), Nat.min_le_left _ _, Nat.min_le_right _ _, by omega⟩
        have s3 : IntKind.u64.wrap ((p : Int) + (P : Int)) = (p : Int) + (P : Int) := IntWalk.u64_in _ (by omega)
        have HS1 := Lib.hid hso
        have HT1 := Lib.hid hto
        have HM3 := Lib.hid hM3
        have HPE : Hid (p < E) := (by omega : p < E)
        have HE1 := Lib.hid hE1
        have HE2 := Lib.hid hE2
        clear hP hso hto hM3
        have z_px1_103 := (show Blk wc gx 31 (#[.int .u64 (s'.1 : Int), .int .u64 (s'.2.1 : Int), .slice A1 s'.2.2.length c1]) from px_103.out).cell 1
        have z_pz1_103 := (show Blk wc gy 31 (#[.int .u64 (t'.1 : Int), .int .u64 (t'.2.1 : Int), .slice A2 t'.2.2.length c2]) from pz_103.out).cell 1
        go_upto_region 8 with (fail)
        go_cut [13] from 23 to 77 (fun x wx => x = .int .u64 (E : Int) ∧ wx = wc)
        case first =>
          by_cases hts : t'.2.1 < s'.2.1
          · have htI : (t'.2.1 : Int) < (s'.2.1 : Int) := by omega
            have hee : t'.2.1 = E := by omega
            go_wp2_with fail
            go_meet
            exact ⟨rfl, rfl⟩
          · have htI : ¬ (t'.2.1 : Int) < (s'.2.1 : Int) := by omega
            have hee : s'.2.1 = E := by omega
            go_wp2_with fail
            go_meet
            exact ⟨rfl, rfl⟩
        case rest =>
          obtain ⟨rfl, rfl⟩ := hcut
          clear z_px1_103 z_pz1_103
          clear hE3
          go_wp2_with fail
          go_loopw [14] (fun i wr => ∃ q : Nat, p ≤ q ∧ q ≤ M ∧ i = .int .u64 q ∧ Hid (∀ r, p ≤ r → r < q → nodesAt l r = nodesAt l' r) ∧ Hid (Blk wr w.heap.size 25 (prjV e (some ⟨b1, o1, none⟩) n c)) ∧ Hid (Blk wr (w.heap.size + 1) 25 (prjV e' (some ⟨b2, o2, none⟩) n' c')) ∧ Hid (Sl rpStp wr D (some ⟨b1, o1, none⟩) n c l) ∧ Hid (Sl rpStp wr D' (some ⟨b2, o2, none⟩) n' c' l') ∧ Hid (Blk wr gx 31 (#[.int .u64 (s'.1 : Int), .int .u64 (s'.2.1 : Int), .slice A1 s'.2.2.length c1])) ∧ Hid (Blk wr gy 31 (#[.int .u64 (t'.1 : Int), .int .u64 (t'.2.1 : Int), .slice A2 t'.2.2.length c2])) ∧ Hid (Below w.heap.size w wr)) (fun i _ => M - (intOf i).toNat)
          case atStart => exact ⟨p, Nat.le_refl _, by have := HM3.out; have := HPE.out; omega, rfl, fun r h h2 => by omega, pa_103.out, pb_103.out, sa_103.out, sb_103.out, px_103.out, pz_103.out, BB_103.out⟩
          case round =>
            clear pa_103 pb_103 sa_103 sb_103 px_103 pz_103 BB_103
            obtain ⟨q, hpq, hqM, rfl, hsh2, pa_200, pb_200, sa_200, sb_200, px_200, pz_200, BB_200⟩ := hrel
            obtain ⟨w200, hw200⟩ : ∃ w200, w200 = wr := ⟨_, rfl⟩
            subst hw200
            have z_px0_200 := (show Blk w200 gx 31 (#[.int .u64 (s'.1 : Int), .int .u64 (s'.2.1 : Int), .slice A1 s'.2.2.length c1]) from px_200.out).cell 0
            have z_px1_200 := (show Blk w200 gx 31 (#[.int .u64 (s'.1 : Int), .int .u64 (s'.2.1 : Int), .slice A1 s'.2.2.length c1]) from px_200.out).cell 1
            have z_px2_200 := (show Blk w200 gx 31 (#[.int .u64 (s'.1 : Int), .int .u64 (s'.2.1 : Int), .slice A1 s'.2.2.length c1]) from px_200.out).cell 2
            have z_pz0_200 := (show Blk w200 gy 31 (#[.int .u64 (t'.1 : Int), .int .u64 (t'.2.1 : Int), .slice A2 t'.2.2.length c2]) from pz_200.out).cell 0
            have z_pz1_200 := (show Blk w200 gy 31 (#[.int .u64 (t'.1 : Int), .int .u64 (t'.2.1 : Int), .slice A2 t'.2.2.length c2]) from pz_200.out).cell 1
            have z_pz2_200 := (show Blk w200 gy 31 (#[.int .u64 (t'.1 : Int), .int .u64 (t'.2.1 : Int), .slice A2 t'.2.2.length c2]) from pz_200.out).cell 2
            go_upto_region 10 with (fail)
            obtain ⟨bq, hbq⟩ : ∃ b : Bool, b = decide (q < M) := ⟨_, rfl⟩
            have HBQ := Lib.hid hbq
            clear hbq
            go_cut [61] from 53 to 76 (fun x wx => x = .bool bq ∧ Hid (Below w200.heap.size w200 wx))
            case first =>
              by_cases hPE : p + P < E
              · by_cases hqm : q < M
                · have hPI : (p : Int) + (P : Int) < (E : Int) := by omega
                  have hd : decide ((q : Int) < (p : Int) + (P : Int)) = true := by simp; have := HM3.out; omega
                  have hd2 : decide (q < p + P) = true := by simp; have := HM3.out; omega
                  have hr := decide_eq_true hqm
                  have HR0 := Lib.hid hr
                  clear hr hqm
                  go_wp2_with fail
                  refine (HRO.out _ _ _ _ _ _ _ _ _).mono ?_; rintro en w201 ⟨rfl, hb⟩
                  go_wp2_with fail
                  go_meet
                  exact ⟨by rw [HBQ.out, HR0.out], hb⟩
                · have hPI : (p : Int) + (P : Int) < (E : Int) := by omega
                  have hd : decide ((q : Int) < (p : Int) + (P : Int)) = false := by simp; have := HM3.out; omega
                  have hd2 : decide (q < p + P) = false := by simp; have := HM3.out; omega
                  have hr := decide_eq_false hqm
                  have HR0 := Lib.hid hr
                  clear hr hqm
                  go_wp2_with fail
                  refine (HRO.out _ _ _ _ _ _ _ _ _).mono ?_; rintro en w201 ⟨rfl, hb⟩
                  go_wp2_with fail
                  go_meet
                  exact ⟨by rw [HBQ.out, HR0.out], hb⟩
              · by_cases hqm : q < M
                · have hPI : ¬ (p : Int) + (P : Int) < (E : Int) := by omega
                  have hd : decide ((q : Int) < (E : Int)) = true := by simp; have := HM3.out; omega
                  have hd2 : decide (q < E) = true := by simp; have := HM3.out; omega
                  have hr := decide_eq_true hqm
                  have HR0 := Lib.hid hr
                  clear hr hqm
                  go_wp2_with fail
                  refine (HRO.out _ _ _ _ _ _ _ _ _).mono ?_; rintro en w201 ⟨rfl, hb⟩
                  go_wp2_with fail
                  go_meet
                  exact ⟨by rw [HBQ.out, HR0.out], hb⟩
                · have hPI : ¬ (p : Int) + (P : Int) < (E : Int) := by omega
                  have hd : decide ((q : Int) < (E : Int)) = false := by simp; have := HM3.out; omega
                  have hd2 : decide (q < E) = false := by simp; have := HM3.out; omega
                  have hr := decide_eq_false hqm
                  have HR0 := Lib.hid hr
                  clear hr hqm
                  go_wp2_with fail
                  refine (HRO.out _ _ _ _ _ _ _ _ _).mono ?_; rintro en w201 ⟨rfl, hb⟩
                  go_wp2_with fail
                  go_meet
                  exact ⟨by rw [HBQ.out, HR0.out], hb⟩
            case rest =>
              obtain ⟨rfl, hb⟩ := hcut
              clear z_px0_200 z_px1_200 z_px2_200 z_pz0_200 z_pz1_200 z_pz2_200
              have pa_201 : Hid (Blk wc w.heap.size 25 (prjV e (some ⟨b1, o1, none⟩) n c)) := keepB pa_200.out hb.out
              have pb_201 : Hid (Blk wc (w.heap.size + 1) 25 (prjV e' (some ⟨b2, o2, none⟩) n' c')) := keepB pb_200.out hb.out
              have sa_201 : Hid (Sl rpStp wc D (some ⟨b1, o1, none⟩) n c l) := keepS sa_200.out hb.out
              have sb_201 : Hid (Sl rpStp wc D' (some ⟨b2, o2, none⟩) n' c' l') := keepS sb_200.out hb.out
              have px_201 : Hid (Blk wc gx 31 (#[.int .u64 (s'.1 : Int), .int .u64 (s'.2.1 : Int), .slice A1 s'.2.2.length c1])) := keepB px_200.out hb.out
              have pz_201 : Hid (Blk wc gy 31 (#[.int .u64 (t'.1 : Int), .int .u64 (t'.2.1 : Int), .slice A2 t'.2.2.length c2])) := keepB pz_200.out hb.out
              have BB_201 : Hid (Below w.heap.size w wc) := stepB BB_200.out hb.out
              clear hb
              cases bq
              case false =>
                have hqm : ¬ q < M := of_decide_eq_false HBQ.out.symm
                have hqe : q = M := by omega
                have HQE := Lib.hid hqe
                clear hqe hqm
                go_wp2_with fail
                go_roundw
                case rel =>
                  refine ⟨E, by omega, rfl, fun r hr => ?_, pa_201.out, pb_201.out, sa_201.out, sb_201.out, BB_201.out⟩
                  rcases Nat.lt_or_ge r p with h | h
                  · exact hsh.out r h
                  · refine moved_period H1.out H2.out HI.out HK.out HE1.out HE2.out (fun x h1 h2 h3 => hsh2.out x h1 ?_) r h hr
                    rw [HQE.out]
                    rw [← HP.out] at h3
                    have := HM3.out
                    omega
                case measure => have := HPE.out; simp [intOf]; omega
              case true =>
                have hqm : q < M := of_decide_eq_true HBQ.out.symm
                have hinA := inStripe_to HI.out hpq (show q < s'.2.1 by omega)
                have hinB := inStripe_to HK.out hpq (show q < t'.2.1 by omega)
                have HIA := Lib.hid hinA
                have HIB := Lib.hid hinB
                clear hinA hinB
                have z_pa0_201 := (show Blk wc w.heap.size 25 (prjV e (some ⟨b1, o1, none⟩) n c) from pa_201.out).cell 0
                have z_pa1_201 := (show Blk wc w.heap.size 25 (prjV e (some ⟨b1, o1, none⟩) n c) from pa_201.out).cell 1
                have z_pb0_201 := (show Blk wc (w.heap.size + 1) 25 (prjV e' (some ⟨b2, o2, none⟩) n' c') from pb_201.out).cell 0
                have z_pb1_201 := (show Blk wc (w.heap.size + 1) 25 (prjV e' (some ⟨b2, o2, none⟩) n' c') from pb_201.out).cell 1
                go_wp2_with fail
                have HPA : Hid (∀ w', Below wc.heap.size wc w' → Calls Try.prog 84 #[.agg (prjV e (some ⟨b1, o1, none⟩) n c), .int .i64 (i : Int), .int .u64 (q : Int)] w' (PlacePost l q i w')) := fun w' hb => place_any q (keepS sa_201.out hb).1 (keepS sa_201.out hb).2 (by omega) HIA.out HS1.out
                have HPB : Hid (∀ w', Below wc.heap.size wc w' → Calls Try.prog 84 #[.agg (prjV e' (some ⟨b2, o2, none⟩) n' c'), .int .i64 (k : Int), .int .u64 (q : Int)] w' (PlacePost l' q k w')) := fun w' hb => place_any q (keepS sb_201.out hb).1 (keepS sb_201.out hb).2 (by omega) HIB.out HT1.out
                have HCK : Hid (∀ w', Below wc.heap.size wc w' → w'.cell? ⟨w.heap.size, 0, none⟩ = some (.int .u64 (e : Int)) ∧ w'.cell? ⟨w.heap.size, 1, none⟩ = some (.slice (some ⟨b1, o1, none⟩) n c) ∧ w'.cell? ⟨w.heap.size + 1, 0, none⟩ = some (.int .u64 (e' : Int)) ∧ w'.cell? ⟨w.heap.size + 1, 1, none⟩ = some (.slice (some ⟨b2, o2, none⟩) n' c')) := fun w' hb => ⟨(keepB (show Blk wc w.heap.size 25 (prjV e (some ⟨b1, o1, none⟩) n c) from pa_201.out) hb).cell 0, (keepB (show Blk wc w.heap.size 25 (prjV e (some ⟨b1, o1, none⟩) n c) from pa_201.out) hb).cell 1, (keepB (show Blk wc (w.heap.size + 1) 25 (prjV e' (some ⟨b2, o2, none⟩) n' c') from pb_201.out) hb).cell 0, (keepB (show Blk wc (w.heap.size + 1) 25 (prjV e' (some ⟨b2, o2, none⟩) n' c') from pb_201.out) hb).cell 1⟩
                by_cases hnn2 : nodesAt l q = nodesAt l' q
                case neg =>
                  have HNN := Lib.hid hnn2
                  clear hnn2
                  go_region_held3 (fun w' => w'.cell? ⟨w.heap.size, 0, none⟩ = some (.int .u64 (e : Int)) ∧ w'.cell? ⟨w.heap.size, 1, none⟩ = some (.slice (some ⟨b1, o1, none⟩) n c) ∧ w'.cell? ⟨w.heap.size + 1, 0, none⟩ = some (.int .u64 (e' : Int)) ∧ w'.cell? ⟨w.heap.size + 1, 1, none⟩ = some (.slice (some ⟨b2, o2, none⟩) n' c'))
                    (first | exact HCK.out _ HBY.out | exact HCK.out _ HBZ.out | exact HCK.out _ HBA.out | exact HCK.out _ HBB.out | exact HCK.out _ (Below.refl _ _) | exact HCK.out _ (Below.refl _ _).drew | go_keep)
                    (first
                      | (go_at_call 84; refine (HPA.out _ HBB.out).mono ?_; rintro en wz ⟨Ka, Na, nda, Aa, na, ca, Da, rfl, hpl, hsl, hdl, hb⟩; have HBZ : Hid (Below wc.heap.size wc wz) := stepB HBB.out hb; have HSA : Hid (Sl rpU64 wz Da Aa na ca nda) := ⟨hsl, fun k hk => (hdl k hk).2⟩; have HSB := Lib.hid (keepS HSB0.out hb); have HPLA := Lib.hid hpl; have hfa := fld3 i Ka Na na ca Aa; clear hpl hsl hdl hb)
                      | (go_at_call 84; refine (HPB.out _ HBA.out).mono ?_; rintro en wz ⟨Kb, Nb, ndb, Ab, nb, cb, Db, rfl, hpl, hsl, hdl, hb⟩; have HBZ : Hid (Below wc.heap.size wc wz) := stepB HBA.out hb; have HSB : Hid (Sl rpU64 wz Db Ab nb cb ndb) := ⟨hsl, fun k hk => (hdl k hk).2⟩; have HSA := Lib.hid (keepS HSA0.out hb); have HPLB := Lib.hid hpl; have hfb := fld3 k Kb Nb nb cb Ab; clear hpl hsl hdl hb)
                      | (go_at_call 84; refine (HPA.out _ (Below.refl _ _).drew).mono ?_; rintro en wa ⟨Ka, Na, nda, Aa, na, ca, Da, rfl, hpl, hsl, hdl, hb⟩; have HBA : Hid (Below wc.heap.size wc wa) := ⟨hb.os, hb.tape, hb.output, hb.size, hb.block⟩; have HSA0 : Hid (Sl rpU64 wa Da Aa na ca nda) := ⟨hsl, fun k hk => (hdl k hk).2⟩; have HPLA := Lib.hid hpl; have hfa := fld3 i Ka Na na ca Aa; clear hpl hsl hdl hb)
                      | (go_at_call 84; refine (HPB.out _ (Below.refl _ _).drew).mono ?_; rintro en wa ⟨Kb, Nb, ndb, Ab, nb, cb, Db, rfl, hpl, hsl, hdl, hb⟩; have HBB : Hid (Below wc.heap.size wc wa) := ⟨hb.os, hb.tape, hb.output, hb.size, hb.block⟩; have HSB0 : Hid (Sl rpU64 wa Db Ab nb cb ndb) := ⟨hsl, fun k hk => (hdl k hk).2⟩; have HPLB := Lib.hid hpl; have hfb := fld3 k Kb Nb nb cb Ab; clear hpl hsl hdl hb)
                      | (go_at_call 83; have heq := eq64_any HSA.out.1 HSB.out.1 HSA.out.2 HSB.out.2; rw [dec_false (by rw [← place_nodes H1.out HPLA.out, ← place_nodes H2.out HPLB.out]; exact HNN.out)] at heq; refine heq.mono ?_; rintro en wy ⟨rfl, hb⟩; have HBY : Hid (Below wc.heap.size wc wy) := stepB HBZ.out hb; clear hb heq))
                  · go_wp2_with fail
                    go_ret2
                    refine ⟨⟨q, true, rfl, .inl ⟨rfl, by omega, HNN.out, fun r hr => ?_⟩⟩, stepB BB_201.out HBY.out⟩
                    rcases Nat.lt_or_ge r p with h | h
                    · exact hsh.out r h
                    · exact hsh2.out r h hr
                case pos =>
                  have HNN := Lib.hid hnn2
                  clear hnn2
                  go_region_held3 (fun w' => w'.cell? ⟨w.heap.size, 0, none⟩ = some (.int .u64 (e : Int)) ∧ w'.cell? ⟨w.heap.size, 1, none⟩ = some (.slice (some ⟨b1, o1, none⟩) n c) ∧ w'.cell? ⟨w.heap.size + 1, 0, none⟩ = some (.int .u64 (e' : Int)) ∧ w'.cell? ⟨w.heap.size + 1, 1, none⟩ = some (.slice (some ⟨b2, o2, none⟩) n' c'))
                    (first | exact HCK.out _ HBY.out | exact HCK.out _ HBZ.out | exact HCK.out _ HBA.out | exact HCK.out _ HBB.out | exact HCK.out _ (Below.refl _ _) | exact HCK.out _ (Below.refl _ _).drew | go_keep)
                    (first
                      | (go_at_call 84; refine (HPA.out _ HBB.out).mono ?_; rintro en wz ⟨Ka, Na, nda, Aa, na, ca, Da, rfl, hpl, hsl, hdl, hb⟩; have HBZ : Hid (Below wc.heap.size wc wz) := stepB HBB.out hb; have HSA : Hid (Sl rpU64 wz Da Aa na ca nda) := ⟨hsl, fun k hk => (hdl k hk).2⟩; have HSB := Lib.hid (keepS HSB0.out hb); have HPLA := Lib.hid hpl; have hfa := fld3 i Ka Na na ca Aa; clear hpl hsl hdl hb)
                      | (go_at_call 84; refine (HPB.out _ HBA.out).mono ?_; rintro en wz ⟨Kb, Nb, ndb, Ab, nb, cb, Db, rfl, hpl, hsl, hdl, hb⟩; have HBZ : Hid (Below wc.heap.size wc wz) := stepB HBA.out hb; have HSB : Hid (Sl rpU64 wz Db Ab nb cb ndb) := ⟨hsl, fun k hk => (hdl k hk).2⟩; have HSA := Lib.hid (keepS HSA0.out hb); have HPLB := Lib.hid hpl; have hfb := fld3 k Kb Nb nb cb Ab; clear hpl hsl hdl hb)
                      | (go_at_call 84; refine (HPA.out _ (Below.refl _ _).drew).mono ?_; rintro en wa ⟨Ka, Na, nda, Aa, na, ca, Da, rfl, hpl, hsl, hdl, hb⟩; have HBA : Hid (Below wc.heap.size wc wa) := ⟨hb.os, hb.tape, hb.output, hb.size, hb.block⟩; have HSA0 : Hid (Sl rpU64 wa Da Aa na ca nda) := ⟨hsl, fun k hk => (hdl k hk).2⟩; have HPLA := Lib.hid hpl; have hfa := fld3 i Ka Na na ca Aa; clear hpl hsl hdl hb)
                      | (go_at_call 84; refine (HPB.out _ (Below.refl _ _).drew).mono ?_; rintro en wa ⟨Kb, Nb, ndb, Ab, nb, cb, Db, rfl, hpl, hsl, hdl, hb⟩; have HBB : Hid (Below wc.heap.size wc wa) := ⟨hb.os, hb.tape, hb.output, hb.size, hb.block⟩; have HSB0 : Hid (Sl rpU64 wa Db Ab nb cb ndb) := ⟨hsl, fun k hk => (hdl k hk).2⟩; have HPLB := Lib.hid hpl; have hfb := fld3 k Kb Nb nb cb Ab; clear hpl hsl hdl hb)
                      | (go_at_call 83; have heq := eq64_any HSA.out.1 HSB.out.1 HSA.out.2 HSB.out.2; rw [dec_true (by rw [← place_nodes H1.out HPLA.out, ← place_nodes H2.out HPLB.out]; exact HNN.out)] at heq; refine heq.mono ?_; rintro en wy ⟨rfl, hb⟩; have HBY : Hid (Below wc.heap.size wc wy) := stepB HBZ.out hb; clear hb heq))
                  · go_wp2_with fail
                    go_roundw
                    case rel =>
                      refine ⟨q + 1, by omega, by omega, by go_num, fun r h1 h2 => ?_, keepB pa_201.out HBY.out, keepB pb_201.out HBY.out, keepS sa_201.out HBY.out, keepS sb_201.out HBY.out, keepB px_201.out HBY.out, keepB pz_201.out HBY.out, stepB BB_201.out HBY.out⟩
                      rcases Nat.lt_or_ge r q with h | h
                      · exact hsh2.out r h1 h
                      · obtain rfl : r = q := by omega
                        exact HNN.out
                    case measure => simp [intOf]; omega
end
end Go.Proofs.Ytmdgmnaaopineaa
