/- locate.At in all ways; locate.Moved. -/
import Derived.Test.YtmdgmnaaopineaaLocE
import Derived.Test.YtmdgmnaaopineaaLocMv
namespace Go.Proofs.Ytmdgmnaaopineaa
open Go.ChangeShapes Go.WideShapes Go.ChangeAt Go.RowKit
set_option linter.unusedVariables false
def AtAny (l : List Stp) (e x : Nat) (w : World) (en : Ending) (w' : World) : Prop :=
  ∃ (r K N : Nat) (nd : List Nat) (A2 : Option Addr) (n2 c2 : Nat) (D2 : Dom) (cd : Int), en = .returned (.tuple #[.agg #[.int .i64 (r : Int), .int .i64 (K : Int), .int .u64 (N : Int), .slice A2 n2 c2], .int .i64 cd]) ∧ (cd = 0 → POk (e, l) ∧ PosOk x ∧ nodesAt l x = nd) ∧ (cd ≠ 0 → ¬ (POk (e, l) ∧ PosOk x)) ∧ Sl rpU64 w' D2 A2 n2 c2 nd ∧ Below w.heap.size w w'
section
variable {D D' : Dom} {A A' : Option Addr} {n c e n' c' e' : Nat} {l l' : List Stp} {w : World}
theorem at_any (x : Nat) (hs : rpStp.sl w D A n c l) (hD : ∀ k, D k → k < w.heap.size) (he : e ≤ 18446744073709551615) (hx : x ≤ 18446744073709551615) :
    Calls Try.prog 24 #[.agg (prjV e A n c), .int .u64 (x : Int)] w (AtAny l e x w) := by
  by_cases hok : POk (e, l)
  · by_cases hpo : PosOk x
    · refine (at_ok x hs hD he hx hok hpo).mono ?_
      rintro en w' ⟨r, K, N, nd, A2, n2, c2, D2, rfl, hpl, hsl, hd, hb⟩
      exact ⟨r, K, N, nd, A2, n2, c2, D2, 0, rfl, fun _ => ⟨hok, hpo, place_nodes hok hpl⟩, fun h => absurd rfl h, ⟨hsl, fun k hk => (hd k hk).2⟩, hb⟩
    · refine (at_bad x 17 hs hD he hx (.inr ⟨hok, hpo, rfl⟩)).mono ?_
      rintro en w' ⟨rfl, hb⟩
      exact ⟨0, 0, 0, [], none, 0, 0, fun _ => False, 17, rfl, fun h => absurd h (by decide), fun _ h => hpo h.2, ⟨Rp.sl_nil _ _ _ _ _ (by decide), fun k hk => hk.elim⟩, hb⟩
  · refine (at_bad x 3 hs hD he hx (.inl ⟨hok, rfl⟩)).mono ?_
    rintro en w' ⟨rfl, hb⟩
    exact ⟨0, 0, 0, [], none, 0, 0, fun _ => False, 3, rfl, fun h => absurd h (by decide), fun _ h => hok h.1, ⟨Rp.sl_nil _ _ _ _ _ (by decide), fun k hk => hk.elim⟩, hb⟩
def MovedIs (l l' : List Stp) (e e' x : Nat) : Prop := (POk (e, l) ∧ PosOk x) ∧ POk (e', l') ∧ nodesAt l x ≠ nodesAt l' x
set_option maxRecDepth 100000 in
set_option maxHeartbeats 2000000 in
theorem moved_any (x : Nat) (hs : rpStp.sl w D A n c l) (hs' : rpStp.sl w D' A' n' c' l') (hD : ∀ k, D k → k < w.heap.size) (hD' : ∀ k, D' k → k < w.heap.size) (he : e ≤ 18446744073709551615) (he' : e' ≤ 18446744073709551615) (hx : x ≤ 18446744073709551615) :
    Calls Try.prog 25 #[.agg (prjV e A n c), .agg (prjV e' A' n' c'), .int .u64 (x : Int)] w fun en w' => en = .returned (.bool (dec (MovedIs l l' e e' x))) ∧ Below w.heap.size w w' := by
  have pa_0 := Lib.hid (blk21 w 25 25 (prjV e A n c) (prjV e' A' n' c'))
  have pb_0 := Lib.hid (blk22 w 25 25 (prjV e A n c) (prjV e' A' n' c'))
  have hb := below2 w (.cells (prjV e A n c) 25) (.cells (prjV e' A' n' c') 25)
  have BB_0 := Lib.hid hb
  have sa_0 := Lib.hid (keepS (show Sl rpStp w D A n c l from ⟨hs, hD⟩) hb)
  have sb_0 := Lib.hid (keepS (show Sl rpStp w D' A' n' c' l' from ⟨hs', hD'⟩) hb)
  clear hb hs hs' hD hD'
  go_enter Try.func25, Try.ntmps25
  go_wp2_with fail
  generalize World.alloc (World.alloc w _) _ = w0 at *
  have z_pa0_0 := (show Blk w0 w.heap.size 25 (prjV e A n c) from pa_0.out).cell 0
  have z_pa1_0 := (show Blk w0 w.heap.size 25 (prjV e A n c) from pa_0.out).cell 1
  have z_pb0_0 := (show Blk w0 (w.heap.size + 1) 25 (prjV e' A' n' c') from pb_0.out).cell 0
  have z_pb1_0 := (show Blk w0 (w.heap.size + 1) 25 (prjV e' A' n' c') from pb_0.out).cell 1
  go_wp2_with fail
  refine (at_any x (sa_0.out).1 (sa_0.out).2 he hx).mono ?_; rintro en w1 ⟨r1, K1, N1, nd1, A1, n1, c1, D1, cd1, rfl, ok1, no1, hs1, hb⟩
  have OK1 := Lib.hid ok1
  have NO1 := Lib.hid no1
  clear ok1 no1
  have pa_1 : Hid (Blk w1 w.heap.size 25 (prjV e A n c)) := keepB pa_0.out hb
  have pb_1 : Hid (Blk w1 (w.heap.size + 1) 25 (prjV e' A' n' c')) := keepB pb_0.out hb
  have sa_1 : Hid (Sl rpStp w1 D A n c l) := keepS sa_0.out hb
  have sb_1 : Hid (Sl rpStp w1 D' A' n' c' l') := keepS sb_0.out hb
  have BB_1 : Hid (Below w.heap.size w w1) := stepB BB_0.out hb
  have n1_1 : Hid (Sl rpU64 w1 D1 A1 n1 c1 nd1) := hs1
  clear z_pa0_0 z_pa1_0 z_pb0_0 z_pb1_0
  clear hb
  clear hs1
  have z_pb0_1 := (show Blk w1 (w.heap.size + 1) 25 (prjV e' A' n' c') from pb_1.out).cell 0
  have z_pb1_1 := (show Blk w1 (w.heap.size + 1) 25 (prjV e' A' n' c') from pb_1.out).cell 1
  have lu_pb_1 := (show Blk w1 (w.heap.size + 1) 25 (prjV e' A' n' c') from pb_1.out).lt
  go_wp2_with fail
  have hb : Below w1.heap.size w1 (w1.alloc (.cells (#[.int .i64 (r1 : Int), .int .i64 (K1 : Int), .int .u64 (N1 : Int), .slice A1 n1 c1]) 48)) := below1 _ (.cells (#[.int .i64 (r1 : Int), .int .i64 (K1 : Int), .int .u64 (N1 : Int), .slice A1 n1 c1]) 48)
  have pa_2 : Hid (Blk (w1.alloc (.cells (#[.int .i64 (r1 : Int), .int .i64 (K1 : Int), .int .u64 (N1 : Int), .slice A1 n1 c1]) 48)) w.heap.size 25 (prjV e A n c)) := keepB pa_1.out hb
  have pb_2 : Hid (Blk (w1.alloc (.cells (#[.int .i64 (r1 : Int), .int .i64 (K1 : Int), .int .u64 (N1 : Int), .slice A1 n1 c1]) 48)) (w.heap.size + 1) 25 (prjV e' A' n' c')) := keepB pb_1.out hb
  have sa_2 : Hid (Sl rpStp (w1.alloc (.cells (#[.int .i64 (r1 : Int), .int .i64 (K1 : Int), .int .u64 (N1 : Int), .slice A1 n1 c1]) 48)) D A n c l) := keepS sa_1.out hb
  have sb_2 : Hid (Sl rpStp (w1.alloc (.cells (#[.int .i64 (r1 : Int), .int .i64 (K1 : Int), .int .u64 (N1 : Int), .slice A1 n1 c1]) 48)) D' A' n' c' l') := keepS sb_1.out hb
  have n1_2 : Hid (Sl rpU64 (w1.alloc (.cells (#[.int .i64 (r1 : Int), .int .i64 (K1 : Int), .int .u64 (N1 : Int), .slice A1 n1 c1]) 48)) D1 A1 n1 c1 nd1) := keepS n1_1.out hb
  have BB_2 : Hid (Below w.heap.size w (w1.alloc (.cells (#[.int .i64 (r1 : Int), .int .i64 (K1 : Int), .int .u64 (N1 : Int), .slice A1 n1 c1]) 48))) := stepB BB_1.out hb
  have sz_1 := BB_1.out.size
  have p1_2 : Hid (Blk (w1.alloc (.cells (#[.int .i64 (r1 : Int), .int .i64 (K1 : Int), .int .u64 (N1 : Int), .slice A1 n1 c1]) 48)) w1.heap.size 48 (#[.int .i64 (r1 : Int), .int .i64 (K1 : Int), .int .u64 (N1 : Int), .slice A1 n1 c1])) := blk11 _ _ _
  clear hb
  generalize hg1 : w1.heap.size = g1 at *
  generalize World.alloc w1 _ = w2 at *
  clear z_pb0_1 z_pb1_1 lu_pb_1
  refine (at_any x (sb_2.out).1 (sb_2.out).2 he' hx).mono ?_; rintro en w3 ⟨r2, K2, N2, nd2, A2, n2, c2, D2, cd2, rfl, ok2, no2, hs2, hb⟩
  have OK2 := Lib.hid ok2
  have NO2 := Lib.hid no2
  clear ok2 no2
  have pa_3 : Hid (Blk w3 w.heap.size 25 (prjV e A n c)) := keepB pa_2.out hb
  have pb_3 : Hid (Blk w3 (w.heap.size + 1) 25 (prjV e' A' n' c')) := keepB pb_2.out hb
  have sa_3 : Hid (Sl rpStp w3 D A n c l) := keepS sa_2.out hb
  have sb_3 : Hid (Sl rpStp w3 D' A' n' c' l') := keepS sb_2.out hb
  have n1_3 : Hid (Sl rpU64 w3 D1 A1 n1 c1 nd1) := keepS n1_2.out hb
  have p1_3 : Hid (Blk w3 g1 48 (#[.int .i64 (r1 : Int), .int .i64 (K1 : Int), .int .u64 (N1 : Int), .slice A1 n1 c1])) := keepB p1_2.out hb
  have BB_3 : Hid (Below w.heap.size w w3) := stepB BB_2.out hb
  have n2_3 : Hid (Sl rpU64 w3 D2 A2 n2 c2 nd2) := hs2
  clear hb
  clear hs2
  by_cases h1 : cd1 = 0
  case neg =>
    have lu_p1_3 := (show Blk w3 g1 48 (#[.int .i64 (r1 : Int), .int .i64 (K1 : Int), .int .u64 (N1 : Int), .slice A1 n1 c1]) from p1_3.out).lt
    have q1 : (cd1 == 0) = false := by simpa using h1
    have hr : ¬ MovedIs l l' e e' x := fun h => NO1.out h1 h.1
    have HR := Lib.hid hr
    clear hr h1
    have z_p13_3 := (show Blk w3 g1 48 (#[.int .i64 (r1 : Int), .int .i64 (K1 : Int), .int .u64 (N1 : Int), .slice A1 n1 c1]) from p1_3.out).cell 3
    go_wp2_with fail
    go_ret
    exact ⟨by rw [dec_false HR.out]; rfl, stepB BB_3.out (below1 _ _)⟩
  case pos =>
    by_cases h2 : cd2 = 0
    case neg =>
      have lu_p1_3 := (show Blk w3 g1 48 (#[.int .i64 (r1 : Int), .int .i64 (K1 : Int), .int .u64 (N1 : Int), .slice A1 n1 c1]) from p1_3.out).lt
      have q1 : (cd1 == 0) = true := by simpa using h1
      have q2 : (cd2 == 0) = false := by simpa using h2
      have hr : ¬ MovedIs l l' e e' x := fun h => NO2.out h2 ⟨h.2.1, h.1.2⟩
      have HR := Lib.hid hr
      clear hr h1 h2
      have z_p13_3 := (show Blk w3 g1 48 (#[.int .i64 (r1 : Int), .int .i64 (K1 : Int), .int .u64 (N1 : Int), .slice A1 n1 c1]) from p1_3.out).cell 3
      go_wp2_with fail
      go_ret
      exact ⟨by rw [dec_false HR.out]; rfl, stepB BB_3.out (below1 _ _)⟩
    case pos =>
      have lu_p1_3 := (show Blk w3 g1 48 (#[.int .i64 (r1 : Int), .int .i64 (K1 : Int), .int .u64 (N1 : Int), .slice A1 n1 c1]) from p1_3.out).lt
      have q1 : (cd1 == 0) = true := by simpa using h1
      have q2 : (cd2 == 0) = true := by simpa using h2
      have hr : MovedIs l l' e e' x ↔ nd1 ≠ nd2 := by
        have t1 := OK1.out h1
        have t2 := OK2.out h2
        exact ⟨fun h hn => h.2.2 (by rw [t1.2.2, t2.2.2, hn]), fun h => ⟨⟨t1.1, t1.2.1⟩, t2.1, by rw [t1.2.2, t2.2.2]; exact h⟩⟩
      have HR := Lib.hid hr
      clear hr h1 h2
      have z_p13_3 := (show Blk w3 g1 48 (#[.int .i64 (r1 : Int), .int .i64 (K1 : Int), .int .u64 (N1 : Int), .slice A1 n1 c1]) from p1_3.out).cell 3
      go_wp2_with fail
      have hb : Below w3.heap.size w3 (w3.alloc (.cells (#[.int .i64 (r2 : Int), .int .i64 (K2 : Int), .int .u64 (N2 : Int), .slice A2 n2 c2]) 48)) := below1 _ (.cells (#[.int .i64 (r2 : Int), .int .i64 (K2 : Int), .int .u64 (N2 : Int), .slice A2 n2 c2]) 48)
      have pa_4 : Hid (Blk (w3.alloc (.cells (#[.int .i64 (r2 : Int), .int .i64 (K2 : Int), .int .u64 (N2 : Int), .slice A2 n2 c2]) 48)) w.heap.size 25 (prjV e A n c)) := keepB pa_3.out hb
      have pb_4 : Hid (Blk (w3.alloc (.cells (#[.int .i64 (r2 : Int), .int .i64 (K2 : Int), .int .u64 (N2 : Int), .slice A2 n2 c2]) 48)) (w.heap.size + 1) 25 (prjV e' A' n' c')) := keepB pb_3.out hb
      have sa_4 : Hid (Sl rpStp (w3.alloc (.cells (#[.int .i64 (r2 : Int), .int .i64 (K2 : Int), .int .u64 (N2 : Int), .slice A2 n2 c2]) 48)) D A n c l) := keepS sa_3.out hb
      have sb_4 : Hid (Sl rpStp (w3.alloc (.cells (#[.int .i64 (r2 : Int), .int .i64 (K2 : Int), .int .u64 (N2 : Int), .slice A2 n2 c2]) 48)) D' A' n' c' l') := keepS sb_3.out hb
      have n1_4 : Hid (Sl rpU64 (w3.alloc (.cells (#[.int .i64 (r2 : Int), .int .i64 (K2 : Int), .int .u64 (N2 : Int), .slice A2 n2 c2]) 48)) D1 A1 n1 c1 nd1) := keepS n1_3.out hb
      have p1_4 : Hid (Blk (w3.alloc (.cells (#[.int .i64 (r2 : Int), .int .i64 (K2 : Int), .int .u64 (N2 : Int), .slice A2 n2 c2]) 48)) g1 48 (#[.int .i64 (r1 : Int), .int .i64 (K1 : Int), .int .u64 (N1 : Int), .slice A1 n1 c1])) := keepB p1_3.out hb
      have n2_4 : Hid (Sl rpU64 (w3.alloc (.cells (#[.int .i64 (r2 : Int), .int .i64 (K2 : Int), .int .u64 (N2 : Int), .slice A2 n2 c2]) 48)) D2 A2 n2 c2 nd2) := keepS n2_3.out hb
      have BB_4 : Hid (Below w.heap.size w (w3.alloc (.cells (#[.int .i64 (r2 : Int), .int .i64 (K2 : Int), .int .u64 (N2 : Int), .slice A2 n2 c2]) 48))) := stepB BB_3.out hb
      have sz_3 := BB_3.out.size
      have p2_4 : Hid (Blk (w3.alloc (.cells (#[.int .i64 (r2 : Int), .int .i64 (K2 : Int), .int .u64 (N2 : Int), .slice A2 n2 c2]) 48)) w3.heap.size 48 (#[.int .i64 (r2 : Int), .int .i64 (K2 : Int), .int .u64 (N2 : Int), .slice A2 n2 c2])) := blk11 _ _ _
      clear hb
      generalize hg2 : w3.heap.size = g2 at *
      generalize World.alloc w3 _ = w4 at *
      clear lu_p1_3 z_p13_3
      have z_p13_4 := (show Blk w4 g1 48 (#[.int .i64 (r1 : Int), .int .i64 (K1 : Int), .int .u64 (N1 : Int), .slice A1 n1 c1]) from p1_4.out).cell 3
      have z_p23_4 := (show Blk w4 g2 48 (#[.int .i64 (r2 : Int), .int .i64 (K2 : Int), .int .u64 (N2 : Int), .slice A2 n2 c2]) from p2_4.out).cell 3
      go_wp2_with fail
      have hq := eq64_any (n1_4.out).1 (n2_4.out).1 (n1_4.out).2 (n2_4.out).2
      have HQ := Lib.hid hq
      clear hq
      refine (HQ.out).mono ?_; rintro en w5 ⟨rfl, hb⟩
      have pa_5 : Hid (Blk w5 w.heap.size 25 (prjV e A n c)) := keepB pa_4.out hb
      have pb_5 : Hid (Blk w5 (w.heap.size + 1) 25 (prjV e' A' n' c')) := keepB pb_4.out hb
      have sa_5 : Hid (Sl rpStp w5 D A n c l) := keepS sa_4.out hb
      have sb_5 : Hid (Sl rpStp w5 D' A' n' c' l') := keepS sb_4.out hb
      have n1_5 : Hid (Sl rpU64 w5 D1 A1 n1 c1 nd1) := keepS n1_4.out hb
      have p1_5 : Hid (Blk w5 g1 48 (#[.int .i64 (r1 : Int), .int .i64 (K1 : Int), .int .u64 (N1 : Int), .slice A1 n1 c1])) := keepB p1_4.out hb
      have n2_5 : Hid (Sl rpU64 w5 D2 A2 n2 c2 nd2) := keepS n2_4.out hb
      have p2_5 : Hid (Blk w5 g2 48 (#[.int .i64 (r2 : Int), .int .i64 (K2 : Int), .int .u64 (N2 : Int), .slice A2 n2 c2])) := keepB p2_4.out hb
      have BB_5 : Hid (Below w.heap.size w w5) := stepB BB_4.out hb
      clear z_p13_4 z_p23_4
      clear hb
      go_wp2_with fail
      go_ret
      refine ⟨?_, BB_5.out⟩
      rw [dec_congr HR.out]
      by_cases hnd : nd1 = nd2
      · rw [dec_true hnd, dec_false (fun h : nd1 ≠ nd2 => h hnd)]; rfl
      · rw [dec_false hnd, dec_true hnd]; rfl
end
end Go.Proofs.Ytmdgmnaaopineaa
