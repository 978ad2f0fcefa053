/- The walk of the law LocateMoves. -/
import Derived.Test.YtmdgmnaaopineaaLocF
import Derived.Test.YtmdgmnaaopineaaLcLive
import Derived.Test.YtmdgmnaaopineaaPosT
namespace Go.Proofs.Ytmdgmnaaopineaa
open Go.ChangeShapes Go.WideShapes Go.ChangeAt Go.RowKit
set_option linter.unusedVariables false
theorem firstIs_upto (la lb : List Stp) : ∀ N, (∀ q, q < N → nodesAt la q = nodesAt lb q) ∨ ∃ r, r < N ∧ nodesAt la r ≠ nodesAt lb r ∧ ∀ q, q < r → nodesAt la q = nodesAt lb q
  | 0 => .inl (fun q h => by omega)
  | N + 1 => by
    rcases firstIs_upto la lb N with h | ⟨r, h1, h2, h3⟩
    · by_cases hn : nodesAt la N = nodesAt lb N
      · exact .inl (fun q hq => by
          rcases Nat.lt_or_ge q N with h' | h'
          · exact h q h'
          · obtain rfl : q = N := by omega
            exact hn)
      · exact .inr ⟨N, by omega, hn, h⟩
    · exact .inr ⟨r, by omega, h2, h3⟩
theorem firstIs_some (la lb : List Stp) : ∃ r ok, FirstIs la lb r ok := by
  rcases firstIs_upto la lb 4611686018427387904 with h | ⟨r, h1, h2, h3⟩
  · exact ⟨0, false, .inr ⟨rfl, rfl, h⟩⟩
  · exact ⟨r, true, .inl ⟨rfl, h1, h2, h3⟩⟩
theorem firstIs_unique {la lb : List Stp} {r r' : Nat} {ok ok' : Bool} (h : FirstIs la lb r ok) (h' : FirstIs la lb r' ok') : r = r' ∧ ok = ok' := by
  rcases h with ⟨rfl, a1, a2, a3⟩ | ⟨rfl, rfl, a3⟩ <;> rcases h' with ⟨rfl, b1, b2, b3⟩ | ⟨rfl, rfl, b3⟩
  · refine ⟨?_, rfl⟩
    rcases Nat.lt_trichotomy r r' with h | h | h
    · exact absurd (b3 r h) a2
    · exact h
    · exact absurd (a3 r' h) b2
  · exact absurd (b3 r a1) a2
  · exact absurd (a3 r' b1) b2
  · exact ⟨rfl, rfl⟩
section
variable {D D' : Dom} {A A' : Option Addr} {n c e n' c' e' : Nat} {l l' : List Stp} {w : World}
theorem first_ok2 {r : Nat} {ok : Bool} (hs : rpStp.sl w D A n c l) (hs' : rpStp.sl w D' A' n' c' l') (hD : ∀ k, D k → k < w.heap.size) (hD' : ∀ k, D' k → k < w.heap.size) (he : e ≤ 18446744073709551615) (he' : e' ≤ 18446744073709551615) (h1 : POk (e, l)) (h2 : POk (e', l')) (hf : FirstIs l l' r ok) :
    Calls Try.prog 23 #[.agg (prjV e A n c), .agg (prjV e' A' n' c')] w fun en w' => en = .returned (.tuple #[.int .u64 (r : Int), .bool ok]) ∧ Below w.heap.size w w' :=
  (first_ok hs hs' hD hD' he he' h1 h2).mono fun en w' ⟨⟨r', ok', h, h'⟩, hb⟩ => by
    obtain ⟨rfl, rfl⟩ := firstIs_unique hf h'
    exact ⟨h, hb⟩
theorem nodes_pair (x : Nat) (hs : rpStp.sl w D A n c l) (hs' : rpStp.sl w D' A' n' c' l') (hD : ∀ k, D k → k < w.heap.size) (hD' : ∀ k, D' k → k < w.heap.size) (he : e ≤ 18446744073709551615) (he' : e' ≤ 18446744073709551615) (hx : PosOk x) (h1 : POk (e, l)) (h2 : POk (e', l')) : ∃ (na nb : List Nat) (Aa Ab : Option Addr) (ca cb : Nat),
    (∀ y, Below w.heap.size w y → Calls Try.prog 32 #[.agg (prjV e A n c), .int .u64 (x : Int)] y fun en w' => en = .returned (.slice Aa na.length ca) ∧ Below y.heap.size y w') ∧
    (∀ y, Below w.heap.size w y → Calls Try.prog 32 #[.agg (prjV e' A' n' c'), .int .u64 (x : Int)] y fun en w' => en = .returned (.slice Ab nb.length cb) ∧ Below y.heap.size y w') ∧
    ∀ y, Below w.heap.size w y → Calls Try.prog 31 #[.slice Aa na.length ca, .slice Ab nb.length cb] y fun en w' => en = .returned (.bool (dec (nodesAt l x = nodesAt l' x))) ∧ Below y.heap.size y w' := by
  have hx64 : x ≤ 18446744073709551615 := by unfold PosOk at hx; omega
  obtain ⟨r, s, hin⟩ := inStripe_some h1 hx
  obtain ⟨r', s', hin'⟩ := inStripe_some h2 hx
  obtain ⟨na, Aa, ca, ga, ra, fa⟩ := rnodes_ok x hs hD he hx64 h1 hx hin
  obtain ⟨nb, Ab, cb, gb, rb, fb⟩ := rnodes_ok x hs' hD' he' hx64 h2 hx hin'
  refine ⟨na, nb, Aa, Ab, ca, cb, fa, fb, fun y hb => ?_⟩
  rw [nodesAt_some h1 hin ga, nodesAt_some h2 hin' gb]
  exact same05_any (Rp.sl_below ra hb hD) (Rp.sl_below rb hb hD') (fun k hk => Nat.lt_of_lt_of_le (hD k hk) hb.size) (fun k hk => Nat.lt_of_lt_of_le (hD' k hk) hb.size)
set_option maxRecDepth 100000 in
set_option maxHeartbeats 4000000 in
theorem moves_bad1 (x : Nat) (hs : rpStp.sl w D A n c l) (hs' : rpStp.sl w D' A' n' c' l') (hD : ∀ k, D k → k < w.heap.size) (hD' : ∀ k, D' k → k < w.heap.size) (he : e ≤ 18446744073709551615) (he' : e' ≤ 18446744073709551615) (hx : x ≤ 18446744073709551615) (hno : ¬ POk (e, l)) :
    Calls Try.prog 6 #[.agg (prjV e A n c), .agg (prjV e' A' n' c'), .int .u64 (x : Int)] w fun en w' => en = .returned (.bool true) ∧ Below w.heap.size w w' := by
  have HNO := Lib.hid hno
  clear hno
  have pa_0 := Lib.hid (blk21 w 25 25 (prjV e A n c) (prjV e' A' n' c'))
  have pb_0 := Lib.hid (blk22 w 25 25 (prjV e A n c) (prjV e' A' n' c'))
  have hb := below2 w (.cells (prjV e A n c) 25) (.cells (prjV e' A' n' c') 25)
  have BB_0 := Lib.hid hb
  have sa_0 := Lib.hid (keepS (show Sl rpStp w D A n c l from ⟨hs, hD⟩) hb)
  have sb_0 := Lib.hid (keepS (show Sl rpStp w D' A' n' c' l' from ⟨hs', hD'⟩) hb)
  clear hb hs hs' hD hD'
  go_enter Try.func6, Try.ntmps6
  go_wp2_with fail
  generalize World.alloc (World.alloc w _) _ = w0 at *
  have z_pa0_0 := (show Blk w0 w.heap.size 25 (prjV e A n c) from pa_0.out).cell 0
  have z_pa1_0 := (show Blk w0 w.heap.size 25 (prjV e A n c) from pa_0.out).cell 1
  go_wp2_with fail
  refine (plong_any (e := e) (sa_0.out).1 (sa_0.out).2).mono ?_; rintro en w1 ⟨bb, rfl, hb⟩
  have pa_1 : Hid (Blk w1 w.heap.size 25 (prjV e A n c)) := keepB pa_0.out hb
  have pb_1 : Hid (Blk w1 (w.heap.size + 1) 25 (prjV e' A' n' c')) := keepB pb_0.out hb
  have sa_1 : Hid (Sl rpStp w1 D A n c l) := keepS sa_0.out hb
  have sb_1 : Hid (Sl rpStp w1 D' A' n' c' l') := keepS sb_0.out hb
  have BB_1 : Hid (Below w.heap.size w w1) := stepB BB_0.out hb
  clear z_pa0_0 z_pa1_0
  clear hb
  cases bb
  case true =>
    go_wp2_with fail
    refine (lclive_any _).mono ?_; rintro en w2 ⟨rfl, hb⟩
    have pa_2 : Hid (Blk w2 w.heap.size 25 (prjV e A n c)) := keepB pa_1.out hb
    have pb_2 : Hid (Blk w2 (w.heap.size + 1) 25 (prjV e' A' n' c')) := keepB pb_1.out hb
    have sa_2 : Hid (Sl rpStp w2 D A n c l) := keepS sa_1.out hb
    have sb_2 : Hid (Sl rpStp w2 D' A' n' c' l') := keepS sb_1.out hb
    have BB_2 : Hid (Below w.heap.size w w2) := stepB BB_1.out hb
    clear hb
    go_wp2_with fail
    go_ret
    exact ⟨rfl, BB_2.out⟩
  have z_pb0_1 := (show Blk w1 (w.heap.size + 1) 25 (prjV e' A' n' c') from pb_1.out).cell 0
  have z_pb1_1 := (show Blk w1 (w.heap.size + 1) 25 (prjV e' A' n' c') from pb_1.out).cell 1
  go_wp2_with fail
  refine (plong_any (e := e') (sb_1.out).1 (sb_1.out).2).mono ?_; rintro en w2 ⟨bb, rfl, hb⟩
  have pa_2 : Hid (Blk w2 w.heap.size 25 (prjV e A n c)) := keepB pa_1.out hb
  have pb_2 : Hid (Blk w2 (w.heap.size + 1) 25 (prjV e' A' n' c')) := keepB pb_1.out hb
  have sa_2 : Hid (Sl rpStp w2 D A n c l) := keepS sa_1.out hb
  have sb_2 : Hid (Sl rpStp w2 D' A' n' c' l') := keepS sb_1.out hb
  have BB_2 : Hid (Below w.heap.size w w2) := stepB BB_1.out hb
  clear z_pb0_1 z_pb1_1
  clear hb
  cases bb
  case true =>
    go_wp2_with fail
    refine (lclive_any _).mono ?_; rintro en w3 ⟨rfl, hb⟩
    have pa_3 : Hid (Blk w3 w.heap.size 25 (prjV e A n c)) := keepB pa_2.out hb
    have pb_3 : Hid (Blk w3 (w.heap.size + 1) 25 (prjV e' A' n' c')) := keepB pb_2.out hb
    have sa_3 : Hid (Sl rpStp w3 D A n c l) := keepS sa_2.out hb
    have sb_3 : Hid (Sl rpStp w3 D' A' n' c' l') := keepS sb_2.out hb
    have BB_3 : Hid (Below w.heap.size w w3) := stepB BB_2.out hb
    clear hb
    go_wp2_with fail
    go_ret
    exact ⟨rfl, BB_3.out⟩
  have z_pa0_2 := (show Blk w2 w.heap.size 25 (prjV e A n c) from pa_2.out).cell 0
  have z_pa1_2 := (show Blk w2 w.heap.size 25 (prjV e A n c) from pa_2.out).cell 1
  have z_pb0_2 := (show Blk w2 (w.heap.size + 1) 25 (prjV e' A' n' c') from pb_2.out).cell 0
  have z_pb1_2 := (show Blk w2 (w.heap.size + 1) 25 (prjV e' A' n' c') from pb_2.out).cell 1
  go_wp2_with fail
  refine (first_bad (sa_2.out).1 (sb_2.out).1 (sa_2.out).2 (sb_2.out).2 he he' (fun h => HNO.out h.1)).mono ?_; rintro en w3 ⟨rfl, hb⟩
  have pa_3 : Hid (Blk w3 w.heap.size 25 (prjV e A n c)) := keepB pa_2.out hb
  have pb_3 : Hid (Blk w3 (w.heap.size + 1) 25 (prjV e' A' n' c')) := keepB pb_2.out hb
  have sa_3 : Hid (Sl rpStp w3 D A n c l) := keepS sa_2.out hb
  have sb_3 : Hid (Sl rpStp w3 D' A' n' c' l') := keepS sb_2.out hb
  have BB_3 : Hid (Below w.heap.size w w3) := stepB BB_2.out hb
  clear z_pa0_2 z_pa1_2 z_pb0_2 z_pb1_2
  clear hb
  have z_pa0_3 := (show Blk w3 w.heap.size 25 (prjV e A n c) from pa_3.out).cell 0
  have z_pa1_3 := (show Blk w3 w.heap.size 25 (prjV e A n c) from pa_3.out).cell 1
  go_wp2_with fail
  have hr := rpright_any (sa_3.out).1 (sa_3.out).2 he
  rw [dec_false HNO.out] at hr
  have HRa3 := Lib.hid hr
  clear hr
  refine (HRa3.out).mono ?_; rintro en w4 ⟨rfl, hb⟩
  have pa_4 : Hid (Blk w4 w.heap.size 25 (prjV e A n c)) := keepB pa_3.out hb
  have pb_4 : Hid (Blk w4 (w.heap.size + 1) 25 (prjV e' A' n' c')) := keepB pb_3.out hb
  have sa_4 : Hid (Sl rpStp w4 D A n c l) := keepS sa_3.out hb
  have sb_4 : Hid (Sl rpStp w4 D' A' n' c' l') := keepS sb_3.out hb
  have BB_4 : Hid (Below w.heap.size w w4) := stepB BB_3.out hb
  clear z_pa0_3 z_pa1_3
  clear hb
  have z_pa0_4 := (show Blk w4 w.heap.size 25 (prjV e A n c) from pa_4.out).cell 0
  have z_pa1_4 := (show Blk w4 w.heap.size 25 (prjV e A n c) from pa_4.out).cell 1
  have z_pb0_4 := (show Blk w4 (w.heap.size + 1) 25 (prjV e' A' n' c') from pb_4.out).cell 0
  have z_pb1_4 := (show Blk w4 (w.heap.size + 1) 25 (prjV e' A' n' c') from pb_4.out).cell 1
  go_wp2_with fail
  have hm := moved_any x (sa_4.out).1 (sb_4.out).1 (sa_4.out).2 (sb_4.out).2 he he' hx
  rw [dec_false (fun h => HNO.out h.1.1)] at hm
  have HMV4 := Lib.hid hm
  clear hm
  refine (HMV4.out).mono ?_; rintro en w5 ⟨rfl, hb⟩
  have pa_5 : Hid (Blk w5 w.heap.size 25 (prjV e A n c)) := keepB pa_4.out hb
  have pb_5 : Hid (Blk w5 (w.heap.size + 1) 25 (prjV e' A' n' c')) := keepB pb_4.out hb
  have sa_5 : Hid (Sl rpStp w5 D A n c l) := keepS sa_4.out hb
  have sb_5 : Hid (Sl rpStp w5 D' A' n' c' l') := keepS sb_4.out hb
  have BB_5 : Hid (Below w.heap.size w w5) := stepB BB_4.out hb
  clear z_pa0_4 z_pa1_4 z_pb0_4 z_pb1_4
  clear hb
  go_wp2_with fail
  refine (lclive_any _).mono ?_; rintro en w6 ⟨rfl, hb⟩
  have pa_6 : Hid (Blk w6 w.heap.size 25 (prjV e A n c)) := keepB pa_5.out hb
  have pb_6 : Hid (Blk w6 (w.heap.size + 1) 25 (prjV e' A' n' c')) := keepB pb_5.out hb
  have sa_6 : Hid (Sl rpStp w6 D A n c l) := keepS sa_5.out hb
  have sb_6 : Hid (Sl rpStp w6 D' A' n' c' l') := keepS sb_5.out hb
  have BB_6 : Hid (Below w.heap.size w w6) := stepB BB_5.out hb
  clear hb
  go_wp2_with fail
  go_ret
  exact ⟨rfl, BB_6.out⟩
set_option maxRecDepth 100000 in
set_option maxHeartbeats 4000000 in
theorem moves_bad2 (x : Nat) (hs : rpStp.sl w D A n c l) (hs' : rpStp.sl w D' A' n' c' l') (hD : ∀ k, D k → k < w.heap.size) (hD' : ∀ k, D' k → k < w.heap.size) (he : e ≤ 18446744073709551615) (he' : e' ≤ 18446744073709551615) (hx : x ≤ 18446744073709551615) (h1 : POk (e, l)) (hno : ¬ POk (e', l')) :
    Calls Try.prog 6 #[.agg (prjV e A n c), .agg (prjV e' A' n' c'), .int .u64 (x : Int)] w fun en w' => en = .returned (.bool true) ∧ Below w.heap.size w w' := by
  have HNO := Lib.hid hno
  have H1 := Lib.hid h1
  clear hno h1
  have pa_0 := Lib.hid (blk21 w 25 25 (prjV e A n c) (prjV e' A' n' c'))
  have pb_0 := Lib.hid (blk22 w 25 25 (prjV e A n c) (prjV e' A' n' c'))
  have hb := below2 w (.cells (prjV e A n c) 25) (.cells (prjV e' A' n' c') 25)
  have BB_0 := Lib.hid hb
  have sa_0 := Lib.hid (keepS (show Sl rpStp w D A n c l from ⟨hs, hD⟩) hb)
  have sb_0 := Lib.hid (keepS (show Sl rpStp w D' A' n' c' l' from ⟨hs', hD'⟩) hb)
  clear hb hs hs' hD hD'
  go_enter Try.func6, Try.ntmps6
  go_wp2_with fail
  generalize World.alloc (World.alloc w _) _ = w0 at *
  have z_pa0_0 := (show Blk w0 w.heap.size 25 (prjV e A n c) from pa_0.out).cell 0
  have z_pa1_0 := (show Blk w0 w.heap.size 25 (prjV e A n c) from pa_0.out).cell 1
  go_wp2_with fail
  refine (plong_any (e := e) (sa_0.out).1 (sa_0.out).2).mono ?_; rintro en w1 ⟨bb, rfl, hb⟩
  have pa_1 : Hid (Blk w1 w.heap.size 25 (prjV e A n c)) := keepB pa_0.out hb
  have pb_1 : Hid (Blk w1 (w.heap.size + 1) 25 (prjV e' A' n' c')) := keepB pb_0.out hb
  have sa_1 : Hid (Sl rpStp w1 D A n c l) := keepS sa_0.out hb
  have sb_1 : Hid (Sl rpStp w1 D' A' n' c' l') := keepS sb_0.out hb
  have BB_1 : Hid (Below w.heap.size w w1) := stepB BB_0.out hb
  clear z_pa0_0 z_pa1_0
  clear hb
  cases bb
  case true =>
    go_wp2_with fail
    refine (lclive_any _).mono ?_; rintro en w2 ⟨rfl, hb⟩
    have pa_2 : Hid (Blk w2 w.heap.size 25 (prjV e A n c)) := keepB pa_1.out hb
    have pb_2 : Hid (Blk w2 (w.heap.size + 1) 25 (prjV e' A' n' c')) := keepB pb_1.out hb
    have sa_2 : Hid (Sl rpStp w2 D A n c l) := keepS sa_1.out hb
    have sb_2 : Hid (Sl rpStp w2 D' A' n' c' l') := keepS sb_1.out hb
    have BB_2 : Hid (Below w.heap.size w w2) := stepB BB_1.out hb
    clear hb
    go_wp2_with fail
    go_ret
    exact ⟨rfl, BB_2.out⟩
  have z_pb0_1 := (show Blk w1 (w.heap.size + 1) 25 (prjV e' A' n' c') from pb_1.out).cell 0
  have z_pb1_1 := (show Blk w1 (w.heap.size + 1) 25 (prjV e' A' n' c') from pb_1.out).cell 1
  go_wp2_with fail
  refine (plong_any (e := e') (sb_1.out).1 (sb_1.out).2).mono ?_; rintro en w2 ⟨bb, rfl, hb⟩
  have pa_2 : Hid (Blk w2 w.heap.size 25 (prjV e A n c)) := keepB pa_1.out hb
  have pb_2 : Hid (Blk w2 (w.heap.size + 1) 25 (prjV e' A' n' c')) := keepB pb_1.out hb
  have sa_2 : Hid (Sl rpStp w2 D A n c l) := keepS sa_1.out hb
  have sb_2 : Hid (Sl rpStp w2 D' A' n' c' l') := keepS sb_1.out hb
  have BB_2 : Hid (Below w.heap.size w w2) := stepB BB_1.out hb
  clear z_pb0_1 z_pb1_1
  clear hb
  cases bb
  case true =>
    go_wp2_with fail
    refine (lclive_any _).mono ?_; rintro en w3 ⟨rfl, hb⟩
    have pa_3 : Hid (Blk w3 w.heap.size 25 (prjV e A n c)) := keepB pa_2.out hb
    have pb_3 : Hid (Blk w3 (w.heap.size + 1) 25 (prjV e' A' n' c')) := keepB pb_2.out hb
    have sa_3 : Hid (Sl rpStp w3 D A n c l) := keepS sa_2.out hb
    have sb_3 : Hid (Sl rpStp w3 D' A' n' c' l') := keepS sb_2.out hb
    have BB_3 : Hid (Below w.heap.size w w3) := stepB BB_2.out hb
    clear hb
    go_wp2_with fail
    go_ret
    exact ⟨rfl, BB_3.out⟩
  have z_pa0_2 := (show Blk w2 w.heap.size 25 (prjV e A n c) from pa_2.out).cell 0
  have z_pa1_2 := (show Blk w2 w.heap.size 25 (prjV e A n c) from pa_2.out).cell 1
  have z_pb0_2 := (show Blk w2 (w.heap.size + 1) 25 (prjV e' A' n' c') from pb_2.out).cell 0
  have z_pb1_2 := (show Blk w2 (w.heap.size + 1) 25 (prjV e' A' n' c') from pb_2.out).cell 1
  go_wp2_with fail
  refine (first_bad (sa_2.out).1 (sb_2.out).1 (sa_2.out).2 (sb_2.out).2 he he' (fun h => HNO.out h.2)).mono ?_; rintro en w3 ⟨rfl, hb⟩
  have pa_3 : Hid (Blk w3 w.heap.size 25 (prjV e A n c)) := keepB pa_2.out hb
  have pb_3 : Hid (Blk w3 (w.heap.size + 1) 25 (prjV e' A' n' c')) := keepB pb_2.out hb
  have sa_3 : Hid (Sl rpStp w3 D A n c l) := keepS sa_2.out hb
  have sb_3 : Hid (Sl rpStp w3 D' A' n' c' l') := keepS sb_2.out hb
  have BB_3 : Hid (Below w.heap.size w w3) := stepB BB_2.out hb
  clear z_pa0_2 z_pa1_2 z_pb0_2 z_pb1_2
  clear hb
  have z_pa0_3 := (show Blk w3 w.heap.size 25 (prjV e A n c) from pa_3.out).cell 0
  have z_pa1_3 := (show Blk w3 w.heap.size 25 (prjV e A n c) from pa_3.out).cell 1
  go_wp2_with fail
  have hr := rpright_any (sa_3.out).1 (sa_3.out).2 he
  rw [dec_true H1.out] at hr
  have HRa3 := Lib.hid hr
  clear hr
  refine (HRa3.out).mono ?_; rintro en w4 ⟨rfl, hb⟩
  have pa_4 : Hid (Blk w4 w.heap.size 25 (prjV e A n c)) := keepB pa_3.out hb
  have pb_4 : Hid (Blk w4 (w.heap.size + 1) 25 (prjV e' A' n' c')) := keepB pb_3.out hb
  have sa_4 : Hid (Sl rpStp w4 D A n c l) := keepS sa_3.out hb
  have sb_4 : Hid (Sl rpStp w4 D' A' n' c' l') := keepS sb_3.out hb
  have BB_4 : Hid (Below w.heap.size w w4) := stepB BB_3.out hb
  clear z_pa0_3 z_pa1_3
  clear hb
  have z_pb0_4 := (show Blk w4 (w.heap.size + 1) 25 (prjV e' A' n' c') from pb_4.out).cell 0
  have z_pb1_4 := (show Blk w4 (w.heap.size + 1) 25 (prjV e' A' n' c') from pb_4.out).cell 1
  go_wp2_with fail
  have hr := rpright_any (sb_4.out).1 (sb_4.out).2 he'
  rw [dec_false HNO.out] at hr
  have HRb4 := Lib.hid hr
  clear hr
  refine (HRb4.out).mono ?_; rintro en w5 ⟨rfl, hb⟩
  have pa_5 : Hid (Blk w5 w.heap.size 25 (prjV e A n c)) := keepB pa_4.out hb
  have pb_5 : Hid (Blk w5 (w.heap.size + 1) 25 (prjV e' A' n' c')) := keepB pb_4.out hb
  have sa_5 : Hid (Sl rpStp w5 D A n c l) := keepS sa_4.out hb
  have sb_5 : Hid (Sl rpStp w5 D' A' n' c' l') := keepS sb_4.out hb
  have BB_5 : Hid (Below w.heap.size w w5) := stepB BB_4.out hb
  clear z_pb0_4 z_pb1_4
  clear hb
  have z_pa0_5 := (show Blk w5 w.heap.size 25 (prjV e A n c) from pa_5.out).cell 0
  have z_pa1_5 := (show Blk w5 w.heap.size 25 (prjV e A n c) from pa_5.out).cell 1
  have z_pb0_5 := (show Blk w5 (w.heap.size + 1) 25 (prjV e' A' n' c') from pb_5.out).cell 0
  have z_pb1_5 := (show Blk w5 (w.heap.size + 1) 25 (prjV e' A' n' c') from pb_5.out).cell 1
  go_wp2_with fail
  have hm := moved_any x (sa_5.out).1 (sb_5.out).1 (sa_5.out).2 (sb_5.out).2 he he' hx
  rw [dec_false (fun h => HNO.out h.2.1)] at hm
  have HMV5 := Lib.hid hm
  clear hm
  refine (HMV5.out).mono ?_; rintro en w6 ⟨rfl, hb⟩
  have pa_6 : Hid (Blk w6 w.heap.size 25 (prjV e A n c)) := keepB pa_5.out hb
  have pb_6 : Hid (Blk w6 (w.heap.size + 1) 25 (prjV e' A' n' c')) := keepB pb_5.out hb
  have sa_6 : Hid (Sl rpStp w6 D A n c l) := keepS sa_5.out hb
  have sb_6 : Hid (Sl rpStp w6 D' A' n' c' l') := keepS sb_5.out hb
  have BB_6 : Hid (Below w.heap.size w w6) := stepB BB_5.out hb
  clear z_pa0_5 z_pa1_5 z_pb0_5 z_pb1_5
  clear hb
  go_wp2_with fail
  refine (lclive_any _).mono ?_; rintro en w7 ⟨rfl, hb⟩
  have pa_7 : Hid (Blk w7 w.heap.size 25 (prjV e A n c)) := keepB pa_6.out hb
  have pb_7 : Hid (Blk w7 (w.heap.size + 1) 25 (prjV e' A' n' c')) := keepB pb_6.out hb
  have sa_7 : Hid (Sl rpStp w7 D A n c l) := keepS sa_6.out hb
  have sb_7 : Hid (Sl rpStp w7 D' A' n' c' l') := keepS sb_6.out hb
  have BB_7 : Hid (Below w.heap.size w w7) := stepB BB_6.out hb
  clear hb
  go_wp2_with fail
  go_ret
  exact ⟨rfl, BB_7.out⟩
set_option maxRecDepth 100000 in
set_option maxHeartbeats 4000000 in
theorem moves_n0 (x : Nat) (hs : rpStp.sl w D A n c l) (hs' : rpStp.sl w D' A' n' c' l') (hD : ∀ k, D k → k < w.heap.size) (hD' : ∀ k, D' k → k < w.heap.size) (he : e ≤ 18446744073709551615) (he' : e' ≤ 18446744073709551615) (hx : x ≤ 18446744073709551615) (h1 : POk (e, l)) (h2 : POk (e', l')) (hf : FirstIs l l' 0 false) (hpo : ¬ PosOk x) :
    Calls Try.prog 6 #[.agg (prjV e A n c), .agg (prjV e' A' n' c'), .int .u64 (x : Int)] w fun en w' => en = .returned (.bool true) ∧ Below w.heap.size w w' := by
  have H1 := Lib.hid h1
  have H2 := Lib.hid h2
  have HF := Lib.hid hf
  have HPO := Lib.hid hpo
  clear h1 h2 hf hpo
  have pa_0 := Lib.hid (blk21 w 25 25 (prjV e A n c) (prjV e' A' n' c'))
  have pb_0 := Lib.hid (blk22 w 25 25 (prjV e A n c) (prjV e' A' n' c'))
  have hb := below2 w (.cells (prjV e A n c) 25) (.cells (prjV e' A' n' c') 25)
  have BB_0 := Lib.hid hb
  have sa_0 := Lib.hid (keepS (show Sl rpStp w D A n c l from ⟨hs, hD⟩) hb)
  have sb_0 := Lib.hid (keepS (show Sl rpStp w D' A' n' c' l' from ⟨hs', hD'⟩) hb)
  clear hb hs hs' hD hD'
  go_enter Try.func6, Try.ntmps6
  go_wp2_with fail
  generalize World.alloc (World.alloc w _) _ = w0 at *
  have z_pa0_0 := (show Blk w0 w.heap.size 25 (prjV e A n c) from pa_0.out).cell 0
  have z_pa1_0 := (show Blk w0 w.heap.size 25 (prjV e A n c) from pa_0.out).cell 1
  go_wp2_with fail
  refine (plong_any (e := e) (sa_0.out).1 (sa_0.out).2).mono ?_; rintro en w1 ⟨bb, rfl, hb⟩
  have pa_1 : Hid (Blk w1 w.heap.size 25 (prjV e A n c)) := keepB pa_0.out hb
  have pb_1 : Hid (Blk w1 (w.heap.size + 1) 25 (prjV e' A' n' c')) := keepB pb_0.out hb
  have sa_1 : Hid (Sl rpStp w1 D A n c l) := keepS sa_0.out hb
  have sb_1 : Hid (Sl rpStp w1 D' A' n' c' l') := keepS sb_0.out hb
  have BB_1 : Hid (Below w.heap.size w w1) := stepB BB_0.out hb
  clear z_pa0_0 z_pa1_0
  clear hb
  cases bb
  case true =>
    go_wp2_with fail
    refine (lclive_any _).mono ?_; rintro en w2 ⟨rfl, hb⟩
    have pa_2 : Hid (Blk w2 w.heap.size 25 (prjV e A n c)) := keepB pa_1.out hb
    have pb_2 : Hid (Blk w2 (w.heap.size + 1) 25 (prjV e' A' n' c')) := keepB pb_1.out hb
    have sa_2 : Hid (Sl rpStp w2 D A n c l) := keepS sa_1.out hb
    have sb_2 : Hid (Sl rpStp w2 D' A' n' c' l') := keepS sb_1.out hb
    have BB_2 : Hid (Below w.heap.size w w2) := stepB BB_1.out hb
    clear hb
    go_wp2_with fail
    go_ret
    exact ⟨rfl, BB_2.out⟩
  have z_pb0_1 := (show Blk w1 (w.heap.size + 1) 25 (prjV e' A' n' c') from pb_1.out).cell 0
  have z_pb1_1 := (show Blk w1 (w.heap.size + 1) 25 (prjV e' A' n' c') from pb_1.out).cell 1
  go_wp2_with fail
  refine (plong_any (e := e') (sb_1.out).1 (sb_1.out).2).mono ?_; rintro en w2 ⟨bb, rfl, hb⟩
  have pa_2 : Hid (Blk w2 w.heap.size 25 (prjV e A n c)) := keepB pa_1.out hb
  have pb_2 : Hid (Blk w2 (w.heap.size + 1) 25 (prjV e' A' n' c')) := keepB pb_1.out hb
  have sa_2 : Hid (Sl rpStp w2 D A n c l) := keepS sa_1.out hb
  have sb_2 : Hid (Sl rpStp w2 D' A' n' c' l') := keepS sb_1.out hb
  have BB_2 : Hid (Below w.heap.size w w2) := stepB BB_1.out hb
  clear z_pb0_1 z_pb1_1
  clear hb
  cases bb
  case true =>
    go_wp2_with fail
    refine (lclive_any _).mono ?_; rintro en w3 ⟨rfl, hb⟩
    have pa_3 : Hid (Blk w3 w.heap.size 25 (prjV e A n c)) := keepB pa_2.out hb
    have pb_3 : Hid (Blk w3 (w.heap.size + 1) 25 (prjV e' A' n' c')) := keepB pb_2.out hb
    have sa_3 : Hid (Sl rpStp w3 D A n c l) := keepS sa_2.out hb
    have sb_3 : Hid (Sl rpStp w3 D' A' n' c' l') := keepS sb_2.out hb
    have BB_3 : Hid (Below w.heap.size w w3) := stepB BB_2.out hb
    clear hb
    go_wp2_with fail
    go_ret
    exact ⟨rfl, BB_3.out⟩
  have z_pa0_2 := (show Blk w2 w.heap.size 25 (prjV e A n c) from pa_2.out).cell 0
  have z_pa1_2 := (show Blk w2 w.heap.size 25 (prjV e A n c) from pa_2.out).cell 1
  have z_pb0_2 := (show Blk w2 (w.heap.size + 1) 25 (prjV e' A' n' c') from pb_2.out).cell 0
  have z_pb1_2 := (show Blk w2 (w.heap.size + 1) 25 (prjV e' A' n' c') from pb_2.out).cell 1
  go_wp2_with fail
  refine (first_ok2 (sa_2.out).1 (sb_2.out).1 (sa_2.out).2 (sb_2.out).2 he he' H1.out H2.out HF.out).mono ?_; rintro en w3 ⟨rfl, hb⟩
  have pa_3 : Hid (Blk w3 w.heap.size 25 (prjV e A n c)) := keepB pa_2.out hb
  have pb_3 : Hid (Blk w3 (w.heap.size + 1) 25 (prjV e' A' n' c')) := keepB pb_2.out hb
  have sa_3 : Hid (Sl rpStp w3 D A n c l) := keepS sa_2.out hb
  have sb_3 : Hid (Sl rpStp w3 D' A' n' c' l') := keepS sb_2.out hb
  have BB_3 : Hid (Below w.heap.size w w3) := stepB BB_2.out hb
  clear z_pa0_2 z_pa1_2 z_pb0_2 z_pb1_2
  clear hb
  have z_pa0_3 := (show Blk w3 w.heap.size 25 (prjV e A n c) from pa_3.out).cell 0
  have z_pa1_3 := (show Blk w3 w.heap.size 25 (prjV e A n c) from pa_3.out).cell 1
  go_wp2_with fail
  have hr := rpright_any (sa_3.out).1 (sa_3.out).2 he
  rw [dec_true H1.out] at hr
  have HRa3 := Lib.hid hr
  clear hr
  refine (HRa3.out).mono ?_; rintro en w4 ⟨rfl, hb⟩
  have pa_4 : Hid (Blk w4 w.heap.size 25 (prjV e A n c)) := keepB pa_3.out hb
  have pb_4 : Hid (Blk w4 (w.heap.size + 1) 25 (prjV e' A' n' c')) := keepB pb_3.out hb
  have sa_4 : Hid (Sl rpStp w4 D A n c l) := keepS sa_3.out hb
  have sb_4 : Hid (Sl rpStp w4 D' A' n' c' l') := keepS sb_3.out hb
  have BB_4 : Hid (Below w.heap.size w w4) := stepB BB_3.out hb
  clear z_pa0_3 z_pa1_3
  clear hb
  have z_pb0_4 := (show Blk w4 (w.heap.size + 1) 25 (prjV e' A' n' c') from pb_4.out).cell 0
  have z_pb1_4 := (show Blk w4 (w.heap.size + 1) 25 (prjV e' A' n' c') from pb_4.out).cell 1
  go_wp2_with fail
  have hr := rpright_any (sb_4.out).1 (sb_4.out).2 he'
  rw [dec_true H2.out] at hr
  have HRb4 := Lib.hid hr
  clear hr
  refine (HRb4.out).mono ?_; rintro en w5 ⟨rfl, hb⟩
  have pa_5 : Hid (Blk w5 w.heap.size 25 (prjV e A n c)) := keepB pa_4.out hb
  have pb_5 : Hid (Blk w5 (w.heap.size + 1) 25 (prjV e' A' n' c')) := keepB pb_4.out hb
  have sa_5 : Hid (Sl rpStp w5 D A n c l) := keepS sa_4.out hb
  have sb_5 : Hid (Sl rpStp w5 D' A' n' c' l') := keepS sb_4.out hb
  have BB_5 : Hid (Below w.heap.size w w5) := stepB BB_4.out hb
  clear z_pb0_4 z_pb1_4
  clear hb
  have z_pa0_5 := (show Blk w5 w.heap.size 25 (prjV e A n c) from pa_5.out).cell 0
  have z_pa1_5 := (show Blk w5 w.heap.size 25 (prjV e A n c) from pa_5.out).cell 1
  have z_pb0_5 := (show Blk w5 (w.heap.size + 1) 25 (prjV e' A' n' c') from pb_5.out).cell 0
  have z_pb1_5 := (show Blk w5 (w.heap.size + 1) 25 (prjV e' A' n' c') from pb_5.out).cell 1
  go_wp2_with fail
  have hp := repos_any x w5 hx
  rw [dec_false HPO.out] at hp
  have HP := Lib.hid hp
  clear hp
  refine (HP.out).mono ?_; rintro en wx ⟨rfl, rfl⟩
  go_wp2_with fail
  have hm := moved_any x (sa_5.out).1 (sb_5.out).1 (sa_5.out).2 (sb_5.out).2 he he' hx
  rw [dec_false (fun h : MovedIs l l' e e' x => HPO.out h.1.2)] at hm
  have HMV5 := Lib.hid hm
  clear hm
  refine (HMV5.out).mono ?_; rintro en w6 ⟨rfl, hb⟩
  have pa_6 : Hid (Blk w6 w.heap.size 25 (prjV e A n c)) := keepB pa_5.out hb
  have pb_6 : Hid (Blk w6 (w.heap.size + 1) 25 (prjV e' A' n' c')) := keepB pb_5.out hb
  have sa_6 : Hid (Sl rpStp w6 D A n c l) := keepS sa_5.out hb
  have sb_6 : Hid (Sl rpStp w6 D' A' n' c' l') := keepS sb_5.out hb
  have BB_6 : Hid (Below w.heap.size w w6) := stepB BB_5.out hb
  clear z_pa0_5 z_pa1_5 z_pb0_5 z_pb1_5
  clear hb
  go_wp2_with fail
  refine (lclive_any _).mono ?_; rintro en w7 ⟨rfl, hb⟩
  have pa_7 : Hid (Blk w7 w.heap.size 25 (prjV e A n c)) := keepB pa_6.out hb
  have pb_7 : Hid (Blk w7 (w.heap.size + 1) 25 (prjV e' A' n' c')) := keepB pb_6.out hb
  have sa_7 : Hid (Sl rpStp w7 D A n c l) := keepS sa_6.out hb
  have sb_7 : Hid (Sl rpStp w7 D' A' n' c' l') := keepS sb_6.out hb
  have BB_7 : Hid (Below w.heap.size w w7) := stepB BB_6.out hb
  clear hb
  go_wp2_with fail
  go_ret
  exact ⟨rfl, BB_7.out⟩
set_option maxRecDepth 100000 in
set_option maxHeartbeats 4000000 in
theorem moves_n1 (x : Nat) (hs : rpStp.sl w D A n c l) (hs' : rpStp.sl w D' A' n' c' l') (hD : ∀ k, D k → k < w.heap.size) (hD' : ∀ k, D' k → k < w.heap.size) (he : e ≤ 18446744073709551615) (he' : e' ≤ 18446744073709551615) (hx : x ≤ 18446744073709551615) (h1 : POk (e, l)) (h2 : POk (e', l')) (hf : FirstIs l l' 0 false) (hpo : PosOk x) (hmv : nodesAt l x = nodesAt l' x) :
    Calls Try.prog 6 #[.agg (prjV e A n c), .agg (prjV e' A' n' c'), .int .u64 (x : Int)] w fun en w' => en = .returned (.bool true) ∧ Below w.heap.size w w' := by
  have H1 := Lib.hid h1
  have H2 := Lib.hid h2
  have HF := Lib.hid hf
  have HPO := Lib.hid hpo
  have HMV := Lib.hid hmv
  clear h1 h2 hf hpo hmv
  have pa_0 := Lib.hid (blk21 w 25 25 (prjV e A n c) (prjV e' A' n' c'))
  have pb_0 := Lib.hid (blk22 w 25 25 (prjV e A n c) (prjV e' A' n' c'))
  have hb := below2 w (.cells (prjV e A n c) 25) (.cells (prjV e' A' n' c') 25)
  have BB_0 := Lib.hid hb
  have sa_0 := Lib.hid (keepS (show Sl rpStp w D A n c l from ⟨hs, hD⟩) hb)
  have sb_0 := Lib.hid (keepS (show Sl rpStp w D' A' n' c' l' from ⟨hs', hD'⟩) hb)
  clear hb hs hs' hD hD'
  go_enter Try.func6, Try.ntmps6
  go_wp2_with fail
  generalize World.alloc (World.alloc w _) _ = w0 at *
  have z_pa0_0 := (show Blk w0 w.heap.size 25 (prjV e A n c) from pa_0.out).cell 0
  have z_pa1_0 := (show Blk w0 w.heap.size 25 (prjV e A n c) from pa_0.out).cell 1
  go_wp2_with fail
  refine (plong_any (e := e) (sa_0.out).1 (sa_0.out).2).mono ?_; rintro en w1 ⟨bb, rfl, hb⟩
  have pa_1 : Hid (Blk w1 w.heap.size 25 (prjV e A n c)) := keepB pa_0.out hb
  have pb_1 : Hid (Blk w1 (w.heap.size + 1) 25 (prjV e' A' n' c')) := keepB pb_0.out hb
  have sa_1 : Hid (Sl rpStp w1 D A n c l) := keepS sa_0.out hb
  have sb_1 : Hid (Sl rpStp w1 D' A' n' c' l') := keepS sb_0.out hb
  have BB_1 : Hid (Below w.heap.size w w1) := stepB BB_0.out hb
  clear z_pa0_0 z_pa1_0
  clear hb
  cases bb
  case true =>
    go_wp2_with fail
    refine (lclive_any _).mono ?_; rintro en w2 ⟨rfl, hb⟩
    have pa_2 : Hid (Blk w2 w.heap.size 25 (prjV e A n c)) := keepB pa_1.out hb
    have pb_2 : Hid (Blk w2 (w.heap.size + 1) 25 (prjV e' A' n' c')) := keepB pb_1.out hb
    have sa_2 : Hid (Sl rpStp w2 D A n c l) := keepS sa_1.out hb
    have sb_2 : Hid (Sl rpStp w2 D' A' n' c' l') := keepS sb_1.out hb
    have BB_2 : Hid (Below w.heap.size w w2) := stepB BB_1.out hb
    clear hb
    go_wp2_with fail
    go_ret
    exact ⟨rfl, BB_2.out⟩
  have z_pb0_1 := (show Blk w1 (w.heap.size + 1) 25 (prjV e' A' n' c') from pb_1.out).cell 0
  have z_pb1_1 := (show Blk w1 (w.heap.size + 1) 25 (prjV e' A' n' c') from pb_1.out).cell 1
  go_wp2_with fail
  refine (plong_any (e := e') (sb_1.out).1 (sb_1.out).2).mono ?_; rintro en w2 ⟨bb, rfl, hb⟩
  have pa_2 : Hid (Blk w2 w.heap.size 25 (prjV e A n c)) := keepB pa_1.out hb
  have pb_2 : Hid (Blk w2 (w.heap.size + 1) 25 (prjV e' A' n' c')) := keepB pb_1.out hb
  have sa_2 : Hid (Sl rpStp w2 D A n c l) := keepS sa_1.out hb
  have sb_2 : Hid (Sl rpStp w2 D' A' n' c' l') := keepS sb_1.out hb
  have BB_2 : Hid (Below w.heap.size w w2) := stepB BB_1.out hb
  clear z_pb0_1 z_pb1_1
  clear hb
  cases bb
  case true =>
    go_wp2_with fail
    refine (lclive_any _).mono ?_; rintro en w3 ⟨rfl, hb⟩
    have pa_3 : Hid (Blk w3 w.heap.size 25 (prjV e A n c)) := keepB pa_2.out hb
    have pb_3 : Hid (Blk w3 (w.heap.size + 1) 25 (prjV e' A' n' c')) := keepB pb_2.out hb
    have sa_3 : Hid (Sl rpStp w3 D A n c l) := keepS sa_2.out hb
    have sb_3 : Hid (Sl rpStp w3 D' A' n' c' l') := keepS sb_2.out hb
    have BB_3 : Hid (Below w.heap.size w w3) := stepB BB_2.out hb
    clear hb
    go_wp2_with fail
    go_ret
    exact ⟨rfl, BB_3.out⟩
  have z_pa0_2 := (show Blk w2 w.heap.size 25 (prjV e A n c) from pa_2.out).cell 0
  have z_pa1_2 := (show Blk w2 w.heap.size 25 (prjV e A n c) from pa_2.out).cell 1
  have z_pb0_2 := (show Blk w2 (w.heap.size + 1) 25 (prjV e' A' n' c') from pb_2.out).cell 0
  have z_pb1_2 := (show Blk w2 (w.heap.size + 1) 25 (prjV e' A' n' c') from pb_2.out).cell 1
  go_wp2_with fail
  refine (first_ok2 (sa_2.out).1 (sb_2.out).1 (sa_2.out).2 (sb_2.out).2 he he' H1.out H2.out HF.out).mono ?_; rintro en w3 ⟨rfl, hb⟩
  have pa_3 : Hid (Blk w3 w.heap.size 25 (prjV e A n c)) := keepB pa_2.out hb
  have pb_3 : Hid (Blk w3 (w.heap.size + 1) 25 (prjV e' A' n' c')) := keepB pb_2.out hb
  have sa_3 : Hid (Sl rpStp w3 D A n c l) := keepS sa_2.out hb
  have sb_3 : Hid (Sl rpStp w3 D' A' n' c' l') := keepS sb_2.out hb
  have BB_3 : Hid (Below w.heap.size w w3) := stepB BB_2.out hb
  clear z_pa0_2 z_pa1_2 z_pb0_2 z_pb1_2
  clear hb
  have z_pa0_3 := (show Blk w3 w.heap.size 25 (prjV e A n c) from pa_3.out).cell 0
  have z_pa1_3 := (show Blk w3 w.heap.size 25 (prjV e A n c) from pa_3.out).cell 1
  go_wp2_with fail
  have hr := rpright_any (sa_3.out).1 (sa_3.out).2 he
  rw [dec_true H1.out] at hr
  have HRa3 := Lib.hid hr
  clear hr
  refine (HRa3.out).mono ?_; rintro en w4 ⟨rfl, hb⟩
  have pa_4 : Hid (Blk w4 w.heap.size 25 (prjV e A n c)) := keepB pa_3.out hb
  have pb_4 : Hid (Blk w4 (w.heap.size + 1) 25 (prjV e' A' n' c')) := keepB pb_3.out hb
  have sa_4 : Hid (Sl rpStp w4 D A n c l) := keepS sa_3.out hb
  have sb_4 : Hid (Sl rpStp w4 D' A' n' c' l') := keepS sb_3.out hb
  have BB_4 : Hid (Below w.heap.size w w4) := stepB BB_3.out hb
  clear z_pa0_3 z_pa1_3
  clear hb
  have z_pb0_4 := (show Blk w4 (w.heap.size + 1) 25 (prjV e' A' n' c') from pb_4.out).cell 0
  have z_pb1_4 := (show Blk w4 (w.heap.size + 1) 25 (prjV e' A' n' c') from pb_4.out).cell 1
  go_wp2_with fail
  have hr := rpright_any (sb_4.out).1 (sb_4.out).2 he'
  rw [dec_true H2.out] at hr
  have HRb4 := Lib.hid hr
  clear hr
  refine (HRb4.out).mono ?_; rintro en w5 ⟨rfl, hb⟩
  have pa_5 : Hid (Blk w5 w.heap.size 25 (prjV e A n c)) := keepB pa_4.out hb
  have pb_5 : Hid (Blk w5 (w.heap.size + 1) 25 (prjV e' A' n' c')) := keepB pb_4.out hb
  have sa_5 : Hid (Sl rpStp w5 D A n c l) := keepS sa_4.out hb
  have sb_5 : Hid (Sl rpStp w5 D' A' n' c' l') := keepS sb_4.out hb
  have BB_5 : Hid (Below w.heap.size w w5) := stepB BB_4.out hb
  clear z_pb0_4 z_pb1_4
  clear hb
  have z_pa0_5 := (show Blk w5 w.heap.size 25 (prjV e A n c) from pa_5.out).cell 0
  have z_pa1_5 := (show Blk w5 w.heap.size 25 (prjV e A n c) from pa_5.out).cell 1
  have z_pb0_5 := (show Blk w5 (w.heap.size + 1) 25 (prjV e' A' n' c') from pb_5.out).cell 0
  have z_pb1_5 := (show Blk w5 (w.heap.size + 1) 25 (prjV e' A' n' c') from pb_5.out).cell 1
  go_wp2_with fail
  have hp := repos_any x w5 hx
  rw [dec_true HPO.out] at hp
  have HP := Lib.hid hp
  clear hp
  refine (HP.out).mono ?_; rintro en wx ⟨rfl, rfl⟩
  go_wp2_with fail
  have zq_pa0_5 : ∀ x : Gr w5.heap.size w5, x.val.cell? ⟨w.heap.size, 0, none⟩ = _ := fun x => (keepB (show Blk w5 w.heap.size 25 (prjV e A n c) from pa_5.out) x.is).cell 0
  have zq_pa1_5 : ∀ x : Gr w5.heap.size w5, x.val.cell? ⟨w.heap.size, 1, none⟩ = _ := fun x => (keepB (show Blk w5 w.heap.size 25 (prjV e A n c) from pa_5.out) x.is).cell 1
  have zq_pb0_5 : ∀ x : Gr w5.heap.size w5, x.val.cell? ⟨(w.heap.size + 1), 0, none⟩ = _ := fun x => (keepB (show Blk w5 (w.heap.size + 1) 25 (prjV e' A' n' c') from pb_5.out) x.is).cell 0
  have zq_pb1_5 : ∀ x : Gr w5.heap.size w5, x.val.cell? ⟨(w.heap.size + 1), 1, none⟩ = _ := fun x => (keepB (show Blk w5 (w.heap.size + 1) 25 (prjV e' A' n' c') from pb_5.out) x.is).cell 1
  clear z_pa0_5 z_pa1_5 z_pb0_5 z_pb1_5
  obtain ⟨na1, nb1, Aa1, Ab1, ca1, cb1, hna, hnb, hsm⟩ := nodes_pair x (sa_5.out).1 (sb_5.out).1 (sa_5.out).2 (sb_5.out).2 he he' HPO.out H1.out H2.out
  rw [dec_true HMV.out] at hsm
  have HNA1 : Hid (∀ qq : Gr w5.heap.size w5, _) := fun qq => hna qq.val qq.is
  have HNB1 : Hid (∀ qq : Gr w5.heap.size w5, _) := fun qq => hnb qq.val qq.is
  have HSM1 : Hid (∀ qq : Gr w5.heap.size w5, _) := fun qq => hsm qq.val qq.is
  clear hna hnb hsm
  refine wp_region_grow (by kernel_rfl) (by kernel_rfl) w5.heap.size ?_
  repeat (first | go_big_quiet_step ((first | (go_at_call 32; first | with_reducible exact Gr.call _ (Nat.le_refl _) (HNA1.out _) | with_reducible exact Gr.call _ (Nat.le_refl _) (HNB1.out _)) | (go_at_call 31; exact Gr.call _ (Nat.le_refl _) (HSM1.out _)))) | quiet_step ((first | (go_at_call 32; first | with_reducible exact Gr.call _ (Nat.le_refl _) (HNA1.out _) | with_reducible exact Gr.call _ (Nat.le_refl _) (HNB1.out _)) | (go_at_call 31; exact Gr.call _ (Nat.le_refl _) (HSM1.out _)))))
  refine wpQuiet_nil ?_
  rintro w6 ⟨⟨_, hb⟩, rfl⟩
  clear zq_pa0_5 zq_pa1_5 zq_pb0_5 zq_pb1_5
  have pa_6 : Hid (Blk w6 w.heap.size 25 (prjV e A n c)) := keepB pa_5.out hb
  have pb_6 : Hid (Blk w6 (w.heap.size + 1) 25 (prjV e' A' n' c')) := keepB pb_5.out hb
  have sa_6 : Hid (Sl rpStp w6 D A n c l) := keepS sa_5.out hb
  have sb_6 : Hid (Sl rpStp w6 D' A' n' c' l') := keepS sb_5.out hb
  have BB_6 : Hid (Below w.heap.size w w6) := stepB BB_5.out hb
  clear hb
  have z_pa0_6 := (show Blk w6 w.heap.size 25 (prjV e A n c) from pa_6.out).cell 0
  have z_pa1_6 := (show Blk w6 w.heap.size 25 (prjV e A n c) from pa_6.out).cell 1
  have z_pb0_6 := (show Blk w6 (w.heap.size + 1) 25 (prjV e' A' n' c') from pb_6.out).cell 0
  have z_pb1_6 := (show Blk w6 (w.heap.size + 1) 25 (prjV e' A' n' c') from pb_6.out).cell 1
  go_wp2_with fail
  have hm := moved_any x (sa_6.out).1 (sb_6.out).1 (sa_6.out).2 (sb_6.out).2 he he' hx
  rw [dec_false (fun h : MovedIs l l' e e' x => h.2.2 HMV.out)] at hm
  have HMV6 := Lib.hid hm
  clear hm
  refine (HMV6.out).mono ?_; rintro en w7 ⟨rfl, hb⟩
  have pa_7 : Hid (Blk w7 w.heap.size 25 (prjV e A n c)) := keepB pa_6.out hb
  have pb_7 : Hid (Blk w7 (w.heap.size + 1) 25 (prjV e' A' n' c')) := keepB pb_6.out hb
  have sa_7 : Hid (Sl rpStp w7 D A n c l) := keepS sa_6.out hb
  have sb_7 : Hid (Sl rpStp w7 D' A' n' c' l') := keepS sb_6.out hb
  have BB_7 : Hid (Below w.heap.size w w7) := stepB BB_6.out hb
  clear z_pa0_6 z_pa1_6 z_pb0_6 z_pb1_6
  clear hb
  go_wp2_with fail
  refine (lclive_any _).mono ?_; rintro en w8 ⟨rfl, hb⟩
  have pa_8 : Hid (Blk w8 w.heap.size 25 (prjV e A n c)) := keepB pa_7.out hb
  have pb_8 : Hid (Blk w8 (w.heap.size + 1) 25 (prjV e' A' n' c')) := keepB pb_7.out hb
  have sa_8 : Hid (Sl rpStp w8 D A n c l) := keepS sa_7.out hb
  have sb_8 : Hid (Sl rpStp w8 D' A' n' c' l') := keepS sb_7.out hb
  have BB_8 : Hid (Below w.heap.size w w8) := stepB BB_7.out hb
  clear hb
  go_wp2_with fail
  go_ret
  exact ⟨rfl, BB_8.out⟩
set_option maxRecDepth 100000 in
set_option maxHeartbeats 4000000 in
theorem moves_y0 (x : Nat) (hs : rpStp.sl w D A n c l) (hs' : rpStp.sl w D' A' n' c' l') (hD : ∀ k, D k → k < w.heap.size) (hD' : ∀ k, D' k → k < w.heap.size) (he : e ≤ 18446744073709551615) (he' : e' ≤ 18446744073709551615) (hx : x ≤ 18446744073709551615) (h1 : POk (e, l)) (h2 : POk (e', l')) (r : Nat) (hf : FirstIs l l' r true) (hr62 : r < 4611686018427387904) (hne : nodesAt l r ≠ nodesAt l' r) (heq : ∀ q, q < r → nodesAt l q = nodesAt l' q) (hpo : ¬ PosOk x) :
    Calls Try.prog 6 #[.agg (prjV e A n c), .agg (prjV e' A' n' c'), .int .u64 (x : Int)] w fun en w' => en = .returned (.bool true) ∧ Below w.heap.size w w' := by
  have H1 := Lib.hid h1
  have H2 := Lib.hid h2
  have HF := Lib.hid hf
  have HPO := Lib.hid hpo
  have HNE := Lib.hid hne
  have HEQ := Lib.hid heq
  clear h1 h2 hf hpo hne heq
  have pa_0 := Lib.hid (blk21 w 25 25 (prjV e A n c) (prjV e' A' n' c'))
  have pb_0 := Lib.hid (blk22 w 25 25 (prjV e A n c) (prjV e' A' n' c'))
  have hb := below2 w (.cells (prjV e A n c) 25) (.cells (prjV e' A' n' c') 25)
  have BB_0 := Lib.hid hb
  have sa_0 := Lib.hid (keepS (show Sl rpStp w D A n c l from ⟨hs, hD⟩) hb)
  have sb_0 := Lib.hid (keepS (show Sl rpStp w D' A' n' c' l' from ⟨hs', hD'⟩) hb)
  clear hb hs hs' hD hD'
  go_enter Try.func6, Try.ntmps6
  go_wp2_with fail
  generalize World.alloc (World.alloc w _) _ = w0 at *
  have z_pa0_0 := (show Blk w0 w.heap.size 25 (prjV e A n c) from pa_0.out).cell 0
  have z_pa1_0 := (show Blk w0 w.heap.size 25 (prjV e A n c) from pa_0.out).cell 1
  go_wp2_with fail
  refine (plong_any (e := e) (sa_0.out).1 (sa_0.out).2).mono ?_; rintro en w1 ⟨bb, rfl, hb⟩
  have pa_1 : Hid (Blk w1 w.heap.size 25 (prjV e A n c)) := keepB pa_0.out hb
  have pb_1 : Hid (Blk w1 (w.heap.size + 1) 25 (prjV e' A' n' c')) := keepB pb_0.out hb
  have sa_1 : Hid (Sl rpStp w1 D A n c l) := keepS sa_0.out hb
  have sb_1 : Hid (Sl rpStp w1 D' A' n' c' l') := keepS sb_0.out hb
  have BB_1 : Hid (Below w.heap.size w w1) := stepB BB_0.out hb
  clear z_pa0_0 z_pa1_0
  clear hb
  cases bb
  case true =>
    go_wp2_with fail
    refine (lclive_any _).mono ?_; rintro en w2 ⟨rfl, hb⟩
    have pa_2 : Hid (Blk w2 w.heap.size 25 (prjV e A n c)) := keepB pa_1.out hb
    have pb_2 : Hid (Blk w2 (w.heap.size + 1) 25 (prjV e' A' n' c')) := keepB pb_1.out hb
    have sa_2 : Hid (Sl rpStp w2 D A n c l) := keepS sa_1.out hb
    have sb_2 : Hid (Sl rpStp w2 D' A' n' c' l') := keepS sb_1.out hb
    have BB_2 : Hid (Below w.heap.size w w2) := stepB BB_1.out hb
    clear hb
    go_wp2_with fail
    go_ret
    exact ⟨rfl, BB_2.out⟩
  have z_pb0_1 := (show Blk w1 (w.heap.size + 1) 25 (prjV e' A' n' c') from pb_1.out).cell 0
  have z_pb1_1 := (show Blk w1 (w.heap.size + 1) 25 (prjV e' A' n' c') from pb_1.out).cell 1
  go_wp2_with fail
  refine (plong_any (e := e') (sb_1.out).1 (sb_1.out).2).mono ?_; rintro en w2 ⟨bb, rfl, hb⟩
  have pa_2 : Hid (Blk w2 w.heap.size 25 (prjV e A n c)) := keepB pa_1.out hb
  have pb_2 : Hid (Blk w2 (w.heap.size + 1) 25 (prjV e' A' n' c')) := keepB pb_1.out hb
  have sa_2 : Hid (Sl rpStp w2 D A n c l) := keepS sa_1.out hb
  have sb_2 : Hid (Sl rpStp w2 D' A' n' c' l') := keepS sb_1.out hb
  have BB_2 : Hid (Below w.heap.size w w2) := stepB BB_1.out hb
  clear z_pb0_1 z_pb1_1
  clear hb
  cases bb
  case true =>
    go_wp2_with fail
    refine (lclive_any _).mono ?_; rintro en w3 ⟨rfl, hb⟩
    have pa_3 : Hid (Blk w3 w.heap.size 25 (prjV e A n c)) := keepB pa_2.out hb
    have pb_3 : Hid (Blk w3 (w.heap.size + 1) 25 (prjV e' A' n' c')) := keepB pb_2.out hb
    have sa_3 : Hid (Sl rpStp w3 D A n c l) := keepS sa_2.out hb
    have sb_3 : Hid (Sl rpStp w3 D' A' n' c' l') := keepS sb_2.out hb
    have BB_3 : Hid (Below w.heap.size w w3) := stepB BB_2.out hb
    clear hb
    go_wp2_with fail
    go_ret
    exact ⟨rfl, BB_3.out⟩
  have z_pa0_2 := (show Blk w2 w.heap.size 25 (prjV e A n c) from pa_2.out).cell 0
  have z_pa1_2 := (show Blk w2 w.heap.size 25 (prjV e A n c) from pa_2.out).cell 1
  have z_pb0_2 := (show Blk w2 (w.heap.size + 1) 25 (prjV e' A' n' c') from pb_2.out).cell 0
  have z_pb1_2 := (show Blk w2 (w.heap.size + 1) 25 (prjV e' A' n' c') from pb_2.out).cell 1
  go_wp2_with fail
  refine (first_ok2 (sa_2.out).1 (sb_2.out).1 (sa_2.out).2 (sb_2.out).2 he he' H1.out H2.out HF.out).mono ?_; rintro en w3 ⟨rfl, hb⟩
  have pa_3 : Hid (Blk w3 w.heap.size 25 (prjV e A n c)) := keepB pa_2.out hb
  have pb_3 : Hid (Blk w3 (w.heap.size + 1) 25 (prjV e' A' n' c')) := keepB pb_2.out hb
  have sa_3 : Hid (Sl rpStp w3 D A n c l) := keepS sa_2.out hb
  have sb_3 : Hid (Sl rpStp w3 D' A' n' c' l') := keepS sb_2.out hb
  have BB_3 : Hid (Below w.heap.size w w3) := stepB BB_2.out hb
  clear z_pa0_2 z_pa1_2 z_pb0_2 z_pb1_2
  clear hb
  have z_pa0_3 := (show Blk w3 w.heap.size 25 (prjV e A n c) from pa_3.out).cell 0
  have z_pa1_3 := (show Blk w3 w.heap.size 25 (prjV e A n c) from pa_3.out).cell 1
  go_wp2_with fail
  have hr := rpright_any (sa_3.out).1 (sa_3.out).2 he
  rw [dec_true H1.out] at hr
  have HRa3 := Lib.hid hr
  clear hr
  refine (HRa3.out).mono ?_; rintro en w4 ⟨rfl, hb⟩
  have pa_4 : Hid (Blk w4 w.heap.size 25 (prjV e A n c)) := keepB pa_3.out hb
  have pb_4 : Hid (Blk w4 (w.heap.size + 1) 25 (prjV e' A' n' c')) := keepB pb_3.out hb
  have sa_4 : Hid (Sl rpStp w4 D A n c l) := keepS sa_3.out hb
  have sb_4 : Hid (Sl rpStp w4 D' A' n' c' l') := keepS sb_3.out hb
  have BB_4 : Hid (Below w.heap.size w w4) := stepB BB_3.out hb
  clear z_pa0_3 z_pa1_3
  clear hb
  have z_pb0_4 := (show Blk w4 (w.heap.size + 1) 25 (prjV e' A' n' c') from pb_4.out).cell 0
  have z_pb1_4 := (show Blk w4 (w.heap.size + 1) 25 (prjV e' A' n' c') from pb_4.out).cell 1
  go_wp2_with fail
  have hr := rpright_any (sb_4.out).1 (sb_4.out).2 he'
  rw [dec_true H2.out] at hr
  have HRb4 := Lib.hid hr
  clear hr
  refine (HRb4.out).mono ?_; rintro en w5 ⟨rfl, hb⟩
  have pa_5 : Hid (Blk w5 w.heap.size 25 (prjV e A n c)) := keepB pa_4.out hb
  have pb_5 : Hid (Blk w5 (w.heap.size + 1) 25 (prjV e' A' n' c')) := keepB pb_4.out hb
  have sa_5 : Hid (Sl rpStp w5 D A n c l) := keepS sa_4.out hb
  have sb_5 : Hid (Sl rpStp w5 D' A' n' c' l') := keepS sb_4.out hb
  have BB_5 : Hid (Below w.heap.size w w5) := stepB BB_4.out hb
  clear z_pb0_4 z_pb1_4
  clear hb
  have z_pa0_5 := (show Blk w5 w.heap.size 25 (prjV e A n c) from pa_5.out).cell 0
  have z_pa1_5 := (show Blk w5 w.heap.size 25 (prjV e A n c) from pa_5.out).cell 1
  have z_pb0_5 := (show Blk w5 (w.heap.size + 1) 25 (prjV e' A' n' c') from pb_5.out).cell 0
  have z_pb1_5 := (show Blk w5 (w.heap.size + 1) 25 (prjV e' A' n' c') from pb_5.out).cell 1
  go_wp2_with fail
  have hp := repos_any x w5 hx
  rw [dec_false HPO.out] at hp
  have HP := Lib.hid hp
  clear hp
  refine (HP.out).mono ?_; rintro en wx ⟨rfl, rfl⟩
  go_wp2_with fail
  have hm := moved_any x (sa_5.out).1 (sb_5.out).1 (sa_5.out).2 (sb_5.out).2 he he' hx
  rw [dec_false (fun h : MovedIs l l' e e' x => HPO.out h.1.2)] at hm
  have HMV5 := Lib.hid hm
  clear hm
  refine (HMV5.out).mono ?_; rintro en w6 ⟨rfl, hb⟩
  have pa_6 : Hid (Blk w6 w.heap.size 25 (prjV e A n c)) := keepB pa_5.out hb
  have pb_6 : Hid (Blk w6 (w.heap.size + 1) 25 (prjV e' A' n' c')) := keepB pb_5.out hb
  have sa_6 : Hid (Sl rpStp w6 D A n c l) := keepS sa_5.out hb
  have sb_6 : Hid (Sl rpStp w6 D' A' n' c' l') := keepS sb_5.out hb
  have BB_6 : Hid (Below w.heap.size w w6) := stepB BB_5.out hb
  clear z_pa0_5 z_pa1_5 z_pb0_5 z_pb1_5
  clear hb
  go_wp2_with fail
  go_loopw [10] (fun i wr => ∃ k : Nat, 1 ≤ k ∧ k ≤ 200 ∧ i = .int .u64 k ∧ Hid (Blk wr w.heap.size 25 (prjV e A n c)) ∧ Hid (Blk wr (w.heap.size + 1) 25 (prjV e' A' n' c')) ∧ Hid (Sl rpStp wr D A n c l) ∧ Hid (Sl rpStp wr D' A' n' c' l') ∧ Hid (Below w.heap.size w wr)) (fun i _ => 200 - (intOf i).toNat)
  case atStart => exact ⟨1, by omega, by omega, rfl, pa_6.out, pb_6.out, sa_6.out, sb_6.out, BB_6.out⟩
  case round =>
    obtain ⟨k, hk1, hk2, rfl, pa_100, pb_100, sa_100, sb_100, BB_100⟩ := hrel
    obtain ⟨w100, hw100⟩ : ∃ w100, w100 = wr := ⟨_, rfl⟩
    subst hw100
    by_cases h200 : k < 200
    case neg =>
      have hd1 : decide ((k : Int) < 200) = false := by simp; omega
      clear h200
      go_wp2_with fail
      have zq_pa0_100 : ∀ x : Gr w100.heap.size w100, x.val.cell? ⟨w.heap.size, 0, none⟩ = _ := fun x => (keepB (show Blk w100 w.heap.size 25 (prjV e A n c) from pa_100.out) x.is).cell 0
      have zq_pa1_100 : ∀ x : Gr w100.heap.size w100, x.val.cell? ⟨w.heap.size, 1, none⟩ = _ := fun x => (keepB (show Blk w100 w.heap.size 25 (prjV e A n c) from pa_100.out) x.is).cell 1
      have zq_pb0_100 : ∀ x : Gr w100.heap.size w100, x.val.cell? ⟨(w.heap.size + 1), 0, none⟩ = _ := fun x => (keepB (show Blk w100 (w.heap.size + 1) 25 (prjV e' A' n' c') from pb_100.out) x.is).cell 0
      have zq_pb1_100 : ∀ x : Gr w100.heap.size w100, x.val.cell? ⟨(w.heap.size + 1), 1, none⟩ = _ := fun x => (keepB (show Blk w100 (w.heap.size + 1) 25 (prjV e' A' n' c') from pb_100.out) x.is).cell 1
      obtain ⟨na3, nb3, Aa3, Ab3, ca3, cb3, hna, hnb, hsm⟩ := nodes_pair r (sa_100.out).1 (sb_100.out).1 (sa_100.out).2 (sb_100.out).2 he he' (show PosOk r from hr62) H1.out H2.out
      rw [dec_false HNE.out] at hsm
      have HNA3 : Hid (∀ qq : Gr w100.heap.size w100, _) := fun qq => hna qq.val qq.is
      have HNB3 : Hid (∀ qq : Gr w100.heap.size w100, _) := fun qq => hnb qq.val qq.is
      have HSM3 : Hid (∀ qq : Gr w100.heap.size w100, _) := fun qq => hsm qq.val qq.is
      clear hna hnb hsm
      have hma := fun qq : Gr w100.heap.size w100 => moved_any x (keepS sa_100.out qq.is).1 (keepS sa_100.out qq.is).1 (keepS sa_100.out qq.is).2 (keepS sa_100.out qq.is).2 he he hx
      rw [dec_false (fun h : MovedIs l l e e x => h.2.2 rfl)] at hma
      have HMA := Lib.hid hma
      clear hma
      refine wp_region_grow (by kernel_rfl) (by kernel_rfl) w100.heap.size ?_
      repeat (first | go_big_quiet_step ((first | (go_at_call 32; first | with_reducible exact Gr.call _ (Nat.le_refl _) (HNA3.out _) | with_reducible exact Gr.call _ (Nat.le_refl _) (HNB3.out _)) | (go_at_call 31; exact Gr.call _ (Nat.le_refl _) (HSM3.out _)) | (go_at_call 25; exact Gr.call _ (Nat.le_refl _) (HMA.out _)) | (go_at_call 26; exact Gr.call _ (Nat.le_refl _) (lclive_any _)))) | quiet_step ((first | (go_at_call 32; first | with_reducible exact Gr.call _ (Nat.le_refl _) (HNA3.out _) | with_reducible exact Gr.call _ (Nat.le_refl _) (HNB3.out _)) | (go_at_call 31; exact Gr.call _ (Nat.le_refl _) (HSM3.out _)) | (go_at_call 25; exact Gr.call _ (Nat.le_refl _) (HMA.out _)) | (go_at_call 26; exact Gr.call _ (Nat.le_refl _) (lclive_any _)))))
      refine wpQuiet_nil ?_
      rintro w101 ⟨⟨_, hb⟩, rfl⟩
      clear zq_pa0_100 zq_pa1_100 zq_pb0_100 zq_pb1_100
      have pa_101 : Hid (Blk w101 w.heap.size 25 (prjV e A n c)) := keepB pa_100.out hb
      have pb_101 : Hid (Blk w101 (w.heap.size + 1) 25 (prjV e' A' n' c')) := keepB pb_100.out hb
      have sa_101 : Hid (Sl rpStp w101 D A n c l) := keepS sa_100.out hb
      have sb_101 : Hid (Sl rpStp w101 D' A' n' c' l') := keepS sb_100.out hb
      have BB_101 : Hid (Below w.heap.size w w101) := stepB BB_100.out hb
      clear hb
      go_wp2_with fail
      go_ret
      exact ⟨rfl, BB_101.out⟩
    case pos =>
      have hd1 : decide ((k : Int) < 200) = true := by simp; omega
      by_cases hkr : k ≤ r
      case neg =>
        have hd2 : decide ((k : Int) ≤ (r : Int)) = false := by simp; omega
        have hd3 : decide (k ≤ r) = false := by simp; omega
        clear h200 hkr
        go_wp2_with fail
        have zq_pa0_100 : ∀ x : Gr w100.heap.size w100, x.val.cell? ⟨w.heap.size, 0, none⟩ = _ := fun x => (keepB (show Blk w100 w.heap.size 25 (prjV e A n c) from pa_100.out) x.is).cell 0
        have zq_pa1_100 : ∀ x : Gr w100.heap.size w100, x.val.cell? ⟨w.heap.size, 1, none⟩ = _ := fun x => (keepB (show Blk w100 w.heap.size 25 (prjV e A n c) from pa_100.out) x.is).cell 1
        have zq_pb0_100 : ∀ x : Gr w100.heap.size w100, x.val.cell? ⟨(w.heap.size + 1), 0, none⟩ = _ := fun x => (keepB (show Blk w100 (w.heap.size + 1) 25 (prjV e' A' n' c') from pb_100.out) x.is).cell 0
        have zq_pb1_100 : ∀ x : Gr w100.heap.size w100, x.val.cell? ⟨(w.heap.size + 1), 1, none⟩ = _ := fun x => (keepB (show Blk w100 (w.heap.size + 1) 25 (prjV e' A' n' c') from pb_100.out) x.is).cell 1
        obtain ⟨na3, nb3, Aa3, Ab3, ca3, cb3, hna, hnb, hsm⟩ := nodes_pair r (sa_100.out).1 (sb_100.out).1 (sa_100.out).2 (sb_100.out).2 he he' (show PosOk r from hr62) H1.out H2.out
        rw [dec_false HNE.out] at hsm
        have HNA3 : Hid (∀ qq : Gr w100.heap.size w100, _) := fun qq => hna qq.val qq.is
        have HNB3 : Hid (∀ qq : Gr w100.heap.size w100, _) := fun qq => hnb qq.val qq.is
        have HSM3 : Hid (∀ qq : Gr w100.heap.size w100, _) := fun qq => hsm qq.val qq.is
        clear hna hnb hsm
        have hma := fun qq : Gr w100.heap.size w100 => moved_any x (keepS sa_100.out qq.is).1 (keepS sa_100.out qq.is).1 (keepS sa_100.out qq.is).2 (keepS sa_100.out qq.is).2 he he hx
        rw [dec_false (fun h : MovedIs l l e e x => h.2.2 rfl)] at hma
        have HMA := Lib.hid hma
        clear hma
        refine wp_region_grow (by kernel_rfl) (by kernel_rfl) w100.heap.size ?_
        repeat (first | go_big_quiet_step ((first | (go_at_call 32; first | with_reducible exact Gr.call _ (Nat.le_refl _) (HNA3.out _) | with_reducible exact Gr.call _ (Nat.le_refl _) (HNB3.out _)) | (go_at_call 31; exact Gr.call _ (Nat.le_refl _) (HSM3.out _)) | (go_at_call 25; exact Gr.call _ (Nat.le_refl _) (HMA.out _)) | (go_at_call 26; exact Gr.call _ (Nat.le_refl _) (lclive_any _)))) | quiet_step ((first | (go_at_call 32; first | with_reducible exact Gr.call _ (Nat.le_refl _) (HNA3.out _) | with_reducible exact Gr.call _ (Nat.le_refl _) (HNB3.out _)) | (go_at_call 31; exact Gr.call _ (Nat.le_refl _) (HSM3.out _)) | (go_at_call 25; exact Gr.call _ (Nat.le_refl _) (HMA.out _)) | (go_at_call 26; exact Gr.call _ (Nat.le_refl _) (lclive_any _)))))
        refine wpQuiet_nil ?_
        rintro w101 ⟨⟨_, hb⟩, rfl⟩
        clear zq_pa0_100 zq_pa1_100 zq_pb0_100 zq_pb1_100
        have pa_101 : Hid (Blk w101 w.heap.size 25 (prjV e A n c)) := keepB pa_100.out hb
        have pb_101 : Hid (Blk w101 (w.heap.size + 1) 25 (prjV e' A' n' c')) := keepB pb_100.out hb
        have sa_101 : Hid (Sl rpStp w101 D A n c l) := keepS sa_100.out hb
        have sb_101 : Hid (Sl rpStp w101 D' A' n' c' l') := keepS sb_100.out hb
        have BB_101 : Hid (Below w.heap.size w w101) := stepB BB_100.out hb
        clear hb
        go_wp2_with fail
        go_ret
        exact ⟨rfl, BB_101.out⟩
      case pos =>
        have hd2 : decide ((k : Int) ≤ (r : Int)) = true := by simp; omega
        have hd3 : decide (k ≤ r) = true := by simp; omega
        obtain ⟨Y, hY⟩ : ∃ Y, Y = r - k := ⟨_, rfl⟩
        have hYr : Y < r := by omega
        have HY62 : Hid (PosOk Y) := (by omega : Y < 4611686018427387904)
        have s4 : IntKind.u64.wrap ((r : Int) - (k : Int)) = (Y : Int) := by rw [IntWalk.u64_in _ (by omega)]; omega
        have HYE : Hid (nodesAt l Y = nodesAt l' Y) := HEQ.out Y hYr
        clear hY hYr
        go_wp2_with fail
        have zq_pa0_100 : ∀ x : Gr w100.heap.size w100, x.val.cell? ⟨w.heap.size, 0, none⟩ = _ := fun x => (keepB (show Blk w100 w.heap.size 25 (prjV e A n c) from pa_100.out) x.is).cell 0
        have zq_pa1_100 : ∀ x : Gr w100.heap.size w100, x.val.cell? ⟨w.heap.size, 1, none⟩ = _ := fun x => (keepB (show Blk w100 w.heap.size 25 (prjV e A n c) from pa_100.out) x.is).cell 1
        have zq_pb0_100 : ∀ x : Gr w100.heap.size w100, x.val.cell? ⟨(w.heap.size + 1), 0, none⟩ = _ := fun x => (keepB (show Blk w100 (w.heap.size + 1) 25 (prjV e' A' n' c') from pb_100.out) x.is).cell 0
        have zq_pb1_100 : ∀ x : Gr w100.heap.size w100, x.val.cell? ⟨(w.heap.size + 1), 1, none⟩ = _ := fun x => (keepB (show Blk w100 (w.heap.size + 1) 25 (prjV e' A' n' c') from pb_100.out) x.is).cell 1
        obtain ⟨na2, nb2, Aa2, Ab2, ca2, cb2, hna, hnb, hsm⟩ := nodes_pair Y (sa_100.out).1 (sb_100.out).1 (sa_100.out).2 (sb_100.out).2 he he' HY62.out H1.out H2.out
        rw [dec_true HYE.out] at hsm
        have HNA2 : Hid (∀ qq : Gr w100.heap.size w100, _) := fun qq => hna qq.val qq.is
        have HNB2 : Hid (∀ qq : Gr w100.heap.size w100, _) := fun qq => hnb qq.val qq.is
        have HSM2 : Hid (∀ qq : Gr w100.heap.size w100, _) := fun qq => hsm qq.val qq.is
        clear hna hnb hsm
        refine wp_region_grow (by kernel_rfl) (by kernel_rfl) w100.heap.size ?_
        repeat (first | go_big_quiet_step ((first | (go_at_call 32; first | with_reducible exact Gr.call _ (Nat.le_refl _) (HNA2.out _) | with_reducible exact Gr.call _ (Nat.le_refl _) (HNB2.out _)) | (go_at_call 31; exact Gr.call _ (Nat.le_refl _) (HSM2.out _)))) | quiet_step ((first | (go_at_call 32; first | with_reducible exact Gr.call _ (Nat.le_refl _) (HNA2.out _) | with_reducible exact Gr.call _ (Nat.le_refl _) (HNB2.out _)) | (go_at_call 31; exact Gr.call _ (Nat.le_refl _) (HSM2.out _)))))
        refine wpQuiet_nil ?_
        rintro w101 ⟨⟨_, hb⟩, rfl⟩
        clear zq_pa0_100 zq_pa1_100 zq_pb0_100 zq_pb1_100
        have pa_101 : Hid (Blk w101 w.heap.size 25 (prjV e A n c)) := keepB pa_100.out hb
        have pb_101 : Hid (Blk w101 (w.heap.size + 1) 25 (prjV e' A' n' c')) := keepB pb_100.out hb
        have sa_101 : Hid (Sl rpStp w101 D A n c l) := keepS sa_100.out hb
        have sb_101 : Hid (Sl rpStp w101 D' A' n' c' l') := keepS sb_100.out hb
        have BB_101 : Hid (Below w.heap.size w w101) := stepB BB_100.out hb
        clear hb
        go_wp2_with fail
        go_roundw
        case rel => exact ⟨k + 1, by omega, by omega, by go_num, pa_101.out, pb_101.out, sa_101.out, sb_101.out, BB_101.out⟩
        case measure => simp [intOf]; omega
set_option maxRecDepth 100000 in
set_option maxHeartbeats 4000000 in
theorem moves_y1 (x : Nat) (hs : rpStp.sl w D A n c l) (hs' : rpStp.sl w D' A' n' c' l') (hD : ∀ k, D k → k < w.heap.size) (hD' : ∀ k, D' k → k < w.heap.size) (he : e ≤ 18446744073709551615) (he' : e' ≤ 18446744073709551615) (hx : x ≤ 18446744073709551615) (h1 : POk (e, l)) (h2 : POk (e', l')) (r : Nat) (hf : FirstIs l l' r true) (hr62 : r < 4611686018427387904) (hne : nodesAt l r ≠ nodesAt l' r) (heq : ∀ q, q < r → nodesAt l q = nodesAt l' q) (hpo : PosOk x) (hmv : nodesAt l x = nodesAt l' x) :
    Calls Try.prog 6 #[.agg (prjV e A n c), .agg (prjV e' A' n' c'), .int .u64 (x : Int)] w fun en w' => en = .returned (.bool true) ∧ Below w.heap.size w w' := by
  have H1 := Lib.hid h1
  have H2 := Lib.hid h2
  have HF := Lib.hid hf
  have HPO := Lib.hid hpo
  have HMV := Lib.hid hmv
  have HNE := Lib.hid hne
  have HEQ := Lib.hid heq
  clear h1 h2 hf hpo hmv hne heq
  have pa_0 := Lib.hid (blk21 w 25 25 (prjV e A n c) (prjV e' A' n' c'))
  have pb_0 := Lib.hid (blk22 w 25 25 (prjV e A n c) (prjV e' A' n' c'))
  have hb := below2 w (.cells (prjV e A n c) 25) (.cells (prjV e' A' n' c') 25)
  have BB_0 := Lib.hid hb
  have sa_0 := Lib.hid (keepS (show Sl rpStp w D A n c l from ⟨hs, hD⟩) hb)
  have sb_0 := Lib.hid (keepS (show Sl rpStp w D' A' n' c' l' from ⟨hs', hD'⟩) hb)
  clear hb hs hs' hD hD'
  go_enter Try.func6, Try.ntmps6
  go_wp2_with fail
  generalize World.alloc (World.alloc w _) _ = w0 at *
  have z_pa0_0 := (show Blk w0 w.heap.size 25 (prjV e A n c) from pa_0.out).cell 0
  have z_pa1_0 := (show Blk w0 w.heap.size 25 (prjV e A n c) from pa_0.out).cell 1
  go_wp2_with fail
  refine (plong_any (e := e) (sa_0.out).1 (sa_0.out).2).mono ?_; rintro en w1 ⟨bb, rfl, hb⟩
  have pa_1 : Hid (Blk w1 w.heap.size 25 (prjV e A n c)) := keepB pa_0.out hb
  have pb_1 : Hid (Blk w1 (w.heap.size + 1) 25 (prjV e' A' n' c')) := keepB pb_0.out hb
  have sa_1 : Hid (Sl rpStp w1 D A n c l) := keepS sa_0.out hb
  have sb_1 : Hid (Sl rpStp w1 D' A' n' c' l') := keepS sb_0.out hb
  have BB_1 : Hid (Below w.heap.size w w1) := stepB BB_0.out hb
  clear z_pa0_0 z_pa1_0
  clear hb
  cases bb
  case true =>
    go_wp2_with fail
    refine (lclive_any _).mono ?_; rintro en w2 ⟨rfl, hb⟩
    have pa_2 : Hid (Blk w2 w.heap.size 25 (prjV e A n c)) := keepB pa_1.out hb
    have pb_2 : Hid (Blk w2 (w.heap.size + 1) 25 (prjV e' A' n' c')) := keepB pb_1.out hb
    have sa_2 : Hid (Sl rpStp w2 D A n c l) := keepS sa_1.out hb
    have sb_2 : Hid (Sl rpStp w2 D' A' n' c' l') := keepS sb_1.out hb
    have BB_2 : Hid (Below w.heap.size w w2) := stepB BB_1.out hb
    clear hb
    go_wp2_with fail
    go_ret
    exact ⟨rfl, BB_2.out⟩
  have z_pb0_1 := (show Blk w1 (w.heap.size + 1) 25 (prjV e' A' n' c') from pb_1.out).cell 0
  have z_pb1_1 := (show Blk w1 (w.heap.size + 1) 25 (prjV e' A' n' c') from pb_1.out).cell 1
  go_wp2_with fail
  refine (plong_any (e := e') (sb_1.out).1 (sb_1.out).2).mono ?_; rintro en w2 ⟨bb, rfl, hb⟩
  have pa_2 : Hid (Blk w2 w.heap.size 25 (prjV e A n c)) := keepB pa_1.out hb
  have pb_2 : Hid (Blk w2 (w.heap.size + 1) 25 (prjV e' A' n' c')) := keepB pb_1.out hb
  have sa_2 : Hid (Sl rpStp w2 D A n c l) := keepS sa_1.out hb
  have sb_2 : Hid (Sl rpStp w2 D' A' n' c' l') := keepS sb_1.out hb
  have BB_2 : Hid (Below w.heap.size w w2) := stepB BB_1.out hb
  clear z_pb0_1 z_pb1_1
  clear hb
  cases bb
  case true =>
    go_wp2_with fail
    refine (lclive_any _).mono ?_; rintro en w3 ⟨rfl, hb⟩
    have pa_3 : Hid (Blk w3 w.heap.size 25 (prjV e A n c)) := keepB pa_2.out hb
    have pb_3 : Hid (Blk w3 (w.heap.size + 1) 25 (prjV e' A' n' c')) := keepB pb_2.out hb
    have sa_3 : Hid (Sl rpStp w3 D A n c l) := keepS sa_2.out hb
    have sb_3 : Hid (Sl rpStp w3 D' A' n' c' l') := keepS sb_2.out hb
    have BB_3 : Hid (Below w.heap.size w w3) := stepB BB_2.out hb
    clear hb
    go_wp2_with fail
    go_ret
    exact ⟨rfl, BB_3.out⟩
  have z_pa0_2 := (show Blk w2 w.heap.size 25 (prjV e A n c) from pa_2.out).cell 0
  have z_pa1_2 := (show Blk w2 w.heap.size 25 (prjV e A n c) from pa_2.out).cell 1
  have z_pb0_2 := (show Blk w2 (w.heap.size + 1) 25 (prjV e' A' n' c') from pb_2.out).cell 0
  have z_pb1_2 := (show Blk w2 (w.heap.size + 1) 25 (prjV e' A' n' c') from pb_2.out).cell 1
  go_wp2_with fail
  refine (first_ok2 (sa_2.out).1 (sb_2.out).1 (sa_2.out).2 (sb_2.out).2 he he' H1.out H2.out HF.out).mono ?_; rintro en w3 ⟨rfl, hb⟩
  have pa_3 : Hid (Blk w3 w.heap.size 25 (prjV e A n c)) := keepB pa_2.out hb
  have pb_3 : Hid (Blk w3 (w.heap.size + 1) 25 (prjV e' A' n' c')) := keepB pb_2.out hb
  have sa_3 : Hid (Sl rpStp w3 D A n c l) := keepS sa_2.out hb
  have sb_3 : Hid (Sl rpStp w3 D' A' n' c' l') := keepS sb_2.out hb
  have BB_3 : Hid (Below w.heap.size w w3) := stepB BB_2.out hb
  clear z_pa0_2 z_pa1_2 z_pb0_2 z_pb1_2
  clear hb
  have z_pa0_3 := (show Blk w3 w.heap.size 25 (prjV e A n c) from pa_3.out).cell 0
  have z_pa1_3 := (show Blk w3 w.heap.size 25 (prjV e A n c) from pa_3.out).cell 1
  go_wp2_with fail
  have hr := rpright_any (sa_3.out).1 (sa_3.out).2 he
  rw [dec_true H1.out] at hr
  have HRa3 := Lib.hid hr
  clear hr
  refine (HRa3.out).mono ?_; rintro en w4 ⟨rfl, hb⟩
  have pa_4 : Hid (Blk w4 w.heap.size 25 (prjV e A n c)) := keepB pa_3.out hb
  have pb_4 : Hid (Blk w4 (w.heap.size + 1) 25 (prjV e' A' n' c')) := keepB pb_3.out hb
  have sa_4 : Hid (Sl rpStp w4 D A n c l) := keepS sa_3.out hb
  have sb_4 : Hid (Sl rpStp w4 D' A' n' c' l') := keepS sb_3.out hb
  have BB_4 : Hid (Below w.heap.size w w4) := stepB BB_3.out hb
  clear z_pa0_3 z_pa1_3
  clear hb
  have z_pb0_4 := (show Blk w4 (w.heap.size + 1) 25 (prjV e' A' n' c') from pb_4.out).cell 0
  have z_pb1_4 := (show Blk w4 (w.heap.size + 1) 25 (prjV e' A' n' c') from pb_4.out).cell 1
  go_wp2_with fail
  have hr := rpright_any (sb_4.out).1 (sb_4.out).2 he'
  rw [dec_true H2.out] at hr
  have HRb4 := Lib.hid hr
  clear hr
  refine (HRb4.out).mono ?_; rintro en w5 ⟨rfl, hb⟩
  have pa_5 : Hid (Blk w5 w.heap.size 25 (prjV e A n c)) := keepB pa_4.out hb
  have pb_5 : Hid (Blk w5 (w.heap.size + 1) 25 (prjV e' A' n' c')) := keepB pb_4.out hb
  have sa_5 : Hid (Sl rpStp w5 D A n c l) := keepS sa_4.out hb
  have sb_5 : Hid (Sl rpStp w5 D' A' n' c' l') := keepS sb_4.out hb
  have BB_5 : Hid (Below w.heap.size w w5) := stepB BB_4.out hb
  clear z_pb0_4 z_pb1_4
  clear hb
  have z_pa0_5 := (show Blk w5 w.heap.size 25 (prjV e A n c) from pa_5.out).cell 0
  have z_pa1_5 := (show Blk w5 w.heap.size 25 (prjV e A n c) from pa_5.out).cell 1
  have z_pb0_5 := (show Blk w5 (w.heap.size + 1) 25 (prjV e' A' n' c') from pb_5.out).cell 0
  have z_pb1_5 := (show Blk w5 (w.heap.size + 1) 25 (prjV e' A' n' c') from pb_5.out).cell 1
  go_wp2_with fail
  have hp := repos_any x w5 hx
  rw [dec_true HPO.out] at hp
  have HP := Lib.hid hp
  clear hp
  refine (HP.out).mono ?_; rintro en wx ⟨rfl, rfl⟩
  go_wp2_with fail
  have zq_pa0_5 : ∀ x : Gr w5.heap.size w5, x.val.cell? ⟨w.heap.size, 0, none⟩ = _ := fun x => (keepB (show Blk w5 w.heap.size 25 (prjV e A n c) from pa_5.out) x.is).cell 0
  have zq_pa1_5 : ∀ x : Gr w5.heap.size w5, x.val.cell? ⟨w.heap.size, 1, none⟩ = _ := fun x => (keepB (show Blk w5 w.heap.size 25 (prjV e A n c) from pa_5.out) x.is).cell 1
  have zq_pb0_5 : ∀ x : Gr w5.heap.size w5, x.val.cell? ⟨(w.heap.size + 1), 0, none⟩ = _ := fun x => (keepB (show Blk w5 (w.heap.size + 1) 25 (prjV e' A' n' c') from pb_5.out) x.is).cell 0
  have zq_pb1_5 : ∀ x : Gr w5.heap.size w5, x.val.cell? ⟨(w.heap.size + 1), 1, none⟩ = _ := fun x => (keepB (show Blk w5 (w.heap.size + 1) 25 (prjV e' A' n' c') from pb_5.out) x.is).cell 1
  clear z_pa0_5 z_pa1_5 z_pb0_5 z_pb1_5
  obtain ⟨na1, nb1, Aa1, Ab1, ca1, cb1, hna, hnb, hsm⟩ := nodes_pair x (sa_5.out).1 (sb_5.out).1 (sa_5.out).2 (sb_5.out).2 he he' HPO.out H1.out H2.out
  rw [dec_true HMV.out] at hsm
  have HNA1 : Hid (∀ qq : Gr w5.heap.size w5, _) := fun qq => hna qq.val qq.is
  have HNB1 : Hid (∀ qq : Gr w5.heap.size w5, _) := fun qq => hnb qq.val qq.is
  have HSM1 : Hid (∀ qq : Gr w5.heap.size w5, _) := fun qq => hsm qq.val qq.is
  clear hna hnb hsm
  refine wp_region_grow (by kernel_rfl) (by kernel_rfl) w5.heap.size ?_
  repeat (first | go_big_quiet_step ((first | (go_at_call 32; first | with_reducible exact Gr.call _ (Nat.le_refl _) (HNA1.out _) | with_reducible exact Gr.call _ (Nat.le_refl _) (HNB1.out _)) | (go_at_call 31; exact Gr.call _ (Nat.le_refl _) (HSM1.out _)))) | quiet_step ((first | (go_at_call 32; first | with_reducible exact Gr.call _ (Nat.le_refl _) (HNA1.out _) | with_reducible exact Gr.call _ (Nat.le_refl _) (HNB1.out _)) | (go_at_call 31; exact Gr.call _ (Nat.le_refl _) (HSM1.out _)))))
  refine wpQuiet_nil ?_
  rintro w6 ⟨⟨_, hb⟩, rfl⟩
  clear zq_pa0_5 zq_pa1_5 zq_pb0_5 zq_pb1_5
  have pa_6 : Hid (Blk w6 w.heap.size 25 (prjV e A n c)) := keepB pa_5.out hb
  have pb_6 : Hid (Blk w6 (w.heap.size + 1) 25 (prjV e' A' n' c')) := keepB pb_5.out hb
  have sa_6 : Hid (Sl rpStp w6 D A n c l) := keepS sa_5.out hb
  have sb_6 : Hid (Sl rpStp w6 D' A' n' c' l') := keepS sb_5.out hb
  have BB_6 : Hid (Below w.heap.size w w6) := stepB BB_5.out hb
  clear hb
  have z_pa0_6 := (show Blk w6 w.heap.size 25 (prjV e A n c) from pa_6.out).cell 0
  have z_pa1_6 := (show Blk w6 w.heap.size 25 (prjV e A n c) from pa_6.out).cell 1
  have z_pb0_6 := (show Blk w6 (w.heap.size + 1) 25 (prjV e' A' n' c') from pb_6.out).cell 0
  have z_pb1_6 := (show Blk w6 (w.heap.size + 1) 25 (prjV e' A' n' c') from pb_6.out).cell 1
  go_wp2_with fail
  have hm := moved_any x (sa_6.out).1 (sb_6.out).1 (sa_6.out).2 (sb_6.out).2 he he' hx
  rw [dec_false (fun h : MovedIs l l' e e' x => h.2.2 HMV.out)] at hm
  have HMV6 := Lib.hid hm
  clear hm
  refine (HMV6.out).mono ?_; rintro en w7 ⟨rfl, hb⟩
  have pa_7 : Hid (Blk w7 w.heap.size 25 (prjV e A n c)) := keepB pa_6.out hb
  have pb_7 : Hid (Blk w7 (w.heap.size + 1) 25 (prjV e' A' n' c')) := keepB pb_6.out hb
  have sa_7 : Hid (Sl rpStp w7 D A n c l) := keepS sa_6.out hb
  have sb_7 : Hid (Sl rpStp w7 D' A' n' c' l') := keepS sb_6.out hb
  have BB_7 : Hid (Below w.heap.size w w7) := stepB BB_6.out hb
  clear z_pa0_6 z_pa1_6 z_pb0_6 z_pb1_6
  clear hb
  go_wp2_with fail
  go_loopw [10] (fun i wr => ∃ k : Nat, 1 ≤ k ∧ k ≤ 200 ∧ i = .int .u64 k ∧ Hid (Blk wr w.heap.size 25 (prjV e A n c)) ∧ Hid (Blk wr (w.heap.size + 1) 25 (prjV e' A' n' c')) ∧ Hid (Sl rpStp wr D A n c l) ∧ Hid (Sl rpStp wr D' A' n' c' l') ∧ Hid (Below w.heap.size w wr)) (fun i _ => 200 - (intOf i).toNat)
  case atStart => exact ⟨1, by omega, by omega, rfl, pa_7.out, pb_7.out, sa_7.out, sb_7.out, BB_7.out⟩
  case round =>
    obtain ⟨k, hk1, hk2, rfl, pa_100, pb_100, sa_100, sb_100, BB_100⟩ := hrel
    obtain ⟨w100, hw100⟩ : ∃ w100, w100 = wr := ⟨_, rfl⟩
    subst hw100
    by_cases h200 : k < 200
    case neg =>
      have hd1 : decide ((k : Int) < 200) = false := by simp; omega
      clear h200
      go_wp2_with fail
      have zq_pa0_100 : ∀ x : Gr w100.heap.size w100, x.val.cell? ⟨w.heap.size, 0, none⟩ = _ := fun x => (keepB (show Blk w100 w.heap.size 25 (prjV e A n c) from pa_100.out) x.is).cell 0
      have zq_pa1_100 : ∀ x : Gr w100.heap.size w100, x.val.cell? ⟨w.heap.size, 1, none⟩ = _ := fun x => (keepB (show Blk w100 w.heap.size 25 (prjV e A n c) from pa_100.out) x.is).cell 1
      have zq_pb0_100 : ∀ x : Gr w100.heap.size w100, x.val.cell? ⟨(w.heap.size + 1), 0, none⟩ = _ := fun x => (keepB (show Blk w100 (w.heap.size + 1) 25 (prjV e' A' n' c') from pb_100.out) x.is).cell 0
      have zq_pb1_100 : ∀ x : Gr w100.heap.size w100, x.val.cell? ⟨(w.heap.size + 1), 1, none⟩ = _ := fun x => (keepB (show Blk w100 (w.heap.size + 1) 25 (prjV e' A' n' c') from pb_100.out) x.is).cell 1
      obtain ⟨na3, nb3, Aa3, Ab3, ca3, cb3, hna, hnb, hsm⟩ := nodes_pair r (sa_100.out).1 (sb_100.out).1 (sa_100.out).2 (sb_100.out).2 he he' (show PosOk r from hr62) H1.out H2.out
      rw [dec_false HNE.out] at hsm
      have HNA3 : Hid (∀ qq : Gr w100.heap.size w100, _) := fun qq => hna qq.val qq.is
      have HNB3 : Hid (∀ qq : Gr w100.heap.size w100, _) := fun qq => hnb qq.val qq.is
      have HSM3 : Hid (∀ qq : Gr w100.heap.size w100, _) := fun qq => hsm qq.val qq.is
      clear hna hnb hsm
      have hma := fun qq : Gr w100.heap.size w100 => moved_any x (keepS sa_100.out qq.is).1 (keepS sa_100.out qq.is).1 (keepS sa_100.out qq.is).2 (keepS sa_100.out qq.is).2 he he hx
      rw [dec_false (fun h : MovedIs l l e e x => h.2.2 rfl)] at hma
      have HMA := Lib.hid hma
      clear hma
      refine wp_region_grow (by kernel_rfl) (by kernel_rfl) w100.heap.size ?_
      repeat (first | go_big_quiet_step ((first | (go_at_call 32; first | with_reducible exact Gr.call _ (Nat.le_refl _) (HNA3.out _) | with_reducible exact Gr.call _ (Nat.le_refl _) (HNB3.out _)) | (go_at_call 31; exact Gr.call _ (Nat.le_refl _) (HSM3.out _)) | (go_at_call 25; exact Gr.call _ (Nat.le_refl _) (HMA.out _)) | (go_at_call 26; exact Gr.call _ (Nat.le_refl _) (lclive_any _)))) | quiet_step ((first | (go_at_call 32; first | with_reducible exact Gr.call _ (Nat.le_refl _) (HNA3.out _) | with_reducible exact Gr.call _ (Nat.le_refl _) (HNB3.out _)) | (go_at_call 31; exact Gr.call _ (Nat.le_refl _) (HSM3.out _)) | (go_at_call 25; exact Gr.call _ (Nat.le_refl _) (HMA.out _)) | (go_at_call 26; exact Gr.call _ (Nat.le_refl _) (lclive_any _)))))
      refine wpQuiet_nil ?_
      rintro w101 ⟨⟨_, hb⟩, rfl⟩
      clear zq_pa0_100 zq_pa1_100 zq_pb0_100 zq_pb1_100
      have pa_101 : Hid (Blk w101 w.heap.size 25 (prjV e A n c)) := keepB pa_100.out hb
      have pb_101 : Hid (Blk w101 (w.heap.size + 1) 25 (prjV e' A' n' c')) := keepB pb_100.out hb
      have sa_101 : Hid (Sl rpStp w101 D A n c l) := keepS sa_100.out hb
      have sb_101 : Hid (Sl rpStp w101 D' A' n' c' l') := keepS sb_100.out hb
      have BB_101 : Hid (Below w.heap.size w w101) := stepB BB_100.out hb
      clear hb
      go_wp2_with fail
      go_ret
      exact ⟨rfl, BB_101.out⟩
    case pos =>
      have hd1 : decide ((k : Int) < 200) = true := by simp; omega
      by_cases hkr : k ≤ r
      case neg =>
        have hd2 : decide ((k : Int) ≤ (r : Int)) = false := by simp; omega
        have hd3 : decide (k ≤ r) = false := by simp; omega
        clear h200 hkr
        go_wp2_with fail
        have zq_pa0_100 : ∀ x : Gr w100.heap.size w100, x.val.cell? ⟨w.heap.size, 0, none⟩ = _ := fun x => (keepB (show Blk w100 w.heap.size 25 (prjV e A n c) from pa_100.out) x.is).cell 0
        have zq_pa1_100 : ∀ x : Gr w100.heap.size w100, x.val.cell? ⟨w.heap.size, 1, none⟩ = _ := fun x => (keepB (show Blk w100 w.heap.size 25 (prjV e A n c) from pa_100.out) x.is).cell 1
        have zq_pb0_100 : ∀ x : Gr w100.heap.size w100, x.val.cell? ⟨(w.heap.size + 1), 0, none⟩ = _ := fun x => (keepB (show Blk w100 (w.heap.size + 1) 25 (prjV e' A' n' c') from pb_100.out) x.is).cell 0
        have zq_pb1_100 : ∀ x : Gr w100.heap.size w100, x.val.cell? ⟨(w.heap.size + 1), 1, none⟩ = _ := fun x => (keepB (show Blk w100 (w.heap.size + 1) 25 (prjV e' A' n' c') from pb_100.out) x.is).cell 1
        obtain ⟨na3, nb3, Aa3, Ab3, ca3, cb3, hna, hnb, hsm⟩ := nodes_pair r (sa_100.out).1 (sb_100.out).1 (sa_100.out).2 (sb_100.out).2 he he' (show PosOk r from hr62) H1.out H2.out
        rw [dec_false HNE.out] at hsm
        have HNA3 : Hid (∀ qq : Gr w100.heap.size w100, _) := fun qq => hna qq.val qq.is
        have HNB3 : Hid (∀ qq : Gr w100.heap.size w100, _) := fun qq => hnb qq.val qq.is
        have HSM3 : Hid (∀ qq : Gr w100.heap.size w100, _) := fun qq => hsm qq.val qq.is
        clear hna hnb hsm
        have hma := fun qq : Gr w100.heap.size w100 => moved_any x (keepS sa_100.out qq.is).1 (keepS sa_100.out qq.is).1 (keepS sa_100.out qq.is).2 (keepS sa_100.out qq.is).2 he he hx
        rw [dec_false (fun h : MovedIs l l e e x => h.2.2 rfl)] at hma
        have HMA := Lib.hid hma
        clear hma
        refine wp_region_grow (by kernel_rfl) (by kernel_rfl) w100.heap.size ?_
        repeat (first | go_big_quiet_step ((first | (go_at_call 32; first | with_reducible exact Gr.call _ (Nat.le_refl _) (HNA3.out _) | with_reducible exact Gr.call _ (Nat.le_refl _) (HNB3.out _)) | (go_at_call 31; exact Gr.call _ (Nat.le_refl _) (HSM3.out _)) | (go_at_call 25; exact Gr.call _ (Nat.le_refl _) (HMA.out _)) | (go_at_call 26; exact Gr.call _ (Nat.le_refl _) (lclive_any _)))) | quiet_step ((first | (go_at_call 32; first | with_reducible exact Gr.call _ (Nat.le_refl _) (HNA3.out _) | with_reducible exact Gr.call _ (Nat.le_refl _) (HNB3.out _)) | (go_at_call 31; exact Gr.call _ (Nat.le_refl _) (HSM3.out _)) | (go_at_call 25; exact Gr.call _ (Nat.le_refl _) (HMA.out _)) | (go_at_call 26; exact Gr.call _ (Nat.le_refl _) (lclive_any _)))))
        refine wpQuiet_nil ?_
        rintro w101 ⟨⟨_, hb⟩, rfl⟩
        clear zq_pa0_100 zq_pa1_100 zq_pb0_100 zq_pb1_100
        have pa_101 : Hid (Blk w101 w.heap.size 25 (prjV e A n c)) := keepB pa_100.out hb
        have pb_101 : Hid (Blk w101 (w.heap.size + 1) 25 (prjV e' A' n' c')) := keepB pb_100.out hb
        have sa_101 : Hid (Sl rpStp w101 D A n c l) := keepS sa_100.out hb
        have sb_101 : Hid (Sl rpStp w101 D' A' n' c' l') := keepS sb_100.out hb
        have BB_101 : Hid (Below w.heap.size w w101) := stepB BB_100.out hb
        clear hb
        go_wp2_with fail
        go_ret
        exact ⟨rfl, BB_101.out⟩
      case pos =>
        have hd2 : decide ((k : Int) ≤ (r : Int)) = true := by simp; omega
        have hd3 : decide (k ≤ r) = true := by simp; omega
        obtain ⟨Y, hY⟩ : ∃ Y, Y = r - k := ⟨_, rfl⟩
        have hYr : Y < r := by omega
        have HY62 : Hid (PosOk Y) := (by omega : Y < 4611686018427387904)
        have s4 : IntKind.u64.wrap ((r : Int) - (k : Int)) = (Y : Int) := by rw [IntWalk.u64_in _ (by omega)]; omega
        have HYE : Hid (nodesAt l Y = nodesAt l' Y) := HEQ.out Y hYr
        clear hY hYr
        go_wp2_with fail
        have zq_pa0_100 : ∀ x : Gr w100.heap.size w100, x.val.cell? ⟨w.heap.size, 0, none⟩ = _ := fun x => (keepB (show Blk w100 w.heap.size 25 (prjV e A n c) from pa_100.out) x.is).cell 0
        have zq_pa1_100 : ∀ x : Gr w100.heap.size w100, x.val.cell? ⟨w.heap.size, 1, none⟩ = _ := fun x => (keepB (show Blk w100 w.heap.size 25 (prjV e A n c) from pa_100.out) x.is).cell 1
        have zq_pb0_100 : ∀ x : Gr w100.heap.size w100, x.val.cell? ⟨(w.heap.size + 1), 0, none⟩ = _ := fun x => (keepB (show Blk w100 (w.heap.size + 1) 25 (prjV e' A' n' c') from pb_100.out) x.is).cell 0
        have zq_pb1_100 : ∀ x : Gr w100.heap.size w100, x.val.cell? ⟨(w.heap.size + 1), 1, none⟩ = _ := fun x => (keepB (show Blk w100 (w.heap.size + 1) 25 (prjV e' A' n' c') from pb_100.out) x.is).cell 1
        obtain ⟨na2, nb2, Aa2, Ab2, ca2, cb2, hna, hnb, hsm⟩ := nodes_pair Y (sa_100.out).1 (sb_100.out).1 (sa_100.out).2 (sb_100.out).2 he he' HY62.out H1.out H2.out
        rw [dec_true HYE.out] at hsm
        have HNA2 : Hid (∀ qq : Gr w100.heap.size w100, _) := fun qq => hna qq.val qq.is
        have HNB2 : Hid (∀ qq : Gr w100.heap.size w100, _) := fun qq => hnb qq.val qq.is
        have HSM2 : Hid (∀ qq : Gr w100.heap.size w100, _) := fun qq => hsm qq.val qq.is
        clear hna hnb hsm
        refine wp_region_grow (by kernel_rfl) (by kernel_rfl) w100.heap.size ?_
        repeat (first | go_big_quiet_step ((first | (go_at_call 32; first | with_reducible exact Gr.call _ (Nat.le_refl _) (HNA2.out _) | with_reducible exact Gr.call _ (Nat.le_refl _) (HNB2.out _)) | (go_at_call 31; exact Gr.call _ (Nat.le_refl _) (HSM2.out _)))) | quiet_step ((first | (go_at_call 32; first | with_reducible exact Gr.call _ (Nat.le_refl _) (HNA2.out _) | with_reducible exact Gr.call _ (Nat.le_refl _) (HNB2.out _)) | (go_at_call 31; exact Gr.call _ (Nat.le_refl _) (HSM2.out _)))))
        refine wpQuiet_nil ?_
        rintro w101 ⟨⟨_, hb⟩, rfl⟩
        clear zq_pa0_100 zq_pa1_100 zq_pb0_100 zq_pb1_100
        have pa_101 : Hid (Blk w101 w.heap.size 25 (prjV e A n c)) := keepB pa_100.out hb
        have pb_101 : Hid (Blk w101 (w.heap.size + 1) 25 (prjV e' A' n' c')) := keepB pb_100.out hb
        have sa_101 : Hid (Sl rpStp w101 D A n c l) := keepS sa_100.out hb
        have sb_101 : Hid (Sl rpStp w101 D' A' n' c' l') := keepS sb_100.out hb
        have BB_101 : Hid (Below w.heap.size w w101) := stepB BB_100.out hb
        clear hb
        go_wp2_with fail
        go_roundw
        case rel => exact ⟨k + 1, by omega, by omega, by go_num, pa_101.out, pb_101.out, sa_101.out, sb_101.out, BB_101.out⟩
        case measure => simp [intOf]; omega
set_option maxRecDepth 100000 in
set_option maxHeartbeats 4000000 in
theorem moves_y2 (x : Nat) (hs : rpStp.sl w D A n c l) (hs' : rpStp.sl w D' A' n' c' l') (hD : ∀ k, D k → k < w.heap.size) (hD' : ∀ k, D' k → k < w.heap.size) (he : e ≤ 18446744073709551615) (he' : e' ≤ 18446744073709551615) (hx : x ≤ 18446744073709551615) (h1 : POk (e, l)) (h2 : POk (e', l')) (r : Nat) (hf : FirstIs l l' r true) (hr62 : r < 4611686018427387904) (hne : nodesAt l r ≠ nodesAt l' r) (heq : ∀ q, q < r → nodesAt l q = nodesAt l' q) (hpo : PosOk x) (hmv : nodesAt l x ≠ nodesAt l' x) :
    Calls Try.prog 6 #[.agg (prjV e A n c), .agg (prjV e' A' n' c'), .int .u64 (x : Int)] w fun en w' => en = .returned (.bool true) ∧ Below w.heap.size w w' := by
  have H1 := Lib.hid h1
  have H2 := Lib.hid h2
  have HF := Lib.hid hf
  have HPO := Lib.hid hpo
  have HMV := Lib.hid hmv
  have HNE := Lib.hid hne
  have HEQ := Lib.hid heq
  have hle : r ≤ x := by
    rcases Nat.lt_or_ge x r with h | h
    · exact absurd (heq x h) hmv
    · exact h
  have hd9 : decide ((x : Int) < (r : Int)) = false := by simp; omega
  clear h1 h2 hf hpo hmv hne heq
  have pa_0 := Lib.hid (blk21 w 25 25 (prjV e A n c) (prjV e' A' n' c'))
  have pb_0 := Lib.hid (blk22 w 25 25 (prjV e A n c) (prjV e' A' n' c'))
  have hb := below2 w (.cells (prjV e A n c) 25) (.cells (prjV e' A' n' c') 25)
  have BB_0 := Lib.hid hb
  have sa_0 := Lib.hid (keepS (show Sl rpStp w D A n c l from ⟨hs, hD⟩) hb)
  have sb_0 := Lib.hid (keepS (show Sl rpStp w D' A' n' c' l' from ⟨hs', hD'⟩) hb)
  clear hb hs hs' hD hD'
  go_enter Try.func6, Try.ntmps6
  go_wp2_with fail
  generalize World.alloc (World.alloc w _) _ = w0 at *
  have z_pa0_0 := (show Blk w0 w.heap.size 25 (prjV e A n c) from pa_0.out).cell 0
  have z_pa1_0 := (show Blk w0 w.heap.size 25 (prjV e A n c) from pa_0.out).cell 1
  go_wp2_with fail
  refine (plong_any (e := e) (sa_0.out).1 (sa_0.out).2).mono ?_; rintro en w1 ⟨bb, rfl, hb⟩
  have pa_1 : Hid (Blk w1 w.heap.size 25 (prjV e A n c)) := keepB pa_0.out hb
  have pb_1 : Hid (Blk w1 (w.heap.size + 1) 25 (prjV e' A' n' c')) := keepB pb_0.out hb
  have sa_1 : Hid (Sl rpStp w1 D A n c l) := keepS sa_0.out hb
  have sb_1 : Hid (Sl rpStp w1 D' A' n' c' l') := keepS sb_0.out hb
  have BB_1 : Hid (Below w.heap.size w w1) := stepB BB_0.out hb
  clear z_pa0_0 z_pa1_0
  clear hb
  cases bb
  case true =>
    go_wp2_with fail
    refine (lclive_any _).mono ?_; rintro en w2 ⟨rfl, hb⟩
    have pa_2 : Hid (Blk w2 w.heap.size 25 (prjV e A n c)) := keepB pa_1.out hb
    have pb_2 : Hid (Blk w2 (w.heap.size + 1) 25 (prjV e' A' n' c')) := keepB pb_1.out hb
    have sa_2 : Hid (Sl rpStp w2 D A n c l) := keepS sa_1.out hb
    have sb_2 : Hid (Sl rpStp w2 D' A' n' c' l') := keepS sb_1.out hb
    have BB_2 : Hid (Below w.heap.size w w2) := stepB BB_1.out hb
    clear hb
    go_wp2_with fail
    go_ret
    exact ⟨rfl, BB_2.out⟩
  have z_pb0_1 := (show Blk w1 (w.heap.size + 1) 25 (prjV e' A' n' c') from pb_1.out).cell 0
  have z_pb1_1 := (show Blk w1 (w.heap.size + 1) 25 (prjV e' A' n' c') from pb_1.out).cell 1
  go_wp2_with fail
  refine (plong_any (e := e') (sb_1.out).1 (sb_1.out).2).mono ?_; rintro en w2 ⟨bb, rfl, hb⟩
  have pa_2 : Hid (Blk w2 w.heap.size 25 (prjV e A n c)) := keepB pa_1.out hb
  have pb_2 : Hid (Blk w2 (w.heap.size + 1) 25 (prjV e' A' n' c')) := keepB pb_1.out hb
  have sa_2 : Hid (Sl rpStp w2 D A n c l) := keepS sa_1.out hb
  have sb_2 : Hid (Sl rpStp w2 D' A' n' c' l') := keepS sb_1.out hb
  have BB_2 : Hid (Below w.heap.size w w2) := stepB BB_1.out hb
  clear z_pb0_1 z_pb1_1
  clear hb
  cases bb
  case true =>
    go_wp2_with fail
    refine (lclive_any _).mono ?_; rintro en w3 ⟨rfl, hb⟩
    have pa_3 : Hid (Blk w3 w.heap.size 25 (prjV e A n c)) := keepB pa_2.out hb
    have pb_3 : Hid (Blk w3 (w.heap.size + 1) 25 (prjV e' A' n' c')) := keepB pb_2.out hb
    have sa_3 : Hid (Sl rpStp w3 D A n c l) := keepS sa_2.out hb
    have sb_3 : Hid (Sl rpStp w3 D' A' n' c' l') := keepS sb_2.out hb
    have BB_3 : Hid (Below w.heap.size w w3) := stepB BB_2.out hb
    clear hb
    go_wp2_with fail
    go_ret
    exact ⟨rfl, BB_3.out⟩
  have z_pa0_2 := (show Blk w2 w.heap.size 25 (prjV e A n c) from pa_2.out).cell 0
  have z_pa1_2 := (show Blk w2 w.heap.size 25 (prjV e A n c) from pa_2.out).cell 1
  have z_pb0_2 := (show Blk w2 (w.heap.size + 1) 25 (prjV e' A' n' c') from pb_2.out).cell 0
  have z_pb1_2 := (show Blk w2 (w.heap.size + 1) 25 (prjV e' A' n' c') from pb_2.out).cell 1
  go_wp2_with fail
  refine (first_ok2 (sa_2.out).1 (sb_2.out).1 (sa_2.out).2 (sb_2.out).2 he he' H1.out H2.out HF.out).mono ?_; rintro en w3 ⟨rfl, hb⟩
  have pa_3 : Hid (Blk w3 w.heap.size 25 (prjV e A n c)) := keepB pa_2.out hb
  have pb_3 : Hid (Blk w3 (w.heap.size + 1) 25 (prjV e' A' n' c')) := keepB pb_2.out hb
  have sa_3 : Hid (Sl rpStp w3 D A n c l) := keepS sa_2.out hb
  have sb_3 : Hid (Sl rpStp w3 D' A' n' c' l') := keepS sb_2.out hb
  have BB_3 : Hid (Below w.heap.size w w3) := stepB BB_2.out hb
  clear z_pa0_2 z_pa1_2 z_pb0_2 z_pb1_2
  clear hb
  have z_pa0_3 := (show Blk w3 w.heap.size 25 (prjV e A n c) from pa_3.out).cell 0
  have z_pa1_3 := (show Blk w3 w.heap.size 25 (prjV e A n c) from pa_3.out).cell 1
  go_wp2_with fail
  have hr := rpright_any (sa_3.out).1 (sa_3.out).2 he
  rw [dec_true H1.out] at hr
  have HRa3 := Lib.hid hr
  clear hr
  refine (HRa3.out).mono ?_; rintro en w4 ⟨rfl, hb⟩
  have pa_4 : Hid (Blk w4 w.heap.size 25 (prjV e A n c)) := keepB pa_3.out hb
  have pb_4 : Hid (Blk w4 (w.heap.size + 1) 25 (prjV e' A' n' c')) := keepB pb_3.out hb
  have sa_4 : Hid (Sl rpStp w4 D A n c l) := keepS sa_3.out hb
  have sb_4 : Hid (Sl rpStp w4 D' A' n' c' l') := keepS sb_3.out hb
  have BB_4 : Hid (Below w.heap.size w w4) := stepB BB_3.out hb
  clear z_pa0_3 z_pa1_3
  clear hb
  have z_pb0_4 := (show Blk w4 (w.heap.size + 1) 25 (prjV e' A' n' c') from pb_4.out).cell 0
  have z_pb1_4 := (show Blk w4 (w.heap.size + 1) 25 (prjV e' A' n' c') from pb_4.out).cell 1
  go_wp2_with fail
  have hr := rpright_any (sb_4.out).1 (sb_4.out).2 he'
  rw [dec_true H2.out] at hr
  have HRb4 := Lib.hid hr
  clear hr
  refine (HRb4.out).mono ?_; rintro en w5 ⟨rfl, hb⟩
  have pa_5 : Hid (Blk w5 w.heap.size 25 (prjV e A n c)) := keepB pa_4.out hb
  have pb_5 : Hid (Blk w5 (w.heap.size + 1) 25 (prjV e' A' n' c')) := keepB pb_4.out hb
  have sa_5 : Hid (Sl rpStp w5 D A n c l) := keepS sa_4.out hb
  have sb_5 : Hid (Sl rpStp w5 D' A' n' c' l') := keepS sb_4.out hb
  have BB_5 : Hid (Below w.heap.size w w5) := stepB BB_4.out hb
  clear z_pb0_4 z_pb1_4
  clear hb
  have z_pa0_5 := (show Blk w5 w.heap.size 25 (prjV e A n c) from pa_5.out).cell 0
  have z_pa1_5 := (show Blk w5 w.heap.size 25 (prjV e A n c) from pa_5.out).cell 1
  have z_pb0_5 := (show Blk w5 (w.heap.size + 1) 25 (prjV e' A' n' c') from pb_5.out).cell 0
  have z_pb1_5 := (show Blk w5 (w.heap.size + 1) 25 (prjV e' A' n' c') from pb_5.out).cell 1
  go_wp2_with fail
  have hp := repos_any x w5 hx
  rw [dec_true HPO.out] at hp
  have HP := Lib.hid hp
  clear hp
  refine (HP.out).mono ?_; rintro en wx ⟨rfl, rfl⟩
  go_wp2_with fail
  have zq_pa0_5 : ∀ x : Gr w5.heap.size w5, x.val.cell? ⟨w.heap.size, 0, none⟩ = _ := fun x => (keepB (show Blk w5 w.heap.size 25 (prjV e A n c) from pa_5.out) x.is).cell 0
  have zq_pa1_5 : ∀ x : Gr w5.heap.size w5, x.val.cell? ⟨w.heap.size, 1, none⟩ = _ := fun x => (keepB (show Blk w5 w.heap.size 25 (prjV e A n c) from pa_5.out) x.is).cell 1
  have zq_pb0_5 : ∀ x : Gr w5.heap.size w5, x.val.cell? ⟨(w.heap.size + 1), 0, none⟩ = _ := fun x => (keepB (show Blk w5 (w.heap.size + 1) 25 (prjV e' A' n' c') from pb_5.out) x.is).cell 0
  have zq_pb1_5 : ∀ x : Gr w5.heap.size w5, x.val.cell? ⟨(w.heap.size + 1), 1, none⟩ = _ := fun x => (keepB (show Blk w5 (w.heap.size + 1) 25 (prjV e' A' n' c') from pb_5.out) x.is).cell 1
  clear z_pa0_5 z_pa1_5 z_pb0_5 z_pb1_5
  obtain ⟨na1, nb1, Aa1, Ab1, ca1, cb1, hna, hnb, hsm⟩ := nodes_pair x (sa_5.out).1 (sb_5.out).1 (sa_5.out).2 (sb_5.out).2 he he' HPO.out H1.out H2.out
  rw [dec_false HMV.out] at hsm
  have HNA1 : Hid (∀ qq : Gr w5.heap.size w5, _) := fun qq => hna qq.val qq.is
  have HNB1 : Hid (∀ qq : Gr w5.heap.size w5, _) := fun qq => hnb qq.val qq.is
  have HSM1 : Hid (∀ qq : Gr w5.heap.size w5, _) := fun qq => hsm qq.val qq.is
  clear hna hnb hsm
  refine wp_region_grow (by kernel_rfl) (by kernel_rfl) w5.heap.size ?_
  repeat (first | go_big_quiet_step ((first | (go_at_call 32; first | with_reducible exact Gr.call _ (Nat.le_refl _) (HNA1.out _) | with_reducible exact Gr.call _ (Nat.le_refl _) (HNB1.out _)) | (go_at_call 31; exact Gr.call _ (Nat.le_refl _) (HSM1.out _)))) | quiet_step ((first | (go_at_call 32; first | with_reducible exact Gr.call _ (Nat.le_refl _) (HNA1.out _) | with_reducible exact Gr.call _ (Nat.le_refl _) (HNB1.out _)) | (go_at_call 31; exact Gr.call _ (Nat.le_refl _) (HSM1.out _)))))
  refine wpQuiet_nil ?_
  rintro w6 ⟨⟨_, hb⟩, rfl⟩
  clear zq_pa0_5 zq_pa1_5 zq_pb0_5 zq_pb1_5
  have pa_6 : Hid (Blk w6 w.heap.size 25 (prjV e A n c)) := keepB pa_5.out hb
  have pb_6 : Hid (Blk w6 (w.heap.size + 1) 25 (prjV e' A' n' c')) := keepB pb_5.out hb
  have sa_6 : Hid (Sl rpStp w6 D A n c l) := keepS sa_5.out hb
  have sb_6 : Hid (Sl rpStp w6 D' A' n' c' l') := keepS sb_5.out hb
  have BB_6 : Hid (Below w.heap.size w w6) := stepB BB_5.out hb
  clear hb
  have z_pa0_6 := (show Blk w6 w.heap.size 25 (prjV e A n c) from pa_6.out).cell 0
  have z_pa1_6 := (show Blk w6 w.heap.size 25 (prjV e A n c) from pa_6.out).cell 1
  have z_pb0_6 := (show Blk w6 (w.heap.size + 1) 25 (prjV e' A' n' c') from pb_6.out).cell 0
  have z_pb1_6 := (show Blk w6 (w.heap.size + 1) 25 (prjV e' A' n' c') from pb_6.out).cell 1
  go_wp2_with fail
  have hm := moved_any x (sa_6.out).1 (sb_6.out).1 (sa_6.out).2 (sb_6.out).2 he he' hx
  rw [dec_true (show MovedIs l l' e e' x from ⟨⟨H1.out, HPO.out⟩, H2.out, HMV.out⟩)] at hm
  have HMV6 := Lib.hid hm
  clear hm
  refine (HMV6.out).mono ?_; rintro en w7 ⟨rfl, hb⟩
  have pa_7 : Hid (Blk w7 w.heap.size 25 (prjV e A n c)) := keepB pa_6.out hb
  have pb_7 : Hid (Blk w7 (w.heap.size + 1) 25 (prjV e' A' n' c')) := keepB pb_6.out hb
  have sa_7 : Hid (Sl rpStp w7 D A n c l) := keepS sa_6.out hb
  have sb_7 : Hid (Sl rpStp w7 D' A' n' c' l') := keepS sb_6.out hb
  have BB_7 : Hid (Below w.heap.size w w7) := stepB BB_6.out hb
  clear z_pa0_6 z_pa1_6 z_pb0_6 z_pb1_6
  clear hb
  go_wp2_with fail
  go_loopw [10] (fun i wr => ∃ k : Nat, 1 ≤ k ∧ k ≤ 200 ∧ i = .int .u64 k ∧ Hid (Blk wr w.heap.size 25 (prjV e A n c)) ∧ Hid (Blk wr (w.heap.size + 1) 25 (prjV e' A' n' c')) ∧ Hid (Sl rpStp wr D A n c l) ∧ Hid (Sl rpStp wr D' A' n' c' l') ∧ Hid (Below w.heap.size w wr)) (fun i _ => 200 - (intOf i).toNat)
  case atStart => exact ⟨1, by omega, by omega, rfl, pa_7.out, pb_7.out, sa_7.out, sb_7.out, BB_7.out⟩
  case round =>
    obtain ⟨k, hk1, hk2, rfl, pa_100, pb_100, sa_100, sb_100, BB_100⟩ := hrel
    obtain ⟨w100, hw100⟩ : ∃ w100, w100 = wr := ⟨_, rfl⟩
    subst hw100
    by_cases h200 : k < 200
    case neg =>
      have hd1 : decide ((k : Int) < 200) = false := by simp; omega
      clear h200
      go_wp2_with fail
      have zq_pa0_100 : ∀ x : Gr w100.heap.size w100, x.val.cell? ⟨w.heap.size, 0, none⟩ = _ := fun x => (keepB (show Blk w100 w.heap.size 25 (prjV e A n c) from pa_100.out) x.is).cell 0
      have zq_pa1_100 : ∀ x : Gr w100.heap.size w100, x.val.cell? ⟨w.heap.size, 1, none⟩ = _ := fun x => (keepB (show Blk w100 w.heap.size 25 (prjV e A n c) from pa_100.out) x.is).cell 1
      have zq_pb0_100 : ∀ x : Gr w100.heap.size w100, x.val.cell? ⟨(w.heap.size + 1), 0, none⟩ = _ := fun x => (keepB (show Blk w100 (w.heap.size + 1) 25 (prjV e' A' n' c') from pb_100.out) x.is).cell 0
      have zq_pb1_100 : ∀ x : Gr w100.heap.size w100, x.val.cell? ⟨(w.heap.size + 1), 1, none⟩ = _ := fun x => (keepB (show Blk w100 (w.heap.size + 1) 25 (prjV e' A' n' c') from pb_100.out) x.is).cell 1
      obtain ⟨na3, nb3, Aa3, Ab3, ca3, cb3, hna, hnb, hsm⟩ := nodes_pair r (sa_100.out).1 (sb_100.out).1 (sa_100.out).2 (sb_100.out).2 he he' (show PosOk r from hr62) H1.out H2.out
      rw [dec_false HNE.out] at hsm
      have HNA3 : Hid (∀ qq : Gr w100.heap.size w100, _) := fun qq => hna qq.val qq.is
      have HNB3 : Hid (∀ qq : Gr w100.heap.size w100, _) := fun qq => hnb qq.val qq.is
      have HSM3 : Hid (∀ qq : Gr w100.heap.size w100, _) := fun qq => hsm qq.val qq.is
      clear hna hnb hsm
      have hma := fun qq : Gr w100.heap.size w100 => moved_any x (keepS sa_100.out qq.is).1 (keepS sa_100.out qq.is).1 (keepS sa_100.out qq.is).2 (keepS sa_100.out qq.is).2 he he hx
      rw [dec_false (fun h : MovedIs l l e e x => h.2.2 rfl)] at hma
      have HMA := Lib.hid hma
      clear hma
      refine wp_region_grow (by kernel_rfl) (by kernel_rfl) w100.heap.size ?_
      repeat (first | go_big_quiet_step ((first | (go_at_call 32; first | with_reducible exact Gr.call _ (Nat.le_refl _) (HNA3.out _) | with_reducible exact Gr.call _ (Nat.le_refl _) (HNB3.out _)) | (go_at_call 31; exact Gr.call _ (Nat.le_refl _) (HSM3.out _)) | (go_at_call 25; exact Gr.call _ (Nat.le_refl _) (HMA.out _)) | (go_at_call 26; exact Gr.call _ (Nat.le_refl _) (lclive_any _)))) | quiet_step ((first | (go_at_call 32; first | with_reducible exact Gr.call _ (Nat.le_refl _) (HNA3.out _) | with_reducible exact Gr.call _ (Nat.le_refl _) (HNB3.out _)) | (go_at_call 31; exact Gr.call _ (Nat.le_refl _) (HSM3.out _)) | (go_at_call 25; exact Gr.call _ (Nat.le_refl _) (HMA.out _)) | (go_at_call 26; exact Gr.call _ (Nat.le_refl _) (lclive_any _)))))
      refine wpQuiet_nil ?_
      rintro w101 ⟨⟨_, hb⟩, rfl⟩
      clear zq_pa0_100 zq_pa1_100 zq_pb0_100 zq_pb1_100
      have pa_101 : Hid (Blk w101 w.heap.size 25 (prjV e A n c)) := keepB pa_100.out hb
      have pb_101 : Hid (Blk w101 (w.heap.size + 1) 25 (prjV e' A' n' c')) := keepB pb_100.out hb
      have sa_101 : Hid (Sl rpStp w101 D A n c l) := keepS sa_100.out hb
      have sb_101 : Hid (Sl rpStp w101 D' A' n' c' l') := keepS sb_100.out hb
      have BB_101 : Hid (Below w.heap.size w w101) := stepB BB_100.out hb
      clear hb
      go_wp2_with fail
      go_ret
      exact ⟨rfl, BB_101.out⟩
    case pos =>
      have hd1 : decide ((k : Int) < 200) = true := by simp; omega
      by_cases hkr : k ≤ r
      case neg =>
        have hd2 : decide ((k : Int) ≤ (r : Int)) = false := by simp; omega
        have hd3 : decide (k ≤ r) = false := by simp; omega
        clear h200 hkr
        go_wp2_with fail
        have zq_pa0_100 : ∀ x : Gr w100.heap.size w100, x.val.cell? ⟨w.heap.size, 0, none⟩ = _ := fun x => (keepB (show Blk w100 w.heap.size 25 (prjV e A n c) from pa_100.out) x.is).cell 0
        have zq_pa1_100 : ∀ x : Gr w100.heap.size w100, x.val.cell? ⟨w.heap.size, 1, none⟩ = _ := fun x => (keepB (show Blk w100 w.heap.size 25 (prjV e A n c) from pa_100.out) x.is).cell 1
        have zq_pb0_100 : ∀ x : Gr w100.heap.size w100, x.val.cell? ⟨(w.heap.size + 1), 0, none⟩ = _ := fun x => (keepB (show Blk w100 (w.heap.size + 1) 25 (prjV e' A' n' c') from pb_100.out) x.is).cell 0
        have zq_pb1_100 : ∀ x : Gr w100.heap.size w100, x.val.cell? ⟨(w.heap.size + 1), 1, none⟩ = _ := fun x => (keepB (show Blk w100 (w.heap.size + 1) 25 (prjV e' A' n' c') from pb_100.out) x.is).cell 1
        obtain ⟨na3, nb3, Aa3, Ab3, ca3, cb3, hna, hnb, hsm⟩ := nodes_pair r (sa_100.out).1 (sb_100.out).1 (sa_100.out).2 (sb_100.out).2 he he' (show PosOk r from hr62) H1.out H2.out
        rw [dec_false HNE.out] at hsm
        have HNA3 : Hid (∀ qq : Gr w100.heap.size w100, _) := fun qq => hna qq.val qq.is
        have HNB3 : Hid (∀ qq : Gr w100.heap.size w100, _) := fun qq => hnb qq.val qq.is
        have HSM3 : Hid (∀ qq : Gr w100.heap.size w100, _) := fun qq => hsm qq.val qq.is
        clear hna hnb hsm
        have hma := fun qq : Gr w100.heap.size w100 => moved_any x (keepS sa_100.out qq.is).1 (keepS sa_100.out qq.is).1 (keepS sa_100.out qq.is).2 (keepS sa_100.out qq.is).2 he he hx
        rw [dec_false (fun h : MovedIs l l e e x => h.2.2 rfl)] at hma
        have HMA := Lib.hid hma
        clear hma
        refine wp_region_grow (by kernel_rfl) (by kernel_rfl) w100.heap.size ?_
        repeat (first | go_big_quiet_step ((first | (go_at_call 32; first | with_reducible exact Gr.call _ (Nat.le_refl _) (HNA3.out _) | with_reducible exact Gr.call _ (Nat.le_refl _) (HNB3.out _)) | (go_at_call 31; exact Gr.call _ (Nat.le_refl _) (HSM3.out _)) | (go_at_call 25; exact Gr.call _ (Nat.le_refl _) (HMA.out _)) | (go_at_call 26; exact Gr.call _ (Nat.le_refl _) (lclive_any _)))) | quiet_step ((first | (go_at_call 32; first | with_reducible exact Gr.call _ (Nat.le_refl _) (HNA3.out _) | with_reducible exact Gr.call _ (Nat.le_refl _) (HNB3.out _)) | (go_at_call 31; exact Gr.call _ (Nat.le_refl _) (HSM3.out _)) | (go_at_call 25; exact Gr.call _ (Nat.le_refl _) (HMA.out _)) | (go_at_call 26; exact Gr.call _ (Nat.le_refl _) (lclive_any _)))))
        refine wpQuiet_nil ?_
        rintro w101 ⟨⟨_, hb⟩, rfl⟩
        clear zq_pa0_100 zq_pa1_100 zq_pb0_100 zq_pb1_100
        have pa_101 : Hid (Blk w101 w.heap.size 25 (prjV e A n c)) := keepB pa_100.out hb
        have pb_101 : Hid (Blk w101 (w.heap.size + 1) 25 (prjV e' A' n' c')) := keepB pb_100.out hb
        have sa_101 : Hid (Sl rpStp w101 D A n c l) := keepS sa_100.out hb
        have sb_101 : Hid (Sl rpStp w101 D' A' n' c' l') := keepS sb_100.out hb
        have BB_101 : Hid (Below w.heap.size w w101) := stepB BB_100.out hb
        clear hb
        go_wp2_with fail
        go_ret
        exact ⟨rfl, BB_101.out⟩
      case pos =>
        have hd2 : decide ((k : Int) ≤ (r : Int)) = true := by simp; omega
        have hd3 : decide (k ≤ r) = true := by simp; omega
        obtain ⟨Y, hY⟩ : ∃ Y, Y = r - k := ⟨_, rfl⟩
        have hYr : Y < r := by omega
        have HY62 : Hid (PosOk Y) := (by omega : Y < 4611686018427387904)
        have s4 : IntKind.u64.wrap ((r : Int) - (k : Int)) = (Y : Int) := by rw [IntWalk.u64_in _ (by omega)]; omega
        have HYE : Hid (nodesAt l Y = nodesAt l' Y) := HEQ.out Y hYr
        clear hY hYr
        go_wp2_with fail
        have zq_pa0_100 : ∀ x : Gr w100.heap.size w100, x.val.cell? ⟨w.heap.size, 0, none⟩ = _ := fun x => (keepB (show Blk w100 w.heap.size 25 (prjV e A n c) from pa_100.out) x.is).cell 0
        have zq_pa1_100 : ∀ x : Gr w100.heap.size w100, x.val.cell? ⟨w.heap.size, 1, none⟩ = _ := fun x => (keepB (show Blk w100 w.heap.size 25 (prjV e A n c) from pa_100.out) x.is).cell 1
        have zq_pb0_100 : ∀ x : Gr w100.heap.size w100, x.val.cell? ⟨(w.heap.size + 1), 0, none⟩ = _ := fun x => (keepB (show Blk w100 (w.heap.size + 1) 25 (prjV e' A' n' c') from pb_100.out) x.is).cell 0
        have zq_pb1_100 : ∀ x : Gr w100.heap.size w100, x.val.cell? ⟨(w.heap.size + 1), 1, none⟩ = _ := fun x => (keepB (show Blk w100 (w.heap.size + 1) 25 (prjV e' A' n' c') from pb_100.out) x.is).cell 1
        obtain ⟨na2, nb2, Aa2, Ab2, ca2, cb2, hna, hnb, hsm⟩ := nodes_pair Y (sa_100.out).1 (sb_100.out).1 (sa_100.out).2 (sb_100.out).2 he he' HY62.out H1.out H2.out
        rw [dec_true HYE.out] at hsm
        have HNA2 : Hid (∀ qq : Gr w100.heap.size w100, _) := fun qq => hna qq.val qq.is
        have HNB2 : Hid (∀ qq : Gr w100.heap.size w100, _) := fun qq => hnb qq.val qq.is
        have HSM2 : Hid (∀ qq : Gr w100.heap.size w100, _) := fun qq => hsm qq.val qq.is
        clear hna hnb hsm
        refine wp_region_grow (by kernel_rfl) (by kernel_rfl) w100.heap.size ?_
        repeat (first | go_big_quiet_step ((first | (go_at_call 32; first | with_reducible exact Gr.call _ (Nat.le_refl _) (HNA2.out _) | with_reducible exact Gr.call _ (Nat.le_refl _) (HNB2.out _)) | (go_at_call 31; exact Gr.call _ (Nat.le_refl _) (HSM2.out _)))) | quiet_step ((first | (go_at_call 32; first | with_reducible exact Gr.call _ (Nat.le_refl _) (HNA2.out _) | with_reducible exact Gr.call _ (Nat.le_refl _) (HNB2.out _)) | (go_at_call 31; exact Gr.call _ (Nat.le_refl _) (HSM2.out _)))))
        refine wpQuiet_nil ?_
        rintro w101 ⟨⟨_, hb⟩, rfl⟩
        clear zq_pa0_100 zq_pa1_100 zq_pb0_100 zq_pb1_100
        have pa_101 : Hid (Blk w101 w.heap.size 25 (prjV e A n c)) := keepB pa_100.out hb
        have pb_101 : Hid (Blk w101 (w.heap.size + 1) 25 (prjV e' A' n' c')) := keepB pb_100.out hb
        have sa_101 : Hid (Sl rpStp w101 D A n c l) := keepS sa_100.out hb
        have sb_101 : Hid (Sl rpStp w101 D' A' n' c' l') := keepS sb_100.out hb
        have BB_101 : Hid (Below w.heap.size w w101) := stepB BB_100.out hb
        clear hb
        go_wp2_with fail
        go_roundw
        case rel => exact ⟨k + 1, by omega, by omega, by go_num, pa_101.out, pb_101.out, sa_101.out, sb_101.out, BB_101.out⟩
        case measure => simp [intOf]; omega
theorem moves_any (x : Nat) (hs : rpStp.sl w D A n c l) (hs' : rpStp.sl w D' A' n' c' l') (hD : ∀ k, D k → k < w.heap.size) (hD' : ∀ k, D' k → k < w.heap.size) (he : e ≤ 18446744073709551615) (he' : e' ≤ 18446744073709551615) (hx : x ≤ 18446744073709551615) :
    Calls Try.prog 6 #[.agg (prjV e A n c), .agg (prjV e' A' n' c'), .int .u64 (x : Int)] w fun en w' => en = .returned (.bool true) ∧ Below w.heap.size w w' := by
  by_cases h1 : POk (e, l)
  case neg => exact moves_bad1 x hs hs' hD hD' he he' hx h1
  by_cases h2 : POk (e', l')
  case neg => exact moves_bad2 x hs hs' hD hD' he he' hx h1 h2
  obtain ⟨r, ok, hf⟩ := firstIs_some l l'
  have hf' := hf
  rcases hf with ⟨rfl, hr62, hne, heq⟩ | ⟨rfl, rfl, heq⟩
  · by_cases hpo : PosOk x
    · by_cases hmv : nodesAt l x = nodesAt l' x
      · exact moves_y1 x hs hs' hD hD' he he' hx h1 h2 r hf' hr62 hne heq hpo hmv
      · exact moves_y2 x hs hs' hD hD' he he' hx h1 h2 r hf' hr62 hne heq hpo hmv
    · exact moves_y0 x hs hs' hD hD' he he' hx h1 h2 r hf' hr62 hne heq hpo
  · by_cases hpo : PosOk x
    · exact moves_n1 x hs hs' hD hD' he he' hx h1 h2 hf' hpo (heq x hpo)
    · exact moves_n0 x hs hs' hD hD' he he' hx h1 h2 hf' hpo
end
theorem locateMoves_st (cs : Array Value) (x : Nat × List Stp) (cs' : Array Value) (x' : Nat × List Stp) (p : Int) (w : World) (hx : rpPrj.ok w (lt w.heap.size) x cs.toList) (hx' : rpPrj.ok w (lt w.heap.size) x' cs'.toList) (p0 : 0 ≤ p) (p1 : p ≤ 18446744073709551615) :
    Calls Try.prog 6 #[.agg cs, .agg cs', .int .u64 p] w fun e w' => e = .returned (.bool true) ∧ Below w.heap.size w w' := by
  obtain ⟨A, c, hcs, hs, he⟩ := prj_open hx
  obtain ⟨A', c', hcs', hs', he'⟩ := prj_open hx'
  obtain ⟨q, rfl⟩ : ∃ q : Nat, p = q := ⟨p.toNat, by omega⟩
  rw [agg_of hcs, agg_of hcs']
  exact moves_any q hs hs' (fun k hk => hk) (fun k hk => hk) he he' (by omega)
end Go.Proofs.Ytmdgmnaaopineaa
