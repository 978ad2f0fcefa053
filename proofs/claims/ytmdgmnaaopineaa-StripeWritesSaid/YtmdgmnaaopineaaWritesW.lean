/- The walk of StripeWrites. -/
import Derived.Test.YtmdgmnaaopineaaStrU
import Derived.Test.YtmdgmnaaopineaaStrY
import Derived.Test.YtmdgmnaaopineaaStrZ
import Derived.Test.YtmdgmnaaopineaaStpL
import Derived.Test.YtmdgmnaaopineaaDealsW
import Derived.Test.YtmdgmnaaopineaaStpQ
import Derived.Test.YtmdgmnaaopineaaStpS
import Derived.Test.YtmdgmnaaopineaaStpC
import Derived.Test.YtmdgmnaaopineaaLive
import Derived.Test.YtmdgmnaaopineaaKeep
namespace Go.Proofs.Ytmdgmnaaopineaa
open Go.ChangeShapes Go.WideShapes Go.ChangeAt Go.RowKit
set_option linter.unusedVariables false
theorem LL.below_sl {w : World} {base n c : Nat} {A : Option Addr} {sets : List (List Nat)} (h : LL w base A n c sets) : ∃ D, Sl (rpSlice rpU64) w D A n c sets := ⟨_, h.sl⟩
section
variable {D D' D2 : Dom} {A A' Ab : Option Addr} {n c f t n' c' f' t' nb cb : Nat} {sets sets' : List (List Nat)} {l : List UInt8} {w : World}
set_option maxRecDepth 100000 in
set_option maxHeartbeats 4000000 in
theorem stwrites_long3 (hs : (rpSlice rpU64).sl w D A n c sets) (hs' : (rpSlice rpU64).sl w D' A' n' c' sets') (hD : ∀ k, D k → k < w.heap.size) (hD' : ∀ k, D' k → k < w.heap.size) (hf : f ≤ 18446744073709551615) (ht : t ≤ 18446744073709551615) (hl : rpU8.sl w D2 Ab nb cb l) (hD2 : ∀ k, D2 k → k < w.heap.size) (hn : 300 < nb) :
    Calls Try.prog 9 #[.agg (stpV f t A n c), .agg (stpV f' t' A' n' c'), .slice Ab nb cb] w fun e w' => e = .returned (.bool true) ∧ Below w.heap.size w w' := by
  have hlb := (Rp.sl_len hl).1
  have hcb := (Rp.sl_len hl).2.1
  have hcm := (Rp.sl_len hl).2.2
  unfold maxLen at hcm
  have pa_0 := Lib.hid (blk21 w 31 31 (stpV f t A n c) (stpV f' t' A' n' c'))
  have pb_0 := Lib.hid (blk22 w 31 31 (stpV f t A n c) (stpV f' t' A' n' c'))
  have hb := below2 w (.cells (stpV f t A n c) 31) (.cells (stpV f' t' A' n' c') 31)
  have BB_0 := Lib.hid hb
  have sa_0 := Lib.hid (keepS (show Sl (rpSlice rpU64) w D A n c sets from ⟨hs, hD⟩) hb)
  have sb_0 := Lib.hid (keepS (show Sl (rpSlice rpU64) w D' A' n' c' sets' from ⟨hs', hD'⟩) hb)
  have SL_0 := Lib.hid (keepS (show Sl rpU8 w D2 Ab nb cb l from ⟨hl, hD2⟩) hb)
  have HLEN := Lib.hid (Rp.sl_len hs).1
  have HLB := Lib.hid hlb
  clear hb hs hs' hD hD' hl hD2 hlb
  go_enter Try.func9, Try.ntmps9
  go_wp2_with fail
  generalize World.alloc (World.alloc w _) _ = w0 at *
  have hd3 : decide ((300 : Int) < (nb : Int)) = true := by simp; omega
  have z_pa0_0 := (show Blk w0 w.heap.size 31 (stpV f t A n c) from pa_0.out).cell 0
  have z_pa1_0 := (show Blk w0 w.heap.size 31 (stpV f t A n c) from pa_0.out).cell 1
  have z_pa2_0 := (show Blk w0 w.heap.size 31 (stpV f t A n c) from pa_0.out).cell 2
  go_wp2_with fail
  refine (long_any (f := f) (t := t) (sa_0.out).1 (sa_0.out).2).mono ?_; rintro en w1 ⟨bb, rfl, hlg, hb⟩
  have pa_1 : Hid (Blk w1 w.heap.size 31 (stpV f t A n c)) := keepB pa_0.out hb
  have pb_1 : Hid (Blk w1 (w.heap.size + 1) 31 (stpV f' t' A' n' c')) := keepB pb_0.out hb
  have sa_1 : Hid (Sl (rpSlice rpU64) w1 D A n c sets) := keepS sa_0.out hb
  have sb_1 : Hid (Sl (rpSlice rpU64) w1 D' A' n' c' sets') := keepS sb_0.out hb
  have SL_1 : Hid (Sl rpU8 w1 D2 Ab nb cb l) := keepS SL_0.out hb
  have BB_1 : Hid (Below w.heap.size w w1) := stepB BB_0.out hb
  clear z_pa0_0 z_pa1_0 z_pa2_0
  clear hb
  cases bb
  case true =>
    clear hlg
    go_wp2_with fail
    refine (slive_any _).mono ?_; rintro en w2 ⟨rfl, hb⟩
    have pa_2 : Hid (Blk w2 w.heap.size 31 (stpV f t A n c)) := keepB pa_1.out hb
    have pb_2 : Hid (Blk w2 (w.heap.size + 1) 31 (stpV f' t' A' n' c')) := keepB pb_1.out hb
    have sa_2 : Hid (Sl (rpSlice rpU64) w2 D A n c sets) := keepS sa_1.out hb
    have sb_2 : Hid (Sl (rpSlice rpU64) w2 D' A' n' c' sets') := keepS sb_1.out hb
    have SL_2 : Hid (Sl rpU8 w2 D2 Ab nb cb l) := keepS SL_1.out hb
    have BB_2 : Hid (Below w.heap.size w w2) := stepB BB_1.out hb
    clear hb
    go_wp2_with fail
    go_ret
    exact ⟨rfl, BB_2.out⟩
  obtain ⟨hl20, hr20⟩ := hlg rfl
  have HL20 := Lib.hid hl20
  have HR20 := Lib.hid hr20
  clear hlg hl20 hr20
  have z_pb0_1 := (show Blk w1 (w.heap.size + 1) 31 (stpV f' t' A' n' c') from pb_1.out).cell 0
  have z_pb1_1 := (show Blk w1 (w.heap.size + 1) 31 (stpV f' t' A' n' c') from pb_1.out).cell 1
  have z_pb2_1 := (show Blk w1 (w.heap.size + 1) 31 (stpV f' t' A' n' c') from pb_1.out).cell 2
  go_wp2_with fail
  refine (long_any (f := f') (t := t') (sb_1.out).1 (sb_1.out).2).mono ?_; rintro en w2 ⟨bb, rfl, hlg, hb⟩
  have pa_2 : Hid (Blk w2 w.heap.size 31 (stpV f t A n c)) := keepB pa_1.out hb
  have pb_2 : Hid (Blk w2 (w.heap.size + 1) 31 (stpV f' t' A' n' c')) := keepB pb_1.out hb
  have sa_2 : Hid (Sl (rpSlice rpU64) w2 D A n c sets) := keepS sa_1.out hb
  have sb_2 : Hid (Sl (rpSlice rpU64) w2 D' A' n' c' sets') := keepS sb_1.out hb
  have SL_2 : Hid (Sl rpU8 w2 D2 Ab nb cb l) := keepS SL_1.out hb
  have BB_2 : Hid (Below w.heap.size w w2) := stepB BB_1.out hb
  clear z_pb0_1 z_pb1_1 z_pb2_1
  clear hb
  clear hlg
  cases bb
  case true =>
    go_wp2_with fail
    refine (slive_any _).mono ?_; rintro en w3 ⟨rfl, hb⟩
    have pa_3 : Hid (Blk w3 w.heap.size 31 (stpV f t A n c)) := keepB pa_2.out hb
    have pb_3 : Hid (Blk w3 (w.heap.size + 1) 31 (stpV f' t' A' n' c')) := keepB pb_2.out hb
    have sa_3 : Hid (Sl (rpSlice rpU64) w3 D A n c sets) := keepS sa_2.out hb
    have sb_3 : Hid (Sl (rpSlice rpU64) w3 D' A' n' c' sets') := keepS sb_2.out hb
    have SL_3 : Hid (Sl rpU8 w3 D2 Ab nb cb l) := keepS SL_2.out hb
    have BB_3 : Hid (Below w.heap.size w w3) := stepB BB_2.out hb
    clear hb
    go_wp2_with fail
    go_ret
    exact ⟨rfl, BB_3.out⟩
  go_wp2_with fail
  refine (slive_any _).mono ?_; rintro en w3 ⟨rfl, hb⟩
  have pa_3 : Hid (Blk w3 w.heap.size 31 (stpV f t A n c)) := keepB pa_2.out hb
  have pb_3 : Hid (Blk w3 (w.heap.size + 1) 31 (stpV f' t' A' n' c')) := keepB pb_2.out hb
  have sa_3 : Hid (Sl (rpSlice rpU64) w3 D A n c sets) := keepS sa_2.out hb
  have sb_3 : Hid (Sl (rpSlice rpU64) w3 D' A' n' c' sets') := keepS sb_2.out hb
  have SL_3 : Hid (Sl rpU8 w3 D2 Ab nb cb l) := keepS SL_2.out hb
  have BB_3 : Hid (Below w.heap.size w w3) := stepB BB_2.out hb
  clear hb
  go_wp2_with fail
  go_ret
  exact ⟨rfl, BB_3.out⟩
set_option maxRecDepth 100000 in
set_option maxHeartbeats 4000000 in
theorem stwrites_bad (hs : (rpSlice rpU64).sl w D A n c sets) (hs' : (rpSlice rpU64).sl w D' A' n' c' sets') (hD : ∀ k, D k → k < w.heap.size) (hD' : ∀ k, D' k → k < w.heap.size) (hf : f ≤ 18446744073709551615) (ht : t ≤ 18446744073709551615) (hl : rpU8.sl w D2 Ab nb cb l) (hD2 : ∀ k, D2 k → k < w.heap.size) (hn : nb ≤ 300) (hno : ¬ SOk (f, t, sets)) :
    Calls Try.prog 9 #[.agg (stpV f t A n c), .agg (stpV f' t' A' n' c'), .slice Ab nb cb] w fun e w' => e = .returned (.bool true) ∧ Below w.heap.size w w' := by
  have HNO := Lib.hid hno
  have hlb := (Rp.sl_len hl).1
  have hcb := (Rp.sl_len hl).2.1
  have hcm := (Rp.sl_len hl).2.2
  unfold maxLen at hcm
  have pa_0 := Lib.hid (blk21 w 31 31 (stpV f t A n c) (stpV f' t' A' n' c'))
  have pb_0 := Lib.hid (blk22 w 31 31 (stpV f t A n c) (stpV f' t' A' n' c'))
  have hb := below2 w (.cells (stpV f t A n c) 31) (.cells (stpV f' t' A' n' c') 31)
  have BB_0 := Lib.hid hb
  have sa_0 := Lib.hid (keepS (show Sl (rpSlice rpU64) w D A n c sets from ⟨hs, hD⟩) hb)
  have sb_0 := Lib.hid (keepS (show Sl (rpSlice rpU64) w D' A' n' c' sets' from ⟨hs', hD'⟩) hb)
  have SL_0 := Lib.hid (keepS (show Sl rpU8 w D2 Ab nb cb l from ⟨hl, hD2⟩) hb)
  have HLEN := Lib.hid (Rp.sl_len hs).1
  have HLB := Lib.hid hlb
  clear hb hs hs' hD hD' hl hD2 hlb hno
  go_enter Try.func9, Try.ntmps9
  go_wp2_with fail
  generalize World.alloc (World.alloc w _) _ = w0 at *
  have hd3 : decide ((300 : Int) < (nb : Int)) = false := by simp; omega
  have z_pa0_0 := (show Blk w0 w.heap.size 31 (stpV f t A n c) from pa_0.out).cell 0
  have z_pa1_0 := (show Blk w0 w.heap.size 31 (stpV f t A n c) from pa_0.out).cell 1
  have z_pa2_0 := (show Blk w0 w.heap.size 31 (stpV f t A n c) from pa_0.out).cell 2
  go_wp2_with fail
  refine (long_any (f := f) (t := t) (sa_0.out).1 (sa_0.out).2).mono ?_; rintro en w1 ⟨bb, rfl, hlg, hb⟩
  have pa_1 : Hid (Blk w1 w.heap.size 31 (stpV f t A n c)) := keepB pa_0.out hb
  have pb_1 : Hid (Blk w1 (w.heap.size + 1) 31 (stpV f' t' A' n' c')) := keepB pb_0.out hb
  have sa_1 : Hid (Sl (rpSlice rpU64) w1 D A n c sets) := keepS sa_0.out hb
  have sb_1 : Hid (Sl (rpSlice rpU64) w1 D' A' n' c' sets') := keepS sb_0.out hb
  have SL_1 : Hid (Sl rpU8 w1 D2 Ab nb cb l) := keepS SL_0.out hb
  have BB_1 : Hid (Below w.heap.size w w1) := stepB BB_0.out hb
  clear z_pa0_0 z_pa1_0 z_pa2_0
  clear hb
  cases bb
  case true =>
    clear hlg
    go_wp2_with fail
    refine (slive_any _).mono ?_; rintro en w2 ⟨rfl, hb⟩
    have pa_2 : Hid (Blk w2 w.heap.size 31 (stpV f t A n c)) := keepB pa_1.out hb
    have pb_2 : Hid (Blk w2 (w.heap.size + 1) 31 (stpV f' t' A' n' c')) := keepB pb_1.out hb
    have sa_2 : Hid (Sl (rpSlice rpU64) w2 D A n c sets) := keepS sa_1.out hb
    have sb_2 : Hid (Sl (rpSlice rpU64) w2 D' A' n' c' sets') := keepS sb_1.out hb
    have SL_2 : Hid (Sl rpU8 w2 D2 Ab nb cb l) := keepS SL_1.out hb
    have BB_2 : Hid (Below w.heap.size w w2) := stepB BB_1.out hb
    clear hb
    go_wp2_with fail
    go_ret
    exact ⟨rfl, BB_2.out⟩
  obtain ⟨hl20, hr20⟩ := hlg rfl
  have HL20 := Lib.hid hl20
  have HR20 := Lib.hid hr20
  clear hlg hl20 hr20
  have z_pb0_1 := (show Blk w1 (w.heap.size + 1) 31 (stpV f' t' A' n' c') from pb_1.out).cell 0
  have z_pb1_1 := (show Blk w1 (w.heap.size + 1) 31 (stpV f' t' A' n' c') from pb_1.out).cell 1
  have z_pb2_1 := (show Blk w1 (w.heap.size + 1) 31 (stpV f' t' A' n' c') from pb_1.out).cell 2
  go_wp2_with fail
  refine (long_any (f := f') (t := t') (sb_1.out).1 (sb_1.out).2).mono ?_; rintro en w2 ⟨bb, rfl, hlg, hb⟩
  have pa_2 : Hid (Blk w2 w.heap.size 31 (stpV f t A n c)) := keepB pa_1.out hb
  have pb_2 : Hid (Blk w2 (w.heap.size + 1) 31 (stpV f' t' A' n' c')) := keepB pb_1.out hb
  have sa_2 : Hid (Sl (rpSlice rpU64) w2 D A n c sets) := keepS sa_1.out hb
  have sb_2 : Hid (Sl (rpSlice rpU64) w2 D' A' n' c' sets') := keepS sb_1.out hb
  have SL_2 : Hid (Sl rpU8 w2 D2 Ab nb cb l) := keepS SL_1.out hb
  have BB_2 : Hid (Below w.heap.size w w2) := stepB BB_1.out hb
  clear z_pb0_1 z_pb1_1 z_pb2_1
  clear hb
  clear hlg
  cases bb
  case true =>
    go_wp2_with fail
    refine (slive_any _).mono ?_; rintro en w3 ⟨rfl, hb⟩
    have pa_3 : Hid (Blk w3 w.heap.size 31 (stpV f t A n c)) := keepB pa_2.out hb
    have pb_3 : Hid (Blk w3 (w.heap.size + 1) 31 (stpV f' t' A' n' c')) := keepB pb_2.out hb
    have sa_3 : Hid (Sl (rpSlice rpU64) w3 D A n c sets) := keepS sa_2.out hb
    have sb_3 : Hid (Sl (rpSlice rpU64) w3 D' A' n' c' sets') := keepS sb_2.out hb
    have SL_3 : Hid (Sl rpU8 w3 D2 Ab nb cb l) := keepS SL_2.out hb
    have BB_3 : Hid (Below w.heap.size w w3) := stepB BB_2.out hb
    clear hb
    go_wp2_with fail
    go_ret
    exact ⟨rfl, BB_3.out⟩
  have z_pa0_2 := (show Blk w2 w.heap.size 31 (stpV f t A n c) from pa_2.out).cell 0
  have z_pa1_2 := (show Blk w2 w.heap.size 31 (stpV f t A n c) from pa_2.out).cell 1
  have z_pa2_2 := (show Blk w2 w.heap.size 31 (stpV f t A n c) from pa_2.out).cell 2
  go_wp2_with fail
  refine (stbytes_bad (sa_2.out).1 (sa_2.out).2 hf ht HNO.out).mono ?_; rintro en w3 ⟨rfl, hb⟩
  have pa_3 : Hid (Blk w3 w.heap.size 31 (stpV f t A n c)) := keepB pa_2.out hb
  have pb_3 : Hid (Blk w3 (w.heap.size + 1) 31 (stpV f' t' A' n' c')) := keepB pb_2.out hb
  have sa_3 : Hid (Sl (rpSlice rpU64) w3 D A n c sets) := keepS sa_2.out hb
  have sb_3 : Hid (Sl (rpSlice rpU64) w3 D' A' n' c' sets') := keepS sb_2.out hb
  have SL_3 : Hid (Sl rpU8 w3 D2 Ab nb cb l) := keepS SL_2.out hb
  have BB_3 : Hid (Below w.heap.size w w3) := stepB BB_2.out hb
  clear z_pa0_2 z_pa1_2 z_pa2_2
  clear hb
  go_wp2_with fail
  refine (new_any 4000 _).mono ?_; rintro en w4 ⟨rfl, hp, hb⟩
  obtain ⟨gp, hgp⟩ : ∃ gp, gp = w3.heap.size := ⟨_, rfl⟩
  rw [← hgp] at hp
  have pa_4 : Hid (Blk w4 w.heap.size 31 (stpV f t A n c)) := keepB pa_3.out hb
  have pb_4 : Hid (Blk w4 (w.heap.size + 1) 31 (stpV f' t' A' n' c')) := keepB pb_3.out hb
  have sa_4 : Hid (Sl (rpSlice rpU64) w4 D A n c sets) := keepS sa_3.out hb
  have sb_4 : Hid (Sl (rpSlice rpU64) w4 D' A' n' c' sets') := keepS sb_3.out hb
  have SL_4 : Hid (Sl rpU8 w4 D2 Ab nb cb l) := keepS SL_3.out hb
  have BB_4 : Hid (Below w.heap.size w w4) := stepB BB_3.out hb
  clear hb
  rw [← hgp]
  rw [show max (4000 : Int) 0 = 4000 from rfl] at hp
  have HPEN := Lib.hid hp
  have HGP := Lib.hid hgp
  clear hp hgp
  have z_pa0_4 := (show Blk w4 w.heap.size 31 (stpV f t A n c) from pa_4.out).cell 0
  have z_pa1_4 := (show Blk w4 w.heap.size 31 (stpV f t A n c) from pa_4.out).cell 1
  have z_pa2_4 := (show Blk w4 w.heap.size 31 (stpV f t A n c) from pa_4.out).cell 2
  go_wp2_with fail
  refine (stput_bad (sa_4.out).1 (sa_4.out).2 hf ht HNO.out HPEN.out).mono ?_; rintro en w5 ⟨rfl, hp, hc⟩
  have HPEN2 := Lib.hid hp
  clear hp
  have pa_5 : Hid (Blk w5 w.heap.size 31 (stpV f t A n c)) := chB pa_4.out hc (fun e => by have e : _ = gp := e; have h1 := (show Blk w3 w.heap.size 31 (stpV f t A n c) from pa_3.out).lt; have := HGP.out; omega)
  have pb_5 : Hid (Blk w5 (w.heap.size + 1) 31 (stpV f' t' A' n' c')) := chB pb_4.out hc (fun e => by have e : _ = gp := e; have h1 := (show Blk w3 (w.heap.size + 1) 31 (stpV f' t' A' n' c') from pb_3.out).lt; have := HGP.out; omega)
  have sa_5 : Hid (Sl (rpSlice rpU64) w5 D A n c sets) := chS sa_4.out hc (fun k hk e => by have e : k = gp := e; have h1 := (sa_3.out).2 k hk; have := HGP.out; omega)
  have sb_5 : Hid (Sl (rpSlice rpU64) w5 D' A' n' c' sets') := chS sb_4.out hc (fun k hk e => by have e : k = gp := e; have h1 := (sb_3.out).2 k hk; have := HGP.out; omega)
  have SL_5 : Hid (Sl rpU8 w5 D2 Ab nb cb l) := chS SL_4.out hc (fun k hk e => by have e : k = gp := e; have h1 := (SL_3.out).2 k hk; have := HGP.out; omega)
  have BB_5 : Hid (Below w.heap.size w w5) := chBase BB_4.out hc (fun k hk => by have e : k = gp := hk; have h1 := HGP.out; have h2 := BB_3.out.size; omega)
  clear z_pa0_4 z_pa1_4 z_pa2_4
  clear hc
  go_wp2_with fail
  refine (bytes_bad HPEN2.out (by decide)).mono ?_; rintro en wx ⟨rfl, rfl⟩
  go_wp2_with fail
  have hsm := same_any none none 0 0 0 0 [] [] (fun _ => False) (fun _ => False) w5 (Rp.sl_nil _ _ _ _ _ (by decide)) (Rp.sl_nil _ _ _ _ _ (by decide))
  rw [show (([] : List UInt8) == []) = true from rfl] at hsm
  have HSM := Lib.hid hsm
  clear hsm
  refine (HSM.out).mono ?_; rintro en wx ⟨rfl, rfl⟩
  have z_pa0_5 := (show Blk w5 w.heap.size 31 (stpV f t A n c) from pa_5.out).cell 0
  have z_pa1_5 := (show Blk w5 w.heap.size 31 (stpV f t A n c) from pa_5.out).cell 1
  have z_pa2_5 := (show Blk w5 w.heap.size 31 (stpV f t A n c) from pa_5.out).cell 2
  have z_pb0_5 := (show Blk w5 (w.heap.size + 1) 31 (stpV f' t' A' n' c') from pb_5.out).cell 0
  have z_pb1_5 := (show Blk w5 (w.heap.size + 1) 31 (stpV f' t' A' n' c') from pb_5.out).cell 1
  have z_pb2_5 := (show Blk w5 (w.heap.size + 1) 31 (stpV f' t' A' n' c') from pb_5.out).cell 2
  go_wp2_with fail
  obtain ⟨bs, hbs⟩ : ∃ b : Bool, b = dec ((f, t, sets) = (f', t', sets')) := ⟨_, rfl⟩
  have HBS := Lib.hid hbs
  have hbb : (bs != bs) = false := by cases bs <;> rfl
  clear hbs
  have HRP : Hid (∀ w', Below w5.heap.size w5 w' → Calls Try.prog 53 #[.agg (stpV f t A n c)] w' fun e w'' => e = .returned (.bool false) ∧ Below w'.heap.size w' w'') := fun w' hb => by have := right_any (f := f) (t := t) (keepS sa_5.out hb).1 (keepS sa_5.out hb).2 hf ht; rwa [dec_false HNO.out] at this
  have HRR : Hid (∀ w', Below w5.heap.size w5 w' → Calls Try.prog 46 #[.agg (stpV f t A n c)] w' fun e w'' => e = .returned (.bool false) ∧ Below w'.heap.size w' w'') := fun w' hb => by have := rright_any (f := f) (t := t) (keepS sa_5.out hb).1 (keepS sa_5.out hb).2 hf ht; rwa [dec_false HNO.out] at this
  have HSP : Hid (∀ w', Below w5.heap.size w5 w' → Calls Try.prog 54 #[.agg (stpV f t A n c), .agg (stpV f' t' A' n' c')] w' fun e w'' => e = .returned (.bool bs) ∧ Below w'.heap.size w' w'') := fun w' hb => by have := stsame_any (f := f) (t := t) (f' := f') (t' := t') (keepS sa_5.out hb).1 (keepS sb_5.out hb).1 (keepS sa_5.out hb).2 (keepS sb_5.out hb).2; rwa [← HBS.out] at this
  have HSR : Hid (∀ w', Below w5.heap.size w5 w' → Calls Try.prog 43 #[.agg (stpV f t A n c), .agg (stpV f' t' A' n' c')] w' fun e w'' => e = .returned (.bool bs) ∧ Below w'.heap.size w' w'') := fun w' hb => by have := rsame_any (f := f) (t := t) (f' := f') (t' := t') (keepS sa_5.out hb).1 (keepS sb_5.out hb).1 (keepS sa_5.out hb).2 (keepS sb_5.out hb).2; rwa [← HBS.out] at this
  have HCP : Hid (∀ w', Below w5.heap.size w5 w' → Calls Try.prog 55 #[.agg (stpV f t A n c)] w' fun e w'' => ∃ A2 c2, e = .returned (.agg (stpV f t A2 n c2)) ∧ LL w'' w'.heap.size A2 n c2 sets ∧ Below w'.heap.size w' w'') := fun w' hb => stcopy_any (keepS sa_5.out hb).1 (keepS sa_5.out hb).2 (by have h1 := HL20.out; have h2 := HLEN.out; omega) (fun i x hx => by have := HR20.out i x hx; omega)
  have HCK : Hid (∀ w', Below w5.heap.size w5 w' → w'.cell? ⟨w.heap.size, 0, none⟩ = some (.int .u64 (f : Int)) ∧ w'.cell? ⟨w.heap.size, 1, none⟩ = some (.int .u64 (t : Int)) ∧ w'.cell? ⟨w.heap.size, 2, none⟩ = some (.slice A n c) ∧ w'.cell? ⟨w.heap.size + 1, 0, none⟩ = some (.int .u64 (f' : Int)) ∧ w'.cell? ⟨w.heap.size + 1, 1, none⟩ = some (.int .u64 (t' : Int)) ∧ w'.cell? ⟨w.heap.size + 1, 2, none⟩ = some (.slice A' n' c')) := fun w' hb => ⟨(keepB (show Blk w5 w.heap.size 31 (stpV f t A n c) from pa_5.out) hb).cell 0, (keepB (show Blk w5 w.heap.size 31 (stpV f t A n c) from pa_5.out) hb).cell 1, (keepB (show Blk w5 w.heap.size 31 (stpV f t A n c) from pa_5.out) hb).cell 2, (keepB (show Blk w5 (w.heap.size + 1) 31 (stpV f' t' A' n' c') from pb_5.out) hb).cell 0, (keepB (show Blk w5 (w.heap.size + 1) 31 (stpV f' t' A' n' c') from pb_5.out) hb).cell 1, (keepB (show Blk w5 (w.heap.size + 1) 31 (stpV f' t' A' n' c') from pb_5.out) hb).cell 2⟩
  go_region_held3 (fun w' => w'.cell? ⟨w.heap.size, 0, none⟩ = some (.int .u64 (f : Int)) ∧ w'.cell? ⟨w.heap.size, 1, none⟩ = some (.int .u64 (t : Int)) ∧ w'.cell? ⟨w.heap.size, 2, none⟩ = some (.slice A n c) ∧ w'.cell? ⟨w.heap.size + 1, 0, none⟩ = some (.int .u64 (f' : Int)) ∧ w'.cell? ⟨w.heap.size + 1, 1, none⟩ = some (.int .u64 (t' : Int)) ∧ w'.cell? ⟨w.heap.size + 1, 2, none⟩ = some (.slice A' n' c'))
    (first | exact HCK.out _ HB6.out | exact HCK.out _ HB5.out | exact HCK.out _ HB4.out | exact HCK.out _ HB3.out | exact HCK.out _ HB2.out | exact HCK.out _ HB1.out | exact HCK.out _ (Below.refl _ _) | exact HCK.out _ (Below.refl _ _).drew | go_keep)
    (first
      | (go_at_call 53; refine (HRP.out _ (Below.refl _ _).drew).mono ?_; rintro en v1 ⟨rfl, hb⟩; have HB1 : Hid (Below w5.heap.size w5 v1) := ⟨hb.os, hb.tape, hb.output, hb.size, hb.block⟩; clear hb)
      | (go_at_call 46; refine (HRR.out _ HB1.out).mono ?_; rintro en v2 ⟨rfl, hb⟩; have HB2 : Hid (Below w5.heap.size w5 v2) := stepB HB1.out hb; clear hb)
      | (go_at_call 54; refine (HSP.out _ HB2.out).mono ?_; rintro en v3 ⟨rfl, hb⟩; have HB3 : Hid (Below w5.heap.size w5 v3) := stepB HB2.out hb; clear hb)
      | (go_at_call 55; refine (HCP.out _ HB4.out).mono ?_; rintro en v5 ⟨Ac, cc, rfl, hll, hb⟩; have HB5 : Hid (Below w5.heap.size w5 v5) := stepB HB4.out hb; obtain ⟨Dc, hsc⟩ := hll.below_sl; have hcs := rsame_any (f := f) (t := t) (f' := f) (t' := t) hsc.1 (keepS sa_5.out HB5.out).1 hsc.2 (keepS sa_5.out HB5.out).2; rw [dec_true rfl] at hcs; have HCS := Lib.hid hcs; clear hcs hsc hll hb)
      | (go_at_call 43; refine HCS.out.mono ?_; rintro en v6 ⟨rfl, hb⟩; have HB6 : Hid (Below w5.heap.size w5 v6) := stepB HB5.out hb; clear hb)
      | (go_at_call 43; refine (HSR.out _ HB3.out).mono ?_; rintro en v4 ⟨rfl, hb⟩; have HB4 : Hid (Below w5.heap.size w5 v4) := stepB HB3.out hb; clear hb))
  have pa_6 : Hid (Blk v6 w.heap.size 31 (stpV f t A n c)) := keepB pa_5.out (HB6.out)
  have pb_6 : Hid (Blk v6 (w.heap.size + 1) 31 (stpV f' t' A' n' c')) := keepB pb_5.out (HB6.out)
  have sa_6 : Hid (Sl (rpSlice rpU64) v6 D A n c sets) := keepS sa_5.out (HB6.out)
  have sb_6 : Hid (Sl (rpSlice rpU64) v6 D' A' n' c' sets') := keepS sb_5.out (HB6.out)
  have SL_6 : Hid (Sl rpU8 v6 D2 Ab nb cb l) := keepS SL_5.out (HB6.out)
  have BB_6 : Hid (Below w.heap.size w v6) := stepB BB_5.out (HB6.out)
  clear z_pa0_5 z_pa1_5 z_pa2_5 z_pb0_5 z_pb1_5 z_pb2_5
  have z_pa0_6 := (show Blk v6 w.heap.size 31 (stpV f t A n c) from pa_6.out).cell 0
  have z_pa1_6 := (show Blk v6 w.heap.size 31 (stpV f t A n c) from pa_6.out).cell 1
  have z_pa2_6 := (show Blk v6 w.heap.size 31 (stpV f t A n c) from pa_6.out).cell 2
  go_wp2_with fail
  have hrt := rright_any (f := f) (t := t) (sa_6.out).1 (sa_6.out).2 hf ht
  rw [dec_false HNO.out] at hrt
  have HRT := Lib.hid hrt
  clear hrt
  refine (HRT.out).mono ?_; rintro en w7 ⟨rfl, hb⟩
  have pa_7 : Hid (Blk w7 w.heap.size 31 (stpV f t A n c)) := keepB pa_6.out hb
  have pb_7 : Hid (Blk w7 (w.heap.size + 1) 31 (stpV f' t' A' n' c')) := keepB pb_6.out hb
  have sa_7 : Hid (Sl (rpSlice rpU64) w7 D A n c sets) := keepS sa_6.out hb
  have sb_7 : Hid (Sl (rpSlice rpU64) w7 D' A' n' c' sets') := keepS sb_6.out hb
  have SL_7 : Hid (Sl rpU8 w7 D2 Ab nb cb l) := keepS SL_6.out hb
  have BB_7 : Hid (Below w.heap.size w w7) := stepB BB_6.out hb
  clear z_pa0_6 z_pa1_6 z_pa2_6
  clear hb
  go_wp2_with fail
  refine (slive_any _).mono ?_; rintro en w8 ⟨rfl, hb⟩
  have pa_8 : Hid (Blk w8 w.heap.size 31 (stpV f t A n c)) := keepB pa_7.out hb
  have pb_8 : Hid (Blk w8 (w.heap.size + 1) 31 (stpV f' t' A' n' c')) := keepB pb_7.out hb
  have sa_8 : Hid (Sl (rpSlice rpU64) w8 D A n c sets) := keepS sa_7.out hb
  have sb_8 : Hid (Sl (rpSlice rpU64) w8 D' A' n' c' sets') := keepS sb_7.out hb
  have SL_8 : Hid (Sl rpU8 w8 D2 Ab nb cb l) := keepS SL_7.out hb
  have BB_8 : Hid (Below w.heap.size w w8) := stepB BB_7.out hb
  clear hb
  go_wp2_with fail
  go_ret
  exact ⟨rfl, BB_8.out⟩
set_option maxRecDepth 100000 in
set_option maxHeartbeats 4000000 in
theorem stwrites_good (hs : (rpSlice rpU64).sl w D A n c sets) (hs' : (rpSlice rpU64).sl w D' A' n' c' sets') (hD : ∀ k, D k → k < w.heap.size) (hD' : ∀ k, D' k → k < w.heap.size) (hf : f ≤ 18446744073709551615) (ht : t ≤ 18446744073709551615) (hl : rpU8.sl w D2 Ab nb cb l) (hD2 : ∀ k, D2 k → k < w.heap.size) (hn : nb ≤ 300) (hok : SOk (f, t, sets)) :
    Calls Try.prog 9 #[.agg (stpV f t A n c), .agg (stpV f' t' A' n' c'), .slice Ab nb cb] w fun e w' => e = .returned (.bool true) ∧ Below w.heap.size w w' := by
  have hse := strF_stands hok (Stands.front (stb (f, t, sets)) l)
  rw [Nat.zero_add] at hse
  have HSE := Lib.hid hse
  have hsl740 := stb_len hok
  have HFIT := Lib.hid (stput_fit hok (most := 4000) (by decide))
  have HOK := Lib.hid hok
  have hbe : (stb (f, t, sets) == stb (f, t, sets)) = true := by simp
  clear hse
  have hlb := (Rp.sl_len hl).1
  have hcb := (Rp.sl_len hl).2.1
  have hcm := (Rp.sl_len hl).2.2
  unfold maxLen at hcm
  have pa_0 := Lib.hid (blk21 w 31 31 (stpV f t A n c) (stpV f' t' A' n' c'))
  have pb_0 := Lib.hid (blk22 w 31 31 (stpV f t A n c) (stpV f' t' A' n' c'))
  have hb := below2 w (.cells (stpV f t A n c) 31) (.cells (stpV f' t' A' n' c') 31)
  have BB_0 := Lib.hid hb
  have sa_0 := Lib.hid (keepS (show Sl (rpSlice rpU64) w D A n c sets from ⟨hs, hD⟩) hb)
  have sb_0 := Lib.hid (keepS (show Sl (rpSlice rpU64) w D' A' n' c' sets' from ⟨hs', hD'⟩) hb)
  have SL_0 := Lib.hid (keepS (show Sl rpU8 w D2 Ab nb cb l from ⟨hl, hD2⟩) hb)
  have HLEN := Lib.hid (Rp.sl_len hs).1
  have HLB := Lib.hid hlb
  clear hb hs hs' hD hD' hl hD2 hlb hok
  go_enter Try.func9, Try.ntmps9
  go_wp2_with fail
  generalize World.alloc (World.alloc w _) _ = w0 at *
  have hd3 : decide ((300 : Int) < (nb : Int)) = false := by simp; omega
  have z_pa0_0 := (show Blk w0 w.heap.size 31 (stpV f t A n c) from pa_0.out).cell 0
  have z_pa1_0 := (show Blk w0 w.heap.size 31 (stpV f t A n c) from pa_0.out).cell 1
  have z_pa2_0 := (show Blk w0 w.heap.size 31 (stpV f t A n c) from pa_0.out).cell 2
  go_wp2_with fail
  refine (long_any (f := f) (t := t) (sa_0.out).1 (sa_0.out).2).mono ?_; rintro en w1 ⟨bb, rfl, hlg, hb⟩
  have pa_1 : Hid (Blk w1 w.heap.size 31 (stpV f t A n c)) := keepB pa_0.out hb
  have pb_1 : Hid (Blk w1 (w.heap.size + 1) 31 (stpV f' t' A' n' c')) := keepB pb_0.out hb
  have sa_1 : Hid (Sl (rpSlice rpU64) w1 D A n c sets) := keepS sa_0.out hb
  have sb_1 : Hid (Sl (rpSlice rpU64) w1 D' A' n' c' sets') := keepS sb_0.out hb
  have SL_1 : Hid (Sl rpU8 w1 D2 Ab nb cb l) := keepS SL_0.out hb
  have BB_1 : Hid (Below w.heap.size w w1) := stepB BB_0.out hb
  clear z_pa0_0 z_pa1_0 z_pa2_0
  clear hb
  cases bb
  case true =>
    clear hlg
    go_wp2_with fail
    refine (slive_any _).mono ?_; rintro en w2 ⟨rfl, hb⟩
    have pa_2 : Hid (Blk w2 w.heap.size 31 (stpV f t A n c)) := keepB pa_1.out hb
    have pb_2 : Hid (Blk w2 (w.heap.size + 1) 31 (stpV f' t' A' n' c')) := keepB pb_1.out hb
    have sa_2 : Hid (Sl (rpSlice rpU64) w2 D A n c sets) := keepS sa_1.out hb
    have sb_2 : Hid (Sl (rpSlice rpU64) w2 D' A' n' c' sets') := keepS sb_1.out hb
    have SL_2 : Hid (Sl rpU8 w2 D2 Ab nb cb l) := keepS SL_1.out hb
    have BB_2 : Hid (Below w.heap.size w w2) := stepB BB_1.out hb
    clear hb
    go_wp2_with fail
    go_ret
    exact ⟨rfl, BB_2.out⟩
  obtain ⟨hl20, hr20⟩ := hlg rfl
  have HL20 := Lib.hid hl20
  have HR20 := Lib.hid hr20
  clear hlg hl20 hr20
  have z_pb0_1 := (show Blk w1 (w.heap.size + 1) 31 (stpV f' t' A' n' c') from pb_1.out).cell 0
  have z_pb1_1 := (show Blk w1 (w.heap.size + 1) 31 (stpV f' t' A' n' c') from pb_1.out).cell 1
  have z_pb2_1 := (show Blk w1 (w.heap.size + 1) 31 (stpV f' t' A' n' c') from pb_1.out).cell 2
  go_wp2_with fail
  refine (long_any (f := f') (t := t') (sb_1.out).1 (sb_1.out).2).mono ?_; rintro en w2 ⟨bb, rfl, hlg, hb⟩
  have pa_2 : Hid (Blk w2 w.heap.size 31 (stpV f t A n c)) := keepB pa_1.out hb
  have pb_2 : Hid (Blk w2 (w.heap.size + 1) 31 (stpV f' t' A' n' c')) := keepB pb_1.out hb
  have sa_2 : Hid (Sl (rpSlice rpU64) w2 D A n c sets) := keepS sa_1.out hb
  have sb_2 : Hid (Sl (rpSlice rpU64) w2 D' A' n' c' sets') := keepS sb_1.out hb
  have SL_2 : Hid (Sl rpU8 w2 D2 Ab nb cb l) := keepS SL_1.out hb
  have BB_2 : Hid (Below w.heap.size w w2) := stepB BB_1.out hb
  clear z_pb0_1 z_pb1_1 z_pb2_1
  clear hb
  clear hlg
  cases bb
  case true =>
    go_wp2_with fail
    refine (slive_any _).mono ?_; rintro en w3 ⟨rfl, hb⟩
    have pa_3 : Hid (Blk w3 w.heap.size 31 (stpV f t A n c)) := keepB pa_2.out hb
    have pb_3 : Hid (Blk w3 (w.heap.size + 1) 31 (stpV f' t' A' n' c')) := keepB pb_2.out hb
    have sa_3 : Hid (Sl (rpSlice rpU64) w3 D A n c sets) := keepS sa_2.out hb
    have sb_3 : Hid (Sl (rpSlice rpU64) w3 D' A' n' c' sets') := keepS sb_2.out hb
    have SL_3 : Hid (Sl rpU8 w3 D2 Ab nb cb l) := keepS SL_2.out hb
    have BB_3 : Hid (Below w.heap.size w w3) := stepB BB_2.out hb
    clear hb
    go_wp2_with fail
    go_ret
    exact ⟨rfl, BB_3.out⟩
  have z_pa0_2 := (show Blk w2 w.heap.size 31 (stpV f t A n c) from pa_2.out).cell 0
  have z_pa1_2 := (show Blk w2 w.heap.size 31 (stpV f t A n c) from pa_2.out).cell 1
  have z_pa2_2 := (show Blk w2 w.heap.size 31 (stpV f t A n c) from pa_2.out).cell 2
  go_wp2_with fail
  refine (stbytes_ok (sa_2.out).1 (sa_2.out).2 HOK.out).mono ?_; rintro en w3 ⟨A1, m1, c1, rfl, ho, hb⟩
  have pa_3 : Hid (Blk w3 w.heap.size 31 (stpV f t A n c)) := keepB pa_2.out hb
  have pb_3 : Hid (Blk w3 (w.heap.size + 1) 31 (stpV f' t' A' n' c')) := keepB pb_2.out hb
  have sa_3 : Hid (Sl (rpSlice rpU64) w3 D A n c sets) := keepS sa_2.out hb
  have sb_3 : Hid (Sl (rpSlice rpU64) w3 D' A' n' c' sets') := keepS sb_2.out hb
  have SL_3 : Hid (Sl rpU8 w3 D2 Ab nb cb l) := keepS SL_2.out hb
  have BB_3 : Hid (Below w.heap.size w w3) := stepB BB_2.out hb
  have ob_3 : Hid (w3.ownsRow w.heap.size 5 1 (.slice A1 m1 c1) m1 ((stb (f, t, sets)).map bv)) := own_mono ho BB_2.out.size
  clear z_pa0_2 z_pa1_2 z_pa2_2
  clear hb
  have hm1 : m1 = (stb (f, t, sets)).length := by have := ho.1; simpa using this.symm
  have HM1 := Lib.hid hm1
  have hm1k : m1 ≤ 740 := by omega
  clear ho hm1
  go_wp2_with fail
  refine (new_any 4000 _).mono ?_; rintro en w4 ⟨rfl, hp, hb⟩
  obtain ⟨gp, hgp⟩ : ∃ gp, gp = w3.heap.size := ⟨_, rfl⟩
  rw [← hgp] at hp
  have pa_4 : Hid (Blk w4 w.heap.size 31 (stpV f t A n c)) := keepB pa_3.out hb
  have pb_4 : Hid (Blk w4 (w.heap.size + 1) 31 (stpV f' t' A' n' c')) := keepB pb_3.out hb
  have sa_4 : Hid (Sl (rpSlice rpU64) w4 D A n c sets) := keepS sa_3.out hb
  have sb_4 : Hid (Sl (rpSlice rpU64) w4 D' A' n' c' sets') := keepS sb_3.out hb
  have SL_4 : Hid (Sl rpU8 w4 D2 Ab nb cb l) := keepS SL_3.out hb
  have ob_4 : Hid (w4.ownsRow w.heap.size 5 1 (.slice A1 m1 c1) m1 ((stb (f, t, sets)).map bv)) := keepO ob_3.out hb
  have BB_4 : Hid (Below w.heap.size w w4) := stepB BB_3.out hb
  clear hb
  rw [← hgp]
  rw [show max (4000 : Int) 0 = 4000 from rfl] at hp
  have HPEN := Lib.hid hp
  have HGP := Lib.hid hgp
  clear hp hgp
  have z_pa0_4 := (show Blk w4 w.heap.size 31 (stpV f t A n c) from pa_4.out).cell 0
  have z_pa1_4 := (show Blk w4 w.heap.size 31 (stpV f t A n c) from pa_4.out).cell 1
  have z_pa2_4 := (show Blk w4 w.heap.size 31 (stpV f t A n c) from pa_4.out).cell 2
  go_wp2_with fail
  refine (stput_ok (sa_4.out).1 (sa_4.out).2 (fun k hk e => by have e : k = gp := e; have h1 := (sa_3.out).2 k hk; have := HGP.out; omega) HOK.out HPEN.out (by decide) (by decide) (by simp)).mono ?_; rintro en w5 ⟨rfl, F2, hp, hc, hF2⟩
  rw [HFIT.out] at hp
  have HPEN2 := Lib.hid hp
  clear hp
  have pa_5 : Hid (Blk w5 w.heap.size 31 (stpV f t A n c)) := chB pa_4.out hc (fun e => by have e : _ = gp := e; have h1 := (show Blk w3 w.heap.size 31 (stpV f t A n c) from pa_3.out).lt; have := HGP.out; omega)
  have pb_5 : Hid (Blk w5 (w.heap.size + 1) 31 (stpV f' t' A' n' c')) := chB pb_4.out hc (fun e => by have e : _ = gp := e; have h1 := (show Blk w3 (w.heap.size + 1) 31 (stpV f' t' A' n' c') from pb_3.out).lt; have := HGP.out; omega)
  have sa_5 : Hid (Sl (rpSlice rpU64) w5 D A n c sets) := chS sa_4.out hc (fun k hk e => by have e : k = gp := e; have h1 := (sa_3.out).2 k hk; have := HGP.out; omega)
  have sb_5 : Hid (Sl (rpSlice rpU64) w5 D' A' n' c' sets') := chS sb_4.out hc (fun k hk e => by have e : k = gp := e; have h1 := (sb_3.out).2 k hk; have := HGP.out; omega)
  have SL_5 : Hid (Sl rpU8 w5 D2 Ab nb cb l) := chS SL_4.out hc (fun k hk e => by have e : k = gp := e; have h1 := (SL_3.out).2 k hk; have := HGP.out; omega)
  have ob_5 : Hid (w5.ownsRow w.heap.size 5 1 (.slice A1 m1 c1) m1 ((stb (f, t, sets)).map bv)) := chO ob_4.out hc (fun k hk e => by have e : k = gp := e; have h1 := (ob_3.out.lt k hk).2; have := HGP.out; omega)
  have BB_5 : Hid (Below w.heap.size w w5) := chBase BB_4.out hc (fun k hk => by have e : k = gp := hk; have h1 := HGP.out; have h2 := BB_3.out.size; omega)
  clear z_pa0_4 z_pa1_4 z_pa2_4
  clear hc hF2
  go_wp2_with fail
  refine (bytes_ok HPEN2.out (by omega)).mono ?_; rintro en w6 ⟨Ap, mp, cp, rfl, ho, hb⟩
  have pa_6 : Hid (Blk w6 w.heap.size 31 (stpV f t A n c)) := keepB pa_5.out hb
  have pb_6 : Hid (Blk w6 (w.heap.size + 1) 31 (stpV f' t' A' n' c')) := keepB pb_5.out hb
  have sa_6 : Hid (Sl (rpSlice rpU64) w6 D A n c sets) := keepS sa_5.out hb
  have sb_6 : Hid (Sl (rpSlice rpU64) w6 D' A' n' c' sets') := keepS sb_5.out hb
  have SL_6 : Hid (Sl rpU8 w6 D2 Ab nb cb l) := keepS SL_5.out hb
  have ob_6 : Hid (w6.ownsRow w.heap.size 5 1 (.slice A1 m1 c1) m1 ((stb (f, t, sets)).map bv)) := keepO ob_5.out hb
  have BB_6 : Hid (Below w.heap.size w w6) := stepB BB_5.out hb
  have op_6 : Hid (w6.ownsRow w.heap.size 5 1 (.slice Ap mp cp) mp ((stb (f, t, sets)).map bv)) := own_mono ho BB_5.out.size
  clear hb
  clear ho
  go_wp2_with fail
  have hsm := same_any _ _ _ _ _ _ _ _ _ _ w6 (own_bytes op_6.out) (own_bytes ob_6.out)
  rw [hbe] at hsm
  have HSM := Lib.hid hsm
  clear hsm
  refine (HSM.out).mono ?_; rintro en wx ⟨rfl, rfl⟩
  have z_pa0_6 := (show Blk w6 w.heap.size 31 (stpV f t A n c) from pa_6.out).cell 0
  have z_pa1_6 := (show Blk w6 w.heap.size 31 (stpV f t A n c) from pa_6.out).cell 1
  have z_pa2_6 := (show Blk w6 w.heap.size 31 (stpV f t A n c) from pa_6.out).cell 2
  have z_pb0_6 := (show Blk w6 (w.heap.size + 1) 31 (stpV f' t' A' n' c') from pb_6.out).cell 0
  have z_pb1_6 := (show Blk w6 (w.heap.size + 1) 31 (stpV f' t' A' n' c') from pb_6.out).cell 1
  have z_pb2_6 := (show Blk w6 (w.heap.size + 1) 31 (stpV f' t' A' n' c') from pb_6.out).cell 2
  go_wp2_with fail
  obtain ⟨bs, hbs⟩ : ∃ b : Bool, b = dec ((f, t, sets) = (f', t', sets')) := ⟨_, rfl⟩
  have HBS := Lib.hid hbs
  have hbb : (bs != bs) = false := by cases bs <;> rfl
  clear hbs
  have HRP : Hid (∀ w', Below w6.heap.size w6 w' → Calls Try.prog 53 #[.agg (stpV f t A n c)] w' fun e w'' => e = .returned (.bool true) ∧ Below w'.heap.size w' w'') := fun w' hb => by have := right_any (f := f) (t := t) (keepS sa_6.out hb).1 (keepS sa_6.out hb).2 hf ht; rwa [dec_true HOK.out] at this
  have HRR : Hid (∀ w', Below w6.heap.size w6 w' → Calls Try.prog 46 #[.agg (stpV f t A n c)] w' fun e w'' => e = .returned (.bool true) ∧ Below w'.heap.size w' w'') := fun w' hb => by have := rright_any (f := f) (t := t) (keepS sa_6.out hb).1 (keepS sa_6.out hb).2 hf ht; rwa [dec_true HOK.out] at this
  have HSP : Hid (∀ w', Below w6.heap.size w6 w' → Calls Try.prog 54 #[.agg (stpV f t A n c), .agg (stpV f' t' A' n' c')] w' fun e w'' => e = .returned (.bool bs) ∧ Below w'.heap.size w' w'') := fun w' hb => by have := stsame_any (f := f) (t := t) (f' := f') (t' := t') (keepS sa_6.out hb).1 (keepS sb_6.out hb).1 (keepS sa_6.out hb).2 (keepS sb_6.out hb).2; rwa [← HBS.out] at this
  have HSR : Hid (∀ w', Below w6.heap.size w6 w' → Calls Try.prog 43 #[.agg (stpV f t A n c), .agg (stpV f' t' A' n' c')] w' fun e w'' => e = .returned (.bool bs) ∧ Below w'.heap.size w' w'') := fun w' hb => by have := rsame_any (f := f) (t := t) (f' := f') (t' := t') (keepS sa_6.out hb).1 (keepS sb_6.out hb).1 (keepS sa_6.out hb).2 (keepS sb_6.out hb).2; rwa [← HBS.out] at this
  have HCP : Hid (∀ w', Below w6.heap.size w6 w' → Calls Try.prog 55 #[.agg (stpV f t A n c)] w' fun e w'' => ∃ A2 c2, e = .returned (.agg (stpV f t A2 n c2)) ∧ LL w'' w'.heap.size A2 n c2 sets ∧ Below w'.heap.size w' w'') := fun w' hb => stcopy_any (keepS sa_6.out hb).1 (keepS sa_6.out hb).2 (by have h1 := HL20.out; have h2 := HLEN.out; omega) (fun i x hx => by have := HR20.out i x hx; omega)
  have HCK : Hid (∀ w', Below w6.heap.size w6 w' → w'.cell? ⟨w.heap.size, 0, none⟩ = some (.int .u64 (f : Int)) ∧ w'.cell? ⟨w.heap.size, 1, none⟩ = some (.int .u64 (t : Int)) ∧ w'.cell? ⟨w.heap.size, 2, none⟩ = some (.slice A n c) ∧ w'.cell? ⟨w.heap.size + 1, 0, none⟩ = some (.int .u64 (f' : Int)) ∧ w'.cell? ⟨w.heap.size + 1, 1, none⟩ = some (.int .u64 (t' : Int)) ∧ w'.cell? ⟨w.heap.size + 1, 2, none⟩ = some (.slice A' n' c')) := fun w' hb => ⟨(keepB (show Blk w6 w.heap.size 31 (stpV f t A n c) from pa_6.out) hb).cell 0, (keepB (show Blk w6 w.heap.size 31 (stpV f t A n c) from pa_6.out) hb).cell 1, (keepB (show Blk w6 w.heap.size 31 (stpV f t A n c) from pa_6.out) hb).cell 2, (keepB (show Blk w6 (w.heap.size + 1) 31 (stpV f' t' A' n' c') from pb_6.out) hb).cell 0, (keepB (show Blk w6 (w.heap.size + 1) 31 (stpV f' t' A' n' c') from pb_6.out) hb).cell 1, (keepB (show Blk w6 (w.heap.size + 1) 31 (stpV f' t' A' n' c') from pb_6.out) hb).cell 2⟩
  go_region_held3 (fun w' => w'.cell? ⟨w.heap.size, 0, none⟩ = some (.int .u64 (f : Int)) ∧ w'.cell? ⟨w.heap.size, 1, none⟩ = some (.int .u64 (t : Int)) ∧ w'.cell? ⟨w.heap.size, 2, none⟩ = some (.slice A n c) ∧ w'.cell? ⟨w.heap.size + 1, 0, none⟩ = some (.int .u64 (f' : Int)) ∧ w'.cell? ⟨w.heap.size + 1, 1, none⟩ = some (.int .u64 (t' : Int)) ∧ w'.cell? ⟨w.heap.size + 1, 2, none⟩ = some (.slice A' n' c'))
    (first | exact HCK.out _ HB6.out | exact HCK.out _ HB5.out | exact HCK.out _ HB4.out | exact HCK.out _ HB3.out | exact HCK.out _ HB2.out | exact HCK.out _ HB1.out | exact HCK.out _ (Below.refl _ _) | exact HCK.out _ (Below.refl _ _).drew | go_keep)
    (first
      | (go_at_call 53; refine (HRP.out _ (Below.refl _ _).drew).mono ?_; rintro en v1 ⟨rfl, hb⟩; have HB1 : Hid (Below w6.heap.size w6 v1) := ⟨hb.os, hb.tape, hb.output, hb.size, hb.block⟩; clear hb)
      | (go_at_call 46; refine (HRR.out _ HB1.out).mono ?_; rintro en v2 ⟨rfl, hb⟩; have HB2 : Hid (Below w6.heap.size w6 v2) := stepB HB1.out hb; clear hb)
      | (go_at_call 54; refine (HSP.out _ HB2.out).mono ?_; rintro en v3 ⟨rfl, hb⟩; have HB3 : Hid (Below w6.heap.size w6 v3) := stepB HB2.out hb; clear hb)
      | (go_at_call 55; refine (HCP.out _ HB4.out).mono ?_; rintro en v5 ⟨Ac, cc, rfl, hll, hb⟩; have HB5 : Hid (Below w6.heap.size w6 v5) := stepB HB4.out hb; obtain ⟨Dc, hsc⟩ := hll.below_sl; have hcs := rsame_any (f := f) (t := t) (f' := f) (t' := t) hsc.1 (keepS sa_6.out HB5.out).1 hsc.2 (keepS sa_6.out HB5.out).2; rw [dec_true rfl] at hcs; have HCS := Lib.hid hcs; clear hcs hsc hll hb)
      | (go_at_call 43; refine HCS.out.mono ?_; rintro en v6 ⟨rfl, hb⟩; have HB6 : Hid (Below w6.heap.size w6 v6) := stepB HB5.out hb; clear hb)
      | (go_at_call 43; refine (HSR.out _ HB3.out).mono ?_; rintro en v4 ⟨rfl, hb⟩; have HB4 : Hid (Below w6.heap.size w6 v4) := stepB HB3.out hb; clear hb))
  have pa_7 : Hid (Blk v6 w.heap.size 31 (stpV f t A n c)) := keepB pa_6.out (HB6.out)
  have pb_7 : Hid (Blk v6 (w.heap.size + 1) 31 (stpV f' t' A' n' c')) := keepB pb_6.out (HB6.out)
  have sa_7 : Hid (Sl (rpSlice rpU64) v6 D A n c sets) := keepS sa_6.out (HB6.out)
  have sb_7 : Hid (Sl (rpSlice rpU64) v6 D' A' n' c' sets') := keepS sb_6.out (HB6.out)
  have SL_7 : Hid (Sl rpU8 v6 D2 Ab nb cb l) := keepS SL_6.out (HB6.out)
  have ob_7 : Hid (v6.ownsRow w.heap.size 5 1 (.slice A1 m1 c1) m1 ((stb (f, t, sets)).map bv)) := keepO ob_6.out (HB6.out)
  have op_7 : Hid (v6.ownsRow w.heap.size 5 1 (.slice Ap mp cp) mp ((stb (f, t, sets)).map bv)) := keepO op_6.out (HB6.out)
  have BB_7 : Hid (Below w.heap.size w v6) := stepB BB_6.out (HB6.out)
  clear z_pa0_6 z_pa1_6 z_pa2_6 z_pb0_6 z_pb1_6 z_pb2_6
  have z_pa0_7 := (show Blk v6 w.heap.size 31 (stpV f t A n c) from pa_7.out).cell 0
  have z_pa1_7 := (show Blk v6 w.heap.size 31 (stpV f t A n c) from pa_7.out).cell 1
  have z_pa2_7 := (show Blk v6 w.heap.size 31 (stpV f t A n c) from pa_7.out).cell 2
  go_wp2_with fail
  have hrt := rright_any (f := f) (t := t) (sa_7.out).1 (sa_7.out).2 hf ht
  rw [dec_true HOK.out] at hrt
  have HRT := Lib.hid hrt
  clear hrt
  refine (HRT.out).mono ?_; rintro en w8 ⟨rfl, hb⟩
  have pa_8 : Hid (Blk w8 w.heap.size 31 (stpV f t A n c)) := keepB pa_7.out hb
  have pb_8 : Hid (Blk w8 (w.heap.size + 1) 31 (stpV f' t' A' n' c')) := keepB pb_7.out hb
  have sa_8 : Hid (Sl (rpSlice rpU64) w8 D A n c sets) := keepS sa_7.out hb
  have sb_8 : Hid (Sl (rpSlice rpU64) w8 D' A' n' c' sets') := keepS sb_7.out hb
  have SL_8 : Hid (Sl rpU8 w8 D2 Ab nb cb l) := keepS SL_7.out hb
  have ob_8 : Hid (w8.ownsRow w.heap.size 5 1 (.slice A1 m1 c1) m1 ((stb (f, t, sets)).map bv)) := keepO ob_7.out hb
  have op_8 : Hid (w8.ownsRow w.heap.size 5 1 (.slice Ap mp cp) mp ((stb (f, t, sets)).map bv)) := keepO op_7.out hb
  have BB_8 : Hid (Below w.heap.size w w8) := stepB BB_7.out hb
  clear z_pa0_7 z_pa1_7 z_pa2_7
  clear hb
  have hbsz := BB_8.out.size
  have HM := Lib.hid (World.ownsRow_made (e := 5) (size := 1) (base := w8.heap.size) w8 #[] 0 (Nat.le_refl _) (by decide) rfl)
  have HSB := Lib.hid (Src.bytes (own_bytes (keepO ob_8.out (below1 w8 (.cells #[] 5)))))
  have hmx1 : 0 + m1 ≤ maxLen := by unfold maxLen; omega
  have hmx2 : m1 + nb ≤ maxLen := by unfold maxLen; omega
  go_wp2_with (first
    | (at_builtin; (refine wpList_app rfl (.tmp 83) (.tmp 84) _ rfl elemB rfl HM.out rfl HSB.out hmx1 (by omega) (by simp) ?_); intro A4 c4 w4 ho4 hg4 hat4
       have hb4 : Below w8.heap.size w8 w4 := (below1 w8 (.cells #[] 5)).grown hg4 (below1 w8 (.cells #[] 5)).size (fun j hj => by have e : j = w8.heap.size := (by injection hj with hj; exact hj.symm); omega)
       have HB4b := Lib.hid hb4
       have ho4' : w4.ownsRow w8.heap.size 5 1 (.slice A4 m1 c4) m1 ((stb (f, t, sets)).map bv) := by
         have := ho4
         rw [List.nil_append] at this
         simpa using this
       have HO4 := Lib.hid ho4'
       have hz4 := hb4.size
       clear ho4 hg4 hat4 hb4 ho4')
    | (at_builtin; refine wpList_app rfl (.tmp 85) (.tmp 86) _ rfl elemB rfl HO4.out rfl (Src.bytes (keepS SL_8.out HB4b.out).1) hmx2 (by omega) (by omega) ?_; intro A5 c5 w5 ho5 hg5 hat5
       have HG5 := Lib.hid hg5
       have HO5 := Lib.hid ho5
       clear ho5 hg5 hat5))
  have pa_9 : Hid (Blk w4 w.heap.size 31 (stpV f t A n c)) := keepB pa_8.out (HB4b.out)
  have pb_9 : Hid (Blk w4 (w.heap.size + 1) 31 (stpV f' t' A' n' c')) := keepB pb_8.out (HB4b.out)
  have sa_9 : Hid (Sl (rpSlice rpU64) w4 D A n c sets) := keepS sa_8.out (HB4b.out)
  have sb_9 : Hid (Sl (rpSlice rpU64) w4 D' A' n' c' sets') := keepS sb_8.out (HB4b.out)
  have SL_9 : Hid (Sl rpU8 w4 D2 Ab nb cb l) := keepS SL_8.out (HB4b.out)
  have ob_9 : Hid (w4.ownsRow w.heap.size 5 1 (.slice A1 m1 c1) m1 ((stb (f, t, sets)).map bv)) := keepO ob_8.out (HB4b.out)
  have op_9 : Hid (w4.ownsRow w.heap.size 5 1 (.slice Ap mp cp) mp ((stb (f, t, sets)).map bv)) := keepO op_8.out (HB4b.out)
  have BB_9 : Hid (Below w.heap.size w w4) := stepB BB_8.out (HB4b.out)
  have hg5c := Chg.of_grown HG5.out
  have hoz : ∀ j, (Value.slice A4 m1 c4).ownBlock = some j → w8.heap.size ≤ j := fun j hj => (HO4.out.lt j hj).1
  have pa_10 : Hid (Blk w5 w.heap.size 31 (stpV f t A n c)) := chB pa_9.out hg5c (fun e => by have e : some _ = (Value.slice A4 m1 c4).ownBlock := e; have h1 := (show Blk w8 w.heap.size 31 (stpV f t A n c) from pa_8.out).lt; have := hoz _ e.symm; omega)
  have pb_10 : Hid (Blk w5 (w.heap.size + 1) 31 (stpV f' t' A' n' c')) := chB pb_9.out hg5c (fun e => by have e : some _ = (Value.slice A4 m1 c4).ownBlock := e; have h1 := (show Blk w8 (w.heap.size + 1) 31 (stpV f' t' A' n' c') from pb_8.out).lt; have := hoz _ e.symm; omega)
  have sa_10 : Hid (Sl (rpSlice rpU64) w5 D A n c sets) := chS sa_9.out hg5c (fun k hk e => by have e : some k = (Value.slice A4 m1 c4).ownBlock := e; have h1 := (sa_8.out).2 k hk; have := hoz _ e.symm; omega)
  have sb_10 : Hid (Sl (rpSlice rpU64) w5 D' A' n' c' sets') := chS sb_9.out hg5c (fun k hk e => by have e : some k = (Value.slice A4 m1 c4).ownBlock := e; have h1 := (sb_8.out).2 k hk; have := hoz _ e.symm; omega)
  have SL_10 : Hid (Sl rpU8 w5 D2 Ab nb cb l) := chS SL_9.out hg5c (fun k hk e => by have e : some k = (Value.slice A4 m1 c4).ownBlock := e; have h1 := (SL_8.out).2 k hk; have := hoz _ e.symm; omega)
  have ob_10 : Hid (w5.ownsRow w.heap.size 5 1 (.slice A1 m1 c1) m1 ((stb (f, t, sets)).map bv)) := chO ob_9.out hg5c (fun k hk e => by have e : some k = (Value.slice A4 m1 c4).ownBlock := e; have h1 := (ob_8.out.lt k hk).2; have := hoz _ e.symm; omega)
  have op_10 : Hid (w5.ownsRow w.heap.size 5 1 (.slice Ap mp cp) mp ((stb (f, t, sets)).map bv)) := chO op_9.out hg5c (fun k hk e => by have e : some k = (Value.slice A4 m1 c4).ownBlock := e; have h1 := (op_8.out.lt k hk).2; have := hoz _ e.symm; omega)
  have BB_10 : Hid (Below w.heap.size w w5) := chBase BB_9.out hg5c (fun k hk => by have e : some k = (Value.slice A4 m1 c4).ownBlock := hk; have := hoz _ e.symm; have := BB_8.out.size; omega)
  clear hg5c hoz
  have HSN : Hid (Sl rpU8 w5 (fun k => some k = (Value.slice A5 (m1 + nb) c5).ownBlock) A5 (m1 + nb) c5 (stb (f, t, sets) ++ l)) := by
    have := HO5.out
    rw [← List.map_append] at this
    exact ⟨own_bytes this, fun k hk => own_lt this hk⟩
  refine (cnew_any HSN.out.1 HSN.out.2).mono ?_; rintro en w11 ⟨rfl, hr, hb⟩
  obtain ⟨gr, hgr⟩ : ∃ gr, gr = w5.heap.size := ⟨_, rfl⟩
  rw [← hgr] at hr
  have pa_11 : Hid (Blk w11 w.heap.size 31 (stpV f t A n c)) := keepB pa_10.out hb
  have pb_11 : Hid (Blk w11 (w.heap.size + 1) 31 (stpV f' t' A' n' c')) := keepB pb_10.out hb
  have sa_11 : Hid (Sl (rpSlice rpU64) w11 D A n c sets) := keepS sa_10.out hb
  have sb_11 : Hid (Sl (rpSlice rpU64) w11 D' A' n' c' sets') := keepS sb_10.out hb
  have SL_11 : Hid (Sl rpU8 w11 D2 Ab nb cb l) := keepS SL_10.out hb
  have ob_11 : Hid (w11.ownsRow w.heap.size 5 1 (.slice A1 m1 c1) m1 ((stb (f, t, sets)).map bv)) := keepO ob_10.out hb
  have op_11 : Hid (w11.ownsRow w.heap.size 5 1 (.slice Ap mp cp) mp ((stb (f, t, sets)).map bv)) := keepO op_10.out hb
  have BB_11 : Hid (Below w.heap.size w w11) := stepB BB_10.out hb
  have RD_11 : Hid (Rd w11 (fun k => some k = (Value.slice A5 (m1 + nb) c5).ownBlock) gr (stb (f, t, sets) ++ l) 0 (0, 0)) := hr
  clear hb
  clear hr
  rw [← hgr]
  have HGR := Lib.hid hgr
  clear hgr
  have z_pa0_11 := (show Blk w11 w.heap.size 31 (stpV f t A n c) from pa_11.out).cell 0
  go_wp2_with fail
  have hrd := strRead_any RD_11.out OkF.nil (by rw [List.length_append, HLB.out]; omega) f hf
  rw [HSE.out] at hrd
  have HRDC := Lib.hid hrd
  clear hrd
  refine (HRDC.out).mono ?_; rintro en w12 ⟨At, nt, ct, rfl, hll, hr, hc⟩
  have hln := hll.len
  obtain ⟨Dt, hsl⟩ := hll.below_sl
  clear hll
  have pa_12 : Hid (Blk w12 w.heap.size 31 (stpV f t A n c)) := chB pa_11.out hc (fun e => by have e : _ = gr := e; have h1 := (show Blk w5 w.heap.size 31 (stpV f t A n c) from pa_10.out).lt; have := HGR.out; omega)
  have pb_12 : Hid (Blk w12 (w.heap.size + 1) 31 (stpV f' t' A' n' c')) := chB pb_11.out hc (fun e => by have e : _ = gr := e; have h1 := (show Blk w5 (w.heap.size + 1) 31 (stpV f' t' A' n' c') from pb_10.out).lt; have := HGR.out; omega)
  have sa_12 : Hid (Sl (rpSlice rpU64) w12 D A n c sets) := chS sa_11.out hc (fun k hk e => by have e : k = gr := e; have h1 := (sa_10.out).2 k hk; have := HGR.out; omega)
  have sb_12 : Hid (Sl (rpSlice rpU64) w12 D' A' n' c' sets') := chS sb_11.out hc (fun k hk e => by have e : k = gr := e; have h1 := (sb_10.out).2 k hk; have := HGR.out; omega)
  have SL_12 : Hid (Sl rpU8 w12 D2 Ab nb cb l) := chS SL_11.out hc (fun k hk e => by have e : k = gr := e; have h1 := (SL_10.out).2 k hk; have := HGR.out; omega)
  have ob_12 : Hid (w12.ownsRow w.heap.size 5 1 (.slice A1 m1 c1) m1 ((stb (f, t, sets)).map bv)) := chO ob_11.out hc (fun k hk e => by have e : k = gr := e; have h1 := (ob_10.out.lt k hk).2; have := HGR.out; omega)
  have op_12 : Hid (w12.ownsRow w.heap.size 5 1 (.slice Ap mp cp) mp ((stb (f, t, sets)).map bv)) := chO op_11.out hc (fun k hk e => by have e : k = gr := e; have h1 := (op_10.out.lt k hk).2; have := HGR.out; omega)
  have BB_12 : Hid (Below w.heap.size w w12) := chBase BB_11.out hc (fun k hk => by have e : k = gr := hk; have h1 := HGR.out; have h2 := BB_10.out.size; omega)
  have RD_12 : Hid (Rd w12 (fun k => some k = (Value.slice A5 (m1 + nb) c5).ownBlock) gr (stb (f, t, sets) ++ l) (stb (f, t, sets)).length (0, 0)) := hr
  have st_12 : Hid (Sl (rpSlice rpU64) w12 Dt At nt ct sets) := hsl
  clear z_pa0_11
  clear hr hc hsl
  have z_pa0_12 := (show Blk w12 w.heap.size 31 (stpV f t A n c) from pa_12.out).cell 0
  have z_pa1_12 := (show Blk w12 w.heap.size 31 (stpV f t A n c) from pa_12.out).cell 1
  have z_pa2_12 := (show Blk w12 w.heap.size 31 (stpV f t A n c) from pa_12.out).cell 2
  have lu_pa_12 := (show Blk w12 w.heap.size 31 (stpV f t A n c) from pa_12.out).lt
  go_wp2_with fail
  have hb : Below w12.heap.size w12 (w12.alloc (.cells (stpV f t At nt ct) 31)) := below1 _ (.cells (stpV f t At nt ct) 31)
  have pa_13 : Hid (Blk (w12.alloc (.cells (stpV f t At nt ct) 31)) w.heap.size 31 (stpV f t A n c)) := keepB pa_12.out hb
  have pb_13 : Hid (Blk (w12.alloc (.cells (stpV f t At nt ct) 31)) (w.heap.size + 1) 31 (stpV f' t' A' n' c')) := keepB pb_12.out hb
  have sa_13 : Hid (Sl (rpSlice rpU64) (w12.alloc (.cells (stpV f t At nt ct) 31)) D A n c sets) := keepS sa_12.out hb
  have sb_13 : Hid (Sl (rpSlice rpU64) (w12.alloc (.cells (stpV f t At nt ct) 31)) D' A' n' c' sets') := keepS sb_12.out hb
  have SL_13 : Hid (Sl rpU8 (w12.alloc (.cells (stpV f t At nt ct) 31)) D2 Ab nb cb l) := keepS SL_12.out hb
  have ob_13 : Hid ((w12.alloc (.cells (stpV f t At nt ct) 31)).ownsRow w.heap.size 5 1 (.slice A1 m1 c1) m1 ((stb (f, t, sets)).map bv)) := keepO ob_12.out hb
  have op_13 : Hid ((w12.alloc (.cells (stpV f t At nt ct) 31)).ownsRow w.heap.size 5 1 (.slice Ap mp cp) mp ((stb (f, t, sets)).map bv)) := keepO op_12.out hb
  have RD_13 : Hid (Rd (w12.alloc (.cells (stpV f t At nt ct) 31)) (fun k => some k = (Value.slice A5 (m1 + nb) c5).ownBlock) gr (stb (f, t, sets) ++ l) (stb (f, t, sets)).length (0, 0)) := keepR RD_12.out hb
  have st_13 : Hid (Sl (rpSlice rpU64) (w12.alloc (.cells (stpV f t At nt ct) 31)) Dt At nt ct sets) := keepS st_12.out hb
  have BB_13 : Hid (Below w.heap.size w (w12.alloc (.cells (stpV f t At nt ct) 31))) := stepB BB_12.out hb
  have sz_12 := BB_12.out.size
  have bt_13 : Hid (Blk (w12.alloc (.cells (stpV f t At nt ct) 31)) w12.heap.size 31 (stpV f t At nt ct)) := blk11 _ _ _
  clear hb
  generalize hgt : w12.heap.size = gt at *
  generalize World.alloc w12 _ = w13 at *
  clear z_pa0_12 z_pa1_12 z_pa2_12 lu_pa_12
  refine (rsb_any (sa_13.out).1 (sa_13.out).2 HOK.out).mono ?_; rintro en w14 ⟨Ay, ny, cy, rfl, ho, hb⟩
  have pa_14 : Hid (Blk w14 w.heap.size 31 (stpV f t A n c)) := keepB pa_13.out hb
  have pb_14 : Hid (Blk w14 (w.heap.size + 1) 31 (stpV f' t' A' n' c')) := keepB pb_13.out hb
  have sa_14 : Hid (Sl (rpSlice rpU64) w14 D A n c sets) := keepS sa_13.out hb
  have sb_14 : Hid (Sl (rpSlice rpU64) w14 D' A' n' c' sets') := keepS sb_13.out hb
  have SL_14 : Hid (Sl rpU8 w14 D2 Ab nb cb l) := keepS SL_13.out hb
  have ob_14 : Hid (w14.ownsRow w.heap.size 5 1 (.slice A1 m1 c1) m1 ((stb (f, t, sets)).map bv)) := keepO ob_13.out hb
  have op_14 : Hid (w14.ownsRow w.heap.size 5 1 (.slice Ap mp cp) mp ((stb (f, t, sets)).map bv)) := keepO op_13.out hb
  have RD_14 : Hid (Rd w14 (fun k => some k = (Value.slice A5 (m1 + nb) c5).ownBlock) gr (stb (f, t, sets) ++ l) (stb (f, t, sets)).length (0, 0)) := keepR RD_13.out hb
  have st_14 : Hid (Sl (rpSlice rpU64) w14 Dt At nt ct sets) := keepS st_13.out hb
  have bt_14 : Hid (Blk w14 gt 31 (stpV f t At nt ct)) := keepB bt_13.out hb
  have BB_14 : Hid (Below w.heap.size w w14) := stepB BB_13.out hb
  have oy_14 : Hid (w14.ownsRow w.heap.size 5 1 (.slice Ay ny cy) ny ((stb (f, t, sets)).map bv)) := own_mono ho BB_13.out.size
  clear hb
  clear ho
  go_wp2_with fail
  have hsm := same_any _ _ _ _ _ _ _ _ _ _ w14 (own_bytes ob_14.out) (own_bytes oy_14.out)
  rw [hbe] at hsm
  have HSM3 := Lib.hid hsm
  clear hsm
  refine (HSM3.out).mono ?_; rintro en wx ⟨rfl, rfl⟩
  go_wp2_with fail
  refine (cgood_at RD_14.out).mono ?_; rintro en w15 ⟨rfl, hb⟩
  have pa_15 : Hid (Blk w15 w.heap.size 31 (stpV f t A n c)) := keepB pa_14.out hb
  have pb_15 : Hid (Blk w15 (w.heap.size + 1) 31 (stpV f' t' A' n' c')) := keepB pb_14.out hb
  have sa_15 : Hid (Sl (rpSlice rpU64) w15 D A n c sets) := keepS sa_14.out hb
  have sb_15 : Hid (Sl (rpSlice rpU64) w15 D' A' n' c' sets') := keepS sb_14.out hb
  have SL_15 : Hid (Sl rpU8 w15 D2 Ab nb cb l) := keepS SL_14.out hb
  have ob_15 : Hid (w15.ownsRow w.heap.size 5 1 (.slice A1 m1 c1) m1 ((stb (f, t, sets)).map bv)) := keepO ob_14.out hb
  have op_15 : Hid (w15.ownsRow w.heap.size 5 1 (.slice Ap mp cp) mp ((stb (f, t, sets)).map bv)) := keepO op_14.out hb
  have RD_15 : Hid (Rd w15 (fun k => some k = (Value.slice A5 (m1 + nb) c5).ownBlock) gr (stb (f, t, sets) ++ l) (stb (f, t, sets)).length (0, 0)) := keepR RD_14.out hb
  have st_15 : Hid (Sl (rpSlice rpU64) w15 Dt At nt ct sets) := keepS st_14.out hb
  have bt_15 : Hid (Blk w15 gt 31 (stpV f t At nt ct)) := keepB bt_14.out hb
  have oy_15 : Hid (w15.ownsRow w.heap.size 5 1 (.slice Ay ny cy) ny ((stb (f, t, sets)).map bv)) := keepO oy_14.out hb
  have BB_15 : Hid (Below w.heap.size w w15) := stepB BB_14.out hb
  clear hb
  go_wp2_with fail
  have hle : ((stb (f, t, sets)).length : Int) = (m1 : Int) := by have := HM1.out; omega
  have hat := cat_at RD_15.out
  rw [← HM1.out] at hat
  have HAT := Lib.hid hat
  clear hat hle
  have z_bt0_15 := (show Blk w15 gt 31 (stpV f t At nt ct) from bt_15.out).cell 0
  have z_bt1_15 := (show Blk w15 gt 31 (stpV f t At nt ct) from bt_15.out).cell 1
  have z_bt2_15 := (show Blk w15 gt 31 (stpV f t At nt ct) from bt_15.out).cell 2
  have z_pa0_15 := (show Blk w15 w.heap.size 31 (stpV f t A n c) from pa_15.out).cell 0
  have z_pa1_15 := (show Blk w15 w.heap.size 31 (stpV f t A n c) from pa_15.out).cell 1
  have z_pa2_15 := (show Blk w15 w.heap.size 31 (stpV f t A n c) from pa_15.out).cell 2
  refine (HAT.out).mono ?_; rintro en wx ⟨rfl, rfl⟩
  go_wp2_with fail
  have hss := rsame_any (f := f) (t := t) (f' := f) (t' := t) (st_15.out).1 (sa_15.out).1 (st_15.out).2 (sa_15.out).2
  rw [dec_true rfl] at hss
  have HSS := Lib.hid hss
  clear hss
  refine (HSS.out).mono ?_; rintro en w16 ⟨rfl, hb⟩
  have pa_16 : Hid (Blk w16 w.heap.size 31 (stpV f t A n c)) := keepB pa_15.out hb
  have pb_16 : Hid (Blk w16 (w.heap.size + 1) 31 (stpV f' t' A' n' c')) := keepB pb_15.out hb
  have sa_16 : Hid (Sl (rpSlice rpU64) w16 D A n c sets) := keepS sa_15.out hb
  have sb_16 : Hid (Sl (rpSlice rpU64) w16 D' A' n' c' sets') := keepS sb_15.out hb
  have SL_16 : Hid (Sl rpU8 w16 D2 Ab nb cb l) := keepS SL_15.out hb
  have ob_16 : Hid (w16.ownsRow w.heap.size 5 1 (.slice A1 m1 c1) m1 ((stb (f, t, sets)).map bv)) := keepO ob_15.out hb
  have op_16 : Hid (w16.ownsRow w.heap.size 5 1 (.slice Ap mp cp) mp ((stb (f, t, sets)).map bv)) := keepO op_15.out hb
  have RD_16 : Hid (Rd w16 (fun k => some k = (Value.slice A5 (m1 + nb) c5).ownBlock) gr (stb (f, t, sets) ++ l) (stb (f, t, sets)).length (0, 0)) := keepR RD_15.out hb
  have st_16 : Hid (Sl (rpSlice rpU64) w16 Dt At nt ct sets) := keepS st_15.out hb
  have bt_16 : Hid (Blk w16 gt 31 (stpV f t At nt ct)) := keepB bt_15.out hb
  have oy_16 : Hid (w16.ownsRow w.heap.size 5 1 (.slice Ay ny cy) ny ((stb (f, t, sets)).map bv)) := keepO oy_15.out hb
  have BB_16 : Hid (Below w.heap.size w w16) := stepB BB_15.out hb
  clear z_bt0_15 z_bt1_15 z_bt2_15 z_pa0_15 z_pa1_15 z_pa2_15
  clear hb
  go_wp2_with fail
  refine (slive_any _).mono ?_; rintro en w17 ⟨rfl, hb⟩
  have pa_17 : Hid (Blk w17 w.heap.size 31 (stpV f t A n c)) := keepB pa_16.out hb
  have pb_17 : Hid (Blk w17 (w.heap.size + 1) 31 (stpV f' t' A' n' c')) := keepB pb_16.out hb
  have sa_17 : Hid (Sl (rpSlice rpU64) w17 D A n c sets) := keepS sa_16.out hb
  have sb_17 : Hid (Sl (rpSlice rpU64) w17 D' A' n' c' sets') := keepS sb_16.out hb
  have SL_17 : Hid (Sl rpU8 w17 D2 Ab nb cb l) := keepS SL_16.out hb
  have ob_17 : Hid (w17.ownsRow w.heap.size 5 1 (.slice A1 m1 c1) m1 ((stb (f, t, sets)).map bv)) := keepO ob_16.out hb
  have op_17 : Hid (w17.ownsRow w.heap.size 5 1 (.slice Ap mp cp) mp ((stb (f, t, sets)).map bv)) := keepO op_16.out hb
  have RD_17 : Hid (Rd w17 (fun k => some k = (Value.slice A5 (m1 + nb) c5).ownBlock) gr (stb (f, t, sets) ++ l) (stb (f, t, sets)).length (0, 0)) := keepR RD_16.out hb
  have st_17 : Hid (Sl (rpSlice rpU64) w17 Dt At nt ct sets) := keepS st_16.out hb
  have bt_17 : Hid (Blk w17 gt 31 (stpV f t At nt ct)) := keepB bt_16.out hb
  have oy_17 : Hid (w17.ownsRow w.heap.size 5 1 (.slice Ay ny cy) ny ((stb (f, t, sets)).map bv)) := keepO oy_16.out hb
  have BB_17 : Hid (Below w.heap.size w w17) := stepB BB_16.out hb
  clear hb
  go_wp2_with fail
  go_ret
  exact ⟨rfl, BB_17.out⟩
theorem stwrites_any (hs : (rpSlice rpU64).sl w D A n c sets) (hs' : (rpSlice rpU64).sl w D' A' n' c' sets') (hD : ∀ k, D k → k < w.heap.size) (hD' : ∀ k, D' k → k < w.heap.size) (hf : f ≤ 18446744073709551615) (ht : t ≤ 18446744073709551615) (hl : rpU8.sl w D2 Ab nb cb l) (hD2 : ∀ k, D2 k → k < w.heap.size) :
    Calls Try.prog 9 #[.agg (stpV f t A n c), .agg (stpV f' t' A' n' c'), .slice Ab nb cb] w fun e w' => e = .returned (.bool true) ∧ Below w.heap.size w w' := by
  by_cases hn : 300 < nb
  · exact stwrites_long3 hs hs' hD hD' hf ht hl hD2 hn
  by_cases hok : SOk (f, t, sets)
  · exact stwrites_good hs hs' hD hD' hf ht hl hD2 (by omega) hok
  · exact stwrites_bad hs hs' hD hD' hf ht hl hD2 (by omega) hok
end
theorem stripeWrites_st (cs : Array Value) (x : Stp) (cs' : Array Value) (x' : Stp) (A : Option Addr) (n c : Nat) (l : List UInt8) (w : World) (hx : rpStp.ok w (lt w.heap.size) x cs.toList) (hx' : rpStp.ok w (lt w.heap.size) x' cs'.toList) (hl : rpU8.sl w (lt w.heap.size) A n c l) :
    Calls Try.prog 9 #[.agg cs, .agg cs', .slice A n c] w fun e w' => e = .returned (.bool true) ∧ Below w.heap.size w w' := by
  obtain ⟨A1, c1, hcs, hs, hf, ht⟩ := stp_open hx
  obtain ⟨A2, c2, hcs', hs', hf', ht'⟩ := stp_open hx'
  rw [agg_of hcs, agg_of hcs']
  exact stwrites_any hs hs' (fun k hk => hk) (fun k hk => hk) hf ht hl (fun k hk => hk)
end Go.Proofs.Ytmdgmnaaopineaa
