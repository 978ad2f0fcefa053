/-
  'tholepinlaw20.ProjSwaps' returns true for every input, and each argument reads behind the call as it read before. No condition.
-/
import Derived.Test.YtmdgmnaaopineaaStp3
import Derived.Test.YtmdgmnaaopineaaStpL
import Derived.Test.YtmdgmnaaopineaaPen2
import Derived.Test.YtmdgmnaaopineaaCore
import Derived.Deep.Slices
import Derived.Deep.Fields
import Derived.ChangeOld
import Derived.OpenShut
import Derived.ShutString
import Derived.Test.YtmdgmnaaopineaaRows
import Derived.Test.YtmdgmnaaopineaaQQSW3
/- Two stripes are the same: the reference. -/
namespace Go.Proofs.Ytmdgmnaaopineaa
open Go.ChangeShapes Go.WideShapes Go.ChangeAt Go.RowKit
set_option linter.unusedVariables false
theorem same5_any {D D' : Dom} {A A' : Option Addr} {n c n' c' : Nat} {l l' : List Nat} {w : World} (hs : rpU64.sl w D A n c l) (hs' : rpU64.sl w D' A' n' c' l') (hD : ∀ k, D k → k < w.heap.size) (hD' : ∀ k, D' k → k < w.heap.size) :
    Calls Try.prog 31 #[.slice A n c, .slice A' n' c'] w fun en w' => en = .returned (.bool (dec (l = l'))) ∧ Below w.heap.size w w' := by
  obtain ⟨hlen, hnc, hcm⟩ := Rp.sl_len hs
  obtain ⟨hlen', hnc', hcm'⟩ := Rp.sl_len hs'
  unfold maxLen at hcm hcm'
  have HL := Lib.hid hs
  have HL' := Lib.hid hs'
  have HN := Lib.hid hlen
  have HN' := Lib.hid hlen'
  have HD := Lib.hid hD
  have HD' := Lib.hid hD'
  clear hs hs' hlen hlen' hD hD'
  by_cases hne : n = n'
  case neg =>
    have hd : ((n : Int) != (n' : Int)) = true := by simp; omega
    rw [dec_false (fun h : l = l' => hne (by rw [← HN.out, ← HN'.out, h]))]
    clear hne
    go_enter Try.func31, Try.ntmps31
    go_wp2_with fail
    go_ret
    exact ⟨rfl, Below.refl _ _⟩
  subst hne
  go_enter Try.func31, Try.ntmps31
  go_wp2_with fail
  go_loopw [5] (fun i wr => ∃ k : Nat, k ≤ n ∧ i = .int .i64 k ∧ Hid (∀ (j : Nat), j < k → l[j]? = l'[j]?) ∧ Below w.heap.size w wr) (fun i _ => n - (intOf i).toNat)
  case atStart => exact ⟨0, by omega, rfl, fun j h => by omega, Below.refl _ _⟩
  case round =>
    obtain ⟨k, hk, rfl, hsh, hbr⟩ := hrel
    have HB := Lib.hid hbr
    by_cases hkn : k < n
    · obtain ⟨b, off, y, rfl, hb, hy, hc, hlt⟩ := u64_at (Rp.sl_below HL.out hbr HD.out) hkn
      obtain ⟨b', off', z, rfl, hb', hz, hc', hlt'⟩ := u64_at (Rp.sl_below HL'.out hbr HD'.out) hkn
      have hd : decide ((k : Int) < (n : Int)) = true := by simp; omega
      have hk0 : (0 : Int) ≤ (k : Int) := by omega
      have hk1 : (k : Int) < (n : Int) := by omega
      have HY := Lib.hid hy
      have HZ := Lib.hid hz
      clear hy hz hbr
      by_cases hyz : y = z
      · have hq : ((y : Int) != (z : Int)) = false := by simp; omega
        have HYZ := Lib.hid hyz
        clear hyz
        go_wp2_with fail
        go_quiet (fail)
        go_wp2_with fail
        go_roundw
        case rel =>
          refine ⟨k + 1, by omega, by go_num, fun j hj => ?_, HB.out.trans ⟨rfl, rfl, rfl, Nat.le_refl _, fun _ _ => rfl⟩⟩
          rcases Nat.lt_or_ge j k with h | h
          · exact hsh.out j h
          · obtain rfl : j = k := by omega
            rw [HY.out, HZ.out, HYZ.out]
        case measure => simp [intOf]; omega
      · have hq : ((y : Int) != (z : Int)) = true := by simp; omega
        have hno := Lib.hid (show ¬ l = l' from fun h => hyz (by have h1 := HY.out; rw [h, HZ.out] at h1; injection h1 with h1; exact h1.symm))
        clear hyz
        go_wp2_with fail
        go_quiet (fail)
        go_wp2_with fail
        go_ret
        rw [dec_false hno.out]
        exact ⟨rfl, HB.out.trans ⟨rfl, rfl, rfl, Nat.le_refl _, fun _ _ => rfl⟩⟩
    · obtain rfl : k = n := by omega
      have hd : decide ((k : Int) < (k : Int)) = false := by simp
      clear hbr
      go_wp2_with fail
      go_ret
      have hyes : l = l' := List.ext_getElem? (fun j => by
        rcases Nat.lt_or_ge j k with h | h
        · exact hsh.out j h
        · rw [List.getElem?_eq_none (by rw [HN.out]; exact h), List.getElem?_eq_none (by rw [HN'.out]; exact h)])
      rw [dec_true hyes]
      exact ⟨rfl, HB.out⟩
section
variable {D D' : Dom} {A A' : Option Addr} {n c f t n' c' f' t' : Nat} {sets sets' : List (List Nat)} {w : World}
set_option maxRecDepth 100000 in
set_option maxHeartbeats 3000000 in
theorem rsame_any (hs : (rpSlice rpU64).sl w D A n c sets) (hs' : (rpSlice rpU64).sl w D' A' n' c' sets') (hD : ∀ k, D k → k < w.heap.size) (hD' : ∀ k, D' k → k < w.heap.size) :
    Calls Try.prog 43 #[.agg (stpV f t A n c), .agg (stpV f' t' A' n' c')] w fun e w' => e = .returned (.bool (dec ((f, t, sets) = (f', t', sets')))) ∧ Below w.heap.size w w' := by
  obtain ⟨hlen, hnc, hcm⟩ := Rp.sl_len hs
  obtain ⟨hlen', hnc', hcm'⟩ := Rp.sl_len hs'
  unfold maxLen at hcm hcm'
  have HA := Lib.hid (blk21 w 31 31 (stpV f t A n c) (stpV f' t' A' n' c'))
  have HB := Lib.hid (blk22 w 31 31 (stpV f t A n c) (stpV f' t' A' n' c'))
  have HZ := Lib.hid (below2 w (.cells (stpV f t A n c) 31) (.cells (stpV f' t' A' n' c') 31))
  have HS := Lib.hid hs
  have HS' := Lib.hid hs'
  have HD := Lib.hid hD
  have HD' := Lib.hid hD'
  have HN := Lib.hid hlen
  have HN' := Lib.hid hlen'
  clear hs hs' hD hD' hlen hlen'
  by_cases hf : f = f'
  case neg =>
    have q1 : ((f : Int) != (f' : Int)) = true := by simp; omega
    rw [dec_false (fun h : (f, t, sets) = (f', t', sets') => hf (by injection h))]
    clear hf
    go_enter Try.func43, Try.ntmps43
    go_wp2_with fail
    generalize World.alloc (World.alloc w _) _ = w0 at *
    have a0 := (show Blk w0 w.heap.size 31 _ from HA.out).cell 0
    have a1 := (show Blk w0 w.heap.size 31 _ from HA.out).cell 1
    have a2 := (show Blk w0 w.heap.size 31 _ from HA.out).cell 2
    have b0 := (show Blk w0 (w.heap.size + 1) 31 _ from HB.out).cell 0
    have b1 := (show Blk w0 (w.heap.size + 1) 31 _ from HB.out).cell 1
    have b2 := (show Blk w0 (w.heap.size + 1) 31 _ from HB.out).cell 2
    go_wp2_with fail
    go_ret
    exact ⟨rfl, HZ.out⟩
  subst hf
  have q1 : ((f : Int) != (f : Int)) = false := by simp
  by_cases ht : t = t'
  case neg =>
    have q2 : ((t : Int) != (t' : Int)) = true := by simp; omega
    rw [dec_false (fun h : (f, t, sets) = (f, t', sets') => ht (by injection h with _ h; injection h))]
    clear ht
    go_enter Try.func43, Try.ntmps43
    go_wp2_with fail
    generalize World.alloc (World.alloc w _) _ = w0 at *
    have a0 := (show Blk w0 w.heap.size 31 _ from HA.out).cell 0
    have a1 := (show Blk w0 w.heap.size 31 _ from HA.out).cell 1
    have a2 := (show Blk w0 w.heap.size 31 _ from HA.out).cell 2
    have b0 := (show Blk w0 (w.heap.size + 1) 31 _ from HB.out).cell 0
    have b1 := (show Blk w0 (w.heap.size + 1) 31 _ from HB.out).cell 1
    have b2 := (show Blk w0 (w.heap.size + 1) 31 _ from HB.out).cell 2
    go_wp2_with fail
    go_ret
    exact ⟨rfl, HZ.out⟩
  subst ht
  have q2 : ((t : Int) != (t : Int)) = false := by simp
  by_cases hn : n = n'
  case neg =>
    have q3 : ((n : Int) != (n' : Int)) = true := by simp; omega
    rw [dec_false (fun h : (f, t, sets) = (f, t, sets') => hn (by injection h with _ h; injection h with _ h; rw [← HN.out, ← HN'.out, h]))]
    clear hn
    go_enter Try.func43, Try.ntmps43
    go_wp2_with fail
    generalize World.alloc (World.alloc w _) _ = w0 at *
    have a0 := (show Blk w0 w.heap.size 31 _ from HA.out).cell 0
    have a1 := (show Blk w0 w.heap.size 31 _ from HA.out).cell 1
    have a2 := (show Blk w0 w.heap.size 31 _ from HA.out).cell 2
    have b0 := (show Blk w0 (w.heap.size + 1) 31 _ from HB.out).cell 0
    have b1 := (show Blk w0 (w.heap.size + 1) 31 _ from HB.out).cell 1
    have b2 := (show Blk w0 (w.heap.size + 1) 31 _ from HB.out).cell 2
    go_wp2_with fail
    go_ret
    exact ⟨rfl, HZ.out⟩
  subst hn
  have q3 : ((n : Int) != (n : Int)) = false := by simp
  go_enter Try.func43, Try.ntmps43
  go_wp2_with fail
  generalize World.alloc (World.alloc w _) _ = w0 at *
  have a0 := (show Blk w0 w.heap.size 31 _ from HA.out).cell 0
  have a1 := (show Blk w0 w.heap.size 31 _ from HA.out).cell 1
  have a2 := (show Blk w0 w.heap.size 31 _ from HA.out).cell 2
  have b0 := (show Blk w0 (w.heap.size + 1) 31 _ from HB.out).cell 0
  have b1 := (show Blk w0 (w.heap.size + 1) 31 _ from HB.out).cell 1
  have b2 := (show Blk w0 (w.heap.size + 1) 31 _ from HB.out).cell 2
  go_wp2_with fail
  clear a0 a1 a2 b0 b1 b2
  go_loopw [5] (fun i wr => ∃ k : Nat, k ≤ n ∧ i = .int .i64 k ∧ Hid (∀ (j : Nat), j < k → sets[j]? = sets'[j]?) ∧ Hid (Blk wr w.heap.size 31 (stpV f t A n c)) ∧ Hid (Blk wr (w.heap.size + 1) 31 (stpV f t A' n c')) ∧ Hid (Below w.heap.size w wr)) (fun i _ => n - (intOf i).toNat)
  case atStart => exact ⟨0, by omega, rfl, fun j h => by omega, HA.out, HB.out, HZ.out⟩
  case round =>
    clear HA HB HZ
    obtain ⟨k, hk, rfl, hsh, ha, hb, hbel⟩ := hrel
    by_cases hkn : k < n
    case pos =>
      obtain ⟨b1, off1, x, A1, c1, rfl, hb1, hx, hc1, hr1⟩ := rows_at (Rp.sl_below HS.out hbel.out HD.out) hkn
      obtain ⟨b2, off2, y, A2, c2, rfl, hb2, hy, hc2, hr2⟩ := rows_at (Rp.sl_below HS'.out hbel.out HD'.out) hkn
      have hz := hbel.out.size
      have hd : decide ((k : Int) < (n : Int)) = true := by simp; omega
      have hk0 : (0 : Int) ≤ (k : Int) := by omega
      have hk1 : (k : Int) < (n : Int) := by omega
      have hct := fun qq : Gr wr.heap.size wr => same5_any (Rp.sl_below hr1 qq.is (fun k hk => Nat.lt_of_lt_of_le (HD.out k hk) hz)) (Rp.sl_below hr2 qq.is (fun k hk => Nat.lt_of_lt_of_le (HD'.out k hk) hz)) (fun k hk => Nat.lt_of_lt_of_le (HD.out k hk) (Nat.le_trans hz qq.is.size)) (fun k hk => Nat.lt_of_lt_of_le (HD'.out k hk) (Nat.le_trans hz qq.is.size))
      have HX := Lib.hid hx
      have HY := Lib.hid hy
      have g2 := (show Blk wr w.heap.size 31 _ from ha.out).cell 2
      have g1 : ∀ qq : Gr wr.heap.size wr, qq.val.cell? ⟨w.heap.size, 2, none⟩ = _ := fun qq => (keepB (show Blk wr w.heap.size 31 _ from ha.out) qq.is).cell 2
      have g3 : ∀ qq : Gr wr.heap.size wr, qq.val.cell? ⟨w.heap.size + 1, 2, none⟩ = _ := fun qq => (keepB (show Blk wr (w.heap.size + 1) 31 _ from hb.out) qq.is).cell 2
      have g4 : ∀ qq : Gr wr.heap.size wr, qq.val.cell? ⟨b1, off1 + k, none⟩ = some (.slice A1 x.length c1) := fun qq => (qq.is.cell (p := ⟨b1, off1 + k, none⟩) (Nat.lt_of_lt_of_le (HD.out b1 hb1) hz)).trans hc1
      have g5 : ∀ qq : Gr wr.heap.size wr, qq.val.cell? ⟨b2, off2 + k, none⟩ = some (.slice A2 y.length c2) := fun qq => (qq.is.cell (p := ⟨b2, off2 + k, none⟩) (Nat.lt_of_lt_of_le (HD'.out b2 hb2) hz)).trans hc2
      clear hx hy hr1 hr2 hc1 hc2 hb1 hb2
      cases hm : dec (x = y)
      · rw [hm] at hct
        have HCT := Lib.hid hct
        have HM := Lib.hid (of_not_dec hm)
        clear hct hm
        go_wp2_with fail
        refine wp_region_grow (by kernel_rfl) (by kernel_rfl) wr.heap.size ?_
        repeat (quiet_step (((go_at_call 31; exact Gr.call _ (Nat.le_refl _) (HCT.out _)))))
        refine wpQuiet_nil ?_
        rintro w3 ⟨⟨_, hb3⟩, rfl⟩
        clear g1 g2 g3 g4 g5
        go_wp2_with fail
        go_ret
        rw [dec_false (fun h : (f, t, sets) = (f, t, sets') => HM.out (by injection h with _ h; injection h with _ h; have e1 := HX.out; rw [h, HY.out] at e1; injection e1 with e1; exact e1.symm))]
        exact ⟨rfl, stepB hbel.out hb3⟩
      · rw [hm] at hct
        have HCT := Lib.hid hct
        have HM := Lib.hid (of_dec hm)
        clear hct hm
        go_wp2_with fail
        refine wp_region_grow (by kernel_rfl) (by kernel_rfl) wr.heap.size ?_
        repeat (quiet_step (((go_at_call 31; exact Gr.call _ (Nat.le_refl _) (HCT.out _)))))
        refine wpQuiet_nil ?_
        rintro w3 ⟨⟨_, hb3⟩, rfl⟩
        clear g1 g2 g3 g4 g5
        go_wp2_with fail
        go_roundw
        case rel =>
          refine ⟨k + 1, by omega, by go_num, fun j hj => ?_, keepB ha.out hb3, keepB hb.out hb3, stepB hbel.out hb3⟩
          rcases Nat.lt_or_ge j k with h | h
          · exact hsh.out j h
          · obtain rfl : j = k := by omega
            rw [HX.out, HY.out, HM.out]
        case measure => simp [intOf]; omega
    case neg =>
      obtain rfl : k = n := by omega
      have hd : decide ((k : Int) < (k : Int)) = false := by simp
      have g2 := (show Blk wr w.heap.size 31 _ from ha.out).cell 2
      go_wp2_with fail
      go_ret
      have hyes : sets = sets' := List.ext_getElem? (fun j => by
        rcases Nat.lt_or_ge j k with h | h
        · exact hsh.out j h
        · rw [List.getElem?_eq_none (by rw [HN.out]; exact h), List.getElem?_eq_none (by rw [HN'.out]; exact h)])
      rw [dec_true (show (f, t, sets) = (f, t, sets') by rw [hyes])]
      exact ⟨rfl, hbel.out⟩
end
end Go.Proofs.Ytmdgmnaaopineaa
/- ref20.Same; the example of chapter 20's laws. -/
namespace Go.Proofs.Ytmdgmnaaopineaa
open Go.ChangeShapes Go.WideShapes Go.ChangeAt Go.RowKit
set_option linter.unusedVariables false
section
variable {D D' : Dom} {A A' : Option Addr} {n n' c c' e e' : Nat} {l l' : List Stp} {w : World}
set_option maxRecDepth 100000 in
set_option maxHeartbeats 4000000 in
theorem rpsame_any (hs : rpStp.sl w D A n c l) (hs' : rpStp.sl w D' A' n' c' l') (hD : ∀ k, D k → k < w.heap.size) (hD' : ∀ k, D' k → k < w.heap.size) :
    Calls Try.prog 36 #[.agg (prjV e A n c), .agg (prjV e' A' n' c')] w fun en w' => en = .returned (.bool (dec ((e, l) = (e', l')))) ∧ Below w.heap.size w w' := by
  have hlen := (Rp.sl_len hs).1
  have hlen' := (Rp.sl_len hs').1
  have HZ := Lib.hid (below2 w (.cells (prjV e A n c) 25) (.cells (prjV e' A' n' c') 25))
  have HA := Lib.hid (blk21 w 25 25 (prjV e A n c) (prjV e' A' n' c'))
  have HB := Lib.hid (blk22 w 25 25 (prjV e A n c) (prjV e' A' n' c'))
  have HS := Lib.hid (show Sl rpStp w D A n c l from ⟨hs, hD⟩)
  have HS' := Lib.hid (show Sl rpStp w D' A' n' c' l' from ⟨hs', hD'⟩)
  have HN := Lib.hid hlen
  have HN' := Lib.hid hlen'
  have hnm : n ≤ 9223372036854775807 := by have := (Rp.sl_len hs).2; unfold maxLen at this; omega
  clear hs hs' hD hD' hlen hlen'
  by_cases he : e = e'
  case neg =>
    have q1 : ((e : Int) != (e' : Int)) = true := by simp; omega
    rw [dec_false (fun h : (e, l) = (e', l') => he (by injection h))]
    clear he
    go_enter Try.func36, Try.ntmps36
    go_wp2_with fail
    generalize World.alloc (World.alloc w _) _ = w0 at *
    have a0 := (show Blk w0 w.heap.size 25 _ from HA.out).cell 0
    have a1 := (show Blk w0 w.heap.size 25 _ from HA.out).cell 1
    have b0 := (show Blk w0 (w.heap.size + 1) 25 _ from HB.out).cell 0
    have b1 := (show Blk w0 (w.heap.size + 1) 25 _ from HB.out).cell 1
    go_wp2_with fail
    go_ret
    exact ⟨rfl, HZ.out⟩
  subst he
  have q1 : ((e : Int) != (e : Int)) = false := by simp
  by_cases hn : n = n'
  case neg =>
    have q3 : ((n : Int) != (n' : Int)) = true := by simp; omega
    rw [dec_false (fun h : (e, l) = (e, l') => hn (by injection h with _ h; rw [← HN.out, ← HN'.out, h]))]
    clear hn
    go_enter Try.func36, Try.ntmps36
    go_wp2_with fail
    generalize World.alloc (World.alloc w _) _ = w0 at *
    have a0 := (show Blk w0 w.heap.size 25 _ from HA.out).cell 0
    have a1 := (show Blk w0 w.heap.size 25 _ from HA.out).cell 1
    have b0 := (show Blk w0 (w.heap.size + 1) 25 _ from HB.out).cell 0
    have b1 := (show Blk w0 (w.heap.size + 1) 25 _ from HB.out).cell 1
    go_wp2_with fail
    go_ret
    exact ⟨rfl, HZ.out⟩
  subst hn
  have q3 : ((n : Int) != (n : Int)) = false := by simp
  go_enter Try.func36, Try.ntmps36
  go_wp2_with fail
  generalize World.alloc (World.alloc w _) _ = w0 at *
  have a0 := (show Blk w0 w.heap.size 25 _ from HA.out).cell 0
  have a1 := (show Blk w0 w.heap.size 25 _ from HA.out).cell 1
  have b0 := (show Blk w0 (w.heap.size + 1) 25 _ from HB.out).cell 0
  have b1 := (show Blk w0 (w.heap.size + 1) 25 _ from HB.out).cell 1
  go_wp2_with fail
  clear a0 a1 b0 b1
  go_loopw [5] (fun i wr => ∃ k : Nat, k ≤ n ∧ i = .int .i64 k ∧ Hid (∀ (j : Nat), j < k → l[j]? = l'[j]?) ∧ Hid (Blk wr w.heap.size 25 (prjV e A n c)) ∧ Hid (Blk wr (w.heap.size + 1) 25 (prjV e A' n c')) ∧ Hid (Below w.heap.size w wr)) (fun i _ => n - (intOf i).toNat)
  case atStart => exact ⟨0, by omega, rfl, fun j h => by omega, HA.out, HB.out, HZ.out⟩
  case round =>
    clear HA HB HZ
    obtain ⟨k, hk, rfl, hsh, ha, hb, hbel⟩ := hrel
    by_cases hkn : k < n
    case pos =>
      have hsr := keepS HS.out hbel.out
      have hsr' := keepS HS'.out hbel.out
      obtain ⟨b1, off1, s, A1, c1, rfl, hb1, hx, g10, g11, g12, hr1, hs1, hs2⟩ := stps_at hsr.1 hkn
      obtain ⟨b2, off2, t, A2, c2, rfl, hb2, hy, g20, g21, g22, hr2, ht1, ht2⟩ := stps_at hsr'.1 hkn
      have hl1 := hsr.2 _ hb1
      have hl2 := hsr'.2 _ hb2
      obtain ⟨sf, st, ss⟩ := s
      obtain ⟨tf, tt, ts⟩ := t
      simp only at g10 g11 g12 hr1 hs1 hs2 g20 g21 g22 hr2 ht1 ht2
      have hz := hbel.out.size
      have hd : decide ((k : Int) < (n : Int)) = true := by simp; omega
      have hk0 : (0 : Int) ≤ (k : Int) := by omega
      have hk1 : (k : Int) < (n : Int) := by omega
      have hct := fun qq : Gr wr.heap.size wr => rsame_any (f := sf) (t := st) (f' := tf) (t' := tt) (Rp.sl_below hr1 qq.is hsr.2) (Rp.sl_below hr2 qq.is hsr'.2) (fun k hk => Nat.lt_of_lt_of_le (hsr.2 k hk) qq.is.size) (fun k hk => Nat.lt_of_lt_of_le (hsr'.2 k hk) qq.is.size)
      have HX := Lib.hid hx
      have HY := Lib.hid hy
      have g2 := (show Blk wr w.heap.size 25 _ from ha.out).cell 1
      have g1 : ∀ qq : Gr wr.heap.size wr, qq.val.cell? ⟨w.heap.size, 1, none⟩ = _ := fun qq => (keepB (show Blk wr w.heap.size 25 _ from ha.out) qq.is).cell 1
      have g3 : ∀ qq : Gr wr.heap.size wr, qq.val.cell? ⟨w.heap.size + 1, 1, none⟩ = _ := fun qq => (keepB (show Blk wr (w.heap.size + 1) 25 _ from hb.out) qq.is).cell 1
      have p0 : ∀ qq : Gr wr.heap.size wr, qq.val.cell? ⟨b1, off1 + k * 3, none⟩ = some (.int .u64 (sf : Int)) := fun qq => (qq.is.cell (p := ⟨b1, off1 + k * 3, none⟩) hl1).trans g10
      have p1 : ∀ qq : Gr wr.heap.size wr, qq.val.cell? ⟨b1, off1 + k * 3 + 1, none⟩ = some (.int .u64 (st : Int)) := fun qq => (qq.is.cell (p := ⟨b1, off1 + k * 3 + 1, none⟩) hl1).trans g11
      have p2 : ∀ qq : Gr wr.heap.size wr, qq.val.cell? ⟨b1, off1 + k * 3 + 2, none⟩ = some (.slice A1 ss.length c1) := fun qq => (qq.is.cell (p := ⟨b1, off1 + k * 3 + 2, none⟩) hl1).trans g12
      have q0 : ∀ qq : Gr wr.heap.size wr, qq.val.cell? ⟨b2, off2 + k * 3, none⟩ = some (.int .u64 (tf : Int)) := fun qq => (qq.is.cell (p := ⟨b2, off2 + k * 3, none⟩) hl2).trans g20
      have q1 : ∀ qq : Gr wr.heap.size wr, qq.val.cell? ⟨b2, off2 + k * 3 + 1, none⟩ = some (.int .u64 (tt : Int)) := fun qq => (qq.is.cell (p := ⟨b2, off2 + k * 3 + 1, none⟩) hl2).trans g21
      have q2 : ∀ qq : Gr wr.heap.size wr, qq.val.cell? ⟨b2, off2 + k * 3 + 2, none⟩ = some (.slice A2 ts.length c2) := fun qq => (qq.is.cell (p := ⟨b2, off2 + k * 3 + 2, none⟩) hl2).trans g22
      clear hx hy hr1 hr2 hb1 hb2 g10 g11 g12 g20 g21 g22 hs1 hs2 ht1 ht2 hsr hsr'
      cases hm : dec ((sf, st, ss) = (tf, tt, ts))
      case false =>
        rw [hm] at hct
        have HCT := Lib.hid hct
        have HM := Lib.hid (of_not_dec hm)
        clear hct hm
        go_wp2_with fail
        refine wp_region_grow (by kernel_rfl) (by kernel_rfl) wr.heap.size ?_
        repeat (quiet_step (((go_at_call 43; exact Gr.call _ (Nat.le_refl _) (HCT.out _)))))
        refine wpQuiet_nil ?_
        rintro w3 ⟨⟨_, hb3⟩, rfl⟩
        clear g1 g2 g3 p0 p1 p2 q0 q1 q2
        go_wp2_with fail
        go_ret
        rw [dec_false (fun h : (e, l) = (e, l') => HM.out (by injection h with _ h; have e1 := HX.out; rw [h, HY.out] at e1; injection e1 with e1; exact e1.symm))]
        exact ⟨rfl, stepB hbel.out hb3⟩
      case true =>
        rw [hm] at hct
        have HCT := Lib.hid hct
        have HM := Lib.hid (of_dec hm)
        clear hct hm
        go_wp2_with fail
        refine wp_region_grow (by kernel_rfl) (by kernel_rfl) wr.heap.size ?_
        repeat (quiet_step (((go_at_call 43; exact Gr.call _ (Nat.le_refl _) (HCT.out _)))))
        refine wpQuiet_nil ?_
        rintro w3 ⟨⟨_, hb3⟩, rfl⟩
        clear g1 g2 g3 p0 p1 p2 q0 q1 q2
        go_wp2_with fail
        go_roundw
        case rel =>
          refine ⟨k + 1, by omega, by go_num, fun j hj => ?_, keepB ha.out hb3, keepB hb.out hb3, stepB hbel.out hb3⟩
          rcases Nat.lt_or_ge j k with h | h
          · exact hsh.out j h
          · obtain rfl : j = k := by omega
            rw [HX.out, HY.out, HM.out]
        case measure => simp [intOf]; omega
    case neg =>
      obtain rfl : k = n := by omega
      have hd : decide ((k : Int) < (k : Int)) = false := by simp
      have g2 := (show Blk wr w.heap.size 25 _ from ha.out).cell 1
      go_wp2_with fail
      go_ret
      have hyes : l = l' := List.ext_getElem? (fun j => by
        rcases Nat.lt_or_ge j k with h | h
        · exact hsh.out j h
        · rw [List.getElem?_eq_none (by rw [HN.out]; exact h), List.getElem?_eq_none (by rw [HN'.out]; exact h)])
      rw [dec_true (show (e, l) = (e, l') by rw [hyes])]
      exact ⟨rfl, hbel.out⟩
end
end Go.Proofs.Ytmdgmnaaopineaa
/- A number's lowest bytes, the program's and the reference's; whether two rows of bytes are the same; the law's example. -/
namespace Go.Proofs.Ytmdgmnaaopineaa
open Go.ChangeShapes Go.WideShapes Go.ChangeAt Go.RowKit
set_option linter.unusedVariables false

theorem take_succ {α : Type} {l : List α} {k : Nat} {x : α} (h : l[k]? = some x) : l.take (k + 1) = l.take k ++ [x] := by
  rw [List.take_add_one, h]; rfl
/-- The lowest m bytes, the lowest first. -/
def low : Nat → Nat → List UInt8
  | 0, _ => []
  | m + 1, x => low m x ++ [UInt8.ofNat (x / 256 ^ m)]
theorem low_length (x : Nat) : ∀ m, (low m x).length = m
  | 0 => rfl
  | m + 1 => by rw [low, List.length_append, low_length x m]; rfl
def many (n : Int) : Nat := (min (max n 0) 8).toNat
theorem many_le (n : Int) : many n ≤ 8 := by unfold many; omega

end Go.Proofs.Ytmdgmnaaopineaa
/- Whether two rows of bytes are the same; the law's example. -/
namespace Go.Proofs.Ytmdgmnaaopineaa
open Go.ChangeShapes Go.WideShapes Go.ChangeAt Go.RowKit
set_option linter.unusedVariables false

theorem same_any (A A' : Option Addr) (n c n' c' : Nat) (l l' : List UInt8) (D D' : Dom) (w : World) (hl : rpU8.sl w D A n c l) (hl' : rpU8.sl w D' A' n' c' l') :
    Calls Try.prog 47 #[.slice A n c, .slice A' n' c'] w fun e w' => e = .returned (.bool (l == l')) ∧ w = w' := by
  have h1 := run_bytes_string (P := Try.prog) hl 36 9 5 Try.underlying36 Try.underlying5 Try.underlying9
  have h2 := run_bytes_string (P := Try.prog) hl' 36 9 5 Try.underlying36 Try.underlying5 Try.underlying9
  go_enter Try.func47, Try.ntmps47
  go_wp2
  go_ret
  exact ⟨rfl, rfl⟩

theorem built_at {g : Nat} {cs : Array Value} {w' : World} {o : List UInt8} (hw : ∀ i, w'.cell? ⟨g, i, none⟩ = cs[i]?) (hcs : ∀ (i : Nat) (x : UInt8), o[i]? = some x → cs[i]? = some (Value.int .u8 (x.toNat : Int))) (n : Nat) (hn : o.length = n) (hm : n ≤ 1000) : rpU8.sl w' (fun k => k = g) (some ⟨g, 0, none⟩) n n o :=
  bytes_of_cells hw hcs hn (Nat.le_refl _) (by unfold maxLen; omega)
theorem two_at (w : World) (a b : UInt8) (e : TypeId) : rpU8.sl (w.alloc (.cells #[.int .u8 (a.toNat : Int), .int .u8 (b.toNat : Int)] e)) (fun k => k = w.heap.size) (some ⟨w.heap.size, 0, none⟩) 2 2 [a, b] :=
  built_at (fun i => (Blk.new w _ _).cell i) (fun i x hx => by
    match i, hx with
    | 0, hx | 1, hx => cases hx; rfl) 2 rfl (by decide)
theorem four_at (w : World) (a b c d : UInt8) (e : TypeId) : rpU8.sl (w.alloc (.cells #[.int .u8 (a.toNat : Int), .int .u8 (b.toNat : Int), .int .u8 (c.toNat : Int), .int .u8 (d.toNat : Int)] e)) (fun k => k = w.heap.size) (some ⟨w.heap.size, 0, none⟩) 4 4 [a, b, c, d] :=
  built_at (fun i => (Blk.new w _ _).cell i) (fun i x hx => by
    match i, hx with
    | 0, hx | 1, hx | 2, hx | 3, hx => cases hx; rfl) 4 rfl (by decide)

end Go.Proofs.Ytmdgmnaaopineaa
/- The example of chapter 20's laws. -/
namespace Go.Proofs.Ytmdgmnaaopineaa
open Go.ChangeShapes Go.WideShapes Go.ChangeAt Go.RowKit
set_option linter.unusedVariables false
abbrev oneL : List Stp := [(0, 4611686018427387904, [[7]])]
abbrev oneB : List UInt8 := [1, 1, 255, 255, 255, 255, 255, 255, 255, 255, 63, 1, 1, 7]
theorem vb_max : vbytes 4611686018427387903 = [255, 255, 255, 255, 255, 255, 255, 255, 63] := by
  rw [vbytes_ge (by decide), vbytes_ge (by decide), vbytes_ge (by decide), vbytes_ge (by decide), vbytes_ge (by decide), vbytes_ge (by decide), vbytes_ge (by decide), vbytes_ge (by decide), vbytes_lt (by decide)]
  rfl
theorem one_bytes : prb (1, oneL) = oneB := by
  have e : prn (1, oneL) = [1, 1, 4611686018427387903, 1, 1, 7] := rfl
  unfold prb
  rw [e]
  simp only [flat_cons, flat_nil, vb_max, vbytes_lt (show 1 < 128 by decide), vbytes_lt (show 7 < 128 by decide)]
  rfl
theorem sOk_one : SOk (0, 4611686018427387904, [[7]]) := by
  refine ⟨by decide, by decide, by decide, by decide, fun i l hl => ?_⟩
  match i, hl with
  | 0, hl =>
    cases hl
    exact ⟨by decide, by decide, fun i a b ha hb => by simp at hb, fun a ha => by simp at ha; omega, fun j o hj => by omega⟩
  | i + 1, hl => simp at hl
theorem pOk_one : POk (1, oneL) := by
  refine ⟨⟨⟨⟨by decide, by decide⟩, by decide, by decide⟩, fun i s hi hs => ?_⟩, rfl⟩
  match i, hs with
  | 0, hs => cases hs; exact ⟨sOk_one, rfl⟩
  | i + 1, hs => simp at hs
set_option maxRecDepth 100000 in
theorem one_any (w : World) : Calls Try.prog 75 #[] w fun en w' => ∃ A c, en = .returned (.agg (prjV 1 A 1 c)) ∧ rpStp.sl w' (fun k => k < w'.heap.size) A 1 c oneL ∧ Below w.heap.size w w' := by
  have H : Hid ((Try.prog.info? 25).map (·.size) = some 2) := by unfold Hid; kernel_rfl
  obtain ⟨k1, k2, k3, k4, hb, hz⟩ := four_blks w (prjV 0 none 0 0) #[.int .u64 7] #[.slice (some ⟨w.heap.size + 1, 0, none⟩) 1 1] #[.int .u64 0, .int .u64 4611686018427387904, .slice (some ⟨w.heap.size + 1 + 1, 0, none⟩) 1 1] 25 22 46 31
  have K1 := Lib.hid k1
  have K2 := Lib.hid k2
  have K3 := Lib.hid k3
  have K4 := Lib.hid k4
  have HB := Lib.hid hb
  have HZ := Lib.hid hz
  clear k1 k2 k3 k4 hb hz
  go_enter Try.func75, Try.ntmps75
  go_wp2_with (refine wpList_put_row rfl 25 (.tmp 0) (.tmp 5) rfl w.heap.size _ rfl rfl 25 _ (show Blk _ _ _ _ from K1.out) H.out rfl (by simp [Value.oneCell']) ?_; intro w5 hblk hgr)
  have f0 := hblk.cell 0
  have f1 := hblk.cell 1
  generalize World.alloc (World.alloc (World.alloc (World.alloc w _) _) _) _ = w0 at *
  have hz := HZ.out
  have l1 := (show Blk w0 w.heap.size 25 _ from K1.out).lt
  have k2 := (show Blk w0 _ 22 _ from K2.out).grown hgr (by simp)
  have k3 := (show Blk w0 _ 46 _ from K3.out).grown hgr (by simp; omega)
  have k4 := (show Blk w0 _ 31 _ from K4.out).grown hgr (by simp; omega)
  have hA : (rpSlice rpU64).sl w5 (fun k => k < w5.heap.size) (some ⟨w.heap.size + 1 + 1, 0, none⟩) 1 1 [[7]] := by
    refine Rp.sl_block rfl k3 k3.lt rfl (by decide) (fun i x hx => ?_)
    match i, hx with
    | 0, hx =>
      cases hx
      refine ⟨_, rfl, Rp.sl_block (r := rpU64) rfl k2 k2.lt rfl (by decide) (fun i x hx => ?_)⟩
      match i, hx with
      | 0, hx => cases hx; exact ⟨_, rfl, u64_ok _ _ _ (by decide)⟩
  have hL : rpStp.sl w5 (fun k => k < w5.heap.size) (some ⟨w.heap.size + 1 + 1 + 1, 0, none⟩) 1 1 oneL := by
    refine ⟨_, _, rfl, by decide, by decide, fun _ => ⟨_, 0, rfl, k4.lt, fun i x hx => ?_⟩⟩
    have e3 : rpStp.size = 3 := by kernel_rfl
    rw [e3]
    match i, hx with
    | 0, hx =>
      cases hx
      refine ⟨[.int .u64 ((0 : Nat) : Int), .int .u64 ((4611686018427387904 : Nat) : Int), .slice (some ⟨w.heap.size + 1 + 1, 0, none⟩) 1 1], ⟨[_], _, rfl, u64_ok _ _ 0 (by decide), [_], _, rfl, u64_ok _ _ 4611686018427387904 (by decide), hA⟩, fun j u hu => ?_⟩
      match j, hu with
      | 0, hu => cases hu; exact k4.cell 0
      | 1, hu => cases hu; exact k4.cell 1
      | 2, hu => cases hu; exact k4.cell 2
  have hbz : Below w.heap.size w w5 := HB.out.grown hgr (by omega) (fun k hk => by injection hk with hk; omega)
  exact bodyPost_ret (results_cell_row rfl _ _ w.heap.size 25 _ (0, 0) _ rfl hblk Try.underlying25 rfl H.out) rfl ⟨some ⟨w.heap.size + 1 + 1 + 1, 0, none⟩, 1, rfl, hL, hbz⟩
theorem lit_bytes (w : World) (t : TypeId) (l : List UInt8) (h : l.length ≤ 1000) : rpU8.sl (w.alloc (.cells (l.map bv).toArray t)) (fun k => k = w.heap.size) (some ⟨w.heap.size, 0, none⟩) l.length l.length l :=
  bytes_of_cells (cs := (l.map bv).toArray) (fun i => (Blk.new w t _).cell i) (fun i x hx => by simp [hx, bv]) rfl (Nat.le_refl _) (by unfold maxLen; omega)
set_option maxRecDepth 100000 in
theorem plive_any (w : World) : Calls Try.prog 34 #[] w fun e w' => e = .returned (.bool true) ∧ Below w.heap.size w w' := by
  go_enter Try.func34, Try.ntmps34
  go_wp2_with fail
  refine (one_any _).mono ?_; rintro en w1 ⟨A, c, rfl, hs, hb1⟩
  have HB1 := Lib.hid hb1
  have HBY := Lib.hid (prbytes_ok hs (fun k hk => hk) pOk_one)
  clear hs hb1
  go_wp2_with fail
  refine HBY.out.mono ?_; rintro e w2 ⟨A2, n2, c2, rfl, ho, hb2⟩
  rw [one_bytes] at ho
  have HB2 := Lib.hid (stepB HB1.out hb2)
  have HO := Lib.hid (keepO ho (below1 w2 (.cells (oneB.map bv).toArray 5)))
  have HF := Lib.hid (lit_bytes w2 5 oneB (by decide))
  clear ho hb2
  go_wp2_with fail
  refine (same_any _ _ _ _ _ _ _ _ _ _ _ (own_bytes HO.out) HF.out).mono ?_; rintro e w3 ⟨rfl, rfl⟩
  go_wp2_with fail
  go_ret
  exact ⟨rfl, stepB HB2.out (below1 _ _)⟩
end Go.Proofs.Ytmdgmnaaopineaa
/- The walk of the law ProjSwaps. -/
namespace Go.Proofs.Ytmdgmnaaopineaa
open Go.ChangeShapes Go.WideShapes Go.ChangeAt Go.RowKit
set_option linter.unusedVariables false
def MetB (l : List Stp) (x k : Nat) (b : Bool) : Prop := b = true ↔ MetIn l x k
theorem metB_zero (l : List Stp) (x : Nat) : MetB l x 0 false := ⟨fun h => (by cases h), fun h => absurd h (metIn_zero l x)⟩
theorem metB_old {l : List Stp} {x k : Nat} (h : MetB l x k true) : MetB l x (k + 1) true := ⟨fun _ => metIn_old (h.1 rfl), fun _ => rfl⟩
theorem metB_new {l : List Stp} {x k i : Nat} {q : Bool} {s : Stp} (h : MetB l x k false) (hs : l[k]? = some s) (ha : AtSet s.2.2 x s.2.2.length i q) : MetB l x (k + 1) q := by
  cases q
  · exact ⟨fun h => (by cases h), fun h2 => absurd h2 (metIn_no (fun h3 => by have := h.2 h3; cases this) hs ha)⟩
  · exact ⟨fun _ => metIn_yes hs ha, fun _ => rfl⟩
theorem metB_yes {l : List Stp} {x n : Nat} {b : Bool} (h : MetB l x n b) (hn : l.length = n) (hm : Met l x) : b = true := h.2 ((metIn_all hn).2 hm)
theorem metB_no {l : List Stp} {x n : Nat} {b : Bool} (h : MetB l x n b) (hn : l.length = n) (hm : ¬ Met l x) : b = false := by
  cases b
  · rfl
  · exact absurd ((metIn_all hn).1 (h.1 rfl)) hm
abbrev rpPrjS : Rp Prj := rpPair rpU64 (rpSlice rpStp)
theorem prjs_open {w : World} {D : Dom} {x : Prj} {cs : List Value} (h : rpPrjS.ok w D x cs) : ∃ A c, cs = [.int .u64 (x.1 : Int), .slice A x.2.length c] ∧ rpStp.sl w D A x.2.length c x.2 ∧ x.1 ≤ 18446744073709551615 := by
  obtain ⟨cs1, cs2, rfl, ⟨rfl, q1⟩, h4⟩ := h
  obtain ⟨A, c, rfl, hs⟩ := Rp.sl_form h4
  exact ⟨A, c, rfl, hs, by omega⟩
section
variable {D : Dom} {A : Option Addr} {n c e old node qe be : Nat} {l ql bl : List Stp} {w : World} {cd cb : Int}
theorem swap_is (hg : swapP (e, l) old node = ((qe, ql), cd)) (hs : Sl rpStp w D A n c l) (he : e ≤ 18446744073709551615) (ho : old ≤ 18446744073709551615) (hx : node ≤ 18446744073709551615) :
    Calls Try.prog 73 #[.agg (prjV e A n c), .int .u64 (old : Int), .int .u64 (node : Int)] w fun en w' => ∃ A2 n2 c2, en = .returned (.tuple #[.agg (prjV qe A2 n2 c2), .int .i64 cd]) ∧ rpStp.sl w' (fun k => k < w'.heap.size) A2 n2 c2 ql ∧ Below w.heap.size w w' :=
  (swap_any hs.1 hs.2 he ho hx).mono (fun en w' h => by unfold SwapIs at h; rw [hg] at h; exact h)
theorem rswap_is (hg : swapP (e, l) old node = ((qe, ql), cd)) (hs : Sl rpStp w D A n c l) (he : e ≤ 18446744073709551615) (ho : old ≤ 18446744073709551615) (hx : node ≤ 18446744073709551615) :
    Calls Try.prog 74 #[.agg (prjV e A n c), .int .u64 (old : Int), .int .u64 (node : Int)] w fun en w' => ∃ A2 n2 c2, en = .returned (.tuple #[.agg (prjV qe A2 n2 c2), .int .i64 cd]) ∧ rpStp.sl w' (fun k => k < w'.heap.size) A2 n2 c2 ql ∧ Below w.heap.size w w' :=
  (rswap_any hs.1 hs.2 he ho hx).mono (fun en w' h => by unfold SwapIs at h; rw [hg] at h; exact h)
set_option maxRecDepth 100000 in
set_option maxHeartbeats 4000000 in
theorem swaps_bad (hs : rpStp.sl w D A n c l) (hD : ∀ k, D k → k < w.heap.size) (he : e ≤ 18446744073709551615) (ho : old ≤ 18446744073709551615) (hx : node ≤ 18446744073709551615) (hcd : cd ≠ 0) (hg : swapP (e, l) old node = ((0, []), cd)) :
    Calls Try.prog 15 #[.agg (prjV e A n c), .int .u64 (old : Int), .int .u64 (node : Int)] w fun en w' => en = .returned (.bool true) ∧ Below w.heap.size w w' := by
  have HLEN := Lib.hid (Rp.sl_len hs).1
  have hcc : (cd != cd) = false := by simp
  have hcd0 : (cd != 0) = true := by simpa using hcd
  clear hcd
  have HG := Lib.hid hg
  have pa_0 := Lib.hid (blk11 w 25 (prjV e A n c))
  have hb := below1 w (.cells (prjV e A n c) 25)
  have BB_0 := Lib.hid hb
  have sa_0 := Lib.hid (keepS (show Sl rpStp w D A n c l from ⟨hs, hD⟩) hb)
  clear hb hs hD hg
  go_enter Try.func15, Try.ntmps15
  go_upto_region 1 with (fail)
  generalize World.alloc w _ = w0 at *
  have z_pa0_0 := (show Blk w0 w.heap.size 25 (prjV e A n c) from pa_0.out).cell 0
  have z_pa1_0 := (show Blk w0 w.heap.size 25 (prjV e A n c) from pa_0.out).cell 1
  go_wp2_with fail
  refine (plong_any (e := e) (sa_0.out).1 (sa_0.out).2).mono ?_; rintro en w1 ⟨bb, rfl, hb⟩
  have pa_1 : Hid (Blk w1 w.heap.size 25 (prjV e A n c)) := keepB pa_0.out hb
  have sa_1 : Hid (Sl rpStp w1 D A n c l) := keepS sa_0.out hb
  have BB_1 : Hid (Below w.heap.size w w1) := stepB BB_0.out hb
  clear z_pa0_0 z_pa1_0
  clear hb
  cases bb
  case true =>
    go_wp2_with fail
    refine (plive_any _).mono ?_; rintro en w2 ⟨rfl, hb⟩
    have pa_2 : Hid (Blk w2 w.heap.size 25 (prjV e A n c)) := keepB pa_1.out hb
    have sa_2 : Hid (Sl rpStp w2 D A n c l) := keepS sa_1.out hb
    have BB_2 : Hid (Below w.heap.size w w2) := stepB BB_1.out hb
    clear hb
    go_wp2_with fail
    go_ret
    exact ⟨rfl, BB_2.out⟩
  have z_pa0_1 := (show Blk w1 w.heap.size 25 (prjV e A n c) from pa_1.out).cell 0
  have z_pa1_1 := (show Blk w1 w.heap.size 25 (prjV e A n c) from pa_1.out).cell 1
  go_wp2_with fail
  refine (swap_is HG.out (sa_1.out) he ho hx).mono ?_; rintro en w2 ⟨Aq, nq, cq, rfl, hsq, hb⟩
  obtain ⟨Dq, hsq⟩ : ∃ Dq, Sl rpStp w2 Dq Aq nq cq [] := ⟨_, hsq, fun k hk => hk⟩
  have pa_2 : Hid (Blk w2 w.heap.size 25 (prjV e A n c)) := keepB pa_1.out hb
  have sa_2 : Hid (Sl rpStp w2 D A n c l) := keepS sa_1.out hb
  have BB_2 : Hid (Below w.heap.size w w2) := stepB BB_1.out hb
  have sq_2 : Hid (Sl rpStp w2 Dq Aq nq cq []) := hsq
  clear z_pa0_1 z_pa1_1
  clear hb
  clear hsq
  go_upto_region 4 with (fail)
  have hb : Below w2.heap.size w2 (w2.alloc (.cells (prjV 0 Aq nq cq) 25)) := below1 _ (.cells (prjV 0 Aq nq cq) 25)
  have pa_3 : Hid (Blk (w2.alloc (.cells (prjV 0 Aq nq cq) 25)) w.heap.size 25 (prjV e A n c)) := keepB pa_2.out hb
  have sa_3 : Hid (Sl rpStp (w2.alloc (.cells (prjV 0 Aq nq cq) 25)) D A n c l) := keepS sa_2.out hb
  have sq_3 : Hid (Sl rpStp (w2.alloc (.cells (prjV 0 Aq nq cq) 25)) Dq Aq nq cq []) := keepS sq_2.out hb
  have BB_3 : Hid (Below w.heap.size w (w2.alloc (.cells (prjV 0 Aq nq cq) 25))) := stepB BB_2.out hb
  have sz_2 := BB_2.out.size
  have pq_3 : Hid (Blk (w2.alloc (.cells (prjV 0 Aq nq cq) 25)) w2.heap.size 25 (prjV 0 Aq nq cq)) := blk11 _ _ _
  clear hb
  generalize hgq : w2.heap.size = gq at *
  generalize World.alloc w2 _ = w3 at *
  have z_pa0_3 := (show Blk w3 w.heap.size 25 (prjV e A n c) from pa_3.out).cell 0
  have z_pa1_3 := (show Blk w3 w.heap.size 25 (prjV e A n c) from pa_3.out).cell 1
  go_wp2_with fail
  refine (rswap_is HG.out (sa_3.out) he ho hx).mono ?_; rintro en w4 ⟨Av, nv, cv, rfl, hsv, hb⟩
  obtain ⟨Dv, hsv⟩ : ∃ Dv, Sl rpStp w4 Dv Av nv cv [] := ⟨_, hsv, fun k hk => hk⟩
  have pa_4 : Hid (Blk w4 w.heap.size 25 (prjV e A n c)) := keepB pa_3.out hb
  have sa_4 : Hid (Sl rpStp w4 D A n c l) := keepS sa_3.out hb
  have sq_4 : Hid (Sl rpStp w4 Dq Aq nq cq []) := keepS sq_3.out hb
  have pq_4 : Hid (Blk w4 gq 25 (prjV 0 Aq nq cq)) := keepB pq_3.out hb
  have BB_4 : Hid (Below w.heap.size w w4) := stepB BB_3.out hb
  have sv_4 : Hid (Sl rpStp w4 Dv Av nv cv []) := hsv
  clear z_pa0_3 z_pa1_3
  clear hb
  clear hsv
  go_upto_region 5 with (fail)
  have hb : Below w4.heap.size w4 (w4.alloc (.cells (prjV 0 Av nv cv) 25)) := below1 _ (.cells (prjV 0 Av nv cv) 25)
  have pa_5 : Hid (Blk (w4.alloc (.cells (prjV 0 Av nv cv) 25)) w.heap.size 25 (prjV e A n c)) := keepB pa_4.out hb
  have sa_5 : Hid (Sl rpStp (w4.alloc (.cells (prjV 0 Av nv cv) 25)) D A n c l) := keepS sa_4.out hb
  have sq_5 : Hid (Sl rpStp (w4.alloc (.cells (prjV 0 Av nv cv) 25)) Dq Aq nq cq []) := keepS sq_4.out hb
  have pq_5 : Hid (Blk (w4.alloc (.cells (prjV 0 Av nv cv) 25)) gq 25 (prjV 0 Aq nq cq)) := keepB pq_4.out hb
  have sv_5 : Hid (Sl rpStp (w4.alloc (.cells (prjV 0 Av nv cv) 25)) Dv Av nv cv []) := keepS sv_4.out hb
  have BB_5 : Hid (Below w.heap.size w (w4.alloc (.cells (prjV 0 Av nv cv) 25))) := stepB BB_4.out hb
  have sz_4 := BB_4.out.size
  have pv_5 : Hid (Blk (w4.alloc (.cells (prjV 0 Av nv cv) 25)) w4.heap.size 25 (prjV 0 Av nv cv)) := blk11 _ _ _
  clear hb
  generalize hgv : w4.heap.size = gv at *
  generalize World.alloc w4 _ = w5 at *
  have z_pa0_5 := (show Blk w5 w.heap.size 25 (prjV e A n c) from pa_5.out).cell 0
  have z_pa1_5 := (show Blk w5 w.heap.size 25 (prjV e A n c) from pa_5.out).cell 1
  have z_pq0_5 := (show Blk w5 gq 25 (prjV 0 Aq nq cq) from pq_5.out).cell 0
  have z_pq1_5 := (show Blk w5 gq 25 (prjV 0 Aq nq cq) from pq_5.out).cell 1
  have z_pv0_5 := (show Blk w5 gv 25 (prjV 0 Av nv cv) from pv_5.out).cell 0
  have z_pv1_5 := (show Blk w5 gv 25 (prjV 0 Av nv cv) from pv_5.out).cell 1
  have hsm := rpsame_any (e := 0) (e' := 0) (sq_5.out).1 (sv_5.out).1 (sq_5.out).2 (sv_5.out).2
  rw [dec_true rfl] at hsm
  have HSAME := Lib.hid hsm
  clear hsm
  go_wp2_with fail
  refine (HSAME.out).mono ?_; rintro en w6 ⟨rfl, hb⟩
  have pa_6 : Hid (Blk w6 w.heap.size 25 (prjV e A n c)) := keepB pa_5.out hb
  have sa_6 : Hid (Sl rpStp w6 D A n c l) := keepS sa_5.out hb
  have sq_6 : Hid (Sl rpStp w6 Dq Aq nq cq []) := keepS sq_5.out hb
  have pq_6 : Hid (Blk w6 gq 25 (prjV 0 Aq nq cq)) := keepB pq_5.out hb
  have sv_6 : Hid (Sl rpStp w6 Dv Av nv cv []) := keepS sv_5.out hb
  have pv_6 : Hid (Blk w6 gv 25 (prjV 0 Av nv cv)) := keepB pv_5.out hb
  have BB_6 : Hid (Below w.heap.size w w6) := stepB BB_5.out hb
  clear z_pa0_5 z_pa1_5 z_pq0_5 z_pq1_5 z_pv0_5 z_pv1_5
  clear hb
  have z_pa0_6 := (show Blk w6 w.heap.size 25 (prjV e A n c) from pa_6.out).cell 0
  have z_pa1_6 := (show Blk w6 w.heap.size 25 (prjV e A n c) from pa_6.out).cell 1
  have z_pq0_6 := (show Blk w6 gq 25 (prjV 0 Aq nq cq) from pq_6.out).cell 0
  have z_pq1_6 := (show Blk w6 gq 25 (prjV 0 Aq nq cq) from pq_6.out).cell 1
  go_wp2_with fail
  refine (plive_any _).mono ?_; rintro en w7 ⟨rfl, hb⟩
  have pa_7 : Hid (Blk w7 w.heap.size 25 (prjV e A n c)) := keepB pa_6.out hb
  have sa_7 : Hid (Sl rpStp w7 D A n c l) := keepS sa_6.out hb
  have sq_7 : Hid (Sl rpStp w7 Dq Aq nq cq []) := keepS sq_6.out hb
  have pq_7 : Hid (Blk w7 gq 25 (prjV 0 Aq nq cq)) := keepB pq_6.out hb
  have sv_7 : Hid (Sl rpStp w7 Dv Av nv cv []) := keepS sv_6.out hb
  have pv_7 : Hid (Blk w7 gv 25 (prjV 0 Av nv cv)) := keepB pv_6.out hb
  have BB_7 : Hid (Below w.heap.size w w7) := stepB BB_6.out hb
  clear z_pa0_6 z_pa1_6 z_pq0_6 z_pq1_6
  clear hb
  go_wp2_with fail
  go_ret
  exact ⟨rfl, BB_7.out⟩
set_option maxRecDepth 100000 in
set_option maxHeartbeats 4000000 in
theorem swaps_A (hs : rpStp.sl w D A n c l) (hD : ∀ k, D k → k < w.heap.size) (he : e ≤ 18446744073709551615) (ho : old ≤ 18446744073709551615) (hx : node ≤ 18446744073709551615) (h1 : POk (e, l)) (hqe64 : qe ≤ 18446744073709551615) (hg : swapP (e, l) old node = ((qe, ql), 0)) (hmn : Met l node) (hg2 : swapP (qe, ql) node old = ((be, bl), cb)) :
    Calls Try.prog 15 #[.agg (prjV e A n c), .int .u64 (old : Int), .int .u64 (node : Int)] w fun en w' => en = .returned (.bool true) ∧ Below w.heap.size w w' := by
  have HLEN := Lib.hid (Rp.sl_len hs).1
  have hn64 : n ≤ 64 := by have := h1.1.1.2.2; simp only at this; have := (Rp.sl_len hs).1; omega
  have H1 := Lib.hid h1
  have HMN := Lib.hid hmn
  have HG2 := Lib.hid hg2
  have HS00 := Lib.hid (show Sl rpStp w D A n c l from ⟨hs, hD⟩)
  have hcd0 : ((0 : Int) != 0) = false := by simp
  clear h1 hmn hg2
  have HG := Lib.hid hg
  have pa_0 := Lib.hid (blk11 w 25 (prjV e A n c))
  have hb := below1 w (.cells (prjV e A n c) 25)
  have BB_0 := Lib.hid hb
  have sa_0 := Lib.hid (keepS (show Sl rpStp w D A n c l from ⟨hs, hD⟩) hb)
  clear hb hs hD hg
  go_enter Try.func15, Try.ntmps15
  go_upto_region 1 with (fail)
  generalize World.alloc w _ = w0 at *
  have z_pa0_0 := (show Blk w0 w.heap.size 25 (prjV e A n c) from pa_0.out).cell 0
  have z_pa1_0 := (show Blk w0 w.heap.size 25 (prjV e A n c) from pa_0.out).cell 1
  go_wp2_with fail
  refine (plong_any (e := e) (sa_0.out).1 (sa_0.out).2).mono ?_; rintro en w1 ⟨bb, rfl, hb⟩
  have pa_1 : Hid (Blk w1 w.heap.size 25 (prjV e A n c)) := keepB pa_0.out hb
  have sa_1 : Hid (Sl rpStp w1 D A n c l) := keepS sa_0.out hb
  have BB_1 : Hid (Below w.heap.size w w1) := stepB BB_0.out hb
  clear z_pa0_0 z_pa1_0
  clear hb
  cases bb
  case true =>
    go_wp2_with fail
    refine (plive_any _).mono ?_; rintro en w2 ⟨rfl, hb⟩
    have pa_2 : Hid (Blk w2 w.heap.size 25 (prjV e A n c)) := keepB pa_1.out hb
    have sa_2 : Hid (Sl rpStp w2 D A n c l) := keepS sa_1.out hb
    have BB_2 : Hid (Below w.heap.size w w2) := stepB BB_1.out hb
    clear hb
    go_wp2_with fail
    go_ret
    exact ⟨rfl, BB_2.out⟩
  have z_pa0_1 := (show Blk w1 w.heap.size 25 (prjV e A n c) from pa_1.out).cell 0
  have z_pa1_1 := (show Blk w1 w.heap.size 25 (prjV e A n c) from pa_1.out).cell 1
  go_wp2_with fail
  refine (swap_is HG.out (sa_1.out) he ho hx).mono ?_; rintro en w2 ⟨Aq, nq, cq, rfl, hsq, hb⟩
  obtain ⟨Dq, hsq⟩ : ∃ Dq, Sl rpStp w2 Dq Aq nq cq ql := ⟨_, hsq, fun k hk => hk⟩
  have pa_2 : Hid (Blk w2 w.heap.size 25 (prjV e A n c)) := keepB pa_1.out hb
  have sa_2 : Hid (Sl rpStp w2 D A n c l) := keepS sa_1.out hb
  have BB_2 : Hid (Below w.heap.size w w2) := stepB BB_1.out hb
  have sq_2 : Hid (Sl rpStp w2 Dq Aq nq cq ql) := hsq
  clear z_pa0_1 z_pa1_1
  clear hb
  clear hsq
  go_upto_region 4 with (fail)
  have hb : Below w2.heap.size w2 (w2.alloc (.cells (prjV qe Aq nq cq) 25)) := below1 _ (.cells (prjV qe Aq nq cq) 25)
  have pa_3 : Hid (Blk (w2.alloc (.cells (prjV qe Aq nq cq) 25)) w.heap.size 25 (prjV e A n c)) := keepB pa_2.out hb
  have sa_3 : Hid (Sl rpStp (w2.alloc (.cells (prjV qe Aq nq cq) 25)) D A n c l) := keepS sa_2.out hb
  have sq_3 : Hid (Sl rpStp (w2.alloc (.cells (prjV qe Aq nq cq) 25)) Dq Aq nq cq ql) := keepS sq_2.out hb
  have BB_3 : Hid (Below w.heap.size w (w2.alloc (.cells (prjV qe Aq nq cq) 25))) := stepB BB_2.out hb
  have sz_2 := BB_2.out.size
  have pq_3 : Hid (Blk (w2.alloc (.cells (prjV qe Aq nq cq) 25)) w2.heap.size 25 (prjV qe Aq nq cq)) := blk11 _ _ _
  clear hb
  generalize hgq : w2.heap.size = gq at *
  generalize World.alloc w2 _ = w3 at *
  have z_pa0_3 := (show Blk w3 w.heap.size 25 (prjV e A n c) from pa_3.out).cell 0
  have z_pa1_3 := (show Blk w3 w.heap.size 25 (prjV e A n c) from pa_3.out).cell 1
  go_wp2_with fail
  refine (rswap_is HG.out (sa_3.out) he ho hx).mono ?_; rintro en w4 ⟨Av, nv, cv, rfl, hsv, hb⟩
  obtain ⟨Dv, hsv⟩ : ∃ Dv, Sl rpStp w4 Dv Av nv cv ql := ⟨_, hsv, fun k hk => hk⟩
  have pa_4 : Hid (Blk w4 w.heap.size 25 (prjV e A n c)) := keepB pa_3.out hb
  have sa_4 : Hid (Sl rpStp w4 D A n c l) := keepS sa_3.out hb
  have sq_4 : Hid (Sl rpStp w4 Dq Aq nq cq ql) := keepS sq_3.out hb
  have pq_4 : Hid (Blk w4 gq 25 (prjV qe Aq nq cq)) := keepB pq_3.out hb
  have BB_4 : Hid (Below w.heap.size w w4) := stepB BB_3.out hb
  have sv_4 : Hid (Sl rpStp w4 Dv Av nv cv ql) := hsv
  clear z_pa0_3 z_pa1_3
  clear hb
  clear hsv
  go_upto_region 5 with (fail)
  have hb : Below w4.heap.size w4 (w4.alloc (.cells (prjV qe Av nv cv) 25)) := below1 _ (.cells (prjV qe Av nv cv) 25)
  have pa_5 : Hid (Blk (w4.alloc (.cells (prjV qe Av nv cv) 25)) w.heap.size 25 (prjV e A n c)) := keepB pa_4.out hb
  have sa_5 : Hid (Sl rpStp (w4.alloc (.cells (prjV qe Av nv cv) 25)) D A n c l) := keepS sa_4.out hb
  have sq_5 : Hid (Sl rpStp (w4.alloc (.cells (prjV qe Av nv cv) 25)) Dq Aq nq cq ql) := keepS sq_4.out hb
  have pq_5 : Hid (Blk (w4.alloc (.cells (prjV qe Av nv cv) 25)) gq 25 (prjV qe Aq nq cq)) := keepB pq_4.out hb
  have sv_5 : Hid (Sl rpStp (w4.alloc (.cells (prjV qe Av nv cv) 25)) Dv Av nv cv ql) := keepS sv_4.out hb
  have BB_5 : Hid (Below w.heap.size w (w4.alloc (.cells (prjV qe Av nv cv) 25))) := stepB BB_4.out hb
  have sz_4 := BB_4.out.size
  have pv_5 : Hid (Blk (w4.alloc (.cells (prjV qe Av nv cv) 25)) w4.heap.size 25 (prjV qe Av nv cv)) := blk11 _ _ _
  clear hb
  generalize hgv : w4.heap.size = gv at *
  generalize World.alloc w4 _ = w5 at *
  have z_pa0_5 := (show Blk w5 w.heap.size 25 (prjV e A n c) from pa_5.out).cell 0
  have z_pa1_5 := (show Blk w5 w.heap.size 25 (prjV e A n c) from pa_5.out).cell 1
  have z_pq0_5 := (show Blk w5 gq 25 (prjV qe Aq nq cq) from pq_5.out).cell 0
  have z_pq1_5 := (show Blk w5 gq 25 (prjV qe Aq nq cq) from pq_5.out).cell 1
  have z_pv0_5 := (show Blk w5 gv 25 (prjV qe Av nv cv) from pv_5.out).cell 0
  have z_pv1_5 := (show Blk w5 gv 25 (prjV qe Av nv cv) from pv_5.out).cell 1
  have hsm := rpsame_any (e := qe) (e' := qe) (sq_5.out).1 (sv_5.out).1 (sq_5.out).2 (sv_5.out).2
  rw [dec_true rfl] at hsm
  have HSAME := Lib.hid hsm
  clear hsm
  go_wp2_with fail
  refine (HSAME.out).mono ?_; rintro en w6 ⟨rfl, hb⟩
  have pa_6 : Hid (Blk w6 w.heap.size 25 (prjV e A n c)) := keepB pa_5.out hb
  have sa_6 : Hid (Sl rpStp w6 D A n c l) := keepS sa_5.out hb
  have sq_6 : Hid (Sl rpStp w6 Dq Aq nq cq ql) := keepS sq_5.out hb
  have pq_6 : Hid (Blk w6 gq 25 (prjV qe Aq nq cq)) := keepB pq_5.out hb
  have sv_6 : Hid (Sl rpStp w6 Dv Av nv cv ql) := keepS sv_5.out hb
  have pv_6 : Hid (Blk w6 gv 25 (prjV qe Av nv cv)) := keepB pv_5.out hb
  have BB_6 : Hid (Below w.heap.size w w6) := stepB BB_5.out hb
  clear z_pa0_5 z_pa1_5 z_pq0_5 z_pq1_5 z_pv0_5 z_pv1_5
  clear hb
  have z_pa0_6 := (show Blk w6 w.heap.size 25 (prjV e A n c) from pa_6.out).cell 0
  have z_pa1_6 := (show Blk w6 w.heap.size 25 (prjV e A n c) from pa_6.out).cell 1
  have z_pq0_6 := (show Blk w6 gq 25 (prjV qe Aq nq cq) from pq_6.out).cell 0
  have z_pq1_6 := (show Blk w6 gq 25 (prjV qe Aq nq cq) from pq_6.out).cell 1
  go_wp2_with fail
  clear z_pa0_6 z_pa1_6 z_pq0_6 z_pq1_6
  go_loopw [11, 12] (fun v11 v12 wr => ∃ (k : Nat) (b : Bool), k ≤ n ∧ v11 = .bool b ∧ v12 = .int .i64 k ∧ Hid (MetB l node k b) ∧ Hid (Blk wr w.heap.size 25 (prjV e A n c)) ∧ Hid (Blk wr gq 25 (prjV qe Aq nq cq)) ∧ Hid (Sl rpStp wr D A n c l) ∧ Hid (Sl rpStp wr Dq Aq nq cq ql) ∧ Hid (Below w.heap.size w wr)) (fun _ v12 _ => n - (intOf v12).toNat)
  case atStart => exact ⟨0, false, by omega, rfl, rfl, metB_zero _ _, pa_6.out, pq_6.out, sa_6.out, sq_6.out, BB_6.out⟩
  case round =>
    clear pa_6 sa_6 sq_6 pq_6 sv_6 pv_6 BB_6
    obtain ⟨k, b, hk, rfl, rfl, HMB, pa_7, pq_7, sa_7, sq_7, BB_7⟩ := hrel
    by_cases hkn : k < n
    case pos =>
      have hd : decide ((k : Int) < (n : Int)) = true := by simp; omega
      have hkI : (0 : Int) ≤ (k : Int) := by omega
      have hkI2 : (k : Int) < (n : Int) := by omega
      obtain ⟨b1, off1, s1, A1, c1, rfl, hb1, hx1, g10, g11, g12, hr1, hs1, hs2⟩ := stps_at (sa_7.out).1 hkn
      have hok1 := pOk_at H1.out hx1
      obtain ⟨sf, st, ss⟩ := s1
      simp only at g10 g11 g12 hr1 hs1 hs2
      have HX1 := Lib.hid hx1
      have HST := Lib.hid (stset_any (x := node) hr1 (sa_7.out).2 hok1 hs1 hs2)
      clear hx1 hok1 hr1 hb1
      have z_pa0_7 := (show Blk wr w.heap.size 25 (prjV e (some ⟨b1, off1, none⟩) n c) from pa_7.out).cell 0
      have z_pa1_7 := (show Blk wr w.heap.size 25 (prjV e (some ⟨b1, off1, none⟩) n c) from pa_7.out).cell 1
      go_wp2_with fail
      refine (HST.out).mono ?_; rintro en w8 ⟨ix, okv, rfl, hat, hb⟩
      have pa_8 : Hid (Blk w8 w.heap.size 25 (prjV e (some ⟨b1, off1, none⟩) n c)) := keepB pa_7.out hb
      have pq_8 : Hid (Blk w8 gq 25 (prjV qe Aq nq cq)) := keepB pq_7.out hb
      have sa_8 : Hid (Sl rpStp w8 D (some ⟨b1, off1, none⟩) n c l) := keepS sa_7.out hb
      have sq_8 : Hid (Sl rpStp w8 Dq Aq nq cq ql) := keepS sq_7.out hb
      have BB_8 : Hid (Below w.heap.size w w8) := stepB BB_7.out hb
      clear z_pa0_7 z_pa1_7
      clear hb
      have HAT := Lib.hid hat
      clear hat g10 g11 g12
      cases b
      case false =>
        have HNB := Lib.hid (metB_new HMB.out HX1.out HAT.out)
        go_wp2_with fail
        go_roundw
        case rel => exact ⟨k + 1, okv, by omega, rfl, by go_num, HNB, pa_8.out, pq_8.out, sa_8.out, sq_8.out, BB_8.out⟩
        case measure => simp [intOf]; omega
      case true =>
        have HNB := Lib.hid (metB_old HMB.out)
        go_wp2_with fail
        go_roundw
        case rel => exact ⟨k + 1, true, by omega, rfl, by go_num, HNB, pa_8.out, pq_8.out, sa_8.out, sq_8.out, BB_8.out⟩
        case measure => simp [intOf]; omega
    case neg =>
      obtain rfl : n = k := by omega
      have hd : decide ((n : Int) < (n : Int)) = false := by simp
      obtain rfl : b = true := metB_yes HMB.out HLEN.out HMN.out
      have z_pa0_7 := (show Blk wr w.heap.size 25 (prjV e A n c) from pa_7.out).cell 0
      have z_pa1_7 := (show Blk wr w.heap.size 25 (prjV e A n c) from pa_7.out).cell 1
      have z_pq0_7 := (show Blk wr gq 25 (prjV qe Aq nq cq) from pq_7.out).cell 0
      have z_pq1_7 := (show Blk wr gq 25 (prjV qe Aq nq cq) from pq_7.out).cell 1
      go_wp2_with fail
      refine (swap_is HG2.out (sq_7.out) hqe64 hx ho).mono ?_; rintro en w8 ⟨Ab, nb, cbk, rfl, hsb, hb⟩
      have pa_8 : Hid (Blk w8 w.heap.size 25 (prjV e A n c)) := keepB pa_7.out hb
      have pq_8 : Hid (Blk w8 gq 25 (prjV qe Aq nq cq)) := keepB pq_7.out hb
      have sa_8 : Hid (Sl rpStp w8 D A n c l) := keepS sa_7.out hb
      have sq_8 : Hid (Sl rpStp w8 Dq Aq nq cq ql) := keepS sq_7.out hb
      have BB_8 : Hid (Below w.heap.size w w8) := stepB BB_7.out hb
      clear z_pa0_7 z_pa1_7 z_pq0_7 z_pq1_7
      clear hb
      have sb_8 : Hid (Sl rpStp w8 (fun k => k < w8.heap.size) Ab nb cbk bl) := ⟨hsb, fun k hk => hk⟩
      clear hsb
      go_upto_region 16 with (fail)
      have lt_pa_8 := (show Blk w8 w.heap.size 25 (prjV e A n c) from pa_8.out).lt
      have hb : Below w8.heap.size w8 (w8.alloc (.cells (prjV be Ab nb cbk) 25)) := below1 _ (.cells (prjV be Ab nb cbk) 25)
      have pa_9 : Hid (Blk (w8.alloc (.cells (prjV be Ab nb cbk) 25)) w.heap.size 25 (prjV e A n c)) := keepB pa_8.out hb
      have pq_9 : Hid (Blk (w8.alloc (.cells (prjV be Ab nb cbk) 25)) gq 25 (prjV qe Aq nq cq)) := keepB pq_8.out hb
      have sa_9 : Hid (Sl rpStp (w8.alloc (.cells (prjV be Ab nb cbk) 25)) D A n c l) := keepS sa_8.out hb
      have sq_9 : Hid (Sl rpStp (w8.alloc (.cells (prjV be Ab nb cbk) 25)) Dq Aq nq cq ql) := keepS sq_8.out hb
      have sb_9 : Hid (Sl rpStp (w8.alloc (.cells (prjV be Ab nb cbk) 25)) (fun k => k < w8.heap.size) Ab nb cbk bl) := keepS sb_8.out hb
      have BB_9 : Hid (Below w.heap.size w (w8.alloc (.cells (prjV be Ab nb cbk) 25))) := stepB BB_8.out hb
      have sz_8 := BB_8.out.size
      have pb_9 : Hid (Blk (w8.alloc (.cells (prjV be Ab nb cbk) 25)) w8.heap.size 25 (prjV be Ab nb cbk)) := blk11 _ _ _
      clear hb
      generalize hgb : w8.heap.size = gb at *
      generalize World.alloc w8 _ = w9 at *
      go_wp2_with fail
      refine (plive_any _).mono ?_; rintro en w10 ⟨rfl, hb⟩
      have pa_10 : Hid (Blk w10 w.heap.size 25 (prjV e A n c)) := keepB pa_9.out hb
      have pq_10 : Hid (Blk w10 gq 25 (prjV qe Aq nq cq)) := keepB pq_9.out hb
      have sa_10 : Hid (Sl rpStp w10 D A n c l) := keepS sa_9.out hb
      have sq_10 : Hid (Sl rpStp w10 Dq Aq nq cq ql) := keepS sq_9.out hb
      have sb_10 : Hid (Sl rpStp w10 (fun k => k < gb) Ab nb cbk bl) := keepS sb_9.out hb
      have pb_10 : Hid (Blk w10 gb 25 (prjV be Ab nb cbk)) := keepB pb_9.out hb
      have BB_10 : Hid (Below w.heap.size w w10) := stepB BB_9.out hb
      clear hb
      go_wp2_with fail
      go_ret
      exact ⟨rfl, BB_10.out⟩
set_option maxRecDepth 100000 in
set_option maxHeartbeats 4000000 in
theorem swaps_B (hs : rpStp.sl w D A n c l) (hD : ∀ k, D k → k < w.heap.size) (he : e ≤ 18446744073709551615) (ho : old ≤ 18446744073709551615) (hx : node ≤ 18446744073709551615) (h1 : POk (e, l)) (hqe64 : qe ≤ 18446744073709551615) (hg : swapP (e, l) old node = ((qe, ql), 0)) (hmn : ¬ Met l node) (hg2 : swapP (qe, ql) node old = ((0, []), 18)) :
    Calls Try.prog 15 #[.agg (prjV e A n c), .int .u64 (old : Int), .int .u64 (node : Int)] w fun en w' => en = .returned (.bool true) ∧ Below w.heap.size w w' := by
  have HLEN := Lib.hid (Rp.sl_len hs).1
  have hn64 : n ≤ 64 := by have := h1.1.1.2.2; simp only at this; have := (Rp.sl_len hs).1; omega
  have H1 := Lib.hid h1
  have HMN := Lib.hid hmn
  have HG2 := Lib.hid hg2
  have HS00 := Lib.hid (show Sl rpStp w D A n c l from ⟨hs, hD⟩)
  have hcd0 : ((0 : Int) != 0) = false := by simp
  clear h1 hmn hg2
  have HG := Lib.hid hg
  have pa_0 := Lib.hid (blk11 w 25 (prjV e A n c))
  have hb := below1 w (.cells (prjV e A n c) 25)
  have BB_0 := Lib.hid hb
  have sa_0 := Lib.hid (keepS (show Sl rpStp w D A n c l from ⟨hs, hD⟩) hb)
  clear hb hs hD hg
  go_enter Try.func15, Try.ntmps15
  go_upto_region 1 with (fail)
  generalize World.alloc w _ = w0 at *
  have z_pa0_0 := (show Blk w0 w.heap.size 25 (prjV e A n c) from pa_0.out).cell 0
  have z_pa1_0 := (show Blk w0 w.heap.size 25 (prjV e A n c) from pa_0.out).cell 1
  go_wp2_with fail
  refine (plong_any (e := e) (sa_0.out).1 (sa_0.out).2).mono ?_; rintro en w1 ⟨bb, rfl, hb⟩
  have pa_1 : Hid (Blk w1 w.heap.size 25 (prjV e A n c)) := keepB pa_0.out hb
  have sa_1 : Hid (Sl rpStp w1 D A n c l) := keepS sa_0.out hb
  have BB_1 : Hid (Below w.heap.size w w1) := stepB BB_0.out hb
  clear z_pa0_0 z_pa1_0
  clear hb
  cases bb
  case true =>
    go_wp2_with fail
    refine (plive_any _).mono ?_; rintro en w2 ⟨rfl, hb⟩
    have pa_2 : Hid (Blk w2 w.heap.size 25 (prjV e A n c)) := keepB pa_1.out hb
    have sa_2 : Hid (Sl rpStp w2 D A n c l) := keepS sa_1.out hb
    have BB_2 : Hid (Below w.heap.size w w2) := stepB BB_1.out hb
    clear hb
    go_wp2_with fail
    go_ret
    exact ⟨rfl, BB_2.out⟩
  have z_pa0_1 := (show Blk w1 w.heap.size 25 (prjV e A n c) from pa_1.out).cell 0
  have z_pa1_1 := (show Blk w1 w.heap.size 25 (prjV e A n c) from pa_1.out).cell 1
  go_wp2_with fail
  refine (swap_is HG.out (sa_1.out) he ho hx).mono ?_; rintro en w2 ⟨Aq, nq, cq, rfl, hsq, hb⟩
  obtain ⟨Dq, hsq⟩ : ∃ Dq, Sl rpStp w2 Dq Aq nq cq ql := ⟨_, hsq, fun k hk => hk⟩
  have pa_2 : Hid (Blk w2 w.heap.size 25 (prjV e A n c)) := keepB pa_1.out hb
  have sa_2 : Hid (Sl rpStp w2 D A n c l) := keepS sa_1.out hb
  have BB_2 : Hid (Below w.heap.size w w2) := stepB BB_1.out hb
  have sq_2 : Hid (Sl rpStp w2 Dq Aq nq cq ql) := hsq
  clear z_pa0_1 z_pa1_1
  clear hb
  clear hsq
  go_upto_region 4 with (fail)
  have hb : Below w2.heap.size w2 (w2.alloc (.cells (prjV qe Aq nq cq) 25)) := below1 _ (.cells (prjV qe Aq nq cq) 25)
  have pa_3 : Hid (Blk (w2.alloc (.cells (prjV qe Aq nq cq) 25)) w.heap.size 25 (prjV e A n c)) := keepB pa_2.out hb
  have sa_3 : Hid (Sl rpStp (w2.alloc (.cells (prjV qe Aq nq cq) 25)) D A n c l) := keepS sa_2.out hb
  have sq_3 : Hid (Sl rpStp (w2.alloc (.cells (prjV qe Aq nq cq) 25)) Dq Aq nq cq ql) := keepS sq_2.out hb
  have BB_3 : Hid (Below w.heap.size w (w2.alloc (.cells (prjV qe Aq nq cq) 25))) := stepB BB_2.out hb
  have sz_2 := BB_2.out.size
  have pq_3 : Hid (Blk (w2.alloc (.cells (prjV qe Aq nq cq) 25)) w2.heap.size 25 (prjV qe Aq nq cq)) := blk11 _ _ _
  clear hb
  generalize hgq : w2.heap.size = gq at *
  generalize World.alloc w2 _ = w3 at *
  have z_pa0_3 := (show Blk w3 w.heap.size 25 (prjV e A n c) from pa_3.out).cell 0
  have z_pa1_3 := (show Blk w3 w.heap.size 25 (prjV e A n c) from pa_3.out).cell 1
  go_wp2_with fail
  refine (rswap_is HG.out (sa_3.out) he ho hx).mono ?_; rintro en w4 ⟨Av, nv, cv, rfl, hsv, hb⟩
  obtain ⟨Dv, hsv⟩ : ∃ Dv, Sl rpStp w4 Dv Av nv cv ql := ⟨_, hsv, fun k hk => hk⟩
  have pa_4 : Hid (Blk w4 w.heap.size 25 (prjV e A n c)) := keepB pa_3.out hb
  have sa_4 : Hid (Sl rpStp w4 D A n c l) := keepS sa_3.out hb
  have sq_4 : Hid (Sl rpStp w4 Dq Aq nq cq ql) := keepS sq_3.out hb
  have pq_4 : Hid (Blk w4 gq 25 (prjV qe Aq nq cq)) := keepB pq_3.out hb
  have BB_4 : Hid (Below w.heap.size w w4) := stepB BB_3.out hb
  have sv_4 : Hid (Sl rpStp w4 Dv Av nv cv ql) := hsv
  clear z_pa0_3 z_pa1_3
  clear hb
  clear hsv
  go_upto_region 5 with (fail)
  have hb : Below w4.heap.size w4 (w4.alloc (.cells (prjV qe Av nv cv) 25)) := below1 _ (.cells (prjV qe Av nv cv) 25)
  have pa_5 : Hid (Blk (w4.alloc (.cells (prjV qe Av nv cv) 25)) w.heap.size 25 (prjV e A n c)) := keepB pa_4.out hb
  have sa_5 : Hid (Sl rpStp (w4.alloc (.cells (prjV qe Av nv cv) 25)) D A n c l) := keepS sa_4.out hb
  have sq_5 : Hid (Sl rpStp (w4.alloc (.cells (prjV qe Av nv cv) 25)) Dq Aq nq cq ql) := keepS sq_4.out hb
  have pq_5 : Hid (Blk (w4.alloc (.cells (prjV qe Av nv cv) 25)) gq 25 (prjV qe Aq nq cq)) := keepB pq_4.out hb
  have sv_5 : Hid (Sl rpStp (w4.alloc (.cells (prjV qe Av nv cv) 25)) Dv Av nv cv ql) := keepS sv_4.out hb
  have BB_5 : Hid (Below w.heap.size w (w4.alloc (.cells (prjV qe Av nv cv) 25))) := stepB BB_4.out hb
  have sz_4 := BB_4.out.size
  have pv_5 : Hid (Blk (w4.alloc (.cells (prjV qe Av nv cv) 25)) w4.heap.size 25 (prjV qe Av nv cv)) := blk11 _ _ _
  clear hb
  generalize hgv : w4.heap.size = gv at *
  generalize World.alloc w4 _ = w5 at *
  have z_pa0_5 := (show Blk w5 w.heap.size 25 (prjV e A n c) from pa_5.out).cell 0
  have z_pa1_5 := (show Blk w5 w.heap.size 25 (prjV e A n c) from pa_5.out).cell 1
  have z_pq0_5 := (show Blk w5 gq 25 (prjV qe Aq nq cq) from pq_5.out).cell 0
  have z_pq1_5 := (show Blk w5 gq 25 (prjV qe Aq nq cq) from pq_5.out).cell 1
  have z_pv0_5 := (show Blk w5 gv 25 (prjV qe Av nv cv) from pv_5.out).cell 0
  have z_pv1_5 := (show Blk w5 gv 25 (prjV qe Av nv cv) from pv_5.out).cell 1
  have hsm := rpsame_any (e := qe) (e' := qe) (sq_5.out).1 (sv_5.out).1 (sq_5.out).2 (sv_5.out).2
  rw [dec_true rfl] at hsm
  have HSAME := Lib.hid hsm
  clear hsm
  go_wp2_with fail
  refine (HSAME.out).mono ?_; rintro en w6 ⟨rfl, hb⟩
  have pa_6 : Hid (Blk w6 w.heap.size 25 (prjV e A n c)) := keepB pa_5.out hb
  have sa_6 : Hid (Sl rpStp w6 D A n c l) := keepS sa_5.out hb
  have sq_6 : Hid (Sl rpStp w6 Dq Aq nq cq ql) := keepS sq_5.out hb
  have pq_6 : Hid (Blk w6 gq 25 (prjV qe Aq nq cq)) := keepB pq_5.out hb
  have sv_6 : Hid (Sl rpStp w6 Dv Av nv cv ql) := keepS sv_5.out hb
  have pv_6 : Hid (Blk w6 gv 25 (prjV qe Av nv cv)) := keepB pv_5.out hb
  have BB_6 : Hid (Below w.heap.size w w6) := stepB BB_5.out hb
  clear z_pa0_5 z_pa1_5 z_pq0_5 z_pq1_5 z_pv0_5 z_pv1_5
  clear hb
  have z_pa0_6 := (show Blk w6 w.heap.size 25 (prjV e A n c) from pa_6.out).cell 0
  have z_pa1_6 := (show Blk w6 w.heap.size 25 (prjV e A n c) from pa_6.out).cell 1
  have z_pq0_6 := (show Blk w6 gq 25 (prjV qe Aq nq cq) from pq_6.out).cell 0
  have z_pq1_6 := (show Blk w6 gq 25 (prjV qe Aq nq cq) from pq_6.out).cell 1
  go_wp2_with fail
  clear z_pa0_6 z_pa1_6 z_pq0_6 z_pq1_6
  go_loopw [11, 12] (fun v11 v12 wr => ∃ (k : Nat) (b : Bool), k ≤ n ∧ v11 = .bool b ∧ v12 = .int .i64 k ∧ Hid (MetB l node k b) ∧ Hid (Blk wr w.heap.size 25 (prjV e A n c)) ∧ Hid (Blk wr gq 25 (prjV qe Aq nq cq)) ∧ Hid (Sl rpStp wr D A n c l) ∧ Hid (Sl rpStp wr Dq Aq nq cq ql) ∧ Hid (Below w.heap.size w wr)) (fun _ v12 _ => n - (intOf v12).toNat)
  case atStart => exact ⟨0, false, by omega, rfl, rfl, metB_zero _ _, pa_6.out, pq_6.out, sa_6.out, sq_6.out, BB_6.out⟩
  case round =>
    clear pa_6 sa_6 sq_6 pq_6 sv_6 pv_6 BB_6
    obtain ⟨k, b, hk, rfl, rfl, HMB, pa_7, pq_7, sa_7, sq_7, BB_7⟩ := hrel
    by_cases hkn : k < n
    case pos =>
      have hd : decide ((k : Int) < (n : Int)) = true := by simp; omega
      have hkI : (0 : Int) ≤ (k : Int) := by omega
      have hkI2 : (k : Int) < (n : Int) := by omega
      obtain ⟨b1, off1, s1, A1, c1, rfl, hb1, hx1, g10, g11, g12, hr1, hs1, hs2⟩ := stps_at (sa_7.out).1 hkn
      have hok1 := pOk_at H1.out hx1
      obtain ⟨sf, st, ss⟩ := s1
      simp only at g10 g11 g12 hr1 hs1 hs2
      have HX1 := Lib.hid hx1
      have HST := Lib.hid (stset_any (x := node) hr1 (sa_7.out).2 hok1 hs1 hs2)
      clear hx1 hok1 hr1 hb1
      have z_pa0_7 := (show Blk wr w.heap.size 25 (prjV e (some ⟨b1, off1, none⟩) n c) from pa_7.out).cell 0
      have z_pa1_7 := (show Blk wr w.heap.size 25 (prjV e (some ⟨b1, off1, none⟩) n c) from pa_7.out).cell 1
      go_wp2_with fail
      refine (HST.out).mono ?_; rintro en w8 ⟨ix, okv, rfl, hat, hb⟩
      have pa_8 : Hid (Blk w8 w.heap.size 25 (prjV e (some ⟨b1, off1, none⟩) n c)) := keepB pa_7.out hb
      have pq_8 : Hid (Blk w8 gq 25 (prjV qe Aq nq cq)) := keepB pq_7.out hb
      have sa_8 : Hid (Sl rpStp w8 D (some ⟨b1, off1, none⟩) n c l) := keepS sa_7.out hb
      have sq_8 : Hid (Sl rpStp w8 Dq Aq nq cq ql) := keepS sq_7.out hb
      have BB_8 : Hid (Below w.heap.size w w8) := stepB BB_7.out hb
      clear z_pa0_7 z_pa1_7
      clear hb
      have HAT := Lib.hid hat
      clear hat g10 g11 g12
      cases b
      case false =>
        have HNB := Lib.hid (metB_new HMB.out HX1.out HAT.out)
        go_wp2_with fail
        go_roundw
        case rel => exact ⟨k + 1, okv, by omega, rfl, by go_num, HNB, pa_8.out, pq_8.out, sa_8.out, sq_8.out, BB_8.out⟩
        case measure => simp [intOf]; omega
      case true =>
        have HNB := Lib.hid (metB_old HMB.out)
        go_wp2_with fail
        go_roundw
        case rel => exact ⟨k + 1, true, by omega, rfl, by go_num, HNB, pa_8.out, pq_8.out, sa_8.out, sq_8.out, BB_8.out⟩
        case measure => simp [intOf]; omega
    case neg =>
      obtain rfl : n = k := by omega
      have hd : decide ((n : Int) < (n : Int)) = false := by simp
      obtain rfl : b = false := metB_no HMB.out HLEN.out HMN.out
      have z_pa0_7 := (show Blk wr w.heap.size 25 (prjV e A n c) from pa_7.out).cell 0
      have z_pa1_7 := (show Blk wr w.heap.size 25 (prjV e A n c) from pa_7.out).cell 1
      have z_pq0_7 := (show Blk wr gq 25 (prjV qe Aq nq cq) from pq_7.out).cell 0
      have z_pq1_7 := (show Blk wr gq 25 (prjV qe Aq nq cq) from pq_7.out).cell 1
      go_wp2_with fail
      refine (swap_is HG2.out (sq_7.out) hqe64 hx ho).mono ?_; rintro en w8 ⟨Ab, nb, cbk, rfl, hsb, hb⟩
      have pa_8 : Hid (Blk w8 w.heap.size 25 (prjV e A n c)) := keepB pa_7.out hb
      have pq_8 : Hid (Blk w8 gq 25 (prjV qe Aq nq cq)) := keepB pq_7.out hb
      have sa_8 : Hid (Sl rpStp w8 D A n c l) := keepS sa_7.out hb
      have sq_8 : Hid (Sl rpStp w8 Dq Aq nq cq ql) := keepS sq_7.out hb
      have BB_8 : Hid (Below w.heap.size w w8) := stepB BB_7.out hb
      clear z_pa0_7 z_pa1_7 z_pq0_7 z_pq1_7
      clear hb
      have sb_8 : Hid (Sl rpStp w8 (fun k => k < w8.heap.size) Ab nb cbk []) := ⟨hsb, fun k hk => hk⟩
      clear hsb
      go_upto_region 16 with (fail)
      have lt_pa_8 := (show Blk w8 w.heap.size 25 (prjV e A n c) from pa_8.out).lt
      have hb : Below w8.heap.size w8 (w8.alloc (.cells (prjV 0 Ab nb cbk) 25)) := below1 _ (.cells (prjV 0 Ab nb cbk) 25)
      have pa_9 : Hid (Blk (w8.alloc (.cells (prjV 0 Ab nb cbk) 25)) w.heap.size 25 (prjV e A n c)) := keepB pa_8.out hb
      have pq_9 : Hid (Blk (w8.alloc (.cells (prjV 0 Ab nb cbk) 25)) gq 25 (prjV qe Aq nq cq)) := keepB pq_8.out hb
      have sa_9 : Hid (Sl rpStp (w8.alloc (.cells (prjV 0 Ab nb cbk) 25)) D A n c l) := keepS sa_8.out hb
      have sq_9 : Hid (Sl rpStp (w8.alloc (.cells (prjV 0 Ab nb cbk) 25)) Dq Aq nq cq ql) := keepS sq_8.out hb
      have sb_9 : Hid (Sl rpStp (w8.alloc (.cells (prjV 0 Ab nb cbk) 25)) (fun k => k < w8.heap.size) Ab nb cbk []) := keepS sb_8.out hb
      have BB_9 : Hid (Below w.heap.size w (w8.alloc (.cells (prjV 0 Ab nb cbk) 25))) := stepB BB_8.out hb
      have sz_8 := BB_8.out.size
      have pb_9 : Hid (Blk (w8.alloc (.cells (prjV 0 Ab nb cbk) 25)) w8.heap.size 25 (prjV 0 Ab nb cbk)) := blk11 _ _ _
      clear hb
      generalize hgb : w8.heap.size = gb at *
      generalize World.alloc w8 _ = w9 at *
      have h18 : ((18 : Int) == 18) = true := by simp
      go_wp2_with fail
      refine (plive_any _).mono ?_; rintro en w10 ⟨rfl, hb⟩
      have pa_10 : Hid (Blk w10 w.heap.size 25 (prjV e A n c)) := keepB pa_9.out hb
      have pq_10 : Hid (Blk w10 gq 25 (prjV qe Aq nq cq)) := keepB pq_9.out hb
      have sa_10 : Hid (Sl rpStp w10 D A n c l) := keepS sa_9.out hb
      have sq_10 : Hid (Sl rpStp w10 Dq Aq nq cq ql) := keepS sq_9.out hb
      have sb_10 : Hid (Sl rpStp w10 (fun k => k < gb) Ab nb cbk []) := keepS sb_9.out hb
      have pb_10 : Hid (Blk w10 gb 25 (prjV 0 Ab nb cbk)) := keepB pb_9.out hb
      have BB_10 : Hid (Below w.heap.size w w10) := stepB BB_9.out hb
      clear hb
      go_wp2_with fail
      go_ret
      exact ⟨rfl, BB_10.out⟩
set_option maxRecDepth 100000 in
set_option maxHeartbeats 4000000 in
theorem swaps_C (hs : rpStp.sl w D A n c l) (hD : ∀ k, D k → k < w.heap.size) (he : e ≤ 18446744073709551615) (ho : old ≤ 18446744073709551615) (hx : node ≤ 18446744073709551615) (h1 : POk (e, l)) (hqe64 : qe ≤ 18446744073709551615) (hg : swapP (e, l) old node = ((qe, ql), 0)) (hmn : ¬ Met l node) (hg2 : swapP (qe, ql) node old = ((be, l), 0)) :
    Calls Try.prog 15 #[.agg (prjV e A n c), .int .u64 (old : Int), .int .u64 (node : Int)] w fun en w' => en = .returned (.bool true) ∧ Below w.heap.size w w' := by
  have HLEN := Lib.hid (Rp.sl_len hs).1
  have hn64 : n ≤ 64 := by have := h1.1.1.2.2; simp only at this; have := (Rp.sl_len hs).1; omega
  have H1 := Lib.hid h1
  have HMN := Lib.hid hmn
  have HG2 := Lib.hid hg2
  have HS00 := Lib.hid (show Sl rpStp w D A n c l from ⟨hs, hD⟩)
  have hcd0 : ((0 : Int) != 0) = false := by simp
  clear h1 hmn hg2
  have HG := Lib.hid hg
  have pa_0 := Lib.hid (blk11 w 25 (prjV e A n c))
  have hb := below1 w (.cells (prjV e A n c) 25)
  have BB_0 := Lib.hid hb
  have sa_0 := Lib.hid (keepS (show Sl rpStp w D A n c l from ⟨hs, hD⟩) hb)
  clear hb hs hD hg
  go_enter Try.func15, Try.ntmps15
  go_upto_region 1 with (fail)
  generalize World.alloc w _ = w0 at *
  have z_pa0_0 := (show Blk w0 w.heap.size 25 (prjV e A n c) from pa_0.out).cell 0
  have z_pa1_0 := (show Blk w0 w.heap.size 25 (prjV e A n c) from pa_0.out).cell 1
  go_wp2_with fail
  refine (plong_any (e := e) (sa_0.out).1 (sa_0.out).2).mono ?_; rintro en w1 ⟨bb, rfl, hb⟩
  have pa_1 : Hid (Blk w1 w.heap.size 25 (prjV e A n c)) := keepB pa_0.out hb
  have sa_1 : Hid (Sl rpStp w1 D A n c l) := keepS sa_0.out hb
  have BB_1 : Hid (Below w.heap.size w w1) := stepB BB_0.out hb
  clear z_pa0_0 z_pa1_0
  clear hb
  cases bb
  case true =>
    go_wp2_with fail
    refine (plive_any _).mono ?_; rintro en w2 ⟨rfl, hb⟩
    have pa_2 : Hid (Blk w2 w.heap.size 25 (prjV e A n c)) := keepB pa_1.out hb
    have sa_2 : Hid (Sl rpStp w2 D A n c l) := keepS sa_1.out hb
    have BB_2 : Hid (Below w.heap.size w w2) := stepB BB_1.out hb
    clear hb
    go_wp2_with fail
    go_ret
    exact ⟨rfl, BB_2.out⟩
  have z_pa0_1 := (show Blk w1 w.heap.size 25 (prjV e A n c) from pa_1.out).cell 0
  have z_pa1_1 := (show Blk w1 w.heap.size 25 (prjV e A n c) from pa_1.out).cell 1
  go_wp2_with fail
  refine (swap_is HG.out (sa_1.out) he ho hx).mono ?_; rintro en w2 ⟨Aq, nq, cq, rfl, hsq, hb⟩
  obtain ⟨Dq, hsq⟩ : ∃ Dq, Sl rpStp w2 Dq Aq nq cq ql := ⟨_, hsq, fun k hk => hk⟩
  have pa_2 : Hid (Blk w2 w.heap.size 25 (prjV e A n c)) := keepB pa_1.out hb
  have sa_2 : Hid (Sl rpStp w2 D A n c l) := keepS sa_1.out hb
  have BB_2 : Hid (Below w.heap.size w w2) := stepB BB_1.out hb
  have sq_2 : Hid (Sl rpStp w2 Dq Aq nq cq ql) := hsq
  clear z_pa0_1 z_pa1_1
  clear hb
  clear hsq
  go_upto_region 4 with (fail)
  have hb : Below w2.heap.size w2 (w2.alloc (.cells (prjV qe Aq nq cq) 25)) := below1 _ (.cells (prjV qe Aq nq cq) 25)
  have pa_3 : Hid (Blk (w2.alloc (.cells (prjV qe Aq nq cq) 25)) w.heap.size 25 (prjV e A n c)) := keepB pa_2.out hb
  have sa_3 : Hid (Sl rpStp (w2.alloc (.cells (prjV qe Aq nq cq) 25)) D A n c l) := keepS sa_2.out hb
  have sq_3 : Hid (Sl rpStp (w2.alloc (.cells (prjV qe Aq nq cq) 25)) Dq Aq nq cq ql) := keepS sq_2.out hb
  have BB_3 : Hid (Below w.heap.size w (w2.alloc (.cells (prjV qe Aq nq cq) 25))) := stepB BB_2.out hb
  have sz_2 := BB_2.out.size
  have pq_3 : Hid (Blk (w2.alloc (.cells (prjV qe Aq nq cq) 25)) w2.heap.size 25 (prjV qe Aq nq cq)) := blk11 _ _ _
  clear hb
  generalize hgq : w2.heap.size = gq at *
  generalize World.alloc w2 _ = w3 at *
  have z_pa0_3 := (show Blk w3 w.heap.size 25 (prjV e A n c) from pa_3.out).cell 0
  have z_pa1_3 := (show Blk w3 w.heap.size 25 (prjV e A n c) from pa_3.out).cell 1
  go_wp2_with fail
  refine (rswap_is HG.out (sa_3.out) he ho hx).mono ?_; rintro en w4 ⟨Av, nv, cv, rfl, hsv, hb⟩
  obtain ⟨Dv, hsv⟩ : ∃ Dv, Sl rpStp w4 Dv Av nv cv ql := ⟨_, hsv, fun k hk => hk⟩
  have pa_4 : Hid (Blk w4 w.heap.size 25 (prjV e A n c)) := keepB pa_3.out hb
  have sa_4 : Hid (Sl rpStp w4 D A n c l) := keepS sa_3.out hb
  have sq_4 : Hid (Sl rpStp w4 Dq Aq nq cq ql) := keepS sq_3.out hb
  have pq_4 : Hid (Blk w4 gq 25 (prjV qe Aq nq cq)) := keepB pq_3.out hb
  have BB_4 : Hid (Below w.heap.size w w4) := stepB BB_3.out hb
  have sv_4 : Hid (Sl rpStp w4 Dv Av nv cv ql) := hsv
  clear z_pa0_3 z_pa1_3
  clear hb
  clear hsv
  go_upto_region 5 with (fail)
  have hb : Below w4.heap.size w4 (w4.alloc (.cells (prjV qe Av nv cv) 25)) := below1 _ (.cells (prjV qe Av nv cv) 25)
  have pa_5 : Hid (Blk (w4.alloc (.cells (prjV qe Av nv cv) 25)) w.heap.size 25 (prjV e A n c)) := keepB pa_4.out hb
  have sa_5 : Hid (Sl rpStp (w4.alloc (.cells (prjV qe Av nv cv) 25)) D A n c l) := keepS sa_4.out hb
  have sq_5 : Hid (Sl rpStp (w4.alloc (.cells (prjV qe Av nv cv) 25)) Dq Aq nq cq ql) := keepS sq_4.out hb
  have pq_5 : Hid (Blk (w4.alloc (.cells (prjV qe Av nv cv) 25)) gq 25 (prjV qe Aq nq cq)) := keepB pq_4.out hb
  have sv_5 : Hid (Sl rpStp (w4.alloc (.cells (prjV qe Av nv cv) 25)) Dv Av nv cv ql) := keepS sv_4.out hb
  have BB_5 : Hid (Below w.heap.size w (w4.alloc (.cells (prjV qe Av nv cv) 25))) := stepB BB_4.out hb
  have sz_4 := BB_4.out.size
  have pv_5 : Hid (Blk (w4.alloc (.cells (prjV qe Av nv cv) 25)) w4.heap.size 25 (prjV qe Av nv cv)) := blk11 _ _ _
  clear hb
  generalize hgv : w4.heap.size = gv at *
  generalize World.alloc w4 _ = w5 at *
  have z_pa0_5 := (show Blk w5 w.heap.size 25 (prjV e A n c) from pa_5.out).cell 0
  have z_pa1_5 := (show Blk w5 w.heap.size 25 (prjV e A n c) from pa_5.out).cell 1
  have z_pq0_5 := (show Blk w5 gq 25 (prjV qe Aq nq cq) from pq_5.out).cell 0
  have z_pq1_5 := (show Blk w5 gq 25 (prjV qe Aq nq cq) from pq_5.out).cell 1
  have z_pv0_5 := (show Blk w5 gv 25 (prjV qe Av nv cv) from pv_5.out).cell 0
  have z_pv1_5 := (show Blk w5 gv 25 (prjV qe Av nv cv) from pv_5.out).cell 1
  have hsm := rpsame_any (e := qe) (e' := qe) (sq_5.out).1 (sv_5.out).1 (sq_5.out).2 (sv_5.out).2
  rw [dec_true rfl] at hsm
  have HSAME := Lib.hid hsm
  clear hsm
  go_wp2_with fail
  refine (HSAME.out).mono ?_; rintro en w6 ⟨rfl, hb⟩
  have pa_6 : Hid (Blk w6 w.heap.size 25 (prjV e A n c)) := keepB pa_5.out hb
  have sa_6 : Hid (Sl rpStp w6 D A n c l) := keepS sa_5.out hb
  have sq_6 : Hid (Sl rpStp w6 Dq Aq nq cq ql) := keepS sq_5.out hb
  have pq_6 : Hid (Blk w6 gq 25 (prjV qe Aq nq cq)) := keepB pq_5.out hb
  have sv_6 : Hid (Sl rpStp w6 Dv Av nv cv ql) := keepS sv_5.out hb
  have pv_6 : Hid (Blk w6 gv 25 (prjV qe Av nv cv)) := keepB pv_5.out hb
  have BB_6 : Hid (Below w.heap.size w w6) := stepB BB_5.out hb
  clear z_pa0_5 z_pa1_5 z_pq0_5 z_pq1_5 z_pv0_5 z_pv1_5
  clear hb
  have z_pa0_6 := (show Blk w6 w.heap.size 25 (prjV e A n c) from pa_6.out).cell 0
  have z_pa1_6 := (show Blk w6 w.heap.size 25 (prjV e A n c) from pa_6.out).cell 1
  have z_pq0_6 := (show Blk w6 gq 25 (prjV qe Aq nq cq) from pq_6.out).cell 0
  have z_pq1_6 := (show Blk w6 gq 25 (prjV qe Aq nq cq) from pq_6.out).cell 1
  go_wp2_with fail
  clear z_pa0_6 z_pa1_6 z_pq0_6 z_pq1_6
  go_loopw [11, 12] (fun v11 v12 wr => ∃ (k : Nat) (b : Bool), k ≤ n ∧ v11 = .bool b ∧ v12 = .int .i64 k ∧ Hid (MetB l node k b) ∧ Hid (Blk wr w.heap.size 25 (prjV e A n c)) ∧ Hid (Blk wr gq 25 (prjV qe Aq nq cq)) ∧ Hid (Sl rpStp wr D A n c l) ∧ Hid (Sl rpStp wr Dq Aq nq cq ql) ∧ Hid (Below w.heap.size w wr)) (fun _ v12 _ => n - (intOf v12).toNat)
  case atStart => exact ⟨0, false, by omega, rfl, rfl, metB_zero _ _, pa_6.out, pq_6.out, sa_6.out, sq_6.out, BB_6.out⟩
  case round =>
    clear pa_6 sa_6 sq_6 pq_6 sv_6 pv_6 BB_6
    obtain ⟨k, b, hk, rfl, rfl, HMB, pa_7, pq_7, sa_7, sq_7, BB_7⟩ := hrel
    by_cases hkn : k < n
    case pos =>
      have hd : decide ((k : Int) < (n : Int)) = true := by simp; omega
      have hkI : (0 : Int) ≤ (k : Int) := by omega
      have hkI2 : (k : Int) < (n : Int) := by omega
      obtain ⟨b1, off1, s1, A1, c1, rfl, hb1, hx1, g10, g11, g12, hr1, hs1, hs2⟩ := stps_at (sa_7.out).1 hkn
      have hok1 := pOk_at H1.out hx1
      obtain ⟨sf, st, ss⟩ := s1
      simp only at g10 g11 g12 hr1 hs1 hs2
      have HX1 := Lib.hid hx1
      have HST := Lib.hid (stset_any (x := node) hr1 (sa_7.out).2 hok1 hs1 hs2)
      clear hx1 hok1 hr1 hb1
      have z_pa0_7 := (show Blk wr w.heap.size 25 (prjV e (some ⟨b1, off1, none⟩) n c) from pa_7.out).cell 0
      have z_pa1_7 := (show Blk wr w.heap.size 25 (prjV e (some ⟨b1, off1, none⟩) n c) from pa_7.out).cell 1
      go_wp2_with fail
      refine (HST.out).mono ?_; rintro en w8 ⟨ix, okv, rfl, hat, hb⟩
      have pa_8 : Hid (Blk w8 w.heap.size 25 (prjV e (some ⟨b1, off1, none⟩) n c)) := keepB pa_7.out hb
      have pq_8 : Hid (Blk w8 gq 25 (prjV qe Aq nq cq)) := keepB pq_7.out hb
      have sa_8 : Hid (Sl rpStp w8 D (some ⟨b1, off1, none⟩) n c l) := keepS sa_7.out hb
      have sq_8 : Hid (Sl rpStp w8 Dq Aq nq cq ql) := keepS sq_7.out hb
      have BB_8 : Hid (Below w.heap.size w w8) := stepB BB_7.out hb
      clear z_pa0_7 z_pa1_7
      clear hb
      have HAT := Lib.hid hat
      clear hat g10 g11 g12
      cases b
      case false =>
        have HNB := Lib.hid (metB_new HMB.out HX1.out HAT.out)
        go_wp2_with fail
        go_roundw
        case rel => exact ⟨k + 1, okv, by omega, rfl, by go_num, HNB, pa_8.out, pq_8.out, sa_8.out, sq_8.out, BB_8.out⟩
        case measure => simp [intOf]; omega
      case true =>
        have HNB := Lib.hid (metB_old HMB.out)
        go_wp2_with fail
        go_roundw
        case rel => exact ⟨k + 1, true, by omega, rfl, by go_num, HNB, pa_8.out, pq_8.out, sa_8.out, sq_8.out, BB_8.out⟩
        case measure => simp [intOf]; omega
    case neg =>
      obtain rfl : n = k := by omega
      have hd : decide ((n : Int) < (n : Int)) = false := by simp
      obtain rfl : b = false := metB_no HMB.out HLEN.out HMN.out
      have z_pa0_7 := (show Blk wr w.heap.size 25 (prjV e A n c) from pa_7.out).cell 0
      have z_pa1_7 := (show Blk wr w.heap.size 25 (prjV e A n c) from pa_7.out).cell 1
      have z_pq0_7 := (show Blk wr gq 25 (prjV qe Aq nq cq) from pq_7.out).cell 0
      have z_pq1_7 := (show Blk wr gq 25 (prjV qe Aq nq cq) from pq_7.out).cell 1
      go_wp2_with fail
      refine (swap_is HG2.out (sq_7.out) hqe64 hx ho).mono ?_; rintro en w8 ⟨Ab, nb, cbk, rfl, hsb, hb⟩
      have pa_8 : Hid (Blk w8 w.heap.size 25 (prjV e A n c)) := keepB pa_7.out hb
      have pq_8 : Hid (Blk w8 gq 25 (prjV qe Aq nq cq)) := keepB pq_7.out hb
      have sa_8 : Hid (Sl rpStp w8 D A n c l) := keepS sa_7.out hb
      have sq_8 : Hid (Sl rpStp w8 Dq Aq nq cq ql) := keepS sq_7.out hb
      have BB_8 : Hid (Below w.heap.size w w8) := stepB BB_7.out hb
      clear z_pa0_7 z_pa1_7 z_pq0_7 z_pq1_7
      clear hb
      have sb_8 : Hid (Sl rpStp w8 (fun k => k < w8.heap.size) Ab nb cbk l) := ⟨hsb, fun k hk => hk⟩
      clear hsb
      go_upto_region 16 with (fail)
      have lt_pa_8 := (show Blk w8 w.heap.size 25 (prjV e A n c) from pa_8.out).lt
      have hb : Below w8.heap.size w8 (w8.alloc (.cells (prjV be Ab nb cbk) 25)) := below1 _ (.cells (prjV be Ab nb cbk) 25)
      have pa_9 : Hid (Blk (w8.alloc (.cells (prjV be Ab nb cbk) 25)) w.heap.size 25 (prjV e A n c)) := keepB pa_8.out hb
      have pq_9 : Hid (Blk (w8.alloc (.cells (prjV be Ab nb cbk) 25)) gq 25 (prjV qe Aq nq cq)) := keepB pq_8.out hb
      have sa_9 : Hid (Sl rpStp (w8.alloc (.cells (prjV be Ab nb cbk) 25)) D A n c l) := keepS sa_8.out hb
      have sq_9 : Hid (Sl rpStp (w8.alloc (.cells (prjV be Ab nb cbk) 25)) Dq Aq nq cq ql) := keepS sq_8.out hb
      have sb_9 : Hid (Sl rpStp (w8.alloc (.cells (prjV be Ab nb cbk) 25)) (fun k => k < w8.heap.size) Ab nb cbk l) := keepS sb_8.out hb
      have BB_9 : Hid (Below w.heap.size w (w8.alloc (.cells (prjV be Ab nb cbk) 25))) := stepB BB_8.out hb
      have sz_8 := BB_8.out.size
      have pb_9 : Hid (Blk (w8.alloc (.cells (prjV be Ab nb cbk) 25)) w8.heap.size 25 (prjV be Ab nb cbk)) := blk11 _ _ _
      clear hb
      generalize hgb : w8.heap.size = gb at *
      generalize World.alloc w8 _ = w9 at *
      have h18 : ((0 : Int) == 18) = false := by simp
      have h00 : ((0 : Int) == 0) = true := by simp
      have z_pa0_9 := (show Blk w9 w.heap.size 25 (prjV e A n c) from pa_9.out).cell 0
      have z_pb0_9 := (show Blk w9 gb 25 (prjV be Ab nb cbk) from pb_9.out).cell 0
      have y_pb0_9 := (show Blk w9 gb 25 (prjV be Ab nb cbk) from pb_9.out).frozen 0
      go_upto_region 19 with (fail)
      clear z_pa0_9 z_pb0_9 y_pb0_9
      have hgb : w.heap.size ≤ gb := by have h1 := sz_8; omega
      have hbn : Below w.heap.size w (w9.setCell ⟨gb, 0, none⟩ (.int .u64 (e : Int))) := BB_9.out.setCell (p := ⟨gb, 0, none⟩) hgb _
      have BB_10 := Lib.hid hbn
      have pa_10 : Hid (Blk (w9.setCell ⟨gb, 0, none⟩ (.int .u64 (e : Int))) w.heap.size 25 (prjV e A n c)) := (show Blk w9 w.heap.size 25 (prjV e A n c) from pa_9.out).far (p := ⟨gb, 0, none⟩) (by dsimp only; omega) _
      have pb_10 : Hid (Blk (w9.setCell ⟨gb, 0, none⟩ (.int .u64 (e : Int))) gb 25 (prjV e Ab nb cbk)) := (show Blk w9 gb 25 (prjV be Ab nb cbk) from pb_9.out).put 0 _
      have sa_10 : Hid (Sl rpStp (w9.setCell ⟨gb, 0, none⟩ (.int .u64 (e : Int))) D A n c l) := keepS HS00.out hbn
      have sb_10 : Hid (Sl rpStp (w9.setCell ⟨gb, 0, none⟩ (.int .u64 (e : Int))) (fun k => k < gb) Ab nb cbk l) := ⟨Rp.sl_below (sb_9.out).1 ((Below.refl gb w9).setCell (p := ⟨gb, 0, none⟩) (Nat.le_refl _) _) (fun k hk => hk), fun k hk => by have := (show Blk w9 gb 25 (prjV be Ab nb cbk) from pb_9.out).lt; have h : k < gb := hk; simp [World.setCell]; omega⟩
      clear hbn
      generalize World.setCell w9 _ _ = w10 at *
      have hsm := rpsame_any (e := e) (e' := e) (sb_10.out).1 (sa_10.out).1 (sb_10.out).2 (sa_10.out).2
      rw [dec_true rfl] at hsm
      have HSAME := Lib.hid hsm
      clear hsm
      have z_pa0_10 := (show Blk w10 w.heap.size 25 (prjV e A n c) from pa_10.out).cell 0
      have z_pa1_10 := (show Blk w10 w.heap.size 25 (prjV e A n c) from pa_10.out).cell 1
      have z_pb0_10 := (show Blk w10 gb 25 (prjV e Ab nb cbk) from pb_10.out).cell 0
      have z_pb1_10 := (show Blk w10 gb 25 (prjV e Ab nb cbk) from pb_10.out).cell 1
      go_wp2_with fail
      refine (HSAME.out).mono ?_; rintro en w11 ⟨rfl, hb⟩
      have pa_11 : Hid (Blk w11 w.heap.size 25 (prjV e A n c)) := keepB pa_10.out hb
      have pb_11 : Hid (Blk w11 gb 25 (prjV e Ab nb cbk)) := keepB pb_10.out hb
      have sa_11 : Hid (Sl rpStp w11 D A n c l) := keepS sa_10.out hb
      have sb_11 : Hid (Sl rpStp w11 (fun k => k < gb) Ab nb cbk l) := keepS sb_10.out hb
      have BB_11 : Hid (Below w.heap.size w w11) := stepB BB_10.out hb
      clear z_pa0_10 z_pa1_10 z_pb0_10 z_pb1_10
      clear hb
      go_wp2_with fail
      refine (plive_any _).mono ?_; rintro en w12 ⟨rfl, hb⟩
      have pa_12 : Hid (Blk w12 w.heap.size 25 (prjV e A n c)) := keepB pa_11.out hb
      have pb_12 : Hid (Blk w12 gb 25 (prjV e Ab nb cbk)) := keepB pb_11.out hb
      have sa_12 : Hid (Sl rpStp w12 D A n c l) := keepS sa_11.out hb
      have sb_12 : Hid (Sl rpStp w12 (fun k => k < gb) Ab nb cbk l) := keepS sb_11.out hb
      have BB_12 : Hid (Below w.heap.size w w12) := stepB BB_11.out hb
      clear hb
      go_wp2_with fail
      go_ret
      exact ⟨rfl, BB_12.out⟩
theorem swaps_any (hs : rpStp.sl w D A n c l) (hD : ∀ k, D k → k < w.heap.size) (he : e ≤ 18446744073709551615) (ho : old ≤ 18446744073709551615) (hx : node ≤ 18446744073709551615) :
    Calls Try.prog 15 #[.agg (prjV e A n c), .int .u64 (old : Int), .int .u64 (node : Int)] w fun en w' => en = .returned (.bool true) ∧ Below w.heap.size w w' := by
  rcases swapP_ways (e, l) old node with ⟨cd, hcd, hg⟩ | ⟨h1, hm, h5, hg⟩
  · exact swaps_bad hs hD he ho hx hcd hg
  · have hqe : e + 1 ≤ 18446744073709551615 := by have := h5.1.1.1.2; simp only at this; omega
    by_cases hn : Met l node
    · exact swaps_A hs hD he ho hx h1 hqe hg hn (be := (swapP (e + 1, swL old node l) node old).1.1) (bl := (swapP (e + 1, swL old node l) node old).1.2) (cb := (swapP (e + 1, swL old node l) node old).2) rfl
    · rcases swapP_back h1 hm h5 hn with ⟨e2, h2⟩ | h2
      · exact swaps_C hs hD he ho hx h1 hqe hg hn h2
      · exact swaps_B hs hD he ho hx h1 hqe hg hn h2
end
theorem projSwaps_st (cs : Array Value) (p : Prj) (x y : Int) (w : World) (hp : rpPrjS.ok w (lt w.heap.size) p cs.toList) (x0 : 0 ≤ x) (x1 : x ≤ 18446744073709551615) (y0 : 0 ≤ y) (y1 : y ≤ 18446744073709551615) :
    Calls Try.prog 15 #[.agg cs, .int .u64 x, .int .u64 y] w fun e w' => e = .returned (.bool true) ∧ Below w.heap.size w w' := by
  obtain ⟨A1, c1, hcs, hs, he⟩ := prjs_open hp
  obtain ⟨q, rfl⟩ : ∃ q : Nat, x = q := ⟨x.toNat, by omega⟩
  obtain ⟨r, rfl⟩ : ∃ r : Nat, y = r := ⟨y.toNat, by omega⟩
  rw [agg_of hcs]
  exact swaps_any hs (fun k hk => hk) he (by omega) (by omega)
end Go.Proofs.Ytmdgmnaaopineaa
/- How a law's arguments open: from the reading of a value of Go to plain data. -/
namespace Go.Proofs.Ytmdgmnaaopineaa
open Go.RowKit Go.ChangeShapes Go.WideShapes Go.Deep

def Opens {α : Type} (P : Program) (T : TypeId) (r : Rp α) : Prop :=
  ∀ (H : Type) (enc : TypeId × Value → H) (w : World) (held : Bool) (fuel : Nat) (cs : List Value) (x : DataW H × List MemPlace),
    DataW.trod enc P w 0 (fun _ => true) held fuel T cs = some x → ∃ a, r.ok w (lt w.heap.size) a cs

section
variable {P : Program} {T : TypeId} {α β γ δ : Type}
theorem opens_u8 (ht : P.underlying T = some (.int .u8)) : Opens P T rpU8 := fun H enc w held fuel cs x h => by
  obtain ⟨n, rfl, _, hw⟩ := DataW.trod_int ht h
  obtain ⟨h0, h1⟩ := bounds_u8 hw
  obtain ⟨u, rfl⟩ := byte_of (v := n) h0 (by omega)
  exact ⟨u, rfl⟩
theorem opens_u64 (ht : P.underlying T = some (.int .u64)) : Opens P T rpU64 := fun H enc w held fuel cs x h => by
  obtain ⟨n, rfl, _, hw⟩ := DataW.trod_int ht h
  obtain ⟨h0, h1⟩ := bounds_u64 hw
  exact ⟨n.toNat, by rw [Int.toNat_of_nonneg h0], by omega⟩
theorem opens_int (ht : P.underlying T = some (.int .i64)) : Opens P T rpInt := fun H enc w held fuel cs x h => by
  obtain ⟨n, rfl, _, hw⟩ := DataW.trod_int ht h
  obtain ⟨h0, h1⟩ := bounds_i64 hw
  exact ⟨n, rfl, h0, by omega⟩
theorem opens_bool (ht : P.underlying T = some .bool) : Opens P T rpBool := fun H enc w held fuel cs x h => by
  obtain ⟨b, rfl, _⟩ := DataW.trod_bool ht h
  exact ⟨b, rfl⟩
theorem opens_slice {e : TypeId} {r : Rp α} (ht : P.underlying T = some (.slice e)) (he : Opens P e r) (hc : P.cellsOf e = r.size) (hs : 0 < r.size) : Opens P T (rpSlice r) := fun H enc w held fuel cs x h => by
  rcases open_slice ht h with ⟨rfl, _⟩ | ⟨a, len, cap, m, n, D, Pl, rfl, _, hl, hm, hmm, _, hi⟩
  · exact ⟨[], none, 0, rfl, Nat.zero_le _, by decide, fun h => absurd h (by simp)⟩
  · have hex : ∀ i, i < len → ∃ y : α, ∃ cs', r.ok w (lt w.heap.size) y cs' ∧ ∀ j u, cs'[j]? = some u → w.cell? (a.add (i * r.size + j)) = some u := by
      intro i hil
      obtain ⟨cs', hcs, htr⟩ := hi i (by rw [hmm]; simp; omega)
      obtain ⟨y, hy⟩ := he H enc w held n cs' _ htr
      obtain ⟨_, hlen, hat⟩ := World.cells?_some hcs
      refine ⟨y, cs', hy, fun j u hu => ?_⟩
      have hj : j < P.cellsOf e := by rw [← hlen]; exact (List.getElem?_eq_some_iff.1 hu).1
      have := hat j hj
      rw [hc, Go.Deep.add_add] at this
      rw [this]; exact hu
    have hchoose : ∀ k, k ≤ len → ∃ l : List α, l.length = k ∧ ∀ (i : Nat) (y : α), l[i]? = some y → ∃ cs', r.ok w (lt w.heap.size) y cs' ∧ ∀ j u, cs'[j]? = some u → w.cell? (a.add (i * r.size + j)) = some u := by
      intro k
      induction k with
      | zero => exact fun _ => ⟨[], rfl, fun i y h => by simp at h⟩
      | succ k ih =>
        intro hk
        obtain ⟨l, hll, hg⟩ := ih (by omega)
        obtain ⟨y, cs', hy, hcell⟩ := hex k (by omega)
        refine ⟨l ++ [y], by simp [hll], fun i z hz => ?_⟩
        rcases Nat.lt_trichotomy i k with hik | hik | hik
        · exact hg i z (by rwa [List.getElem?_append_left (by omega)] at hz)
        · subst hik
          rw [List.getElem?_append_right (by omega), hll, Nat.sub_self] at hz
          simp only [List.getElem?_cons_zero, Option.some.injEq] at hz
          subst hz
          exact ⟨cs', hy, hcell⟩
        · rw [List.getElem?_eq_none (by simp; omega)] at hz; cases hz
    obtain ⟨l, hll, hg⟩ := hchoose len (Nat.le_refl _)
    refine ⟨l, some a, cap, by rw [hll], by omega, hm, fun hp => ?_⟩
    obtain ⟨cs0, hok, hc0⟩ := hg 0 l[0] (List.getElem?_eq_getElem hp)
    have hcs0 : 0 < cs0.length := by rw [r.len hok]; exact hs
    have hcell := hc0 0 cs0[0] (List.getElem?_eq_getElem hcs0)
    have hsp : (a.add (0 * r.size + 0)) = a := by simp [Addr.add]
    rw [hsp] at hcell
    have hspot : a.spot = none := World.cell?_spot hcell
    obtain ⟨b, off, spot⟩ := a
    subst hspot
    refine ⟨b, off, rfl, World.block_lt_of_cell? w _ hcell, fun i y hy => ?_⟩
    obtain ⟨cs', hok', hcc⟩ := hg i y hy
    refine ⟨cs', hok', fun j u hu => ?_⟩
    have := hcc j u hu
    have hplain : (⟨b, off, none⟩ : Addr).add (i * r.size + j) = ⟨b, off + i * r.size + j, none⟩ := by
      unfold Addr.add; split
      · simp
      · simp; omega
    rwa [hplain] at this
theorem opens_via (f : β → α) {r : Rp α} (h : Opens P T r) (g : α → β) (hg : ∀ a, f (g a) = a) : Opens P T (rpVia f r) := fun H enc w held fuel cs x hx => by
  obtain ⟨a, ha⟩ := h H enc w held fuel cs x hx
  exact ⟨g a, by show r.ok _ _ (f (g a)) _; rw [hg]; exact ha⟩
theorem opens_struct2 {r : Rp α} {s : Rp β} {f0 f1 : Field} (ht : P.underlying T = some (.struct #[f0, f1])) (h0 : Opens P f0.type r) (h1 : Opens P f1.type s)
    (hc : (f0.offset, P.cellsOf f0.type, f1.offset, P.cellsOf f1.type, P.cellsOf T) = (0, r.size, r.size, s.size, r.size + s.size)) : Opens P T (rpPair r s) := fun H enc w held fuel cs x h => by
  obtain ⟨xs, n, _, _, hlen, hxl, hf⟩ := DataW.trod_struct ht h
  simp only [Prod.mk.injEq] at hc
  obtain ⟨c0, c1, c2, c3, c4⟩ := hc
  have g0 := hf 0 f0 rfl
  have g1 := hf 1 f1 rfl
  have hxl' : xs.length = 2 := by simpa using hxl
  rw [List.getElem?_eq_getElem (by omega)] at g0 g1
  rw [c0, c1, List.drop_zero] at g0
  rw [c2, c3] at g1
  obtain ⟨a, ha⟩ := h0 H enc w held n _ _ g0
  obtain ⟨b, hb⟩ := h1 H enc w held n _ _ g1
  refine ⟨(a, b), _, _, ?_, ha, hb⟩
  rw [List.take_of_length_le (l := List.drop r.size cs) (by rw [List.length_drop]; omega), List.take_append_drop]
end
end Go.Proofs.Ytmdgmnaaopineaa
/- Opening a struct of four fields. -/
namespace Go.Proofs.Ytmdgmnaaopineaa
open Go.ChangeShapes Go.WideShapes Go.ChangeAt Go.RowKit
set_option linter.unusedVariables false
section
variable {P : Program} {T : TypeId} {α β γ δ : Type}
theorem opens_struct4 {r : Rp α} {s : Rp β} {t : Rp γ} {u : Rp δ} {f0 f1 f2 f3 : Field} (ht : P.underlying T = some (.struct #[f0, f1, f2, f3])) (h0 : Opens P f0.type r) (h1 : Opens P f1.type s) (h2 : Opens P f2.type t) (h3 : Opens P f3.type u)
    (hc : (f0.offset, P.cellsOf f0.type, f1.offset, P.cellsOf f1.type, f2.offset, P.cellsOf f2.type, f3.offset, P.cellsOf f3.type, P.cellsOf T) = (0, r.size, r.size, s.size, r.size + s.size, t.size, r.size + s.size + t.size, u.size, r.size + s.size + t.size + u.size)) : Opens P T (rpPair r (rpPair s (rpPair t u))) := fun H enc w held fuel cs x h => by
  obtain ⟨xs, n, _, _, hlen, hxl, hf⟩ := DataW.trod_struct ht h
  simp only [Prod.mk.injEq] at hc
  obtain ⟨c0, c1, c2, c3, c4, c5, c6, c7, c8⟩ := hc
  have g0 := hf 0 f0 rfl
  have g1 := hf 1 f1 rfl
  have g2 := hf 2 f2 rfl
  have g3 := hf 3 f3 rfl
  have hxl' : xs.length = 4 := by simpa using hxl
  rw [List.getElem?_eq_getElem (by omega)] at g0 g1 g2 g3
  rw [c0, c1, List.drop_zero] at g0
  rw [c2, c3] at g1
  rw [c4, c5] at g2
  rw [c6, c7] at g3
  obtain ⟨a, ha⟩ := h0 H enc w held n _ _ g0
  obtain ⟨b, hb⟩ := h1 H enc w held n _ _ g1
  obtain ⟨c, hcc⟩ := h2 H enc w held n _ _ g2
  obtain ⟨d, hd⟩ := h3 H enc w held n _ _ g3
  refine ⟨(a, b, c, d), _, _, ?_, ha, _, _, rfl, hb, _, _, rfl, hcc, hd⟩
  rw [List.take_of_length_le (l := List.drop (r.size + s.size + t.size) cs) (by rw [List.length_drop]; omega)]
  simp only [← List.drop_drop, List.take_append_drop]
theorem opens_struct3 {r : Rp α} {s : Rp β} {t : Rp γ} {f0 f1 f2 : Field} (ht : P.underlying T = some (.struct #[f0, f1, f2])) (h0 : Opens P f0.type r) (h1 : Opens P f1.type s) (h2 : Opens P f2.type t)
    (hc : (f0.offset, P.cellsOf f0.type, f1.offset, P.cellsOf f1.type, f2.offset, P.cellsOf f2.type, P.cellsOf T) = (0, r.size, r.size, s.size, r.size + s.size, t.size, r.size + s.size + t.size)) : Opens P T (rpPair r (rpPair s t)) := fun H enc w held fuel cs x h => by
  obtain ⟨xs, n, _, _, hlen, hxl, hf⟩ := DataW.trod_struct ht h
  simp only [Prod.mk.injEq] at hc
  obtain ⟨c0, c1, c2, c3, c4, c5, c6⟩ := hc
  have g0 := hf 0 f0 rfl
  have g1 := hf 1 f1 rfl
  have g2 := hf 2 f2 rfl
  have hxl' : xs.length = 3 := by simpa using hxl
  rw [List.getElem?_eq_getElem (by omega)] at g0 g1 g2
  rw [c0, c1, List.drop_zero] at g0
  rw [c2, c3] at g1
  rw [c4, c5] at g2
  obtain ⟨a, ha⟩ := h0 H enc w held n _ _ g0
  obtain ⟨b, hb⟩ := h1 H enc w held n _ _ g1
  obtain ⟨c, hcc⟩ := h2 H enc w held n _ _ g2
  refine ⟨(a, b, c), _, _, ?_, ha, _, _, rfl, hb, hcc⟩
  rw [List.take_of_length_le (l := List.drop (r.size + s.size) cs) (by rw [List.length_drop]; omega)]
  simp only [← List.drop_drop, List.take_append_drop]
end
end Go.Proofs.Ytmdgmnaaopineaa
/-
  'tholepinlaw20.ProjSwaps' returns true for every input, and each argument reads behind the call as it read before. No condition.
-/
namespace Go.Proofs.Ytmdgmnaaopineaa.projSwaps
open Go.ChangeShapes Go.WideShapes Go.ChangeAt Go.RowKit
open Go.ChangeMaps (open_string shut_string)
set_option linter.unusedVariables false

theorem own : ownKnob Try.prog.godebug = none := by kernel_rfl
theorem laidOut : laidOutB Try.prog = true := by kernel_rfl

set_option maxRecDepth 100000 in
theorem lifted (os : Os) (started : os.Started) (H : Type) (enc : TypeId × Value → H) :
    ReturnsInHanded {} Try.checked os 15 .any (Rows.projSwapsSpec.pre6 enc Try.prog Try.f15 Rows.projSwapsRow.domain false) (Rows.projSwapsSpec.post enc Try.prog Try.f15 false true false false) := by
  refine returnsInHanded_of_change (C := Try.checked) own started (by kernel_rfl) Try.func15
    (ChangeSpec.witness6 (enc := enc) (C := Try.checked) false ⟨#[], #[.agg #[.int .u64 0, .slice none 0 0], .int .u64 0, .int .u64 0], []⟩ 8 (by kernel_rfl) (by kernel_rfl) (by kernel_rfl) (by kernel_rfl)) ?_
  intro W base args ds gs before hval0 hW hcnd _
  have hval : ∀ (j : Nat) t v, Try.f15.params[j]? = some t → args[j]? = some v → Value.okWide Try.prog W .any base t v := hval0
  have hW' := hW
  obtain ⟨p, q, hA0, hV, rfl, hfz, hnd⟩ := hW
  have hA : DataW.TrodAll enc Try.prog W 0 (fun _ => true) true Try.f15.params.toList args.toList ds p := hA0
  rw [Try.params15] at hA hval
  obtain ⟨v0, vs0, d0, ds0, p0, q0, hargs, rfl, rfl, h0, r0⟩ := trodAll_cons hA
  obtain ⟨v1, vs1, d1, ds1, p1, q1, rfl, rfl, rfl, h1, r1⟩ := trodAll_cons r0
  obtain ⟨v2, vs2, d2, ds2, p2, q2, rfl, rfl, rfl, h2, r2⟩ := trodAll_cons r1
  obtain ⟨rfl, rfl, rfl⟩ := trodAll_nil r2
  obtain rfl : args = #[v0, v1, v2] := by cases args; simp_all
  obtain ⟨rfl, rfl⟩ := trodVars_none hV
  have k0 := h0
  have lt0 : ∀ x ∈ p0, x.block < W.heap.size := by obtain ⟨m, hm⟩ := k0; exact DataW.trod_lt m _ _ _ hm
  obtain ⟨cs0, rfl, hsz0⟩ := okWide_struct Try.underlying25 (hval 0 25 v0 rfl rfl)
  obtain ⟨x0, w0⟩ : ∃ x, (rpPrjS).ok W (lt W.heap.size) x cs0.toList := by
    obtain ⟨fuel, hf⟩ := h0
    obtain ⟨x, hx⟩ := (opens_struct2 Try.underlying25 (opens_u64 Try.underlying22) (opens_slice Try.underlying23 (opens_struct3 Try.underlying31 (opens_u64 Try.underlying22) (opens_u64 Try.underlying22) (opens_slice Try.underlying27 (opens_slice Try.underlying46 (opens_u64 Try.underlying22) (by kernel_rfl) (by decide)) (by kernel_rfl) (by decide)) (by kernel_rfl)) (by kernel_rfl) (by decide)) (by kernel_rfl)) H enc W _ fuel _ _ hf
    exact ⟨x, hx⟩
  have k1 := h1
  have lt1 : ∀ x ∈ p1, x.block < W.heap.size := by obtain ⟨m, hm⟩ := k1; exact DataW.trod_lt m _ _ _ hm
  obtain ⟨a1, rfl, rfl, rfl, w1⟩ := open_int Try.underlying22 (hval 1 22 v1 rfl rfl) h1
  have k2 := h2
  have lt2 : ∀ x ∈ p2, x.block < W.heap.size := by obtain ⟨m, hm⟩ := k2; exact DataW.trod_lt m _ _ _ hm
  obtain ⟨a2, rfl, rfl, rfl, w2⟩ := open_int Try.underlying22 (hval 2 22 v2 rfl rfl) h2
  clear hA0 hval0
  refine (projSwaps_st cs0 x0 a1 a2 W w0 (bounds_u64 w1).1 (bounds_u64 w1).2 (bounds_u64 w2).1 (bounds_u64 w2).2).mono fun e W' ⟨he, bel⟩ => ?_
  subst he
  exact ⟨_, rfl, _, _, _, [], _, [], hW', trodAll_mk1 (shut_bool Try.underlying4 _), (trodAll_cons_mk (Below.trod laidOut (by kernel_rfl) (of_decide_eq_true (by kernel_rfl)) k0 bel lt0) (trodAll_cons_mk (shut_int Try.underlying22 w1) (trodAll_cons_mk (shut_int Try.underlying22 w2) trodAll_mk0))), rfl, bel.frame _, fun h => by cases h⟩

theorem over : Rows.projSwapsRow.holds Try.pinned (OpenSpec.ofChange Rows.projSwapsSpec) :=
  OpenClaim.holds_of_wide 15 Try.f15 rfl rfl rfl rfl rfl rfl rfl ⟨rfl, rfl, rfl, rfl, rfl⟩ rfl rfl rfl rfl rfl (by kernel_rfl) Try.func15 (by kernel_rfl)
    (of_decide_eq_true (by kernel_rfl)) (by unfold Func.isWrapper; first | (rw [if_pos (by decide +kernel)]; kernel_rfl) | (rw [if_neg (by decide +kernel)]; exact ⟨rfl, rfl⟩))
    (fun os started H enc _ => lifted os started H enc)

theorem proved : Rows.ProjSwapsSaid := over
#print axioms proved
end Go.Proofs.Ytmdgmnaaopineaa.projSwaps
