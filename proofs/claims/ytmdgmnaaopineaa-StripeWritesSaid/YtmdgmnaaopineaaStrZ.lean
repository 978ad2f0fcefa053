/- Two stripes are the same: the reference. -/
import Derived.Test.YtmdgmnaaopineaaStrV
import Derived.Test.YtmdgmnaaopineaaStp3
namespace Go.Proofs.Ytmdgmnaaopineaa
open Go.ChangeShapes Go.WideShapes Go.ChangeAt Go.RowKit
set_option linter.unusedVariables false
theorem same5_any {D D' : Dom} {A A' : Option Addr} {n c n' c' : Nat} {l l' : List Nat} {w : World} (hs : rpU64.sl w D A n c l) (hs' : rpU64.sl w D' A' n' c' l') (hD : ∀ k, D k → k < w.heap.size) (hD' : ∀ k, D' k → k < w.heap.size) :
    Calls Try.prog 31 #[.slice A n c, .slice A' n' c'] w fun en w' => en = .returned (.bool (dec (l = l'))) ∧ Below w.heap.size w w' := by
  obtain ⟨hlen, hnc, hcm⟩ := Rp.sl_len hs
  obtain ⟨hlen', hnc', hcm'⟩ := Rp.sl_len hs'
  unfold maxLen at hcm hcm'
  have HL := Lib.hid hs
  have HL' := Lib.hid hs'
  have HN := Lib.hid hlen
  have HN' := Lib.hid hlen'
  have HD := Lib.hid hD
  have HD' := Lib.hid hD'
  clear hs hs' hlen hlen' hD hD'
  by_cases hne : n = n'
  case neg =>
    have hd : ((n : Int) != (n' : Int)) = true := by simp; omega
    rw [dec_false (fun h : l = l' => hne (by rw [← HN.out, ← HN'.out, h]))]
    clear hne
    go_enter Try.func31, Try.ntmps31
    go_wp2_with fail
    go_ret
    exact ⟨rfl, Below.refl _ _⟩
  subst hne
  go_enter Try.func31, Try.ntmps31
  go_wp2_with fail
  go_loopw [5] (fun i wr => ∃ k : Nat, k ≤ n ∧ i = .int .i64 k ∧ Hid (∀ (j : Nat), j < k → l[j]? = l'[j]?) ∧ Below w.heap.size w wr) (fun i _ => n - (intOf i).toNat)
  case atStart => exact ⟨0, by omega, rfl, fun j h => by omega, Below.refl _ _⟩
  case round =>
    obtain ⟨k, hk, rfl, hsh, hbr⟩ := hrel
    have HB := Lib.hid hbr
    by_cases hkn : k < n
    · obtain ⟨b, off, y, rfl, hb, hy, hc, hlt⟩ := u64_at (Rp.sl_below HL.out hbr HD.out) hkn
      obtain ⟨b', off', z, rfl, hb', hz, hc', hlt'⟩ := u64_at (Rp.sl_below HL'.out hbr HD'.out) hkn
      have hd : decide ((k : Int) < (n : Int)) = true := by simp; omega
      have hk0 : (0 : Int) ≤ (k : Int) := by omega
      have hk1 : (k : Int) < (n : Int) := by omega
      have HY := Lib.hid hy
      have HZ := Lib.hid hz
      clear hy hz hbr
      by_cases hyz : y = z
      · have hq : ((y : Int) != (z : Int)) = false := by simp; omega
        have HYZ := Lib.hid hyz
        clear hyz
        go_wp2_with fail
        go_quiet (fail)
        go_wp2_with fail
        go_roundw
        case rel =>
          refine ⟨k + 1, by omega, by go_num, fun j hj => ?_, HB.out.trans ⟨rfl, rfl, rfl, Nat.le_refl _, fun _ _ => rfl⟩⟩
          rcases Nat.lt_or_ge j k with h | h
          · exact hsh.out j h
          · obtain rfl : j = k := by omega
            rw [HY.out, HZ.out, HYZ.out]
        case measure => simp [intOf]; omega
      · have hq : ((y : Int) != (z : Int)) = true := by simp; omega
        have hno := Lib.hid (show ¬ l = l' from fun h => hyz (by have h1 := HY.out; rw [h, HZ.out] at h1; injection h1 with h1; exact h1.symm))
        clear hyz
        go_wp2_with fail
        go_quiet (fail)
        go_wp2_with fail
        go_ret
        rw [dec_false hno.out]
        exact ⟨rfl, HB.out.trans ⟨rfl, rfl, rfl, Nat.le_refl _, fun _ _ => rfl⟩⟩
    · obtain rfl : k = n := by omega
      have hd : decide ((k : Int) < (k : Int)) = false := by simp
      clear hbr
      go_wp2_with fail
      go_ret
      have hyes : l = l' := List.ext_getElem? (fun j => by
        rcases Nat.lt_or_ge j k with h | h
        · exact hsh.out j h
        · rw [List.getElem?_eq_none (by rw [HN.out]; exact h), List.getElem?_eq_none (by rw [HN'.out]; exact h)])
      rw [dec_true hyes]
      exact ⟨rfl, HB.out⟩
section
variable {D D' : Dom} {A A' : Option Addr} {n c f t n' c' f' t' : Nat} {sets sets' : List (List Nat)} {w : World}
set_option maxRecDepth 100000 in
set_option maxHeartbeats 3000000 in
theorem rsame_any (hs : (rpSlice rpU64).sl w D A n c sets) (hs' : (rpSlice rpU64).sl w D' A' n' c' sets') (hD : ∀ k, D k → k < w.heap.size) (hD' : ∀ k, D' k → k < w.heap.size) :
    Calls Try.prog 43 #[.agg (stpV f t A n c), .agg (stpV f' t' A' n' c')] w fun e w' => e = .returned (.bool (dec ((f, t, sets) = (f', t', sets')))) ∧ Below w.heap.size w w' := by
  obtain ⟨hlen, hnc, hcm⟩ := Rp.sl_len hs
  obtain ⟨hlen', hnc', hcm'⟩ := Rp.sl_len hs'
  unfold maxLen at hcm hcm'
  have HA := Lib.hid (blk21 w 31 31 (stpV f t A n c) (stpV f' t' A' n' c'))
  have HB := Lib.hid (blk22 w 31 31 (stpV f t A n c) (stpV f' t' A' n' c'))
  have HZ := Lib.hid (below2 w (.cells (stpV f t A n c) 31) (.cells (stpV f' t' A' n' c') 31))
  have HS := Lib.hid hs
  have HS' := Lib.hid hs'
  have HD := Lib.hid hD
  have HD' := Lib.hid hD'
  have HN := Lib.hid hlen
  have HN' := Lib.hid hlen'
  clear hs hs' hD hD' hlen hlen'
  by_cases hf : f = f'
  case neg =>
    have q1 : ((f : Int) != (f' : Int)) = true := by simp; omega
    rw [dec_false (fun h : (f, t, sets) = (f', t', sets') => hf (by injection h))]
    clear hf
    go_enter Try.func43, Try.ntmps43
    go_wp2_with fail
    generalize World.alloc (World.alloc w _) _ = w0 at *
    have a0 := (show Blk w0 w.heap.size 31 _ from HA.out).cell 0
    have a1 := (show Blk w0 w.heap.size 31 _ from HA.out).cell 1
    have a2 := (show Blk w0 w.heap.size 31 _ from HA.out).cell 2
    have b0 := (show Blk w0 (w.heap.size + 1) 31 _ from HB.out).cell 0
    have b1 := (show Blk w0 (w.heap.size + 1) 31 _ from HB.out).cell 1
    have b2 := (show Blk w0 (w.heap.size + 1) 31 _ from HB.out).cell 2
    go_wp2_with fail
    go_ret
    exact ⟨rfl, HZ.out⟩
  subst hf
  have q1 : ((f : Int) != (f : Int)) = false := by simp
  by_cases ht : t = t'
  case neg =>
    have q2 : ((t : Int) != (t' : Int)) = true := by simp; omega
    rw [dec_false (fun h : (f, t, sets) = (f, t', sets') => ht (by injection h with _ h; injection h))]
    clear ht
    go_enter Try.func43, Try.ntmps43
    go_wp2_with fail
    generalize World.alloc (World.alloc w _) _ = w0 at *
    have a0 := (show Blk w0 w.heap.size 31 _ from HA.out).cell 0
    have a1 := (show Blk w0 w.heap.size 31 _ from HA.out).cell 1
    have a2 := (show Blk w0 w.heap.size 31 _ from HA.out).cell 2
    have b0 := (show Blk w0 (w.heap.size + 1) 31 _ from HB.out).cell 0
    have b1 := (show Blk w0 (w.heap.size + 1) 31 _ from HB.out).cell 1
    have b2 := (show Blk w0 (w.heap.size + 1) 31 _ from HB.out).cell 2
    go_wp2_with fail
    go_ret
    exact ⟨rfl, HZ.out⟩
  subst ht
  have q2 : ((t : Int) != (t : Int)) = false := by simp
  by_cases hn : n = n'
  case neg =>
    have q3 : ((n : Int) != (n' : Int)) = true := by simp; omega
    rw [dec_false (fun h : (f, t, sets) = (f, t, sets') => hn (by injection h with _ h; injection h with _ h; rw [← HN.out, ← HN'.out, h]))]
    clear hn
    go_enter Try.func43, Try.ntmps43
    go_wp2_with fail
    generalize World.alloc (World.alloc w _) _ = w0 at *
    have a0 := (show Blk w0 w.heap.size 31 _ from HA.out).cell 0
    have a1 := (show Blk w0 w.heap.size 31 _ from HA.out).cell 1
    have a2 := (show Blk w0 w.heap.size 31 _ from HA.out).cell 2
    have b0 := (show Blk w0 (w.heap.size + 1) 31 _ from HB.out).cell 0
    have b1 := (show Blk w0 (w.heap.size + 1) 31 _ from HB.out).cell 1
    have b2 := (show Blk w0 (w.heap.size + 1) 31 _ from HB.out).cell 2
    go_wp2_with fail
    go_ret
    exact ⟨rfl, HZ.out⟩
  subst hn
  have q3 : ((n : Int) != (n : Int)) = false := by simp
  go_enter Try.func43, Try.ntmps43
  go_wp2_with fail
  generalize World.alloc (World.alloc w _) _ = w0 at *
  have a0 := (show Blk w0 w.heap.size 31 _ from HA.out).cell 0
  have a1 := (show Blk w0 w.heap.size 31 _ from HA.out).cell 1
  have a2 := (show Blk w0 w.heap.size 31 _ from HA.out).cell 2
  have b0 := (show Blk w0 (w.heap.size + 1) 31 _ from HB.out).cell 0
  have b1 := (show Blk w0 (w.heap.size + 1) 31 _ from HB.out).cell 1
  have b2 := (show Blk w0 (w.heap.size + 1) 31 _ from HB.out).cell 2
  go_wp2_with fail
  clear a0 a1 a2 b0 b1 b2
  go_loopw [5] (fun i wr => ∃ k : Nat, k ≤ n ∧ i = .int .i64 k ∧ Hid (∀ (j : Nat), j < k → sets[j]? = sets'[j]?) ∧ Hid (Blk wr w.heap.size 31 (stpV f t A n c)) ∧ Hid (Blk wr (w.heap.size + 1) 31 (stpV f t A' n c')) ∧ Hid (Below w.heap.size w wr)) (fun i _ => n - (intOf i).toNat)
  case atStart => exact ⟨0, by omega, rfl, fun j h => by omega, HA.out, HB.out, HZ.out⟩
  case round =>
    clear HA HB HZ
    obtain ⟨k, hk, rfl, hsh, ha, hb, hbel⟩ := hrel
    by_cases hkn : k < n
    case pos =>
      obtain ⟨b1, off1, x, A1, c1, rfl, hb1, hx, hc1, hr1⟩ := rows_at (Rp.sl_below HS.out hbel.out HD.out) hkn
      obtain ⟨b2, off2, y, A2, c2, rfl, hb2, hy, hc2, hr2⟩ := rows_at (Rp.sl_below HS'.out hbel.out HD'.out) hkn
      have hz := hbel.out.size
      have hd : decide ((k : Int) < (n : Int)) = true := by simp; omega
      have hk0 : (0 : Int) ≤ (k : Int) := by omega
      have hk1 : (k : Int) < (n : Int) := by omega
      have hct := fun qq : Gr wr.heap.size wr => same5_any (Rp.sl_below hr1 qq.is (fun k hk => Nat.lt_of_lt_of_le (HD.out k hk) hz)) (Rp.sl_below hr2 qq.is (fun k hk => Nat.lt_of_lt_of_le (HD'.out k hk) hz)) (fun k hk => Nat.lt_of_lt_of_le (HD.out k hk) (Nat.le_trans hz qq.is.size)) (fun k hk => Nat.lt_of_lt_of_le (HD'.out k hk) (Nat.le_trans hz qq.is.size))
      have HX := Lib.hid hx
      have HY := Lib.hid hy
      have g2 := (show Blk wr w.heap.size 31 _ from ha.out).cell 2
      have g1 : ∀ qq : Gr wr.heap.size wr, qq.val.cell? ⟨w.heap.size, 2, none⟩ = _ := fun qq => (keepB (show Blk wr w.heap.size 31 _ from ha.out) qq.is).cell 2
      have g3 : ∀ qq : Gr wr.heap.size wr, qq.val.cell? ⟨w.heap.size + 1, 2, none⟩ = _ := fun qq => (keepB (show Blk wr (w.heap.size + 1) 31 _ from hb.out) qq.is).cell 2
      have g4 : ∀ qq : Gr wr.heap.size wr, qq.val.cell? ⟨b1, off1 + k, none⟩ = some (.slice A1 x.length c1) := fun qq => (qq.is.cell (p := ⟨b1, off1 + k, none⟩) (Nat.lt_of_lt_of_le (HD.out b1 hb1) hz)).trans hc1
      have g5 : ∀ qq : Gr wr.heap.size wr, qq.val.cell? ⟨b2, off2 + k, none⟩ = some (.slice A2 y.length c2) := fun qq => (qq.is.cell (p := ⟨b2, off2 + k, none⟩) (Nat.lt_of_lt_of_le (HD'.out b2 hb2) hz)).trans hc2
      clear hx hy hr1 hr2 hc1 hc2 hb1 hb2
      cases hm : dec (x = y)
      · rw [hm] at hct
        have HCT := Lib.hid hct
        have HM := Lib.hid (of_not_dec hm)
        clear hct hm
        go_wp2_with fail
        refine wp_region_grow (by kernel_rfl) (by kernel_rfl) wr.heap.size ?_
        repeat (quiet_step (((go_at_call 31; exact Gr.call _ (Nat.le_refl _) (HCT.out _)))))
        refine wpQuiet_nil ?_
        rintro w3 ⟨⟨_, hb3⟩, rfl⟩
        clear g1 g2 g3 g4 g5
        go_wp2_with fail
        go_ret
        rw [dec_false (fun h : (f, t, sets) = (f, t, sets') => HM.out (by injection h with _ h; injection h with _ h; have e1 := HX.out; rw [h, HY.out] at e1; injection e1 with e1; exact e1.symm))]
        exact ⟨rfl, stepB hbel.out hb3⟩
      · rw [hm] at hct
        have HCT := Lib.hid hct
        have HM := Lib.hid (of_dec hm)
        clear hct hm
        go_wp2_with fail
        refine wp_region_grow (by kernel_rfl) (by kernel_rfl) wr.heap.size ?_
        repeat (quiet_step (((go_at_call 31; exact Gr.call _ (Nat.le_refl _) (HCT.out _)))))
        refine wpQuiet_nil ?_
        rintro w3 ⟨⟨_, hb3⟩, rfl⟩
        clear g1 g2 g3 g4 g5
        go_wp2_with fail
        go_roundw
        case rel =>
          refine ⟨k + 1, by omega, by go_num, fun j hj => ?_, keepB ha.out hb3, keepB hb.out hb3, stepB hbel.out hb3⟩
          rcases Nat.lt_or_ge j k with h | h
          · exact hsh.out j h
          · obtain rfl : j = k := by omega
            rw [HX.out, HY.out, HM.out]
        case measure => simp [intOf]; omega
    case neg =>
      obtain rfl : k = n := by omega
      have hd : decide ((k : Int) < (k : Int)) = false := by simp
      have g2 := (show Blk wr w.heap.size 31 _ from ha.out).cell 2
      go_wp2_with fail
      go_ret
      have hyes : sets = sets' := List.ext_getElem? (fun j => by
        rcases Nat.lt_or_ge j k with h | h
        · exact hsh.out j h
        · rw [List.getElem?_eq_none (by rw [HN.out]; exact h), List.getElem?_eq_none (by rw [HN'.out]; exact h)])
      rw [dec_true (show (f, t, sets) = (f, t, sets') by rw [hyes])]
      exact ⟨rfl, hbel.out⟩
end
end Go.Proofs.Ytmdgmnaaopineaa
