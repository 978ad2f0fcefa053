/- locate.Pos; whether two lists of numbers are the same; in which stripe, by the reference. -/
import Derived.Test.YtmdgmnaaopineaaLoc3
namespace Go.Proofs.Ytmdgmnaaopineaa
open Go.ChangeShapes Go.WideShapes Go.ChangeAt Go.RowKit
set_option linter.unusedVariables false
section
variable {D : Dom} {A : Option Addr} {n c e : Nat} {l : List Stp} {w : World}
theorem pos_bad (r set : Int) (loc : Nat) (hs : rpStp.sl w D A n c l) (hD : ∀ k, D k → k < w.heap.size) (he : e ≤ 18446744073709551615) (hno : ¬ POk (e, l)) :
    Calls Try.prog 30 #[.agg (prjV e A n c), .int .i64 r, .int .i64 set, .int .u64 (loc : Int)] w fun en w' => en = .returned (.tuple #[.int .u64 0, .int .i64 3]) ∧ Below w.heap.size w w' := by
  have hb0 : Below w.heap.size w (w.alloc (.cells (prjV e A n c) 25)) := (Below.refl _ _).alloc (Nat.le_refl _) _
  have hr := pright_any (Rp.sl_below hs hb0 hD) (fun k hk => Nat.lt_of_lt_of_le (hD k hk) hb0.size) he
  rw [dec_false hno] at hr
  have HR := Lib.hid hr
  have HB0 := Lib.hid hb0
  clear hr hs hD hb0 hno
  go_enter Try.func30, Try.ntmps30
  go_wp2_with fail
  refine HR.out.mono ?_; rintro en w1 ⟨rfl, hb1⟩
  go_wp2_with fail
  go_ret2
  exact ⟨rfl, HB0.out.trans (hb1.mono HB0.out.size)⟩
set_option maxRecDepth 100000 in
theorem pos_any (r set : Int) (loc : Nat) (hs : rpStp.sl w D A n c l) (hD : ∀ k, D k → k < w.heap.size) (he : e ≤ 18446744073709551615) (hl : loc ≤ 18446744073709551615) (hok : POk (e, l)) (h0 : -9223372036854775808 ≤ r) (h1 : r ≤ 9223372036854775807) :
    Calls Try.prog 30 #[.agg (prjV e A n c), .int .i64 r, .int .i64 set, .int .u64 (loc : Int)] w fun en w' => en = .returned (.tuple #[.int .u64 ((posAt l r set loc).1 : Int), .int .i64 (if (posAt l r set loc).2 then 0 else 16)]) ∧ Below w.heap.size w w' := by
  obtain ⟨hlen, hnc, hcm⟩ := Rp.sl_len hs
  unfold maxLen at hcm
  subst hlen
  have hb0 : Below w.heap.size w (w.alloc (.cells (prjV e A l.length c) 25)) := (Below.refl _ _).alloc (Nat.le_refl _) _
  have hr := pright_any (Rp.sl_below hs hb0 hD) (fun k hk => Nat.lt_of_lt_of_le (hD k hk) hb0.size) he
  rw [dec_true hok] at hr
  have HR := Lib.hid hr
  have HB0 := Lib.hid hb0
  have HS := Lib.hid (Rp.sl_below hs hb0 hD)
  have HD := Lib.hid (fun k hk => Nat.lt_of_lt_of_le (hD k hk) hb0.size)
  have HK := Lib.hid (Blk.new w 25 (prjV e A l.length c))
  clear hr hs hD hb0 hok
  by_cases hin : 0 ≤ r ∧ r < l.length
  case neg =>
    rw [posAt_out (by omega)]
    have hc : r < 0 ∨ (0 ≤ r ∧ (l.length : Int) ≤ r) := by omega
    clear hin
    rcases hc with hc | ⟨hc, hc2⟩
    all_goals
      go_enter Try.func30, Try.ntmps30
      go_wp2_with fail
      generalize World.alloc w _ = w0 at *
      refine HR.out.mono ?_; rintro en w1 ⟨rfl, hb1⟩
      have hk := Blk.below (show Blk _ _ _ _ from HK.out) hb1 (show Blk _ _ _ _ from HK.out).lt
      have c1 : w1.cell? ⟨w.heap.size, 1, none⟩ = some (.slice A l.length c) := hk.cell 1
      have HB1 := Lib.hid hb1
      clear hb1 hk
      go_wp2_with fail
      go_ret2
      exact ⟨rfl, HB0.out.trans (HB1.out.mono HB0.out.size)⟩
  obtain ⟨hr0, hr1⟩ := hin
  obtain ⟨q, rfl⟩ : ∃ q : Nat, r = q := ⟨r.toNat, by omega⟩
  have hq : q < l.length := by omega
  obtain ⟨b, off, s, A2, c2, rfl, hb, hsk, g0, g1, g2, hrow, hs1, hs2⟩ := stps_at HS.out hq
  rw [posAt_in set loc hsk]
  have hbz := HD.out b hb
  have HROW := Lib.hid hrow
  obtain ⟨sf, hsf⟩ : ∃ sf, sf = s.1 := ⟨_, rfl⟩
  obtain ⟨st, hst⟩ : ∃ st, st = s.2.1 := ⟨_, rfl⟩
  obtain ⟨sn, hsn⟩ : ∃ sn, sn = s.2.2.length := ⟨_, rfl⟩
  obtain ⟨P, hP⟩ : ∃ P : Nat, P = (back s set loc).1 := ⟨_, rfl⟩
  obtain ⟨pb, hpb⟩ : ∃ pb : Bool, pb = (back s set loc).2 := ⟨_, rfl⟩
  have hbk : Hid (∀ w1 : World, Below (w.alloc (.cells (prjV e (some ⟨b, off, none⟩) l.length c) 25)).heap.size (w.alloc (.cells (prjV e (some ⟨b, off, none⟩) l.length c) 25)) w1 → Calls Try.prog 64 #[.agg (stpV sf st A2 sn c2), .int .i64 set, .int .u64 (loc : Int)] w1 fun en w' => en = .returned (.tuple #[.int .u64 (P : Int), .bool pb]) ∧ Below w1.heap.size w1 w') := fun w1 hb1 => by
    have := back_any (f := s.1) (t := s.2.1) set loc (Rp.sl_below HROW.out hb1 HD.out) (fun k hk => Nat.lt_of_lt_of_le (HD.out k hk) hb1.size) hs1 hs2 hl
    rw [hsf, hst, hsn, hP, hpb]
    exact this
  have hPz : Hid (pb = false → P = 0) := fun h => by
    rw [hpb] at h
    rw [hP]
    unfold back at *
    split at h
    · rw [if_pos ‹_›]
    · simp at h
  rw [← hsf] at g0
  rw [← hst] at g1
  rw [← hsn] at g2
  rw [← hP, ← hpb]
  clear hrow hsk hs1 hs2 hsf hst hsn hP hpb
  cases pb
  all_goals
    go_enter Try.func30, Try.ntmps30
    go_wp2_with fail
    generalize World.alloc w _ = w0 at *
    refine HR.out.mono ?_; rintro en w1 ⟨rfl, hb1⟩
    have hk := Blk.below (show Blk _ _ _ _ from HK.out) hb1 (show Blk _ _ _ _ from HK.out).lt
    have c1 : w1.cell? ⟨w.heap.size, 1, none⟩ = some (.slice (some ⟨b, off, none⟩) l.length c) := hk.cell 1
    have q0 := (hb1.cell (p := ⟨b, off + q * 3, none⟩) hbz).trans g0
    have q1 := (hb1.cell (p := ⟨b, off + q * 3 + 1, none⟩) hbz).trans g1
    have q2 := (hb1.cell (p := ⟨b, off + q * 3 + 2, none⟩) hbz).trans g2
    have HB1 := Lib.hid hb1
    clear hb1 hk g0 g1 g2
    go_wp2_with fail
    refine (hbk.out _ HB1.out).mono ?_; rintro en w2 ⟨rfl, hb2⟩
    clear c1 q0 q1 q2
    go_wp2_with fail
    go_ret2
    exact ⟨by first | (simp; done) | (rw [hPz.out (by simp)]; simp), HB0.out.trans ((HB1.out.trans (hb2.mono HB1.out.size)).mono HB0.out.size)⟩
end
theorem same05_any {D D' : Dom} {A A' : Option Addr} {n c n' c' : Nat} {l l' : List Nat} {w : World} (hs : rpU64.sl w D A n c l) (hs' : rpU64.sl w D' A' n' c' l') (hD : ∀ k, D k → k < w.heap.size) (hD' : ∀ k, D' k → k < w.heap.size) :
    Calls Try.prog 31 #[.slice A n c, .slice A' n' c'] w fun en w' => en = .returned (.bool (dec (l = l'))) ∧ Below w.heap.size w w' := by
  obtain ⟨hlen, hnc, hcm⟩ := Rp.sl_len hs
  obtain ⟨hlen', hnc', hcm'⟩ := Rp.sl_len hs'
  unfold maxLen at hcm hcm'
  have HL := Lib.hid hs
  have HL' := Lib.hid hs'
  have HN := Lib.hid hlen
  have HN' := Lib.hid hlen'
  have HD := Lib.hid hD
  have HD' := Lib.hid hD'
  clear hs hs' hlen hlen' hD hD'
  by_cases hne : n = n'
  case neg =>
    have hd : ((n : Int) != (n' : Int)) = true := by simp; omega
    rw [dec_false (fun h : l = l' => hne (by rw [← HN.out, ← HN'.out, h]))]
    clear hne
    go_enter Try.func31, Try.ntmps31
    go_wp2_with fail
    go_ret
    exact ⟨rfl, Below.refl _ _⟩
  subst hne
  go_enter Try.func31, Try.ntmps31
  go_wp2_with fail
  go_loopw [5] (fun i wr => ∃ k : Nat, k ≤ n ∧ i = .int .i64 k ∧ Hid (∀ (j : Nat), j < k → l[j]? = l'[j]?) ∧ Below w.heap.size w wr) (fun i _ => n - (intOf i).toNat)
  case atStart => exact ⟨0, by omega, rfl, fun j h => by omega, Below.refl _ _⟩
  case round =>
    obtain ⟨k, hk, rfl, hsh, hbr⟩ := hrel
    have HB := Lib.hid hbr
    by_cases hkn : k < n
    · obtain ⟨b, off, y, rfl, hb, hy, hc, hlt⟩ := u64_at (Rp.sl_below HL.out hbr HD.out) hkn
      obtain ⟨b', off', z, rfl, hb', hz, hc', hlt'⟩ := u64_at (Rp.sl_below HL'.out hbr HD'.out) hkn
      have hd : decide ((k : Int) < (n : Int)) = true := by simp; omega
      have hk0 : (0 : Int) ≤ (k : Int) := by omega
      have hk1 : (k : Int) < (n : Int) := by omega
      have HY := Lib.hid hy
      have HZ := Lib.hid hz
      clear hy hz hbr
      by_cases hyz : y = z
      · have hq : ((y : Int) != (z : Int)) = false := by simp; omega
        have HYZ := Lib.hid hyz
        clear hyz
        go_wp2_with fail
        go_quiet (fail)
        go_wp2_with fail
        go_roundw
        case rel =>
          refine ⟨k + 1, by omega, by go_num, fun j hj => ?_, HB.out.trans ⟨rfl, rfl, rfl, Nat.le_refl _, fun _ _ => rfl⟩⟩
          rcases Nat.lt_or_ge j k with h | h
          · exact hsh.out j h
          · obtain rfl : j = k := by omega
            rw [HY.out, HZ.out, HYZ.out]
        case measure => simp [intOf]; omega
      · have hq : ((y : Int) != (z : Int)) = true := by simp; omega
        have hno := Lib.hid (show ¬ l = l' from fun h => hyz (by have h1 := HY.out; rw [h, HZ.out] at h1; injection h1 with h1; exact h1.symm))
        clear hyz
        go_wp2_with fail
        go_quiet (fail)
        go_wp2_with fail
        go_ret
        rw [dec_false hno.out]
        exact ⟨rfl, HB.out.trans ⟨rfl, rfl, rfl, Nat.le_refl _, fun _ _ => rfl⟩⟩
    · obtain rfl : k = n := by omega
      have hd : decide ((k : Int) < (k : Int)) = false := by simp
      clear hbr
      go_wp2_with fail
      go_ret
      have hyes : l = l' := List.ext_getElem? (fun j => by
        rcases Nat.lt_or_ge j k with h | h
        · exact hsh.out j h
        · rw [List.getElem?_eq_none (by rw [HN.out]; exact h), List.getElem?_eq_none (by rw [HN'.out]; exact h)])
      rw [dec_true hyes]
      exact ⟨rfl, HB.out⟩
end Go.Proofs.Ytmdgmnaaopineaa
