/- Whether two links, entries, batches are the same, by the references. -/
import Derived.Test.YtcbmnfjbmkpfiaaPkJ
import Derived.Lib.ConvBytes
namespace Go.Proofs.Ytcbmnfjbmkpfiaa
open Go.ChangeShapes Go.WideShapes Go.ChangeAt Go.RowKit
set_option linter.unusedVariables false
theorem same2_any (A A' : Option Addr) (n c n' c' : Nat) (l l' : List UInt8) (D D' : Dom) (w : World) (hl : rpU8.sl w D A n c l) (hl' : rpU8.sl w D' A' n' c' l') :
    Calls Try.prog 57 #[.slice A n c, .slice A' n' c'] w fun e w' => e = .returned (.bool (dec (l = l'))) ∧ w = w' := by
  have h1 := run_bytes_string (P := Try.prog) hl 43 9 5 Try.underlying43 Try.underlying5 Try.underlying9
  have h2 := run_bytes_string (P := Try.prog) hl' 43 9 5 Try.underlying43 Try.underlying5 Try.underlying9
  have he : Hid ((l == l') = dec (l = l')) := by
    show _ = _
    by_cases h : l = l'
    · rw [dec_true h]; simp [h]
    · rw [dec_false h]; simp [h]
  go_enter Try.func57, Try.ntmps57
  go_wp2
  go_ret
  exact ⟨by rw [← he.out]; rfl, rfl⟩
theorem same5_any {D D' : Dom} {A A' : Option Addr} {n c n' c' : Nat} {l l' : List Nat} {w : World} (hs : rpU64.sl w D A n c l) (hs' : rpU64.sl w D' A' n' c' l') (hD : ∀ k, D k → k < w.heap.size) (hD' : ∀ k, D' k → k < w.heap.size) :
    Calls Try.prog 24 #[.slice A n c, .slice A' n' c'] w fun en w' => en = .returned (.bool (dec (l = l'))) ∧ Below w.heap.size w w' := by
  obtain ⟨hlen, hnc, hcm⟩ := Rp.sl_len hs
  obtain ⟨hlen', hnc', hcm'⟩ := Rp.sl_len hs'
  unfold maxLen at hcm hcm'
  have HL := Lib.hid hs
  have HL' := Lib.hid hs'
  have HN := Lib.hid hlen
  have HN' := Lib.hid hlen'
  have HD := Lib.hid hD
  have HD' := Lib.hid hD'
  clear hs hs' hlen hlen' hD hD'
  by_cases hne : n = n'
  case neg =>
    have hd : ((n : Int) != (n' : Int)) = true := by simp; omega
    rw [dec_false (fun h : l = l' => hne (by rw [← HN.out, ← HN'.out, h]))]
    clear hne
    go_enter Try.func24, Try.ntmps24
    go_wp2_with fail
    go_ret
    exact ⟨rfl, Below.refl _ _⟩
  subst hne
  go_enter Try.func24, Try.ntmps24
  go_wp2_with fail
  go_loopw [5] (fun i wr => ∃ k : Nat, k ≤ n ∧ i = .int .i64 k ∧ Hid (∀ (j : Nat), j < k → l[j]? = l'[j]?) ∧ Below w.heap.size w wr) (fun i _ => n - (intOf i).toNat)
  case atStart => exact ⟨0, by omega, rfl, fun j h => by omega, Below.refl _ _⟩
  case round =>
    obtain ⟨k, hk, rfl, hsh, hbr⟩ := hrel
    have HB := Lib.hid hbr
    by_cases hkn : k < n
    · obtain ⟨b, off, y, rfl, hb, hy, hc, hlt⟩ := u64_at (Rp.sl_below HL.out hbr HD.out) hkn
      obtain ⟨b', off', z, rfl, hb', hz, hc', hlt'⟩ := u64_at (Rp.sl_below HL'.out hbr HD'.out) hkn
      have hd : decide ((k : Int) < (n : Int)) = true := by simp; omega
      have hk0 : (0 : Int) ≤ (k : Int) := by omega
      have hk1 : (k : Int) < (n : Int) := by omega
      have HY := Lib.hid hy
      have HZ := Lib.hid hz
      clear hy hz hbr
      by_cases hyz : y = z
      · have hq : ((y : Int) != (z : Int)) = false := by simp; omega
        have HYZ := Lib.hid hyz
        clear hyz
        go_wp2_with fail
        go_quiet (fail)
        go_wp2_with fail
        go_roundw
        case rel =>
          refine ⟨k + 1, by omega, by go_num, fun j hj => ?_, HB.out.trans ⟨rfl, rfl, rfl, Nat.le_refl _, fun _ _ => rfl⟩⟩
          rcases Nat.lt_or_ge j k with h | h
          · exact hsh.out j h
          · obtain rfl : j = k := by omega
            rw [HY.out, HZ.out, HYZ.out]
        case measure => simp [intOf]; omega
      · have hq : ((y : Int) != (z : Int)) = true := by simp; omega
        have hno := Lib.hid (show ¬ l = l' from fun h => hyz (by have h1 := HY.out; rw [h, HZ.out] at h1; injection h1 with h1; exact h1.symm))
        clear hyz
        go_wp2_with fail
        go_quiet (fail)
        go_wp2_with fail
        go_ret
        rw [dec_false hno.out]
        exact ⟨rfl, HB.out.trans ⟨rfl, rfl, rfl, Nat.le_refl _, fun _ _ => rfl⟩⟩
    · obtain rfl : k = n := by omega
      have hd : decide ((k : Int) < (k : Int)) = false := by simp
      clear hbr
      go_wp2_with fail
      go_ret
      have hyes : l = l' := List.ext_getElem? (fun j => by
        rcases Nat.lt_or_ge j k with h | h
        · exact hsh.out j h
        · rw [List.getElem?_eq_none (by rw [HN.out]; exact h), List.getElem?_eq_none (by rw [HN'.out]; exact h)])
      rw [dec_true hyes]
      exact ⟨rfl, HB.out⟩
section
variable {D D' : Dom} {A A' : Option Addr} {n c n' c' s s' : Nat} {l l' : List Nat} {w : World}
theorem one_any (hs : rpU64.sl w D A n c l) (hs' : rpU64.sl w D' A' n' c' l') (hD : ∀ k, D k → k < w.heap.size) (hD' : ∀ k, D' k → k < w.heap.size) :
    Calls Try.prog 44 #[.agg (lkV s A n c), .agg (lkV s' A' n' c')] w fun en w' => en = .returned (.bool (dec ((s, l) = (s', l')))) ∧ Below w.heap.size w w' := by
  have hb := below2 w (.cells (lkV s A n c) 57) (.cells (lkV s' A' n' c') 57)
  have HZ := Lib.hid hb
  have HA := Lib.hid (blk21 w 57 57 (lkV s A n c) (lkV s' A' n' c'))
  have HB := Lib.hid (blk22 w 57 57 (lkV s A n c) (lkV s' A' n' c'))
  have HC := Lib.hid (same5_any (Rp.sl_below hs hb hD) (Rp.sl_below hs' hb hD') (fun k hk => Nat.lt_of_lt_of_le (hD k hk) hb.size) (fun k hk => Nat.lt_of_lt_of_le (hD' k hk) hb.size))
  clear hs hs' hD hD' hb
  by_cases he : s = s'
  case neg =>
    have q1 : ((s : Int) == (s' : Int)) = false := by simp; omega
    rw [dec_false (fun h : (s, l) = (s', l') => he (by injection h))]
    clear he
    go_enter Try.func44, Try.ntmps44
    go_upto_region 1 with (fail)
    generalize World.alloc (World.alloc w _) _ = w0 at *
    have a0 := (show Blk w0 w.heap.size 57 _ from HA.out).cell 0
    have b0 := (show Blk w0 (w.heap.size + 1) 57 _ from HB.out).cell 0
    go_wp2_with fail
    go_ret
    exact ⟨rfl, HZ.out⟩
  subst he
  have q1 : ((s : Int) == (s : Int)) = true := by simp
  obtain ⟨q, hq⟩ : ∃ q, dec (l = l') = q := ⟨_, rfl⟩
  have HE : Hid (dec ((s, l) = (s, l')) = q) := by
    show _ = _
    rw [← hq]
    by_cases h : l = l'
    · rw [dec_true h, dec_true (by rw [h])]
    · rw [dec_false h, dec_false (fun e => h (by injection e))]
  rw [HE.out]
  have hc2 := HC.out
  rw [hq] at hc2
  have HC2 := Lib.hid hc2
  clear hc2
  clear HC HE hq
  go_enter Try.func44, Try.ntmps44
  go_upto_region 1 with (fail)
  generalize World.alloc (World.alloc w _) _ = w0 at *
  have a0 := (show Blk w0 w.heap.size 57 _ from HA.out).cell 0
  have b0 := (show Blk w0 (w.heap.size + 1) 57 _ from HB.out).cell 0
  have a1 := (show Blk w0 w.heap.size 57 _ from HA.out).cell 1
  have b1 := (show Blk w0 (w.heap.size + 1) 57 _ from HB.out).cell 1
  go_wp2_with fail
  refine HC2.out.mono ?_; rintro en w1 ⟨rfl, hb1⟩
  have HB1 := Lib.hid (stepB HZ.out hb1)
  clear a0 b0 a1 b1 hb1
  go_wp2_with fail
  go_ret
  exact ⟨rfl, HB1.out⟩
end
section
variable {D D' : Dom} {A A' : Option Addr} {n c n' c' : Nat} {l l' : List Lnk} {w : World}
set_option maxRecDepth 100000 in
set_option maxHeartbeats 4000000 in
theorem lsame_any (hs : rpLnk.sl w D A n c l) (hs' : rpLnk.sl w D' A' n' c' l') (hD : ∀ k, D k → k < w.heap.size) (hD' : ∀ k, D' k → k < w.heap.size) :
    Calls Try.prog 16 #[.slice A n c, .slice A' n' c'] w fun en w' => en = .returned (.bool (dec (l = l'))) ∧ Below w.heap.size w w' := by
  obtain ⟨hlen, hnc, hcm⟩ := Rp.sl_len hs
  obtain ⟨hlen', hnc', hcm'⟩ := Rp.sl_len hs'
  unfold maxLen at hcm hcm'
  have HS := Lib.hid (show Sl rpLnk w D A n c l from ⟨hs, hD⟩)
  have HS' := Lib.hid (show Sl rpLnk w D' A' n' c' l' from ⟨hs', hD'⟩)
  have HN := Lib.hid hlen
  have HN' := Lib.hid hlen'
  clear hs hs' hlen hlen' hD hD'
  by_cases hne : n = n'
  case neg =>
    have hd : ((n : Int) != (n' : Int)) = true := by simp; omega
    rw [dec_false (fun h : l = l' => hne (by rw [← HN.out, ← HN'.out, h]))]
    clear hne
    go_enter Try.func16, Try.ntmps16
    go_wp2_with fail
    go_ret
    exact ⟨rfl, Below.refl _ _⟩
  subst hne
  go_enter Try.func16, Try.ntmps16
  go_wp2_with fail
  go_loopw [5] (fun i wr => ∃ k : Nat, k ≤ n ∧ i = .int .i64 k ∧ Hid (∀ (j : Nat), j < k → l[j]? = l'[j]?) ∧ Hid (Below w.heap.size w wr)) (fun i _ => n - (intOf i).toNat)
  case atStart => exact ⟨0, by omega, rfl, fun j h => by omega, Below.refl _ _⟩
  case round =>
    obtain ⟨k, hk, rfl, hsh, hbel⟩ := hrel
    by_cases hkn : k < n
    case pos =>
      have hsr := keepS HS.out hbel.out
      have hsr' := keepS HS'.out hbel.out
      obtain ⟨b1, off1, x, A1, c1, rfl, hb1, hx, g10, g11, hr1, hs1⟩ := lnk_at hsr.1 hkn
      obtain ⟨b2, off2, y, A2, c2, rfl, hb2, hy, g20, g21, hr2, ht1⟩ := lnk_at hsr'.1 hkn
      have hl1 := hsr.2 _ hb1
      have hl2 := hsr'.2 _ hb2
      have hd : decide ((k : Int) < (n : Int)) = true := by simp; omega
      have hk0 : (0 : Int) ≤ (k : Int) := by omega
      have hk1 : (k : Int) < (n : Int) := by omega
      have HX := Lib.hid hx
      have HY := Lib.hid hy
      have hct := fun qq : Gr wr.heap.size wr => one_any (s := x.1) (s' := y.1) (Rp.sl_below hr1 qq.is hsr.2) (Rp.sl_below hr2 qq.is hsr'.2) (fun k hk => Nat.lt_of_lt_of_le (hsr.2 k hk) qq.is.size) (fun k hk => Nat.lt_of_lt_of_le (hsr'.2 k hk) qq.is.size)
      have p0 : ∀ qq : Gr wr.heap.size wr, qq.val.cell? ⟨b1, off1 + k * 2, none⟩ = some (.int .u64 (x.1 : Int)) := fun qq => (qq.is.cell (p := ⟨b1, off1 + k * 2, none⟩) hl1).trans g10
      have p1 : ∀ qq : Gr wr.heap.size wr, qq.val.cell? ⟨b1, off1 + k * 2 + 1, none⟩ = some (.slice A1 x.2.length c1) := fun qq => (qq.is.cell (p := ⟨b1, off1 + k * 2 + 1, none⟩) hl1).trans g11
      have q0 : ∀ qq : Gr wr.heap.size wr, qq.val.cell? ⟨b2, off2 + k * 2, none⟩ = some (.int .u64 (y.1 : Int)) := fun qq => (qq.is.cell (p := ⟨b2, off2 + k * 2, none⟩) hl2).trans g20
      have q1 : ∀ qq : Gr wr.heap.size wr, qq.val.cell? ⟨b2, off2 + k * 2 + 1, none⟩ = some (.slice A2 y.2.length c2) := fun qq => (qq.is.cell (p := ⟨b2, off2 + k * 2 + 1, none⟩) hl2).trans g21
      clear hx hy hb1 hb2 hsr hsr' hr1 hr2 g10 g11 g20 g21 hs1 ht1
      cases hm : dec (x = y)
      case false =>
        rw [hm] at hct
        have HCT := Lib.hid hct
        have HM := Lib.hid (of_not_dec hm)
        clear hct hm
        go_wp2_with fail
        refine wp_region_grow (by kernel_rfl) (by kernel_rfl) wr.heap.size ?_
        repeat (quiet_step (((go_at_call 44; exact Gr.call _ (Nat.le_refl _) (HCT.out _)))))
        refine wpQuiet_nil ?_
        rintro w3 ⟨⟨_, hb3⟩, rfl⟩
        clear p0 p1 q0 q1
        go_wp2_with fail
        go_ret
        rw [dec_false (fun h : l = l' => HM.out (by have e1 := HX.out; rw [h, HY.out] at e1; injection e1 with e1; exact e1.symm))]
        exact ⟨rfl, stepB hbel.out hb3⟩
      case true =>
        rw [hm] at hct
        have HCT := Lib.hid hct
        have HM := Lib.hid (of_dec hm)
        clear hct hm
        go_wp2_with fail
        refine wp_region_grow (by kernel_rfl) (by kernel_rfl) wr.heap.size ?_
        repeat (quiet_step (((go_at_call 44; exact Gr.call _ (Nat.le_refl _) (HCT.out _)))))
        refine wpQuiet_nil ?_
        rintro w3 ⟨⟨_, hb3⟩, rfl⟩
        clear p0 p1 q0 q1
        go_wp2_with fail
        go_roundw
        case rel =>
          refine ⟨k + 1, by omega, by go_num, fun j hj => ?_, stepB hbel.out hb3⟩
          rcases Nat.lt_or_ge j k with h | h
          · exact hsh.out j h
          · obtain rfl : j = k := by omega
            rw [HX.out, HY.out, HM.out]
        case measure => simp [intOf]; omega
    case neg =>
      obtain rfl : k = n := by omega
      have hd : decide ((k : Int) < (k : Int)) = false := by simp
      go_wp2_with fail
      go_ret
      have hyes : l = l' := List.ext_getElem? (fun j => by
        rcases Nat.lt_or_ge j k with h | h
        · exact hsh.out j h
        · rw [List.getElem?_eq_none (by rw [HN.out]; exact h), List.getElem?_eq_none (by rw [HN'.out]; exact h)])
      rw [dec_true hyes]
      exact ⟨rfl, hbel.out⟩
end
section
variable {D D' E E' : Dom} {A A' B B' : Option Addr} {n c n' c' m d m' d' : Nat} {L L' : List Lnk} {x x' : List UInt8} {w : World}
theorem esame_any (hs : rpLnk.sl w D A n c L) (hs' : rpLnk.sl w D' A' n' c' L') (hD : ∀ k, D k → k < w.heap.size) (hD' : ∀ k, D' k → k < w.heap.size) (hx : rpU8.sl w E B m d x) (hx' : rpU8.sl w E' B' m' d' x') (hE : ∀ k, E k → k < w.heap.size) (hE' : ∀ k, E' k → k < w.heap.size) :
    Calls Try.prog 23 #[.agg (entV A n c B m d), .agg (entV A' n' c' B' m' d')] w fun en w' => en = .returned (.bool (dec ((L, x) = (L', x')))) ∧ Below w.heap.size w w' := by
  have hb := below2 w (.cells (entV A n c B m d) 45) (.cells (entV A' n' c' B' m' d') 45)
  have HZ := Lib.hid hb
  have HA := Lib.hid (blk21 w 45 45 (entV A n c B m d) (entV A' n' c' B' m' d'))
  have HB := Lib.hid (blk22 w 45 45 (entV A n c B m d) (entV A' n' c' B' m' d'))
  have hc := lsame_any (Rp.sl_below hs hb hD) (Rp.sl_below hs' hb hD') (fun k hk => Nat.lt_of_lt_of_le (hD k hk) hb.size) (fun k hk => Nat.lt_of_lt_of_le (hD' k hk) hb.size)
  have HX := Lib.hid (keepS (show Sl rpU8 w E B m d x from ⟨hx, hE⟩) hb)
  have HX' := Lib.hid (keepS (show Sl rpU8 w E' B' m' d' x' from ⟨hx', hE'⟩) hb)
  clear hs hs' hD hD' hb hx hx' hE hE'
  by_cases he : L = L'
  case neg =>
    rw [dec_false (fun h : (L, x) = (L', x') => he (by injection h))]
    rw [dec_false he] at hc
    have HC := Lib.hid hc
    clear he hc
    go_enter Try.func23, Try.ntmps23
    go_upto_region 1 with (fail)
    generalize World.alloc (World.alloc w _) _ = w0 at *
    have a0 := (show Blk w0 w.heap.size 45 _ from HA.out).cell 0
    have b0 := (show Blk w0 (w.heap.size + 1) 45 _ from HB.out).cell 0
    go_wp2_with fail
    refine HC.out.mono ?_; rintro en w1 ⟨rfl, hb1⟩
    have HB1 := Lib.hid (stepB HZ.out hb1)
    clear a0 b0 hb1
    go_wp2_with fail
    go_ret
    exact ⟨rfl, HB1.out⟩
  rw [dec_true he] at hc
  have HC := Lib.hid hc
  subst he
  obtain ⟨q, hq⟩ : ∃ q, dec (x = x') = q := ⟨_, rfl⟩
  have HQ := Lib.hid hq
  have HE : Hid (dec ((L, x) = (L, x')) = q) := by
    show _ = _
    rw [← hq]
    by_cases h : x = x'
    · rw [dec_true h, dec_true (by rw [h])]
    · rw [dec_false h, dec_false (fun e => h (by injection e))]
  rw [HE.out]
  clear hc HE hq
  go_enter Try.func23, Try.ntmps23
  go_upto_region 1 with (fail)
  generalize World.alloc (World.alloc w _) _ = w0 at *
  have a0 := (show Blk w0 w.heap.size 45 _ from HA.out).cell 0
  have b0 := (show Blk w0 (w.heap.size + 1) 45 _ from HB.out).cell 0
  go_wp2_with fail
  refine HC.out.mono ?_; rintro en w1 ⟨rfl, hb1⟩
  have a1 := (keepB (show Blk w0 w.heap.size 45 _ from HA.out) hb1).cell 1
  have b1 := (keepB (show Blk w0 (w.heap.size + 1) 45 _ from HB.out) hb1).cell 1
  have HB1 := Lib.hid (stepB HZ.out hb1)
  have hc2 := same2_any _ _ _ _ _ _ _ _ _ _ w1 (keepS HX.out hb1).1 (keepS HX'.out hb1).1
  rw [HQ.out] at hc2
  have HC2 := Lib.hid hc2
  clear a0 b0 hb1 hc2
  go_wp2_with fail
  refine HC2.out.mono ?_; rintro en w2 ⟨rfl, rfl⟩
  clear a1 b1
  go_wp2_with fail
  go_ret
  exact ⟨rfl, HB1.out⟩
end
section
variable {D D' : Dom} {A A' : Option Addr} {n c n' c' : Nat} {l l' : List Ent} {w : World}
set_option maxRecDepth 100000 in
set_option maxHeartbeats 4000000 in
theorem esall_any (hs : rpEnt.sl w D A n c l) (hs' : rpEnt.sl w D' A' n' c' l') (hD : ∀ k, D k → k < w.heap.size) (hD' : ∀ k, D' k → k < w.heap.size) :
    Calls Try.prog 19 #[.slice A n c, .slice A' n' c'] w fun en w' => en = .returned (.bool (dec (l = l'))) ∧ Below w.heap.size w w' := by
  obtain ⟨hlen, hnc, hcm⟩ := Rp.sl_len hs
  obtain ⟨hlen', hnc', hcm'⟩ := Rp.sl_len hs'
  unfold maxLen at hcm hcm'
  have HS := Lib.hid (show Sl rpEnt w D A n c l from ⟨hs, hD⟩)
  have HS' := Lib.hid (show Sl rpEnt w D' A' n' c' l' from ⟨hs', hD'⟩)
  have HN := Lib.hid hlen
  have HN' := Lib.hid hlen'
  clear hs hs' hlen hlen' hD hD'
  by_cases hne : n = n'
  case neg =>
    have hd : ((n : Int) != (n' : Int)) = true := by simp; omega
    rw [dec_false (fun h : l = l' => hne (by rw [← HN.out, ← HN'.out, h]))]
    clear hne
    go_enter Try.func19, Try.ntmps19
    go_wp2_with fail
    go_ret
    exact ⟨rfl, Below.refl _ _⟩
  subst hne
  go_enter Try.func19, Try.ntmps19
  go_wp2_with fail
  go_loopw [5] (fun i wr => ∃ k : Nat, k ≤ n ∧ i = .int .i64 k ∧ Hid (∀ (j : Nat), j < k → l[j]? = l'[j]?) ∧ Hid (Below w.heap.size w wr)) (fun i _ => n - (intOf i).toNat)
  case atStart => exact ⟨0, by omega, rfl, fun j h => by omega, Below.refl _ _⟩
  case round =>
    obtain ⟨k, hk, rfl, hsh, hbel⟩ := hrel
    by_cases hkn : k < n
    case pos =>
      have hsr := keepS HS.out hbel.out
      have hsr' := keepS HS'.out hbel.out
      obtain ⟨b1, off1, x, A1, c1, B1, d1, rfl, hb1, hx, g10, g11, hr1, hs1⟩ := ent_at hsr.1 hkn
      obtain ⟨b2, off2, y, A2, c2, B2, d2, rfl, hb2, hy, g20, g21, hr2, ht1⟩ := ent_at hsr'.1 hkn
      have hl1 := hsr.2 _ hb1
      have hl2 := hsr'.2 _ hb2
      have hd : decide ((k : Int) < (n : Int)) = true := by simp; omega
      have hk0 : (0 : Int) ≤ (k : Int) := by omega
      have hk1 : (k : Int) < (n : Int) := by omega
      have HX := Lib.hid hx
      have HY := Lib.hid hy
      have hct := fun qq : Gr wr.heap.size wr => esame_any (Rp.sl_below hr1 qq.is hsr.2) (Rp.sl_below hr2 qq.is hsr'.2) (fun k hk => Nat.lt_of_lt_of_le (hsr.2 k hk) qq.is.size) (fun k hk => Nat.lt_of_lt_of_le (hsr'.2 k hk) qq.is.size) (Rp.sl_below hs1 qq.is hsr.2) (Rp.sl_below ht1 qq.is hsr'.2) (fun k hk => Nat.lt_of_lt_of_le (hsr.2 k hk) qq.is.size) (fun k hk => Nat.lt_of_lt_of_le (hsr'.2 k hk) qq.is.size)
      have p0 : ∀ qq : Gr wr.heap.size wr, qq.val.cell? ⟨b1, off1 + k * 2, none⟩ = some (.slice A1 x.1.length c1) := fun qq => (qq.is.cell (p := ⟨b1, off1 + k * 2, none⟩) hl1).trans g10
      have p1 : ∀ qq : Gr wr.heap.size wr, qq.val.cell? ⟨b1, off1 + k * 2 + 1, none⟩ = some (.slice B1 x.2.length d1) := fun qq => (qq.is.cell (p := ⟨b1, off1 + k * 2 + 1, none⟩) hl1).trans g11
      have q0 : ∀ qq : Gr wr.heap.size wr, qq.val.cell? ⟨b2, off2 + k * 2, none⟩ = some (.slice A2 y.1.length c2) := fun qq => (qq.is.cell (p := ⟨b2, off2 + k * 2, none⟩) hl2).trans g20
      have q1 : ∀ qq : Gr wr.heap.size wr, qq.val.cell? ⟨b2, off2 + k * 2 + 1, none⟩ = some (.slice B2 y.2.length d2) := fun qq => (qq.is.cell (p := ⟨b2, off2 + k * 2 + 1, none⟩) hl2).trans g21
      clear hx hy hb1 hb2 hsr hsr' hr1 hr2 g10 g11 g20 g21 hs1 ht1
      cases hm : dec (x = y)
      case false =>
        rw [hm] at hct
        have HCT := Lib.hid hct
        have HM := Lib.hid (of_not_dec hm)
        clear hct hm
        go_wp2_with fail
        refine wp_region_grow (by kernel_rfl) (by kernel_rfl) wr.heap.size ?_
        repeat (quiet_step (((go_at_call 23; exact Gr.call _ (Nat.le_refl _) (HCT.out _)))))
        refine wpQuiet_nil ?_
        rintro w3 ⟨⟨_, hb3⟩, rfl⟩
        clear p0 p1 q0 q1
        go_wp2_with fail
        go_ret
        rw [dec_false (fun h : l = l' => HM.out (by have e1 := HX.out; rw [h, HY.out] at e1; injection e1 with e1; exact e1.symm))]
        exact ⟨rfl, stepB hbel.out hb3⟩
      case true =>
        rw [hm] at hct
        have HCT := Lib.hid hct
        have HM := Lib.hid (of_dec hm)
        clear hct hm
        go_wp2_with fail
        refine wp_region_grow (by kernel_rfl) (by kernel_rfl) wr.heap.size ?_
        repeat (quiet_step (((go_at_call 23; exact Gr.call _ (Nat.le_refl _) (HCT.out _)))))
        refine wpQuiet_nil ?_
        rintro w3 ⟨⟨_, hb3⟩, rfl⟩
        clear p0 p1 q0 q1
        go_wp2_with fail
        go_roundw
        case rel =>
          refine ⟨k + 1, by omega, by go_num, fun j hj => ?_, stepB hbel.out hb3⟩
          rcases Nat.lt_or_ge j k with h | h
          · exact hsh.out j h
          · obtain rfl : j = k := by omega
            rw [HX.out, HY.out, HM.out]
        case measure => simp [intOf]; omega
    case neg =>
      obtain rfl : k = n := by omega
      have hd : decide ((k : Int) < (k : Int)) = false := by simp
      go_wp2_with fail
      go_ret
      have hyes : l = l' := List.ext_getElem? (fun j => by
        rcases Nat.lt_or_ge j k with h | h
        · exact hsh.out j h
        · rw [List.getElem?_eq_none (by rw [HN.out]; exact h), List.getElem?_eq_none (by rw [HN'.out]; exact h)])
      rw [dec_true hyes]
      exact ⟨rfl, hbel.out⟩
end
section
variable {D D' : Dom} {A A' : Option Addr} {n c n' c' ep b ep' b' : Nat} {l l' : List Ent} {w : World}
theorem bsame_any (hs : rpEnt.sl w D A n c l) (hs' : rpEnt.sl w D' A' n' c' l') (hD : ∀ k, D k → k < w.heap.size) (hD' : ∀ k, D' k → k < w.heap.size) :
    Calls Try.prog 11 #[.agg (batV ep b A n c), .agg (batV ep' b' A' n' c')] w fun en w' => en = .returned (.bool (dec ((ep, b, l) = (ep', b', l')))) ∧ Below w.heap.size w w' := by
  have hb := below2 w (.cells (batV ep b A n c) 25) (.cells (batV ep' b' A' n' c') 25)
  have HZ := Lib.hid hb
  have HA := Lib.hid (blk21 w 25 25 (batV ep b A n c) (batV ep' b' A' n' c'))
  have HB := Lib.hid (blk22 w 25 25 (batV ep b A n c) (batV ep' b' A' n' c'))
  have HC := Lib.hid (esall_any (Rp.sl_below hs hb hD) (Rp.sl_below hs' hb hD') (fun k hk => Nat.lt_of_lt_of_le (hD k hk) hb.size) (fun k hk => Nat.lt_of_lt_of_le (hD' k hk) hb.size))
  clear hs hs' hD hD' hb
  by_cases h1 : ep = ep'
  case neg =>
    have q1 : ((ep : Int) == (ep' : Int)) = false := by simp; omega
    rw [dec_false (fun h : (ep, b, l) = (ep', b', l') => h1 (by injection h))]
    clear h1
    go_enter Try.func11, Try.ntmps11
    go_upto_region 1 with (fail)
    generalize World.alloc (World.alloc w _) _ = w0 at *
    have a0 := (show Blk w0 w.heap.size 25 _ from HA.out).cell 0
    have b0 := (show Blk w0 (w.heap.size + 1) 25 _ from HB.out).cell 0
    have a1 := (show Blk w0 w.heap.size 25 _ from HA.out).cell 1
    have b1 := (show Blk w0 (w.heap.size + 1) 25 _ from HB.out).cell 1
    go_wp2_with fail
    go_ret
    exact ⟨rfl, HZ.out⟩
  subst h1
  have q1 : ((ep : Int) == (ep : Int)) = true := by simp
  by_cases h2 : b = b'
  case neg =>
    have q2 : ((b : Int) == (b' : Int)) = false := by simp; omega
    rw [dec_false (fun h : (ep, b, l) = (ep, b', l') => h2 (by injection h with _ h; injection h))]
    clear h2
    go_enter Try.func11, Try.ntmps11
    go_upto_region 1 with (fail)
    generalize World.alloc (World.alloc w _) _ = w0 at *
    have a0 := (show Blk w0 w.heap.size 25 _ from HA.out).cell 0
    have b0 := (show Blk w0 (w.heap.size + 1) 25 _ from HB.out).cell 0
    have a1 := (show Blk w0 w.heap.size 25 _ from HA.out).cell 1
    have b1 := (show Blk w0 (w.heap.size + 1) 25 _ from HB.out).cell 1
    go_wp2_with fail
    go_ret
    exact ⟨rfl, HZ.out⟩
  subst h2
  have q2 : ((b : Int) == (b : Int)) = true := by simp
  obtain ⟨q, hq⟩ : ∃ q, dec (l = l') = q := ⟨_, rfl⟩
  have HE : Hid (dec ((ep, b, l) = (ep, b, l')) = q) := by
    show _ = _
    rw [← hq]
    by_cases h : l = l'
    · rw [dec_true h, dec_true (by rw [h])]
    · rw [dec_false h, dec_false (fun e => h (by injection e with _ e; injection e))]
  rw [HE.out]
  have hc2 := HC.out
  rw [hq] at hc2
  have HC2 := Lib.hid hc2
  clear hc2
  clear HC HE hq
  go_enter Try.func11, Try.ntmps11
  go_upto_region 1 with (fail)
  generalize World.alloc (World.alloc w _) _ = w0 at *
  have a0 := (show Blk w0 w.heap.size 25 _ from HA.out).cell 0
  have b0 := (show Blk w0 (w.heap.size + 1) 25 _ from HB.out).cell 0
  have a1 := (show Blk w0 w.heap.size 25 _ from HA.out).cell 1
  have b1 := (show Blk w0 (w.heap.size + 1) 25 _ from HB.out).cell 1
  have a2 := (show Blk w0 w.heap.size 25 _ from HA.out).cell 2
  have b2 := (show Blk w0 (w.heap.size + 1) 25 _ from HB.out).cell 2
  go_wp2_with fail
  refine HC2.out.mono ?_; rintro en w1 ⟨rfl, hb1⟩
  have HB1 := Lib.hid (stepB HZ.out hb1)
  clear a0 b0 a1 b1 a2 b2 hb1
  go_wp2_with fail
  go_ret
  exact ⟨rfl, HB1.out⟩
end
end Go.Proofs.Ytcbmnfjbmkpfiaa
