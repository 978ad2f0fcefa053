/- Whether two links are the same, by the reference; numbers of sixteen bits. -/
import Derived.Test.YtnihaaifkogpbaaTuL
import Derived.Test.YtnihaaifkogpbaaU64
import Derived.Test.YtnihaaifkogpbaaOpenF
import Derived.BigQuiet
namespace Go.Proofs.Ytnihaaifkogpbaa
open Go.ChangeShapes Go.WideShapes Go.ChangeAt Go.RowKit
set_option linter.unusedVariables false
theorem same5_any {D D' : Dom} {A A' : Option Addr} {n c n' c' : Nat} {l l' : List Nat} {w : World} (hs : rpU64.sl w D A n c l) (hs' : rpU64.sl w D' A' n' c' l') (hD : ∀ k, D k → k < w.heap.size) (hD' : ∀ k, D' k → k < w.heap.size) :
    Calls Try.prog 21 #[.slice A n c, .slice A' n' c'] w fun en w' => en = .returned (.bool (dec (l = l'))) ∧ Below w.heap.size w w' := by
  obtain ⟨hlen, hnc, hcm⟩ := Rp.sl_len hs
  obtain ⟨hlen', hnc', hcm'⟩ := Rp.sl_len hs'
  unfold maxLen at hcm hcm'
  have HL := Lib.hid hs
  have HL' := Lib.hid hs'
  have HN := Lib.hid hlen
  have HN' := Lib.hid hlen'
  have HD := Lib.hid hD
  have HD' := Lib.hid hD'
  clear hs hs' hlen hlen' hD hD'
  by_cases hne : n = n'
  case neg =>
    have hd : ((n : Int) != (n' : Int)) = true := by simp; omega
    rw [dec_false (fun h : l = l' => hne (by rw [← HN.out, ← HN'.out, h]))]
    clear hne
    go_enter Try.func21, Try.ntmps21
    go_wp2_with fail
    go_ret
    exact ⟨rfl, Below.refl _ _⟩
  subst hne
  go_enter Try.func21, Try.ntmps21
  go_wp2_with fail
  go_loopw [5] (fun i wr => ∃ k : Nat, k ≤ n ∧ i = .int .i64 k ∧ Hid (∀ (j : Nat), j < k → l[j]? = l'[j]?) ∧ Below w.heap.size w wr) (fun i _ => n - (intOf i).toNat)
  case atStart => exact ⟨0, by omega, rfl, fun j h => by omega, Below.refl _ _⟩
  case round =>
    obtain ⟨k, hk, rfl, hsh, hbr⟩ := hrel
    have HB := Lib.hid hbr
    by_cases hkn : k < n
    · obtain ⟨b, off, y, rfl, hb, hy, hc, hlt⟩ := u64_at (Rp.sl_below HL.out hbr HD.out) hkn
      obtain ⟨b', off', z, rfl, hb', hz, hc', hlt'⟩ := u64_at (Rp.sl_below HL'.out hbr HD'.out) hkn
      have hd : decide ((k : Int) < (n : Int)) = true := by simp; omega
      have hk0 : (0 : Int) ≤ (k : Int) := by omega
      have hk1 : (k : Int) < (n : Int) := by omega
      have HY := Lib.hid hy
      have HZ := Lib.hid hz
      clear hy hz hbr
      by_cases hyz : y = z
      · have hq : ((y : Int) != (z : Int)) = false := by simp; omega
        have HYZ := Lib.hid hyz
        clear hyz
        go_wp2_with fail
        go_quiet (fail)
        go_wp2_with fail
        go_roundw
        case rel =>
          refine ⟨k + 1, by omega, by go_num, fun j hj => ?_, HB.out.trans ⟨rfl, rfl, rfl, Nat.le_refl _, fun _ _ => rfl⟩⟩
          rcases Nat.lt_or_ge j k with h | h
          · exact hsh.out j h
          · obtain rfl : j = k := by omega
            rw [HY.out, HZ.out, HYZ.out]
        case measure => simp [intOf]; omega
      · have hq : ((y : Int) != (z : Int)) = true := by simp; omega
        have hno := Lib.hid (show ¬ l = l' from fun h => hyz (by have h1 := HY.out; rw [h, HZ.out] at h1; injection h1 with h1; exact h1.symm))
        clear hyz
        go_wp2_with fail
        go_quiet (fail)
        go_wp2_with fail
        go_ret
        rw [dec_false hno.out]
        exact ⟨rfl, HB.out.trans ⟨rfl, rfl, rfl, Nat.le_refl _, fun _ _ => rfl⟩⟩
    · obtain rfl : k = n := by omega
      have hd : decide ((k : Int) < (k : Int)) = false := by simp
      clear hbr
      go_wp2_with fail
      go_ret
      have hyes : l = l' := List.ext_getElem? (fun j => by
        rcases Nat.lt_or_ge j k with h | h
        · exact hsh.out j h
        · rw [List.getElem?_eq_none (by rw [HN.out]; exact h), List.getElem?_eq_none (by rw [HN'.out]; exact h)])
      rw [dec_true hyes]
      exact ⟨rfl, HB.out⟩
section
variable {D D' : Dom} {A A' : Option Addr} {n c n' c' s s' : Nat} {l l' : List Nat} {w : World}
theorem one_any (hs : rpU64.sl w D A n c l) (hs' : rpU64.sl w D' A' n' c' l') (hD : ∀ k, D k → k < w.heap.size) (hD' : ∀ k, D' k → k < w.heap.size) :
    Calls Try.prog 8 #[.agg (lkV s A n c), .agg (lkV s' A' n' c')] w fun en w' => en = .returned (.bool (dec ((s, l) = (s', l')))) ∧ Below w.heap.size w w' := by
  have hb := below2 w (.cells (lkV s A n c) 44) (.cells (lkV s' A' n' c') 44)
  have HZ := Lib.hid hb
  have HA := Lib.hid (blk21 w 44 44 (lkV s A n c) (lkV s' A' n' c'))
  have HB := Lib.hid (blk22 w 44 44 (lkV s A n c) (lkV s' A' n' c'))
  have HC := Lib.hid (same5_any (Rp.sl_below hs hb hD) (Rp.sl_below hs' hb hD') (fun k hk => Nat.lt_of_lt_of_le (hD k hk) hb.size) (fun k hk => Nat.lt_of_lt_of_le (hD' k hk) hb.size))
  clear hs hs' hD hD' hb
  by_cases he : s = s'
  case neg =>
    have q1 : ((s : Int) == (s' : Int)) = false := by simp; omega
    rw [dec_false (fun h : (s, l) = (s', l') => he (by injection h))]
    clear he
    go_enter Try.func8, Try.ntmps8
    go_upto_region 1 with (fail)
    generalize World.alloc (World.alloc w _) _ = w0 at *
    have a0 := (show Blk w0 w.heap.size 44 _ from HA.out).cell 0
    have b0 := (show Blk w0 (w.heap.size + 1) 44 _ from HB.out).cell 0
    go_wp2_with fail
    go_ret
    exact ⟨rfl, HZ.out⟩
  subst he
  have q1 : ((s : Int) == (s : Int)) = true := by simp
  obtain ⟨q, hq⟩ : ∃ q, dec (l = l') = q := ⟨_, rfl⟩
  have HE : Hid (dec ((s, l) = (s, l')) = q) := by
    show _ = _
    rw [← hq]
    by_cases h : l = l'
    · rw [dec_true h, dec_true (by rw [h])]
    · rw [dec_false h, dec_false (fun e => h (by injection e))]
  rw [HE.out]
  have hc2 := HC.out
  rw [hq] at hc2
  have HC2 := Lib.hid hc2
  clear hc2
  clear HC HE hq
  go_enter Try.func8, Try.ntmps8
  go_upto_region 1 with (fail)
  generalize World.alloc (World.alloc w _) _ = w0 at *
  have a0 := (show Blk w0 w.heap.size 44 _ from HA.out).cell 0
  have b0 := (show Blk w0 (w.heap.size + 1) 44 _ from HB.out).cell 0
  have a1 := (show Blk w0 w.heap.size 44 _ from HA.out).cell 1
  have b1 := (show Blk w0 (w.heap.size + 1) 44 _ from HB.out).cell 1
  go_wp2_with fail
  refine HC2.out.mono ?_; rintro en w1 ⟨rfl, hb1⟩
  have HB1 := Lib.hid (stepB HZ.out hb1)
  clear a0 b0 a1 b1 hb1
  go_wp2_with fail
  go_ret
  exact ⟨rfl, HB1.out⟩
end

def rpU16 : Rp Nat where
  size := 1
  ok := fun _ _ x vs => vs = [.int .u16 (x : Int)] ∧ x < 65536
  len := by rintro w D x vs ⟨rfl, _⟩; rfl
  keep := fun h _ => h
  more := fun h _ => h
  one := by rintro w D x vs ⟨rfl, _⟩ u hu; simp only [List.mem_singleton] at hu; subst hu; rfl
theorem opens_u16 {P : Program} {T : TypeId} (ht : P.underlying T = some (.int .u16)) : Opens P T rpU16 := fun H enc w held fuel cs x h => by
  obtain ⟨n, rfl, _, hw⟩ := DataW.trod_int ht h
  have hb := bounds_u16 hw
  exact ⟨n.toNat, by rw [Int.toNat_of_nonneg hb.1], by omega⟩
end Go.Proofs.Ytnihaaifkogpbaa
