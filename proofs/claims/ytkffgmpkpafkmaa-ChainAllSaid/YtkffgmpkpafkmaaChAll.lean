/- ChainAll. -/
import Derived.Test.YtkffgmpkpafkmaaChNone
import Derived.BigQuiet
namespace Go.Proofs.Ytkffgmpkpafkmaa
open Go.ChangeShapes Go.WideShapes Go.ChangeAt Go.RowKit Go.Maps
set_option linter.unusedVariables false
theorem dnr_pw (l : List UInt8) (a t : Nat) : (dnr l a t).Pairwise (fun x y => y < x) := by
  unfold dnr
  split
  · exact down_falls _ _ _
  · exact List.Pairwise.nil
theorem dnr_hit {l : List UInt8} {a t p : Nat} (h : p ∈ dnr l a t) : sameAt l (p : Int) (a : Int) = true := by
  unfold dnr at h
  split at h
  · rename_i ha
    rw [sameAt_nat, decide_eq_true ha, Bool.true_and]
    exact (mem_down.1 h).2
  · simp at h
theorem near_all {l : List UInt8} {a : Nat} (ha : a ≤ l.length) (h : l.length ≤ 1000) : near l a (a : Int) 1000 = ofN (dnr l a a) := by
  unfold near
  rw [if_pos (by omega), Int.toNat_natCast, Nat.min_self, List.take_of_length_le (by have := dnr_length l a a; show _ ≤ 1000; omega)]
section
variable {D : Dom} {A : Option Addr} {n c : Nat} {l : List UInt8} {w : World}
set_option maxRecDepth 100000 in
set_option maxHeartbeats 4000000 in
theorem call_any (hl : rpU8.sl w D A n c l) (hD : ∀ k, D k → k < w.heap.size) :
    Calls Try.prog 5 #[.slice A n c] w fun e w' => e = .returned (.bool true) ∧ Below w.heap.size w w' := by
  obtain ⟨hlen, hnc, hcm⟩ := Rp.sl_len hl
  unfold maxLen at hcm
  by_cases h200 : 200 < n
  · have hd : decide ((200 : Int) < (n : Int)) = true := by simp; omega
    clear hlen hl
    go_enter Try.func5, Try.ntmps5
    go_wp2_with fail
    refine (chlive_any _).mono ?_; rintro e w1 ⟨rfl, hb⟩
    go_wp2_with fail
    go_ret
    exact ⟨rfl, hb⟩
  have hn200 : n ≤ 200 := by omega
  have hd : decide ((200 : Int) < (n : Int)) = false := by simp; omega
  have HNEW := Lib.hid (cnew_any (U := allU) (fun _ _ => trivial) hl hD (by omega))
  have hk : Hid (∀ (x : World) (i a : Nat), i ≤ 1000000 → a ≤ 1000000 → Below w.heap.size w x → Calls Try.prog 12 #[.slice A n c, .int .i64 (i : Int), .int .i64 (a : Int)] x fun e w' => e = .returned (.bool (sameAt l (i : Int) (a : Int))) ∧ Below x.heap.size x w') := fun x i a hi ha hb => rkey_any i a (Rp.sl_below hl hb hD) (by omega) (by omega) (by omega) (by omega)
  have HLEN := Lib.hid hlen
  clear hlen hl hD h200
  go_enter Try.func5, Try.ntmps5
  go_wp2_with fail
  refine HNEW.out.mono ?_; rintro e w1 ⟨g, rfl, hc1, hb1⟩
  have HC1 := Lib.hid hc1
  have HB1 := Lib.hid hb1
  clear hc1 hb1
  go_wp2_with fail
  go_loopw [4] (fun ii wr => ∃ a : Nat, a ≤ n ∧ ii = .int .i64 (a : Int) ∧ Hid (Chn allU wr w.heap.size g l a) ∧ Hid (Below w.heap.size w wr)) (fun ii _ => n - (intOf ii).toNat)
  case atStart => exact ⟨0, by omega, rfl, HC1.out, HB1.out⟩
  case round =>
    obtain ⟨a, ha, rfl, hch, hbw⟩ := hrel
    obtain ⟨ws, hws⟩ : ∃ ws, ws = wr := ⟨_, rfl⟩
    subst hws
    have hadd := add_any (fun _ _ => trivial) hch.out (by have := HLEN.out; omega)
    by_cases han : a < n
    case neg =>
      obtain rfl : a = n := by omega
      have hd1 : decide ((a : Int) < (a : Int)) = false := by simp
      rw [HLEN.out, decide_eq_false (show ¬ a < a by omega)] at hadd
      have HADD := Lib.hid hadd
      clear hadd
      go_wp2_with fail
      refine HADD.out.mono ?_; rintro e w2 ⟨rfl, _, hb2, _⟩
      have HB2 := Lib.hid (hbw.out.trans hb2)
      clear hb2
      go_wp2_with fail
      refine (chlive_any _).mono ?_; rintro e w3 ⟨rfl, hb⟩
      go_wp2_with fail
      go_ret
      exact ⟨rfl, HB2.out.trans (hb.mono HB2.out.size)⟩
    case pos =>
      have hd1 : decide ((a : Int) < (n : Int)) = true := by simp; omega
      clear hadd
      have hnear := near_chn a 1000 (by omega) (by omega) (by decide) (by decide) hch.out (by have := HLEN.out; omega)
      rw [near_all (by have := HLEN.out; omega) (by have := HLEN.out; omega)] at hnear
      have HNEAR := Lib.hid hnear
      clear hnear
      go_wp2_with fail
      refine HNEAR.out.mono ?_; rintro e w2 ⟨A2, n2, c2, rfl, ho2, hb2⟩
      have hn2 : (dnr l a a).length = n2 := by have := ho2.1; simpa [ofN] using this
      have hn2a : n2 ≤ a := by have := dnr_length l a a; omega
      have HN2 := Lib.hid hn2
      have HC2 := Lib.hid (hch.out.below hb2)
      have HB2 := Lib.hid (hbw.out.trans (hb2.mono hbw.out.size))
      have HO2 := Lib.hid ho2
      clear hn2 hb2 ho2
      go_wp2_with fail
      go_loopw [6, 7] (fun mm ii wr => ∃ i z : Nat, i ≤ a ∧ ii = .int .i64 (i : Int) ∧ mm = .int .i64 (z : Int) ∧ Hid (z = (dnr l a i).length) ∧ z ≤ i ∧ Hid (Below w2.heap.size w2 wr)) (fun _ ii _ => a - (intOf ii).toNat)
      case atStart => exact ⟨0, 0, by omega, rfl, rfl, by show 0 = _; rw [dnr_zero]; rfl, Nat.le_refl _, Below.refl _ _⟩
      case round =>
        obtain ⟨i, z, hi, rfl, rfl, hz, hzi, hbi⟩ := hrel
        by_cases hia : i < a
        · have hd2 : decide ((i : Int) < (a : Int)) = true := by simp; omega
          have HC := Lib.hid (hk.out wr i a (by omega) (by omega) (HB2.out.trans (hbi.out.mono HB2.out.size)))
          obtain ⟨v, hv⟩ : ∃ v : Bool, v = sameAt l (i : Int) (a : Int) := ⟨_, rfl⟩
          rw [← hv] at HC
          have HV := Lib.hid hv
          clear hv
          cases v
          all_goals
            go_wp2_with fail
            refine HC.out.mono ?_; rintro e w3 ⟨rfl, hb3⟩
            have HB3 := Lib.hid (hbi.out.trans (hb3.mono hbi.out.size))
            clear hb3
            go_wp2_with fail
            go_roundw
          case rel => exact ⟨i + 1, z, by omega, by go_num, rfl, by show _ = _; rw [dnr_succ, ← HV.out, hz.out]; rfl, by omega, HB3.out⟩
          case measure => simp [intOf]; omega
          case rel => exact ⟨i + 1, z + 1, by omega, by go_num, by go_num, by show _ = _; rw [dnr_succ, ← HV.out, hz.out]; simp, by omega, HB3.out⟩
          case measure => simp [intOf]; omega
        · obtain rfl : i = a := by omega
          have hd2 : decide ((i : Int) < (i : Int)) = false := by simp
          obtain rfl : z = n2 := by rw [hz.out, HN2.out]
          have hd3 : ((z : Int) != (z : Int)) = false := by simp
          go_wp2_with fail
          go_loopw [8] (fun ii wr => ∃ j : Nat, j ≤ z ∧ ii = .int .i64 (j : Int) ∧ Hid (Below w2.heap.size w2 wr)) (fun ii _ => z - (intOf ii).toNat)
          case atStart => exact ⟨0, by omega, rfl, hbi.out⟩
          case round =>
            obtain ⟨j, hj, rfl, hbj⟩ := hrel
            by_cases hjz : j < z
            · have hd4 : decide ((j : Int) < (z : Int)) = true := by simp; omega
              have hjl : j < (dnr l i i).length := by rw [HN2.out]; exact hjz
              obtain ⟨p, hp⟩ : ∃ p, (dnr l i i)[j]? = some p := ⟨_, List.getElem?_eq_getElem hjl⟩
              have hpm := List.mem_of_getElem? hp
              have hpa := dnr_mem hpm
              have hps := dnr_hit hpm
              have ho3 := ownsRow_same (w' := wr) HO2.out (fun k hk => hbj.out.block k (HO2.out.lt k hk).2)
              obtain ⟨g2, hA2, _, hg2l, _, hcell, _⟩ := own_block ho3 (by omega)
              have hc0 := hcell j (.int .i64 (p : Int)) (by rw [List.getElem?_map, ofN, List.getElem?_map, hp]; rfl)
              have HKEY := Lib.hid (fun x : Gr wr.heap.size wr => hk.out x.val p i (by omega) (by omega) ((HB2.out.trans (hbj.out.mono HB2.out.size)).trans (x.is.mono (Nat.le_trans HB2.out.size hbj.out.size))))
              rw [hps] at HKEY
              have hq1 : decide (i ≤ p) = false := by simp; omega
              have hq2 : (0 : Int) ≤ (j : Int) := by omega
              have hq3 : (j : Int) < (z : Int) := by omega
              have e0 : ∀ x : Gr wr.heap.size wr, x.val.cell? ⟨g2, j, none⟩ = some (.int .i64 (p : Int)) := fun x => (x.is.cell (p := ⟨g2, j, none⟩) hg2l).trans hc0
              rcases Nat.eq_zero_or_pos j with h0 | h0
              · have hq4 : decide (0 < j) = false := by simp; omega
                subst hA2
                clear hp hpm hpa hps ho3 hcell hc0 hjl h0
                go_wp2_with fail
                refine wp_region_grow (by kernel_rfl) (by kernel_rfl) wr.heap.size ?_
                repeat (first | go_big_quiet_step ((go_at_call 12; exact Gr.call _ (Nat.le_refl _) (HKEY.out _))) | quiet_step ((go_at_call 12; exact Gr.call _ (Nat.le_refl _) (HKEY.out _))))
                refine wpQuiet_nil ?_
                rintro w3 ⟨⟨_, hb3⟩, rfl⟩
                have HB3 := Lib.hid (hbj.out.trans (hb3.mono hbj.out.size))
                clear e0 hb3
                go_wp2_with fail
                go_roundw
                case rel => exact ⟨j + 1, by omega, by go_num, HB3.out⟩
                case measure => simp [intOf]; omega
              · obtain ⟨q, hq⟩ : ∃ q, (dnr l i i)[j - 1]? = some q := ⟨_, List.getElem?_eq_getElem (by omega)⟩
                have hqm := List.mem_of_getElem? hq
                have hqa := dnr_mem hqm
                have hpq : p < q := by
                  have := List.pairwise_iff_getElem.1 (dnr_pw l i i) (j - 1) j (by omega) hjl (by omega)
                  rw [List.getElem?_eq_getElem (by omega)] at hq
                  rw [List.getElem?_eq_getElem hjl] at hp
                  injection hq with hq
                  injection hp with hp
                  omega
                have hq4 : decide (0 < j) = true := by simp; omega
                have hq5 : decide (q ≤ p) = false := by simp; omega
                have hc1 := hcell (j - 1) (.int .i64 (q : Int)) (by rw [List.getElem?_map, ofN, List.getElem?_map, hq]; rfl)
                obtain ⟨r, hr⟩ : ∃ r, r = j - 1 := ⟨_, rfl⟩
                rw [← hr] at hc1
                have e1 : ∀ x : Gr wr.heap.size wr, x.val.cell? ⟨g2, r, none⟩ = some (.int .i64 (q : Int)) := fun x => (x.is.cell (p := ⟨g2, r, none⟩) hg2l).trans hc1
                have hw : IntKind.i64.wrap ((j : Int) - 1) = (r : Int) := by rw [IntWalk.i64_in _ (by omega)]; omega
                have hq6 : (0 : Int) ≤ (r : Int) := by omega
                have hq7 : (r : Int) < (z : Int) := by omega
                subst hA2
                clear hp hpm hpa hps ho3 hcell hc0 hjl h0 hq hqm hqa hpq hr hc1
                go_wp2_with fail
                refine wp_region_grow (by kernel_rfl) (by kernel_rfl) wr.heap.size ?_
                repeat (first | go_big_quiet_step ((go_at_call 12; exact Gr.call _ (Nat.le_refl _) (HKEY.out _))) | quiet_step ((go_at_call 12; exact Gr.call _ (Nat.le_refl _) (HKEY.out _))))
                refine wpQuiet_nil ?_
                rintro w3 ⟨⟨_, hb3⟩, rfl⟩
                have HB3 := Lib.hid (hbj.out.trans (hb3.mono hbj.out.size))
                clear e0 e1 hb3 hw
                go_wp2_with fail
                go_roundw
                case rel => exact ⟨j + 1, by omega, by go_num, HB3.out⟩
                case measure => simp [intOf]; omega
            · obtain rfl : j = z := by omega
              have hd4 : decide ((j : Int) < (j : Int)) = false := by simp
              have hch3 := HC2.out.below hbj.out
              have hadd := add_any (fun _ _ => trivial) hch3 (by have := HLEN.out; omega)
              rw [HLEN.out, decide_eq_true han, show min (i + 1) n = i + 1 by omega] at hadd
              have HADD := Lib.hid hadd
              have HB4 := Lib.hid (HB2.out.trans (hbj.out.mono HB2.out.size))
              clear hadd hch3
              go_wp2_with fail
              refine HADD.out.mono ?_; rintro e w3 ⟨rfl, hc3, hb3, _⟩
              have HC3 := Lib.hid hc3
              have HB3 := Lib.hid (HB4.out.trans hb3)
              clear hc3 hb3
              go_wp2_with fail
              go_roundw
              case rel => exact ⟨i + 1, by omega, by go_num, HC3.out, HB3.out⟩
              case measure => simp [intOf]; omega
end
theorem chainAll_sl (A : Option Addr) (n c : Nat) (l : List UInt8) (w : World) (hl : rpU8.sl w (lt w.heap.size) A n c l) :
    Calls Try.prog 5 #[.slice A n c] w fun e w' => e = .returned (.bool true) ∧ Below w.heap.size w w' :=
  call_any hl (fun k hk => hk)
end Go.Proofs.Ytkffgmpkpafkmaa
