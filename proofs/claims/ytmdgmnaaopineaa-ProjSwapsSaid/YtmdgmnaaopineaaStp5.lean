/- The walks of Dealt, Share, Back; whether sets are too many. -/
import Derived.Test.YtmdgmnaaopineaaStp4
namespace Go.Proofs.Ytmdgmnaaopineaa
open Go.ChangeShapes Go.WideShapes Go.ChangeAt Go.RowKit
set_option linter.unusedVariables false
section
variable {D : Dom} {A : Option Addr} {n c f t : Nat} {sets : List (List Nat)} {w : World}
set_option maxRecDepth 100000 in
theorem dealt_any (p : Nat) (hs : (rpSlice rpU64).sl w D A n c sets) (hD : ∀ k, D k → k < w.heap.size) (hf : f ≤ 18446744073709551615) (ht : t ≤ 18446744073709551615) (hp : p ≤ 18446744073709551615) :
    Calls Try.prog 37 #[.agg (stpV f t A n c), .int .u64 (p : Int)] w fun e w' => e = .returned (.tuple #[.int .i64 ((dealt (f, t, sets) p).1 : Int), .int .u64 ((dealt (f, t, sets) p).2.1 : Int), .bool (dealt (f, t, sets) p).2.2]) ∧ Below w.heap.size w w' := by
  obtain ⟨hlen, hnc, hcm⟩ := Rp.sl_len hs
  unfold maxLen at hcm
  subst hlen
  have hb0 : Below w.heap.size w (w.alloc (.cells (stpV f t A sets.length c) 31)) := (Below.refl _ _).alloc (Nat.le_refl _) _
  have hr := right_any (Rp.sl_below hs hb0 hD) (fun k hk => Nat.lt_of_lt_of_le (hD k hk) hb0.size) hf ht
  have HB0 := Lib.hid hb0
  have HK := Lib.hid (Blk.new w 31 (stpV f t A sets.length c))
  clear hs hD hb0
  cases hq : dec (SOk (f, t, sets))
  · rw [hq] at hr
    have HR := Lib.hid hr
    rw [dealt_out (fun h => of_not_dec hq h.1)]
    clear hr hq
    go_enter Try.func37, Try.ntmps37
    go_wp2_with fail
    refine HR.out.mono ?_; rintro e w1 ⟨rfl, hb1⟩
    go_wp2_with fail
    go_ret3
    exact ⟨rfl, HB0.out.trans (hb1.mono HB0.out.size)⟩
  · rw [hq] at hr
    have HR := Lib.hid hr
    have hok := of_dec hq
    have h1 : f < t := hok.1
    have h2 : t ≤ 4611686018427387904 := hok.2.1
    have h3 : 1 ≤ sets.length := hok.2.2.1
    have h4 : sets.length ≤ 8 := hok.2.2.2.1
    have HOK := Lib.hid hok
    clear hr hq hok
    by_cases hin : f ≤ p ∧ p < t
    · obtain ⟨hp1, hp2⟩ := hin
      rw [dealt_in HOK.out hp1 hp2]
      obtain ⟨a, rfl⟩ : ∃ a, p = f + a := ⟨p - f, by omega⟩
      have e1 : f + a - f = a := by omega
      dsimp only
      rw [e1]
      clear e1
      obtain ⟨m, hm⟩ : ∃ m : Nat, m = sets.length := ⟨_, rfl⟩
      rw [← hm] at h3 h4 ⊢
      go_enter Try.func37, Try.ntmps37
      go_wp2_with fail
      rw [hm]
      refine HR.out.mono ?_; rintro e w1 ⟨rfl, hb1⟩
      rw [← hm]
      have hbk := HK.out.below hb1 HK.out.lt
      have d0 : w1.cell? ⟨w.heap.size, 0, none⟩ = some (.int .u64 (f : Int)) := hbk.cell 0
      have d1 : w1.cell? ⟨w.heap.size, 1, none⟩ = some (.int .u64 (t : Int)) := hbk.cell 1
      have d2 : w1.cell? ⟨w.heap.size, 2, none⟩ = some (.slice A m c) := by rw [hm]; exact hbk.cell 2
      have HM := Lib.hid hm
      clear hbk hm
      have HB1 := Lib.hid hb1
      clear hb1
      have hA : ((f : Int) + a - f) = a := by omega
      have hM1 : (a : Int) % m = ((a % m : Nat) : Int) := by simp
      have hM2 : a % m < m := Nat.mod_lt _ (by omega)
      have hB : wrap64 (((f : Int) + a - f) % m) = ((a % m : Nat) : Int) := by rw [hA, hM1]; exact IntWalk.wrap64_in _ (by omega)
      have hC : ((f : Int) + a - f) / m = ((a / m : Nat) : Int) := by rw [hA]; simp
      have HBB := Lib.hid hB
      have HCC := Lib.hid hC
      clear hA hM1 hM2 hB hC
      go_wp2_with fail
      go_quiet (fail)
      go_wp2_with fail
      go_ret3
      have hdn : ∀ q, Below w1.heap.size w1 (w1.drewN q) := fun q => ⟨rfl, rfl, rfl, Nat.le_refl _, fun _ _ => rfl⟩
      refine ⟨?_, HB0.out.trans ((HB1.out.trans ((hdn _).mono HB1.out.size)).mono HB0.out.size)⟩
      rw [← HBB.out, ← HCC.out]
      rfl
    · rw [dealt_out (fun h => hin h.2)]
      have hc : p < f ∨ (f ≤ p ∧ t ≤ p) := by omega
      clear hin
      rcases hc with hc | ⟨hc, hc2⟩
      all_goals
        go_enter Try.func37, Try.ntmps37
        go_wp2_with fail
        refine HR.out.mono ?_; rintro e w1 ⟨rfl, hb1⟩
        have hbk := HK.out.below hb1 HK.out.lt
        have d0 : w1.cell? ⟨w.heap.size, 0, none⟩ = some (.int .u64 (f : Int)) := hbk.cell 0
        have d1 : w1.cell? ⟨w.heap.size, 1, none⟩ = some (.int .u64 (t : Int)) := hbk.cell 1
        have HB1 := Lib.hid hb1
        clear hbk hb1
        go_wp2_with fail
        go_ret3
        exact ⟨rfl, HB0.out.trans (HB1.out.mono HB0.out.size)⟩
set_option maxRecDepth 100000 in
theorem share_any (set : Int) (hs : (rpSlice rpU64).sl w D A n c sets) (hD : ∀ k, D k → k < w.heap.size) (hf : f ≤ 18446744073709551615) (ht : t ≤ 18446744073709551615) :
    Calls Try.prog 65 #[.agg (stpV f t A n c), .int .i64 set] w fun e w' => e = .returned (.int .u64 (share (f, t, sets) set : Int)) ∧ Below w.heap.size w w' := by
  obtain ⟨hlen, hnc, hcm⟩ := Rp.sl_len hs
  unfold maxLen at hcm
  subst hlen
  have hb0 : Below w.heap.size w (w.alloc (.cells (stpV f t A sets.length c) 31)) := (Below.refl _ _).alloc (Nat.le_refl _) _
  have hr := right_any (Rp.sl_below hs hb0 hD) (fun k hk => Nat.lt_of_lt_of_le (hD k hk) hb0.size) hf ht
  have HB0 := Lib.hid hb0
  have HK := Lib.hid (Blk.new w 31 (stpV f t A sets.length c))
  clear hs hD hb0
  cases hq : dec (SOk (f, t, sets))
  · rw [hq] at hr
    have HR := Lib.hid hr
    rw [share_out (fun h => of_not_dec hq h.1)]
    clear hr hq
    go_enter Try.func65, Try.ntmps65
    go_wp2_with fail
    refine HR.out.mono ?_; rintro e w1 ⟨rfl, hb1⟩
    go_wp2_with fail
    go_ret
    exact ⟨rfl, HB0.out.trans (hb1.mono HB0.out.size)⟩
  · rw [hq] at hr
    have HR := Lib.hid hr
    have hok := of_dec hq
    have h1 : f < t := hok.1
    have h2 : t ≤ 4611686018427387904 := hok.2.1
    have h3 : 1 ≤ sets.length := hok.2.2.1
    have h4 : sets.length ≤ 8 := hok.2.2.2.1
    have HOK := Lib.hid hok
    clear hr hq hok
    by_cases hin : 0 ≤ set ∧ set < sets.length
    · obtain ⟨hp1, hp2⟩ := hin
      obtain ⟨j, rfl⟩ : ∃ j : Nat, set = j := ⟨set.toNat, by omega⟩
      have hj : j < sets.length := by omega
      rw [share_in HOK.out hj]
      dsimp only
      obtain ⟨a, rfl⟩ : ∃ a, t = f + a := ⟨t - f, by omega⟩
      have e1 : f + a - f = a := by omega
      rw [e1]
      clear e1
      obtain ⟨m, hm⟩ : ∃ m : Nat, m = sets.length := ⟨_, rfl⟩
      have hj' : j < m := by omega
      rw [← hm] at h3 h4 ⊢
      have hres : (((f : Int) + a - f + m - 1 - j) / m) = (((a + m - 1 - j) / m : Nat) : Int) := by
        have : ((a + m - 1 - j : Nat) : Int) = (f : Int) + a - f + m - 1 - j := by omega
        rw [Int.natCast_ediv, this]
      have HRES := Lib.hid hres
      have hlim : a ≤ 4611686018427387904 := by omega
      clear hres hp1 hp2 hj
      go_enter Try.func65, Try.ntmps65
      go_wp2_with fail
      rw [hm]
      refine HR.out.mono ?_; rintro e w1 ⟨rfl, hb1⟩
      rw [← hm]
      have hbk := HK.out.below hb1 HK.out.lt
      have d0 : w1.cell? ⟨w.heap.size, 0, none⟩ = some (.int .u64 (f : Int)) := hbk.cell 0
      have d1 : w1.cell? ⟨w.heap.size, 1, none⟩ = some (.int .u64 ((f + a : Nat) : Int)) := hbk.cell 1
      have d2 : w1.cell? ⟨w.heap.size, 2, none⟩ = some (.slice A m c) := by rw [hm]; exact hbk.cell 2
      have HB1 := Lib.hid hb1
      have HM := Lib.hid hm
      clear hbk hm hb1
      go_wp2_with fail
      go_ret
      exact ⟨by rw [← HRES.out]; rfl, HB0.out.trans (HB1.out.mono HB0.out.size)⟩
    · rw [share_out (fun h => hin h.2)]
      have hc : set < 0 ∨ (0 ≤ set ∧ (sets.length : Int) ≤ set) := by omega
      clear hin
      rcases hc with hc | ⟨hc, hc2⟩
      all_goals
        go_enter Try.func65, Try.ntmps65
        go_wp2_with fail
        refine HR.out.mono ?_; rintro e w1 ⟨rfl, hb1⟩
        have hbk := HK.out.below hb1 HK.out.lt
        have d2 : w1.cell? ⟨w.heap.size, 2, none⟩ = some (.slice A sets.length c) := hbk.cell 2
        have HB1 := Lib.hid hb1
        clear hbk hb1
        go_wp2_with fail
        go_ret
        exact ⟨rfl, HB0.out.trans (HB1.out.mono HB0.out.size)⟩
set_option maxRecDepth 100000 in
theorem back_any (set : Int) (loc : Nat) (hs : (rpSlice rpU64).sl w D A n c sets) (hD : ∀ k, D k → k < w.heap.size) (hf : f ≤ 18446744073709551615) (ht : t ≤ 18446744073709551615) (hl : loc ≤ 18446744073709551615) :
    Calls Try.prog 64 #[.agg (stpV f t A n c), .int .i64 set, .int .u64 (loc : Int)] w fun e w' => e = .returned (.tuple #[.int .u64 ((back (f, t, sets) set loc).1 : Int), .bool (back (f, t, sets) set loc).2]) ∧ Below w.heap.size w w' := by
  obtain ⟨hlen, hnc, hcm⟩ := Rp.sl_len hs
  unfold maxLen at hcm
  subst hlen
  have hb0 : Below w.heap.size w (w.alloc (.cells (stpV f t A sets.length c) 31)) := (Below.refl _ _).alloc (Nat.le_refl _) _
  have hr := share_any set (Rp.sl_below hs hb0 hD) (fun k hk => Nat.lt_of_lt_of_le (hD k hk) hb0.size) hf ht
  have HB0 := Lib.hid hb0
  have HK := Lib.hid (Blk.new w 31 (stpV f t A sets.length c))
  have HR := Lib.hid hr
  clear hs hD hb0 hr
  by_cases hlt : loc < share (f, t, sets) set
  · obtain ⟨j, rfl, hj, hbk, hin, _⟩ := back_dealt hlt
    rw [hbk]
    obtain ⟨hok, _, _⟩ := share_pos hlt
    have h2 : t ≤ 4611686018427387904 := hok.2.1
    have h4 : sets.length ≤ 8 := hok.2.2.2.1
    dsimp only at hj hin ⊢
    obtain ⟨q, hq⟩ : ∃ q : Nat, q = loc * sets.length := ⟨_, rfl⟩
    rw [← hq] at hin ⊢
    have hqI : (loc : Int) * (sets.length : Int) = (q : Int) := by rw [hq]; simp
    obtain ⟨sh, hsh⟩ : ∃ sh : Nat, sh = share (f, t, sets) j := ⟨_, rfl⟩
    have hr2 := HR.out
    rw [← hsh] at hr2 hlt
    have HR2 := Lib.hid hr2
    have hd : decide (sh ≤ loc) = false := by simp; omega
    clear hbk hok hsh hr2 hq
    go_enter Try.func64, Try.ntmps64
    go_wp2_with fail
    refine HR2.out.mono ?_; rintro e w1 ⟨rfl, hb1⟩
    have hbk := HK.out.below hb1 HK.out.lt
    have d0 : w1.cell? ⟨w.heap.size, 0, none⟩ = some (.int .u64 (f : Int)) := hbk.cell 0
    have d2 : w1.cell? ⟨w.heap.size, 2, none⟩ = some (.slice A sets.length c) := hbk.cell 2
    have HB1 := Lib.hid hb1
    clear hbk hb1
    go_wp2_with fail
    go_ret2
    exact ⟨by simp, HB0.out.trans (HB1.out.mono HB0.out.size)⟩
  · rw [back_out (by omega)]
    obtain ⟨sh, hsh⟩ : ∃ sh : Nat, sh = share (f, t, sets) set := ⟨_, rfl⟩
    have hr2 := HR.out
    rw [← hsh] at hr2 hlt
    have HR2 := Lib.hid hr2
    have hd : decide (sh ≤ loc) = true := by simp; omega
    clear hsh hr2
    go_enter Try.func64, Try.ntmps64
    go_wp2_with fail
    refine HR2.out.mono ?_; rintro e w1 ⟨rfl, hb1⟩
    have HB1 := Lib.hid hb1
    clear hb1
    go_wp2_with fail
    go_ret2
    exact ⟨rfl, HB0.out.trans (HB1.out.mono HB0.out.size)⟩
def SomeBool (R : Bool → World → Prop) (e : Ending) (w' : World) : Prop := ∃ b : Bool, e = .returned (.bool b) ∧ R b w'
theorem long_any (hs : (rpSlice rpU64).sl w D A n c sets) (hD : ∀ k, D k → k < w.heap.size) :
    Calls Try.prog 17 #[.agg (stpV f t A n c)] w (SomeBool fun b w' => (b = false → sets.length ≤ 20 ∧ ∀ (i : Nat) l, sets[i]? = some l → l.length ≤ 20) ∧ Below w.heap.size w w') := by
  obtain ⟨hlen, hnc, hcm⟩ := Rp.sl_len hs
  unfold maxLen at hcm
  subst hlen
  have hb0 : Below w.heap.size w (w.alloc (.cells (stpV f t A sets.length c) 31)) := (Below.refl _ _).alloc (Nat.le_refl _) _
  have HS := Lib.hid (Rp.sl_below hs hb0 hD)
  have HB0 := Lib.hid hb0
  have HK := Lib.hid (Blk.new w 31 (stpV f t A sets.length c))
  clear hs hD hb0
  go_enter Try.func17, Try.ntmps17
  go_wp2_with fail
  generalize World.alloc w _ = w0 at *
  have hbk := (show Blk _ _ _ _ from HK.out)
  have d2 : w0.cell? ⟨w.heap.size, 2, none⟩ = some (.slice A sets.length c) := hbk.cell 2
  clear hbk
  go_loop [3] (fun i => ∃ k : Nat, k ≤ sets.length ∧ k ≤ 20 ∧ i = .int .i64 k ∧ Hid (∀ (i : Nat) l, i < k → sets[i]? = some l → l.length ≤ 20)) (fun i => sets.length - (intOf i).toNat)
  case atStart => exact ⟨0, by omega, by omega, rfl, fun j x h => by omega⟩
  case round =>
    obtain ⟨k, hk, hk20, rfl, hsh⟩ := hrel
    by_cases hin : k < sets.length ∧ k < 20
    · obtain ⟨h1, h2⟩ := hin
      obtain ⟨b, off, s, A2, c2, rfl, hb, hs, hcell, hrow⟩ := rows_at HS.out h1
      obtain ⟨_, hs1, hs2⟩ := Rp.sl_len hrow
      unfold maxLen at hs2
      have HSS := Lib.hid hs
      clear hrow hs
      by_cases hl : 20 < s.length
      · go_wp2_with fail
        go_ret
        exact ⟨true, rfl, by simp, HB0.out⟩
      · go_wp2_with fail
        go_round
        case rel =>
          refine ⟨k + 1, by omega, by omega, by go_num, fun j y hj hy => ?_⟩
          rcases Nat.lt_or_ge j k with h | h
          · exact hsh.out j y h hy
          · obtain rfl : j = k := by omega
            rw [HSS.out] at hy
            injection hy with hy
            subst hy
            omega
        case measure => simp [intOf]; omega
    · by_cases hmany : 20 < sets.length
      · obtain rfl : k = 20 := by omega
        clear hin
        go_wp2_with fail
        go_ret
        exact ⟨true, rfl, by simp, HB0.out⟩
      · obtain rfl : k = sets.length := by omega
        clear hin
        go_wp2_with fail
        go_ret
        have hall : ∀ (i : Nat) l, sets[i]? = some l → l.length ≤ 20 := fun i l hl => hsh.out i l (List.getElem?_eq_some_iff.1 hl).1 hl
        exact ⟨false, by simp; omega, by first | exact fun _ => ⟨by omega, hall⟩ | exact fun _ => hall, HB0.out⟩
end
end Go.Proofs.Ytmdgmnaaopineaa
