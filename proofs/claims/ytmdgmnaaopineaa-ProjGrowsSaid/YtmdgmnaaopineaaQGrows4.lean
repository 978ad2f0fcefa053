/-
  The law of this claim, part 4 of its proof: the parts LL, Stp3, StpC, Stp4, Stp5, StpL, Deals, DealsW.
-/
import Derived.RegionTactic
import Derived.Deep.LoopGhost
import Derived.Test.YtmdgmnaaopineaaQGrows3
/- A list of lists of numbers that the call has made itself. -/
namespace Go.Proofs.Ytmdgmnaaopineaa
open Go.ChangeShapes Go.WideShapes Go.ChangeAt Go.RowKit
set_option linter.unusedVariables false
def LL (w : World) (base : Nat) (A : Option Addr) (n c : Nat) (sets : List (List Nat)) : Prop :=
  ∃ vals : List Value, w.ownsRow base 46 1 (.slice A n c) n vals ∧ sets.length = n ∧ ∀ (i : Nat) x, sets[i]? = some x → (∃ A' c', vals[i]? = some (.slice A' x.length c') ∧ w.ownsRow base 22 1 (.slice A' x.length c') x.length (x.map uv)) ∧ ∀ y ∈ x, y < 18446744073709551616
section
variable {w w' : World} {base n c g : Nat} {A : Option Addr} {sets : List (List Nat)}
theorem LL.nil (w : World) (base : Nat) : LL w base none 0 0 [] := ⟨[], World.ownsRow_nil _ _ _ _, rfl, fun i x h => by simp at h⟩
/-- It stays where the blocks of its two types stay. -/
theorem LL.same (h : LL w base A n c sets) (hs : ∀ k cs t, w.heap[k]? = some (.cells cs t (0, 0)) → (t = 22 ∨ t = 46) → base ≤ k → w'.heap[k]? = w.heap[k]?) : LL w' base A n c sets := by
  have key : ∀ {e : TypeId} {v : Value} {m : Nat} {xs : List Value}, (e = 22 ∨ e = 46) → w.ownsRow base e 1 v m xs → w'.ownsRow base e 1 v m xs := by
    intro e v m xs he ho
    refine ⟨ho.1, ?_⟩
    rcases ho.2 with h0 | ⟨g, cap, cur, hv, hg, hh, hr⟩
    · exact .inl h0
    · exact .inr ⟨g, cap, cur, hv, hg, (hs g cur e hh he hg).trans hh, hr⟩
  obtain ⟨vals, ho, hn, hi⟩ := h
  refine ⟨vals, key (.inr rfl) ho, hn, fun i x hx => ?_⟩
  obtain ⟨⟨A', c', hv, hw⟩, hy⟩ := hi i x hx
  exact ⟨⟨A', c', hv, key (.inl rfl) hw⟩, hy⟩
theorem LL.below (h : LL w base A n c sets) (hb : Below w.heap.size w w') : LL w' base A n c sets :=
  h.same (fun k cs t hk _ _ => hb.block k (Blk.lt (w := w) hk))
theorem LL.chg {F : Dom} (h : LL w base A n c sets) (hc : Chg F w w') (hF : ∀ k, F k → k < base) : LL w' base A n c sets :=
  h.same (fun k cs t hk _ hb => hc.block k (Blk.lt (w := w) hk) (fun hf => by have := hF k hf; omega))
/-- A store into a block of another type. -/
theorem LL.put {t : TypeId} {cs : Array Value} (h : LL w base A n c sets) (hb : Blk w g t cs) (ht : t ≠ 22) (ht2 : t ≠ 46) {a : Addr} (ha : a.block = g) (u : Value) : LL (w.setCell a u) base A n c sets :=
  h.same (fun k cs' t' hk ht' _ => Below.heap_setCell w a u k (by
    rintro rfl
    rw [ha] at hk
    have : some (Obj.cells cs' t' (0, 0)) = some (Obj.cells cs t (0, 0)) := hk.symm.trans hb
    injection this with this
    injection this with _ h2 _
    rcases ht' with rfl | rfl
    · exact ht h2.symm
    · exact ht2 h2.symm))
theorem LL.len (h : LL w base A n c sets) : sets.length = n := by obtain ⟨_, _, hn, _⟩ := h; exact hn
/-- One list more. -/
theorem LL.push (h : LL w base A n c sets) {vals : List Value} (ho : w.ownsRow base 46 1 (.slice A n c) n vals) (hvals : ∀ (i : Nat) x, sets[i]? = some x → (∃ A' c', vals[i]? = some (.slice A' x.length c') ∧ w.ownsRow base 22 1 (.slice A' x.length c') x.length (x.map uv)) ∧ ∀ y ∈ x, y < 18446744073709551616)
    {w3 : World} {A3 A' : Option Addr} {c3 c' : Nat} {x : List Nat} (ho3 : w3.ownsRow base 46 1 (.slice A3 (n + 1) c3) (n + 1) (vals ++ [.slice A' x.length c'])) (hg : w.grownBy w3 (Value.slice A n c).ownBlock)
    (hx : w.ownsRow base 22 1 (.slice A' x.length c') x.length (x.map uv)) (hx64 : ∀ y ∈ x, y < 18446744073709551616) : LL w3 base A3 (n + 1) c3 (sets ++ [x]) := by
  have hlen := h.len
  have hvl : vals.length = n := by have := ho.1; simpa using this
  have key : ∀ {v : Value} {m : Nat} {xs : List Value}, w.ownsRow base 22 1 v m xs → w3.ownsRow base 22 1 v m xs := by
    intro v m xs hw
    refine ⟨hw.1, ?_⟩
    rcases hw.2 with h0 | ⟨g, cap, cur, hv, hg2, hh, hr⟩
    · exact .inl h0
    · refine .inr ⟨g, cap, cur, hv, hg2, (hg.block g (Blk.lt (w := w) hh) (fun e => ?_)).trans hh, hr⟩
      exact absurd e (Pen.ne' (t := 22) (cs := cur) hh ho (by decide))
  refine ⟨_, ho3, by rw [List.length_append, hlen]; rfl, fun i y hy => ?_⟩
  by_cases hi : i < n
  · rw [List.getElem?_append_left (by omega)] at hy
    obtain ⟨⟨A2, c2, hv, hw⟩, h64⟩ := hvals i y hy
    exact ⟨⟨A2, c2, by rw [List.getElem?_append_left (by omega)]; exact hv, key hw⟩, h64⟩
  · rw [List.getElem?_append_right (by omega)] at hy
    have hi2 : i - sets.length = 0 := by
      rcases Nat.eq_zero_or_pos (i - sets.length) with h0 | h0
      · exact h0
      · rw [List.getElem?_eq_none (by simp; omega)] at hy; cases hy
    rw [hi2] at hy
    simp only [List.getElem?_cons_zero, Option.some.injEq] at hy
    subst hy
    refine ⟨⟨A', c', ?_, key hx⟩, hx64⟩
    rw [List.getElem?_append_right (by omega), show i - vals.length = 0 by omega]; rfl
/-- It reads as its lists. -/
theorem LL.sl (h : LL w base A n c sets) : Sl (rpSlice rpU64) w (fun k => base ≤ k ∧ k < w.heap.size) A n c sets := by
  obtain ⟨vals, ho, hn, hi⟩ := h
  refine ⟨?_, fun k hk => hk.2⟩
  have hrow : ∀ (i : Nat) x, sets[i]? = some x → ∃ v, vals[i]? = some v ∧ (rpSlice rpU64).ok w (fun k => base ≤ k ∧ k < w.heap.size) x [v] := by
    intro i x hx
    obtain ⟨⟨A', c', hv, hw⟩, h64⟩ := hi i x hx
    exact ⟨_, hv, Rp.sl_more (own_u64 hw h64) (fun k hk => ⟨(hw.lt k hk.symm).1, (hw.lt k hk.symm).2⟩)⟩
  have hvl : vals.length = n := by have := ho.1; simpa using this
  rcases ho.2 with ⟨hv, h0⟩ | ⟨g, cap, cur, hv, hg, hh, hnc, hcm, hcs, htake⟩
  · injection hv with h1 h2 h3
    subst h1; subst h3
    have hs0 : sets = [] := List.eq_nil_of_length_eq_zero (by omega)
    subst hs0
    have hn0 : n = 0 := by simpa using hn.symm
    subst hn0
    exact Rp.sl_nil _ _ _ _ _ (by decide)
  · injection hv with h1 h2 h3
    subst h1; subst h3
    subst hn
    refine ⟨_, _, rfl, hnc, hcm, fun _ => ⟨g, 0, rfl, ⟨hg, Blk.lt (w := w) hh⟩, fun i x hx => ?_⟩⟩
    obtain ⟨v, hvi, hok⟩ := hrow i x hx
    refine ⟨[v], hok, fun j u hu => ?_⟩
    have hj : j = 0 := by
      rcases Nat.eq_zero_or_pos j with h0 | h0
      · exact h0
      · rw [List.getElem?_eq_none (by simp; omega)] at hu; cases hu
    subst hj
    simp only [List.getElem?_cons_zero, Option.some.injEq] at hu
    subst hu
    have hcell := cell_of_row w g (0 + i * (rpSlice rpU64).size + 0) cur 46 (0, 0) hh
    rw [hcell]
    have e1 : 0 + i * (rpSlice rpU64).size + 0 = i := by show 0 + i * 1 + 0 = i; omega
    rw [e1]
    rw [← htake, List.getElem?_take] at hvi
    split at hvi
    · simpa using hvi
    · cases hvi
end
end Go.Proofs.Ytmdgmnaaopineaa
/- The walk of stripe.Right: whether a stripe is well-formed. -/
namespace Go.Proofs.Ytmdgmnaaopineaa
open Go.ChangeShapes Go.WideShapes Go.ChangeAt Go.RowKit
set_option linter.unusedVariables false
abbrev stpV (f t : Nat) (A : Option Addr) (n c : Nat) : Array Value := #[.int .u64 (f : Int), .int .u64 (t : Int), .slice A n c]
def SUpTo (s : Stp) (k : Nat) : Prop := (s.1 < s.2.1 ∧ s.2.1 ≤ 4611686018427387904 ∧ 1 ≤ s.2.2.length ∧ s.2.2.length ≤ 8) ∧ ∀ (i : Nat) (l : List Nat), i < k → s.2.2[i]? = some l → SetOk s.2.2 i l
theorem sUpTo_all {s : Stp} : SUpTo s s.2.2.length ↔ SOk s :=
  ⟨fun ⟨⟨a, b, c, d⟩, h⟩ => ⟨a, b, c, d, fun i l hl => h i l (List.getElem?_eq_some_iff.1 hl).1 hl⟩, fun ⟨a, b, c, d, h⟩ => ⟨⟨a, b, c, d⟩, fun i l _ hl => h i l hl⟩⟩
theorem sUpTo_mono {s : Stp} {k : Nat} (h : SOk s) : SUpTo s k := ⟨⟨h.1, h.2.1, h.2.2.1, h.2.2.2.1⟩, fun i l _ hl => h.2.2.2.2 i l hl⟩
theorem sUpTo_succ {s : Stp} {k : Nat} {l : List Nat} (hl : s.2.2[k]? = some l) : SUpTo s (k + 1) ↔ SUpTo s k ∧ SetOk s.2.2 k l := by
  constructor
  · rintro ⟨a, h⟩
    exact ⟨⟨a, fun i l' hi hl' => h i l' (by omega) hl'⟩, h k l (by omega) hl⟩
  · rintro ⟨⟨a, h⟩, h2⟩
    refine ⟨a, fun i l' hi hl' => ?_⟩
    rcases Nat.lt_or_ge i k with h3 | h3
    · exact h i l' h3 hl'
    · obtain rfl : i = k := by omega
      rw [hl] at hl'
      injection hl' with hl'
      exact hl' ▸ h2

set_option maxRecDepth 100000 in
set_option maxHeartbeats 4000000 in
theorem right_any {D : Dom} {A : Option Addr} {n c f t : Nat} {sets : List (List Nat)} {w : World} (hs : (rpSlice rpU64).sl w D A n c sets) (hD : ∀ k, D k → k < w.heap.size) (hf : f ≤ 18446744073709551615) (ht : t ≤ 18446744073709551615) :
    Calls Try.prog 53 #[.agg (stpV f t A n c)] w fun e w' => e = .returned (.bool (dec (SOk (f, t, sets)))) ∧ Below w.heap.size w w' := by
  obtain ⟨hlen, hnc, hcm⟩ := Rp.sl_len hs
  unfold maxLen at hcm
  subst hlen
  have hb0 : Below w.heap.size w (w.alloc (.cells (stpV f t A sets.length c) 31)) := (Below.refl _ _).alloc (Nat.le_refl _) _
  have HS := Lib.hid (Rp.sl_below hs hb0 hD)
  have HB0 := Lib.hid hb0
  have HD := Lib.hid (fun k hk => Nat.lt_of_lt_of_le (hD k hk) hb0.size)
  have HK := Lib.hid (Blk.new w 31 (stpV f t A sets.length c))
  clear hs hD hb0
  have hcase : ∃ b : Bool, Hid (dec (SUpTo (f, t, sets) 0) = b) ∧ ((t ≤ f ∧ b = false) ∨ (f < t ∧ 4611686018427387904 < t ∧ b = false) ∨ (f < t ∧ t ≤ 4611686018427387904 ∧ sets.length < 1 ∧ b = false) ∨
      (f < t ∧ t ≤ 4611686018427387904 ∧ 1 ≤ sets.length ∧ 8 < sets.length ∧ b = false) ∨ (f < t ∧ t ≤ 4611686018427387904 ∧ 1 ≤ sets.length ∧ sets.length ≤ 8 ∧ b = true)) := by
    by_cases h1 : f < t
    · by_cases h2 : t ≤ 4611686018427387904
      · by_cases h3 : 1 ≤ sets.length
        · by_cases h4 : sets.length ≤ 8
          · exact ⟨true, dec_true ⟨⟨h1, h2, h3, h4⟩, fun i l h => by omega⟩, by simp; omega⟩
          · exact ⟨false, dec_false (fun h => h4 h.1.2.2.2), by simp; omega⟩
        · exact ⟨false, dec_false (fun h => h3 h.1.2.2.1), .inr (.inr (.inl ⟨h1, h2, by omega, rfl⟩))⟩
      · exact ⟨false, dec_false (fun h => h2 h.1.2.1), by simp; omega⟩
    · exact ⟨false, dec_false (fun h => h1 h.1.1), by simp; omega⟩
  obtain ⟨b0, HP0, hc⟩ := hcase
  rcases hc with ⟨d1, rfl⟩ | ⟨d1, d2, rfl⟩ | ⟨d1, d2, d3, rfl⟩ | ⟨d1, d2, d3, d4, rfl⟩ | ⟨d1, d2, d3, d4, rfl⟩
  all_goals
    go_enter Try.func53, Try.ntmps53
    go_wp2_with fail
    go_step3
    go_wp2_with fail
    go_step3
    go_wp2_with fail
    generalize World.alloc w _ = w0 at *
    have hz0 := HB0.out.size
    have hkl := HK.out.lt
    go_loopw [3, 31] (fun g i wr => ∃ (k : Nat) (gb : Bool), k ≤ sets.length ∧ i = .int .i64 k ∧ g = .bool gb ∧ Hid (gb = dec (SUpTo (f, t, sets) k)) ∧ Below w0.heap.size w0 wr) (fun _ i _ => sets.length - (intOf i).toNat)
    case atStart => exact ⟨0, _, by omega, rfl, rfl, by (show _ = dec _; rw [HP0.out]; try (simp; try omega)), Below.refl _ _⟩
    case round =>
      obtain ⟨k, gb, hk, rfl, rfl, hgb, hbr⟩ := hrel
      have HBR := Lib.hid hbr
      have hzr := hbr.size
      by_cases hkn : k < sets.length
      · obtain ⟨b, off, s, A2, c2, rfl, hb, hs, hcell, hrow⟩ := rows_at (Rp.sl_below HS.out hbr HD.out) hkn
        have HSS := Lib.hid hs
        have HR := Lib.hid hrow
        clear hs hrow
        cases gb
        · have hno := of_not_dec hgb.out.symm
          have HNO := Lib.hid (fun h : SOk (f, t, sets) => hno (sUpTo_mono h))
          clear hno hbr
          go_wp2_with fail
          try rw [Exit.noGoto_ret]
          go_ret
          rw [dec_false HNO.out]
          exact ⟨rfl, HB0.out.trans (HBR.out.mono hz0)⟩
        · have hyes := Lib.hid (of_dec hgb.out.symm)
          obtain ⟨⟨p1, p2, p3, p4⟩, _⟩ := hyes.out
          dsimp only at p1 p2 p3 p4
          try (exfalso; omega)
          all_goals
            have hnd := nodes_any HR.out (fun k hk => Nat.lt_of_lt_of_le (HD.out k hk) hzr)
            clear hbr
            cases hq : dec (NodesOk s)
            · rw [hq] at hnd
              have HND := Lib.hid hnd
              have HQ := Lib.hid (of_not_dec hq)
              clear hnd hq
              go_wp2_with fail
              refine HND.out.mono ?_; rintro e w1 ⟨rfl, hb1⟩
              go_wp2_with fail
              go_roundw
              case rel => exact ⟨k + 1, false, by omega, by go_num, rfl, (dec_false (fun h => HQ.out (setOk_iff.1 ((sUpTo_succ HSS.out).1 h).2).1)).symm, HBR.out.trans (hb1.mono hzr)⟩
              case measure => simp [intOf]; omega
            · rw [hq] at hnd
              have HND := Lib.hid hnd
              have HQ := Lib.hid (of_dec hq)
              obtain ⟨A', hcut, hsl2⟩ := run_cut_h elemSets (Rp.sl_below HS.out HBR.out HD.out) rfl (k : Int) (by omega) (by omega)
              rw [Int.toNat_natCast] at hcut hsl2
              have HS2 := Lib.hid hsl2
              have hbk := HK.out.below HBR.out hkl
              have HBK := Lib.hid hbk
              have d2c := hbk.cell 2
              clear hnd hq hsl2 hbk
              go_wp2_with fail
              refine HND.out.mono ?_; rintro e w1 ⟨rfl, hb1⟩
              have d2c1 : w1.cell? ⟨w.heap.size, 2, none⟩ = some (.slice (some ⟨b, off, none⟩) sets.length c) := (HBK.out.below hb1 HBK.out.lt).cell 2
              have d2c0 : w1.cell? ⟨w.heap.size, 0, none⟩ = some (.int .u64 (f : Int)) := (HBK.out.below hb1 HBK.out.lt).cell 0
              have HB1 := Lib.hid hb1
              clear hb1 d2c
              go_wp2_with fail
              refine (apart_any (Rp.sl_below HR.out HB1.out (fun k hk => Nat.lt_of_lt_of_le (HD.out k hk) hzr)) (Rp.sl_below HS2.out HB1.out (fun k hk => Nat.lt_of_lt_of_le (HD.out k hk) hzr))).mono ?_; rintro e w2 ⟨rfl, rfl⟩
              go_wp2_with fail
              go_roundw
              case rel =>
                refine ⟨k + 1, dec (Apart s (sets.take k)), by omega, by go_num, rfl, dec_congr ?_, HBR.out.trans (HB1.out.mono hzr)⟩
                rw [sUpTo_succ HSS.out, setOk_iff]
                exact ⟨fun h => ⟨hyes.out, HQ.out, h⟩, fun h => h.2.2⟩
              case measure => simp [intOf]; omega
      · obtain rfl : k = sets.length := by omega
        clear hbr
        go_wp2_with fail
        try rw [Exit.noGoto_ret]
        go_ret
        rw [← dec_congr sUpTo_all]
        exact ⟨by rw [← hgb.out]; rfl, HB0.out.trans (HBR.out.mono hz0)⟩
end Go.Proofs.Ytmdgmnaaopineaa
/- stripe.Copy. -/
namespace Go.Proofs.Ytmdgmnaaopineaa
open Go.ChangeShapes Go.WideShapes Go.ChangeAt Go.RowKit
set_option linter.unusedVariables false
theorem LL.grownC {w w' : World} {base n c g : Nat} {A : Option Addr} {sets : List (List Nat)} {t : TypeId} {cs : Array Value} (h : LL w base A n c sets) (hb : Blk w g t cs) (ht : t ≠ 22) (ht2 : t ≠ 46) (hg : w.grownBy w' (some g)) : LL w' base A n c sets :=
  h.same (fun j cs' t' hj ht' _ => hg.block j (Blk.lt (w := w) hj) (fun e => by
    injection e with e
    subst e
    have h1 : some (Obj.cells cs' t' (0, 0)) = some (Obj.cells cs t (0, 0)) := hj.symm.trans hb
    injection h1 with h1
    injection h1 with _ h2 _
    rcases ht' with rfl | rfl
    · exact ht h2.symm
    · exact ht2 h2.symm))
section
variable {D : Dom} {A : Option Addr} {n c f t : Nat} {sets : List (List Nat)} {w : World}
set_option maxRecDepth 100000 in
set_option maxHeartbeats 3000000 in
theorem stcopy_any (hs : (rpSlice rpU64).sl w D A n c sets) (hD : ∀ k, D k → k < w.heap.size) (hn : n ≤ 1000) (hl : ∀ (i : Nat) x, sets[i]? = some x → x.length ≤ 1000) :
    Calls Try.prog 55 #[.agg (stpV f t A n c)] w fun e w' => ∃ A2 c2, e = .returned (.agg (stpV f t A2 n c2)) ∧ LL w' w.heap.size A2 n c2 sets ∧ Below w.heap.size w w' := by
  have H : Hid ((Try.prog.info? 31).map (·.size) = some 3) := by unfold Hid; kernel_rfl
  have hlen := (Rp.sl_len hs).1
  have HZ := Lib.hid (below2 w (.cells (stpV f t A n c) 31) (.cells (stpV 0 0 none 0 0) 31))
  have HK := Lib.hid (blk21 w 31 31 (stpV f t A n c) (stpV 0 0 none 0 0))
  have HR := Lib.hid (blk22 w 31 31 (stpV f t A n c) (stpV 0 0 none 0 0))
  have HS := Lib.hid (show Sl (rpSlice rpU64) w D A n c sets from ⟨hs, hD⟩)
  have HN := Lib.hid hlen
  have HLE := Lib.hid hl
  clear hs hD hlen hl
  go_enter Try.func55, Try.ntmps55
  go_wp2_with fail
  generalize World.alloc (World.alloc w _) _ = w0 at *
  have k2 := (show Blk w0 w.heap.size 31 _ from HK.out).cell 2
  go_wp2_with fail
  clear k2
  go_loopw [3, 9] (fun o i wr => ∃ (k : Nat) (As : Option Addr) (cs : Nat), k ≤ n ∧ i = .int .i64 k ∧ o = .slice As k cs ∧ Hid (LL wr w.heap.size As k cs (sets.take k)) ∧ Hid (Blk wr w.heap.size 31 (stpV f t A n c)) ∧ Hid (Blk wr (w.heap.size + 1) 31 (stpV 0 0 none 0 0)) ∧ Hid (Below w.heap.size w wr)) (fun _ i _ => n - (intOf i).toNat)
  case atStart => exact ⟨0, none, 0, by omega, rfl, rfl, LL.nil _ _, HK.out, HR.out, HZ.out⟩
  case round =>
    clear HK HR HZ
    obtain ⟨k, As, cs, hk, rfl, rfl, hll, hkb, hkr, hbel⟩ := hrel
    have hzr := hbel.out.size
    have hltr := (show Blk wr (w.heap.size + 1) 31 _ from hkr.out).lt
    by_cases hkn : k < n
    case neg =>
      obtain rfl : k = n := by omega
      have hd : decide ((k : Int) < (k : Int)) = false := by simp
      have k0 := (show Blk wr w.heap.size 31 _ from hkb.out).cell 0
      have k1 := (show Blk wr w.heap.size 31 _ from hkb.out).cell 1
      have k2 := (show Blk wr w.heap.size 31 _ from hkb.out).cell 2
      have f2 := (show Blk wr w.heap.size 31 _ from hkb.out).frozen 2
      have HL7 := Lib.hid ((show LL wr w.heap.size As k cs (sets.take k) from hll.out).put (show Blk wr w.heap.size 31 _ from hkb.out) (by decide) (by decide) (a := ⟨w.heap.size, 2, none⟩) rfl (.slice As k cs))
      have HR7 := Lib.hid ((show Blk wr (w.heap.size + 1) 31 _ from hkr.out).far (p := ⟨w.heap.size, 2, none⟩) (by dsimp only; omega) (.slice As k cs))
      have HB7 := Lib.hid (hbel.out.setCell (p := ⟨w.heap.size, 2, none⟩) (by dsimp only; omega) (.slice As k cs))
      have HE : Hid (sets.take k = sets) := List.take_of_length_le (by rw [HN.out]; exact Nat.le_refl _)
      go_wp2_with (refine wpList_put_row rfl 31 (.tmp 2) (.tmp 22) rfl (w.heap.size + 1) (stpV f t As k cs) rfl rfl 31 _ HR7.out H.out rfl (by simp [Value.oneCell']) ?_; intro w9 hblk hgr)
      have hl9 := (show LL (wr.setCell ⟨w.heap.size, 2, none⟩ (.slice As k cs)) w.heap.size As k cs (sets.take k) from HL7.out).grownC HR7.out (by decide) (by decide) hgr
      rw [HE.out] at hl9
      exact bodyPost_ret (results_cell_row rfl _ _ (w.heap.size + 1) 31 _ (0, 0) _ rfl hblk Try.underlying31 rfl H.out) rfl ⟨As, cs, rfl, hl9, HB7.out.grown hgr HB7.out.size (fun j hj => by injection hj with hj; omega)⟩
    case pos =>
      have hd : decide ((k : Int) < (n : Int)) = true := by simp; omega
      have hkI : (0 : Int) ≤ (k : Int) := by omega
      have hkI2 : (k : Int) < (n : Int) := by omega
      obtain ⟨b, off, x, A3, c3, rfl, hb, hx, hcell, hrow⟩ := rows_at (keepS HS.out hbel.out).1 hkn
      have hx1 := HLE.out k x hx
      have HSR := Lib.hid (Src.u64 (Rp.sl_below hrow (below1 wr (.cells #[] 22)) (keepS HS.out hbel.out).2))
      have HLT := Lib.hid (u64_lt hrow)
      have hm := World.ownsRow_made (e := 22) (size := 1) (base := w.heap.size) wr #[] 0 (by omega) (by decide) rfl
      have HM := Lib.hid hm
      have HTK : Hid (sets.take (k + 1) = sets.take k ++ [x]) := by
        show sets.take (k + 1) = sets.take k ++ [x]
        rw [List.take_add_one, hx]; rfl
      have hmx : 0 + x.length ≤ maxLen := by unfold maxLen; omega
      have hk16 : k + 1 ≤ maxLen := by unfold maxLen; omega
      clear hm hrow hx hb
      go_wp2_with (first
        | (at_builtin; refine wpList_app rfl (.tmp 14) (.tmp 15) _ rfl elem64 rfl HM.out rfl HSR.out hmx (by omega) (by simp; omega) ?_; intro A4 c4 w4 ho4 hg4 hat4
           have hb4 : Below wr.heap.size wr w4 := (below1 wr (.cells #[] 22)).grown hg4 (below1 wr (.cells #[] 22)).size (fun j hj => by have e : j = wr.heap.size := (by injection hj with hj; exact hj.symm); omega)
           have HB4 := Lib.hid hb4
           have ho4' : w4.ownsRow w.heap.size 22 1 (.slice A4 x.length c4) x.length (x.map uv) := by
             have := ho4
             rw [List.nil_append] at this
             simpa using this
           have HO4 := Lib.hid ho4'
           obtain ⟨vals, hov, hln, hvi⟩ := (show LL wr w.heap.size As k cs (sets.take k) from hll.out).below hb4
           have HOV := Lib.hid hov
           have HVI := Lib.hid hvi
           have HLN := Lib.hid hln
           have hz4 := hb4.size
           clear ho4 hg4 hat4 hb4 ho4' hov hvi hln)
        | (at_builtin; refine wpList_app rfl (.tmp 13) (.tmp 17) _ rfl elemSets rfl (HOV.out.alloc _) rfl (Src.new w4 (.slice A4 x.length c4) _ rfl) hk16 (by omega) (by simp; omega) ?_; intro A6 c6 w6 ho6 hg6 hat6
           have HO6 := Lib.hid ho6
           have HG6 := Lib.hid (show w4.grownBy w6 _ from ⟨hg6.os, hg6.tape, hg6.output, by have := hg6.size; simp at this; omega, fun j hj hn => (hg6.block j (by simp; omega) hn).trans (Below.heap_alloc _ _ _ hj)⟩)
           clear ho6 hg6 hat6))
      have hkb4 := keepB (show Blk wr w.heap.size 31 _ from hkb.out) HB4.out
      have hkr4 := keepB (show Blk wr (w.heap.size + 1) 31 _ from hkr.out) HB4.out
      have ho6 := HO6.out
      try rw [Nat.zero_add] at ho6
      have hll6 := (show LL w4 w.heap.size As k cs (sets.take k) from ⟨vals, HOV.out, HLN.out, HVI.out⟩).push HOV.out HVI.out ho6 HG6.out HO4.out HLT.out
      go_roundw
      case rel => exact ⟨k + 1, A6, c6, by omega, by go_num, rfl, by rw [HTK.out]; exact hll6, hkb4.grown HG6.out (Pen.ne' hkb4 HOV.out (by decide)), hkr4.grown HG6.out (Pen.ne' hkr4 HOV.out (by decide)), (stepB hbel.out HB4.out).grown HG6.out (stepB hbel.out HB4.out).size (fun j hj => (HOV.out.lt j hj).1)⟩
      case measure => simp [intOf]; omega
end
end Go.Proofs.Ytmdgmnaaopineaa
/- The walk of the reference's Right. -/
namespace Go.Proofs.Ytmdgmnaaopineaa
open Go.ChangeShapes Go.WideShapes Go.ChangeAt Go.RowKit
set_option linter.unusedVariables false
set_option maxRecDepth 100000 in
set_option maxHeartbeats 4000000 in
theorem rright_any {D : Dom} {A : Option Addr} {n c f t : Nat} {sets : List (List Nat)} {w : World} (hs : (rpSlice rpU64).sl w D A n c sets) (hD : ∀ k, D k → k < w.heap.size) (hf : f ≤ 18446744073709551615) (ht : t ≤ 18446744073709551615) :
    Calls Try.prog 46 #[.agg (stpV f t A n c)] w fun e w' => e = .returned (.bool (dec (SOk (f, t, sets)))) ∧ Below w.heap.size w w' := by
  obtain ⟨hlen, hnc, hcm⟩ := Rp.sl_len hs
  unfold maxLen at hcm
  subst hlen
  have hb0 : Below w.heap.size w (w.alloc (.cells (stpV f t A sets.length c) 31)) := (Below.refl _ _).alloc (Nat.le_refl _) _
  have HS := Lib.hid (Rp.sl_below hs hb0 hD)
  have HB0 := Lib.hid hb0
  have HD := Lib.hid (fun k hk => Nat.lt_of_lt_of_le (hD k hk) hb0.size)
  have HK := Lib.hid (Blk.new w 31 (stpV f t A sets.length c))
  clear hs hD hb0
  by_cases hpre : f < t ∧ t ≤ 4611686018427387904 ∧ 1 ≤ sets.length ∧ sets.length ≤ 8
  case neg =>
    have HN := Lib.hid (show ¬ SOk (f, t, sets) from fun h => hpre ⟨h.1, h.2.1, h.2.2.1, h.2.2.2.1⟩)
    have hc : t ≤ f ∨ (f < t ∧ 4611686018427387904 < t) ∨ (f < t ∧ t ≤ 4611686018427387904 ∧ sets.length < 1) ∨ (f < t ∧ t ≤ 4611686018427387904 ∧ 1 ≤ sets.length ∧ 8 < sets.length) := by omega
    clear hpre
    rcases hc with d1 | ⟨d1, d2⟩ | ⟨d1, d2, d3⟩ | ⟨d1, d2, d3, d4⟩
    all_goals
      go_enter Try.func46, Try.ntmps46
      go_wp2_with fail
      go_ret
      rw [dec_false HN.out]
      exact ⟨rfl, HB0.out⟩
  case pos =>
    obtain ⟨d1, d2, d3, d4⟩ := hpre
    have w1 : decide (t ≤ f) = false := by simp; omega
    have w2 : decide ((4611686018427387904 : Int) < (t : Int)) = false := by simp; omega
    have w3 : decide ((sets.length : Int) < 1) = false := by simp; omega
    have w4 : decide ((8 : Int) < (sets.length : Int)) = false := by simp; omega
    have HP0 : Hid (SUpTo (f, t, sets) 0) := ⟨⟨d1, d2, d3, d4⟩, fun i l h => by omega⟩
    go_enter Try.func46, Try.ntmps46
    go_wp2_with fail
    generalize World.alloc w _ = w0 at *
    have hz0 := HB0.out.size
    have hkl := HK.out.lt
    go_loopw [3] (fun i wr => ∃ (k : Nat), k ≤ sets.length ∧ i = .int .i64 k ∧ Hid (SUpTo (f, t, sets) k) ∧ Below w0.heap.size w0 wr) (fun i _ => sets.length - (intOf i).toNat)
    case atStart => exact ⟨0, by omega, rfl, HP0, Below.refl _ _⟩
    case round =>
      obtain ⟨k, hk, rfl, hup, hbr⟩ := hrel
      have HBR := Lib.hid hbr
      have hzr := hbr.size
      have hbk := HK.out.below hbr hkl
      have d2c : wr.cell? ⟨w.heap.size, 2, none⟩ = some (.slice A sets.length c) := hbk.cell 2
      have HBK := Lib.hid hbk
      clear hbk
      by_cases hkn : k < sets.length
      · obtain ⟨b, off, s, A2, c2, rfl, hb, hs, hcell, hrow⟩ := rows_at (Rp.sl_below HS.out hbr HD.out) hkn
        have HSS := Lib.hid hs
        have HR := Lib.hid hrow
        obtain ⟨_, hs1, hs2⟩ := Rp.sl_len hrow
        unfold maxLen at hs2
        have HNO := Lib.hid (fun h : ¬ SetOk sets k s => (fun hh : SOk (f, t, sets) => h (hh.2.2.2.2 k s HSS.out)))
        clear hs hrow hbr
        by_cases e1 : s.length < 1
        · have hno := Lib.hid (HNO.out (fun h => by have := h.1; omega))
          go_wp2_with fail
          go_ret
          rw [dec_false hno.out]
          exact ⟨rfl, HB0.out.trans (HBR.out.mono hz0)⟩
        by_cases e2 : 8 < s.length
        · have hno := Lib.hid (HNO.out (fun h => by have := h.2.1; omega))
          go_wp2_with fail
          go_ret
          rw [dec_false hno.out]
          exact ⟨rfl, HB0.out.trans (HBR.out.mono hz0)⟩
        have w5 : decide ((s.length : Int) < 1) = false := by simp; omega
        have w6 : decide ((8 : Int) < (s.length : Int)) = false := by simp; omega
        have hrs := rises_ref HR.out (fun k hk => Nat.lt_of_lt_of_le (HD.out k hk) hzr)
        cases hq : dec (Rises s)
        · rw [hq] at hrs
          have HRS := Lib.hid hrs
          have hno := Lib.hid (HNO.out (fun h => of_not_dec hq h.2.2.1))
          clear hrs hq
          go_wp2_with fail
          refine HRS.out.mono ?_; rintro e w1 ⟨rfl, hb1⟩
          go_wp2_with fail
          go_ret
          rw [dec_false hno.out]
          exact ⟨rfl, (HB0.out.trans (HBR.out.mono hz0)).trans (hb1.mono (Nat.le_trans hz0 hzr))⟩
        rw [hq] at hrs
        have HRS := Lib.hid hrs
        have HQ := Lib.hid (of_dec hq)
        obtain ⟨b', off', y, rfl, hb', hy, hc', hlt⟩ := u64_at HR.out (show s.length - 1 < s.length by omega)
        have HY := Lib.hid hy
        have hbD : b' < wr.heap.size := Nat.lt_of_lt_of_le (HD.out b' hb') hzr
        have HC := Lib.hid hc'
        have hn1 : ((s.length : Int) - 1).toNat = s.length - 1 := by omega
        have hn2 : ((s.length - 1 : Nat) : Int) = (s.length : Int) - 1 := by omega
        clear hrs hq hy hc'
        by_cases hyb : y < 4294967296
        · have hcmp : decide ((4294967296 : Int) ≤ (y : Int)) = false := by simp; omega
          have HYB := Lib.hid hyb
          clear hyb
          have htw := fun (w1 : World) (hb1 : Below wr.heap.size wr w1) => twice_any (m := k) (Rp.sl_below HR.out hb1 (fun k hk => Nat.lt_of_lt_of_le (HD.out k hk) hzr)) (Rp.sl_below (Rp.sl_below HS.out HBR.out HD.out) hb1 (fun k hk => Nat.lt_of_lt_of_le (HD.out k hk) hzr)) hk (fun k hk => Nat.lt_of_lt_of_le (Nat.lt_of_lt_of_le (HD.out k hk) hzr) hb1.size) (fun k hk => Nat.lt_of_lt_of_le (Nat.lt_of_lt_of_le (HD.out k hk) hzr) hb1.size)
          have HTW := Lib.hid htw
          clear htw
          go_wp2_with fail
          refine HRS.out.mono ?_; rintro e w1 ⟨rfl, hb1⟩
          have hc1 : w1.cell? ⟨b', off' + (s.length - 1), none⟩ = some (.int .u64 (y : Int)) := (hb1.cell (p := ⟨b', off' + (s.length - 1), none⟩) hbD).trans HC.out
          have d2c1 : w1.cell? ⟨w.heap.size, 2, none⟩ = some (.slice (some ⟨b, off, none⟩) sets.length c) := (HBK.out.below hb1 HBK.out.lt).cell 2
          have HB1 := Lib.hid hb1
          clear hb1 d2c
          go_wp2_with fail
          cases hq2 : dec (TwiceIn sets k s)
          · have ht2 := HTW.out w1 HB1.out
            rw [hq2] at ht2
            have HT2 := Lib.hid ht2
            have HQ2 := Lib.hid (of_not_dec hq2)
            clear ht2 hq2
            refine HT2.out.mono ?_; rintro e w2 ⟨rfl, hb2⟩
            clear hc1 d2c1
            go_wp2_with fail
            go_roundw
            case rel =>
              refine ⟨k + 1, by omega, by go_num, (sUpTo_succ HSS.out).2 ⟨hup.out, setOk_iff'.2 ⟨⟨by omega, by omega, HQ.out, fun a ha => by rw [HY.out] at ha; injection ha with ha; have := HYB.out; omega⟩, HQ2.out⟩⟩, ?_⟩
              have h1 := HBR.out.trans (HB1.out.mono hzr)
              exact h1.trans (hb2.mono h1.size)
            case measure => simp [intOf]; omega
          · have ht2 := HTW.out w1 HB1.out
            rw [hq2] at ht2
            have HT2 := Lib.hid ht2
            have hno := Lib.hid (HNO.out (fun h => (setOk_iff'.1 h).2 (of_dec hq2)))
            clear ht2 hq2
            refine HT2.out.mono ?_; rintro e w2 ⟨rfl, hb2⟩
            clear hc1 d2c1
            go_wp2_with fail
            go_ret
            rw [dec_false hno.out]
            have h1 := HBR.out.trans (HB1.out.mono hzr)
            exact ⟨rfl, HB0.out.trans ((h1.trans (hb2.mono h1.size)).mono hz0)⟩
        · have hcmp : decide ((4294967296 : Int) ≤ (y : Int)) = true := by simp; omega
          have hno := Lib.hid (HNO.out (fun h => hyb (h.2.2.2.1 y HY.out)))
          clear hyb
          go_wp2_with fail
          refine HRS.out.mono ?_; rintro e w1 ⟨rfl, hb1⟩
          have hc1 : w1.cell? ⟨b', off' + (s.length - 1), none⟩ = some (.int .u64 (y : Int)) := (hb1.cell (p := ⟨b', off' + (s.length - 1), none⟩) hbD).trans HC.out
          have HB1 := Lib.hid hb1
          clear hb1 d2c
          go_wp2_with fail
          go_ret
          rw [dec_false hno.out]
          have h1 := HBR.out.trans (HB1.out.mono hzr)
          exact ⟨rfl, HB0.out.trans (h1.mono hz0)⟩
      · obtain rfl : k = sets.length := by omega
        clear hbr
        go_wp2_with fail
        go_ret
        rw [← dec_congr sUpTo_all]
        rw [dec_true (p := SUpTo (f, t, sets) (f, t, sets).2.2.length) hup.out]
        exact ⟨rfl, HB0.out.trans (HBR.out.mono hz0)⟩
end Go.Proofs.Ytmdgmnaaopineaa
/- The walks of Dealt, Share, Back; whether sets are too many. -/
namespace Go.Proofs.Ytmdgmnaaopineaa
open Go.ChangeShapes Go.WideShapes Go.ChangeAt Go.RowKit
set_option linter.unusedVariables false
section
variable {D : Dom} {A : Option Addr} {n c f t : Nat} {sets : List (List Nat)} {w : World}
set_option maxRecDepth 100000 in
theorem dealt_any (p : Nat) (hs : (rpSlice rpU64).sl w D A n c sets) (hD : ∀ k, D k → k < w.heap.size) (hf : f ≤ 18446744073709551615) (ht : t ≤ 18446744073709551615) (hp : p ≤ 18446744073709551615) :
    Calls Try.prog 37 #[.agg (stpV f t A n c), .int .u64 (p : Int)] w fun e w' => e = .returned (.tuple #[.int .i64 ((dealt (f, t, sets) p).1 : Int), .int .u64 ((dealt (f, t, sets) p).2.1 : Int), .bool (dealt (f, t, sets) p).2.2]) ∧ Below w.heap.size w w' := by
  obtain ⟨hlen, hnc, hcm⟩ := Rp.sl_len hs
  unfold maxLen at hcm
  subst hlen
  have hb0 : Below w.heap.size w (w.alloc (.cells (stpV f t A sets.length c) 31)) := (Below.refl _ _).alloc (Nat.le_refl _) _
  have hr := right_any (Rp.sl_below hs hb0 hD) (fun k hk => Nat.lt_of_lt_of_le (hD k hk) hb0.size) hf ht
  have HB0 := Lib.hid hb0
  have HK := Lib.hid (Blk.new w 31 (stpV f t A sets.length c))
  clear hs hD hb0
  cases hq : dec (SOk (f, t, sets))
  · rw [hq] at hr
    have HR := Lib.hid hr
    rw [dealt_out (fun h => of_not_dec hq h.1)]
    clear hr hq
    go_enter Try.func37, Try.ntmps37
    go_wp2_with fail
    refine HR.out.mono ?_; rintro e w1 ⟨rfl, hb1⟩
    go_wp2_with fail
    go_ret3
    exact ⟨rfl, HB0.out.trans (hb1.mono HB0.out.size)⟩
  · rw [hq] at hr
    have HR := Lib.hid hr
    have hok := of_dec hq
    have h1 : f < t := hok.1
    have h2 : t ≤ 4611686018427387904 := hok.2.1
    have h3 : 1 ≤ sets.length := hok.2.2.1
    have h4 : sets.length ≤ 8 := hok.2.2.2.1
    have HOK := Lib.hid hok
    clear hr hq hok
    by_cases hin : f ≤ p ∧ p < t
    · obtain ⟨hp1, hp2⟩ := hin
      rw [dealt_in HOK.out hp1 hp2]
      obtain ⟨a, rfl⟩ : ∃ a, p = f + a := ⟨p - f, by omega⟩
      have e1 : f + a - f = a := by omega
      dsimp only
      rw [e1]
      clear e1
      obtain ⟨m, hm⟩ : ∃ m : Nat, m = sets.length := ⟨_, rfl⟩
      rw [← hm] at h3 h4 ⊢
      go_enter Try.func37, Try.ntmps37
      go_wp2_with fail
      rw [hm]
      refine HR.out.mono ?_; rintro e w1 ⟨rfl, hb1⟩
      rw [← hm]
      have hbk := HK.out.below hb1 HK.out.lt
      have d0 : w1.cell? ⟨w.heap.size, 0, none⟩ = some (.int .u64 (f : Int)) := hbk.cell 0
      have d1 : w1.cell? ⟨w.heap.size, 1, none⟩ = some (.int .u64 (t : Int)) := hbk.cell 1
      have d2 : w1.cell? ⟨w.heap.size, 2, none⟩ = some (.slice A m c) := by rw [hm]; exact hbk.cell 2
      have HM := Lib.hid hm
      clear hbk hm
      have HB1 := Lib.hid hb1
      clear hb1
      have hA : ((f : Int) + a - f) = a := by omega
      have hM1 : (a : Int) % m = ((a % m : Nat) : Int) := by simp
      have hM2 : a % m < m := Nat.mod_lt _ (by omega)
      have hB : wrap64 (((f : Int) + a - f) % m) = ((a % m : Nat) : Int) := by rw [hA, hM1]; exact IntWalk.wrap64_in _ (by omega)
      have hC : ((f : Int) + a - f) / m = ((a / m : Nat) : Int) := by rw [hA]; simp
      have HBB := Lib.hid hB
      have HCC := Lib.hid hC
      clear hA hM1 hM2 hB hC
      go_wp2_with fail
      go_quiet (fail)
      go_wp2_with fail
      go_ret3
      have hdn : ∀ q, Below w1.heap.size w1 (w1.drewN q) := fun q => ⟨rfl, rfl, rfl, Nat.le_refl _, fun _ _ => rfl⟩
      refine ⟨?_, HB0.out.trans ((HB1.out.trans ((hdn _).mono HB1.out.size)).mono HB0.out.size)⟩
      rw [← HBB.out, ← HCC.out]
      rfl
    · rw [dealt_out (fun h => hin h.2)]
      have hc : p < f ∨ (f ≤ p ∧ t ≤ p) := by omega
      clear hin
      rcases hc with hc | ⟨hc, hc2⟩
      all_goals
        go_enter Try.func37, Try.ntmps37
        go_wp2_with fail
        refine HR.out.mono ?_; rintro e w1 ⟨rfl, hb1⟩
        have hbk := HK.out.below hb1 HK.out.lt
        have d0 : w1.cell? ⟨w.heap.size, 0, none⟩ = some (.int .u64 (f : Int)) := hbk.cell 0
        have d1 : w1.cell? ⟨w.heap.size, 1, none⟩ = some (.int .u64 (t : Int)) := hbk.cell 1
        have HB1 := Lib.hid hb1
        clear hbk hb1
        go_wp2_with fail
        go_ret3
        exact ⟨rfl, HB0.out.trans (HB1.out.mono HB0.out.size)⟩
set_option maxRecDepth 100000 in
theorem share_any (set : Int) (hs : (rpSlice rpU64).sl w D A n c sets) (hD : ∀ k, D k → k < w.heap.size) (hf : f ≤ 18446744073709551615) (ht : t ≤ 18446744073709551615) :
    Calls Try.prog 65 #[.agg (stpV f t A n c), .int .i64 set] w fun e w' => e = .returned (.int .u64 (share (f, t, sets) set : Int)) ∧ Below w.heap.size w w' := by
  obtain ⟨hlen, hnc, hcm⟩ := Rp.sl_len hs
  unfold maxLen at hcm
  subst hlen
  have hb0 : Below w.heap.size w (w.alloc (.cells (stpV f t A sets.length c) 31)) := (Below.refl _ _).alloc (Nat.le_refl _) _
  have hr := right_any (Rp.sl_below hs hb0 hD) (fun k hk => Nat.lt_of_lt_of_le (hD k hk) hb0.size) hf ht
  have HB0 := Lib.hid hb0
  have HK := Lib.hid (Blk.new w 31 (stpV f t A sets.length c))
  clear hs hD hb0
  cases hq : dec (SOk (f, t, sets))
  · rw [hq] at hr
    have HR := Lib.hid hr
    rw [share_out (fun h => of_not_dec hq h.1)]
    clear hr hq
    go_enter Try.func65, Try.ntmps65
    go_wp2_with fail
    refine HR.out.mono ?_; rintro e w1 ⟨rfl, hb1⟩
    go_wp2_with fail
    go_ret
    exact ⟨rfl, HB0.out.trans (hb1.mono HB0.out.size)⟩
  · rw [hq] at hr
    have HR := Lib.hid hr
    have hok := of_dec hq
    have h1 : f < t := hok.1
    have h2 : t ≤ 4611686018427387904 := hok.2.1
    have h3 : 1 ≤ sets.length := hok.2.2.1
    have h4 : sets.length ≤ 8 := hok.2.2.2.1
    have HOK := Lib.hid hok
    clear hr hq hok
    by_cases hin : 0 ≤ set ∧ set < sets.length
    · obtain ⟨hp1, hp2⟩ := hin
      obtain ⟨j, rfl⟩ : ∃ j : Nat, set = j := ⟨set.toNat, by omega⟩
      have hj : j < sets.length := by omega
      rw [share_in HOK.out hj]
      dsimp only
      obtain ⟨a, rfl⟩ : ∃ a, t = f + a := ⟨t - f, by omega⟩
      have e1 : f + a - f = a := by omega
      rw [e1]
      clear e1
      obtain ⟨m, hm⟩ : ∃ m : Nat, m = sets.length := ⟨_, rfl⟩
      have hj' : j < m := by omega
      rw [← hm] at h3 h4 ⊢
      have hres : (((f : Int) + a - f + m - 1 - j) / m) = (((a + m - 1 - j) / m : Nat) : Int) := by
        have : ((a + m - 1 - j : Nat) : Int) = (f : Int) + a - f + m - 1 - j := by omega
        rw [Int.natCast_ediv, this]
      have HRES := Lib.hid hres
      have hlim : a ≤ 4611686018427387904 := by omega
      clear hres hp1 hp2 hj
      go_enter Try.func65, Try.ntmps65
      go_wp2_with fail
      rw [hm]
      refine HR.out.mono ?_; rintro e w1 ⟨rfl, hb1⟩
      rw [← hm]
      have hbk := HK.out.below hb1 HK.out.lt
      have d0 : w1.cell? ⟨w.heap.size, 0, none⟩ = some (.int .u64 (f : Int)) := hbk.cell 0
      have d1 : w1.cell? ⟨w.heap.size, 1, none⟩ = some (.int .u64 ((f + a : Nat) : Int)) := hbk.cell 1
      have d2 : w1.cell? ⟨w.heap.size, 2, none⟩ = some (.slice A m c) := by rw [hm]; exact hbk.cell 2
      have HB1 := Lib.hid hb1
      have HM := Lib.hid hm
      clear hbk hm hb1
      go_wp2_with fail
      go_ret
      exact ⟨by rw [← HRES.out]; rfl, HB0.out.trans (HB1.out.mono HB0.out.size)⟩
    · rw [share_out (fun h => hin h.2)]
      have hc : set < 0 ∨ (0 ≤ set ∧ (sets.length : Int) ≤ set) := by omega
      clear hin
      rcases hc with hc | ⟨hc, hc2⟩
      all_goals
        go_enter Try.func65, Try.ntmps65
        go_wp2_with fail
        refine HR.out.mono ?_; rintro e w1 ⟨rfl, hb1⟩
        have hbk := HK.out.below hb1 HK.out.lt
        have d2 : w1.cell? ⟨w.heap.size, 2, none⟩ = some (.slice A sets.length c) := hbk.cell 2
        have HB1 := Lib.hid hb1
        clear hbk hb1
        go_wp2_with fail
        go_ret
        exact ⟨rfl, HB0.out.trans (HB1.out.mono HB0.out.size)⟩
set_option maxRecDepth 100000 in
theorem back_any (set : Int) (loc : Nat) (hs : (rpSlice rpU64).sl w D A n c sets) (hD : ∀ k, D k → k < w.heap.size) (hf : f ≤ 18446744073709551615) (ht : t ≤ 18446744073709551615) (hl : loc ≤ 18446744073709551615) :
    Calls Try.prog 64 #[.agg (stpV f t A n c), .int .i64 set, .int .u64 (loc : Int)] w fun e w' => e = .returned (.tuple #[.int .u64 ((back (f, t, sets) set loc).1 : Int), .bool (back (f, t, sets) set loc).2]) ∧ Below w.heap.size w w' := by
  obtain ⟨hlen, hnc, hcm⟩ := Rp.sl_len hs
  unfold maxLen at hcm
  subst hlen
  have hb0 : Below w.heap.size w (w.alloc (.cells (stpV f t A sets.length c) 31)) := (Below.refl _ _).alloc (Nat.le_refl _) _
  have hr := share_any set (Rp.sl_below hs hb0 hD) (fun k hk => Nat.lt_of_lt_of_le (hD k hk) hb0.size) hf ht
  have HB0 := Lib.hid hb0
  have HK := Lib.hid (Blk.new w 31 (stpV f t A sets.length c))
  have HR := Lib.hid hr
  clear hs hD hb0 hr
  by_cases hlt : loc < share (f, t, sets) set
  · obtain ⟨j, rfl, hj, hbk, hin, _⟩ := back_dealt hlt
    rw [hbk]
    obtain ⟨hok, _, _⟩ := share_pos hlt
    have h2 : t ≤ 4611686018427387904 := hok.2.1
    have h4 : sets.length ≤ 8 := hok.2.2.2.1
    dsimp only at hj hin ⊢
    obtain ⟨q, hq⟩ : ∃ q : Nat, q = loc * sets.length := ⟨_, rfl⟩
    rw [← hq] at hin ⊢
    have hqI : (loc : Int) * (sets.length : Int) = (q : Int) := by rw [hq]; simp
    obtain ⟨sh, hsh⟩ : ∃ sh : Nat, sh = share (f, t, sets) j := ⟨_, rfl⟩
    have hr2 := HR.out
    rw [← hsh] at hr2 hlt
    have HR2 := Lib.hid hr2
    have hd : decide (sh ≤ loc) = false := by simp; omega
    clear hbk hok hsh hr2 hq
    go_enter Try.func64, Try.ntmps64
    go_wp2_with fail
    refine HR2.out.mono ?_; rintro e w1 ⟨rfl, hb1⟩
    have hbk := HK.out.below hb1 HK.out.lt
    have d0 : w1.cell? ⟨w.heap.size, 0, none⟩ = some (.int .u64 (f : Int)) := hbk.cell 0
    have d2 : w1.cell? ⟨w.heap.size, 2, none⟩ = some (.slice A sets.length c) := hbk.cell 2
    have HB1 := Lib.hid hb1
    clear hbk hb1
    go_wp2_with fail
    go_ret2
    exact ⟨by simp, HB0.out.trans (HB1.out.mono HB0.out.size)⟩
  · rw [back_out (by omega)]
    obtain ⟨sh, hsh⟩ : ∃ sh : Nat, sh = share (f, t, sets) set := ⟨_, rfl⟩
    have hr2 := HR.out
    rw [← hsh] at hr2 hlt
    have HR2 := Lib.hid hr2
    have hd : decide (sh ≤ loc) = true := by simp; omega
    clear hsh hr2
    go_enter Try.func64, Try.ntmps64
    go_wp2_with fail
    refine HR2.out.mono ?_; rintro e w1 ⟨rfl, hb1⟩
    have HB1 := Lib.hid hb1
    clear hb1
    go_wp2_with fail
    go_ret2
    exact ⟨rfl, HB0.out.trans (HB1.out.mono HB0.out.size)⟩
def SomeBool (R : Bool → World → Prop) (e : Ending) (w' : World) : Prop := ∃ b : Bool, e = .returned (.bool b) ∧ R b w'
theorem long_any (hs : (rpSlice rpU64).sl w D A n c sets) (hD : ∀ k, D k → k < w.heap.size) :
    Calls Try.prog 17 #[.agg (stpV f t A n c)] w (SomeBool fun b w' => (b = false → sets.length ≤ 20 ∧ ∀ (i : Nat) l, sets[i]? = some l → l.length ≤ 20) ∧ Below w.heap.size w w') := by
  obtain ⟨hlen, hnc, hcm⟩ := Rp.sl_len hs
  unfold maxLen at hcm
  subst hlen
  have hb0 : Below w.heap.size w (w.alloc (.cells (stpV f t A sets.length c) 31)) := (Below.refl _ _).alloc (Nat.le_refl _) _
  have HS := Lib.hid (Rp.sl_below hs hb0 hD)
  have HB0 := Lib.hid hb0
  have HK := Lib.hid (Blk.new w 31 (stpV f t A sets.length c))
  clear hs hD hb0
  go_enter Try.func17, Try.ntmps17
  go_wp2_with fail
  generalize World.alloc w _ = w0 at *
  have hbk := (show Blk _ _ _ _ from HK.out)
  have d2 : w0.cell? ⟨w.heap.size, 2, none⟩ = some (.slice A sets.length c) := hbk.cell 2
  clear hbk
  go_loop [3] (fun i => ∃ k : Nat, k ≤ sets.length ∧ k ≤ 20 ∧ i = .int .i64 k ∧ Hid (∀ (i : Nat) l, i < k → sets[i]? = some l → l.length ≤ 20)) (fun i => sets.length - (intOf i).toNat)
  case atStart => exact ⟨0, by omega, by omega, rfl, fun j x h => by omega⟩
  case round =>
    obtain ⟨k, hk, hk20, rfl, hsh⟩ := hrel
    by_cases hin : k < sets.length ∧ k < 20
    · obtain ⟨h1, h2⟩ := hin
      obtain ⟨b, off, s, A2, c2, rfl, hb, hs, hcell, hrow⟩ := rows_at HS.out h1
      obtain ⟨_, hs1, hs2⟩ := Rp.sl_len hrow
      unfold maxLen at hs2
      have HSS := Lib.hid hs
      clear hrow hs
      by_cases hl : 20 < s.length
      · go_wp2_with fail
        go_ret
        exact ⟨true, rfl, by simp, HB0.out⟩
      · go_wp2_with fail
        go_round
        case rel =>
          refine ⟨k + 1, by omega, by omega, by go_num, fun j y hj hy => ?_⟩
          rcases Nat.lt_or_ge j k with h | h
          · exact hsh.out j y h hy
          · obtain rfl : j = k := by omega
            rw [HSS.out] at hy
            injection hy with hy
            subst hy
            omega
        case measure => simp [intOf]; omega
    · by_cases hmany : 20 < sets.length
      · obtain rfl : k = 20 := by omega
        clear hin
        go_wp2_with fail
        go_ret
        exact ⟨true, rfl, by simp, HB0.out⟩
      · obtain rfl : k = sets.length := by omega
        clear hin
        go_wp2_with fail
        go_ret
        have hall : ∀ (i : Nat) l, sets[i]? = some l → l.length ≤ 20 := fun i l hl => hsh.out i l (List.getElem?_eq_some_iff.1 hl).1 hl
        exact ⟨false, by simp; omega, by first | exact fun _ => ⟨by omega, hall⟩ | exact fun _ => hall, HB0.out⟩
end
end Go.Proofs.Ytmdgmnaaopineaa
/- The example of chapter 19's laws. -/
namespace Go.Proofs.Ytmdgmnaaopineaa
open Go.ChangeShapes Go.WideShapes Go.ChangeAt Go.RowKit
set_option linter.unusedVariables false
theorem Rp.sl_block {α : Type} {r : Rp α} (hsz : r.size = 1) {w : World} {g : Nat} {t : TypeId} {cs : Array Value} (hb : Blk w g t cs) {D : Dom} (hg : D g) {l : List α} {n : Nat} (hn : l.length = n) (hm : n ≤ maxLen)
    (hrow : ∀ (i : Nat) x, l[i]? = some x → ∃ v, cs[i]? = some v ∧ r.ok w D x [v]) : r.sl w D (some ⟨g, 0, none⟩) n n l := by
  subst hn
  refine ⟨_, _, rfl, Nat.le_refl _, hm, fun _ => ⟨g, 0, rfl, hg, fun i x hx => ?_⟩⟩
  obtain ⟨v, hv, hok⟩ := hrow i x hx
  refine ⟨[v], hok, fun j u hu => ?_⟩
  have hj : j = 0 := by
    rcases Nat.eq_zero_or_pos j with h0 | h0
    · exact h0
    · rw [List.getElem?_eq_none (by simp; omega)] at hu; cases hu
  subst hj
  simp only [List.getElem?_cons_zero, Option.some.injEq] at hu
  subst hu
  rw [hsz]
  have := hb.cell (0 + i * 1 + 0)
  rw [this]
  simpa using hv
theorem sOk_ten : SOk (10, 17, [[1, 2], [5]]) := by
  refine ⟨by decide, by decide, by decide, by decide, fun i l hl => ?_⟩
  match i, hl with
  | 0, hl =>
    cases hl
    refine ⟨by decide, by decide, fun i a b ha hb => ?_, fun a ha => by cases ha; decide, fun j o hj => by omega⟩
    match i, ha, hb with
    | 0, ha, hb => cases ha; cases hb; decide
    | i + 1, ha, hb => simp at hb
  | 1, hl =>
    cases hl
    refine ⟨by decide, by decide, fun i a b ha hb => by simp at hb, fun a ha => by cases ha; decide, fun j o hj ho x hx => ?_⟩
    obtain rfl : j = 0 := by omega
    cases ho
    simp at hx ⊢
    omega
  | i + 2, hl => simp at hl
theorem Blk.newAt {w : World} {g : Nat} (h : w.heap.size = g) (t : TypeId) (cs : Array Value) : Blk (w.alloc (.cells cs t)) g t cs := h ▸ Blk.new w t cs
theorem size_alloc (w : World) (o : Obj) : (w.alloc o).heap.size = w.heap.size + 1 := by simp
theorem four_blks (w : World) (c1 c2 c3 c4 : Array Value) (t1 t2 t3 t4 : TypeId) :
    Blk ((((w.alloc (.cells c1 t1)).alloc (.cells c2 t2)).alloc (.cells c3 t3)).alloc (.cells c4 t4)) w.heap.size t1 c1 ∧ Blk ((((w.alloc (.cells c1 t1)).alloc (.cells c2 t2)).alloc (.cells c3 t3)).alloc (.cells c4 t4)) (w.heap.size + 1) t2 c2 ∧
    Blk ((((w.alloc (.cells c1 t1)).alloc (.cells c2 t2)).alloc (.cells c3 t3)).alloc (.cells c4 t4)) (w.heap.size + 1 + 1) t3 c3 ∧ Blk ((((w.alloc (.cells c1 t1)).alloc (.cells c2 t2)).alloc (.cells c3 t3)).alloc (.cells c4 t4)) (w.heap.size + 1 + 1 + 1) t4 c4 ∧
    Below w.heap.size w ((((w.alloc (.cells c1 t1)).alloc (.cells c2 t2)).alloc (.cells c3 t3)).alloc (.cells c4 t4)) ∧ ((((w.alloc (.cells c1 t1)).alloc (.cells c2 t2)).alloc (.cells c3 t3)).alloc (.cells c4 t4)).heap.size = w.heap.size + 4 := by
  refine ⟨(((Blk.newAt rfl t1 c1).alloc _).alloc _).alloc _, ((Blk.newAt (size_alloc _ _) t2 c2).alloc _).alloc _, (Blk.newAt (by rw [size_alloc, size_alloc]) t3 c3).alloc _, Blk.newAt (by rw [size_alloc, size_alloc, size_alloc]) t4 c4, ?_, by rw [size_alloc, size_alloc, size_alloc, size_alloc]⟩
  exact ((((Below.refl _ w).alloc (Nat.le_refl _) _).alloc (by simp) _).alloc (by simp; omega) _).alloc (by simp; omega) _
theorem u64_ok (w : World) (D : Dom) (x : Nat) (h : x < 18446744073709551616) : rpU64.ok w D x [.int .u64 (x : Int)] := ⟨rfl, h⟩
theorem slive_any (w : World) : Calls Try.prog 39 #[] w fun e w' => e = .returned (.bool true) ∧ Below w.heap.size w w' := by
  have hok := sOk_ten
  have e1 : dealt (10, 17, [[1, 2], [5]]) 12 = (0, 1, true) := dealt_in hok (by decide) (by decide)
  have e2 : share (10, 17, [[1, 2], [5]]) 0 = 4 := share_in (set := 0) hok (by decide)
  have e3 : share (10, 17, [[1, 2], [5]]) 1 = 3 := share_in (set := 1) hok (by decide)
  have E1 := Lib.hid e1
  have E2 := Lib.hid e2
  have E3 := Lib.hid e3
  clear hok e1 e2 e3
  obtain ⟨k1, k2, k3, k4, hb, hz⟩ := four_blks w #[.int .u64 1, .int .u64 2] #[.int .u64 5] #[.slice (some ⟨w.heap.size, 0, none⟩) 2 2, .slice (some ⟨w.heap.size + 1, 0, none⟩) 1 1] #[.int .u64 10, .int .u64 17, .slice (some ⟨w.heap.size + 1 + 1, 0, none⟩) 2 2] 22 22 46 31
  have K1 := Lib.hid k1
  have K2 := Lib.hid k2
  have K3 := Lib.hid k3
  have K4 := Lib.hid k4
  have HB := Lib.hid hb
  have HZ := Lib.hid hz
  clear k1 k2 k3 k4 hb hz
  go_enter Try.func39, Try.ntmps39
  go_wp2_with fail
  generalize World.alloc (World.alloc (World.alloc (World.alloc w _) _) _) _ = w0 at *
  have hs : (rpSlice rpU64).sl w0 (fun k => w.heap.size ≤ k ∧ k < w0.heap.size) (some ⟨w.heap.size + 1 + 1, 0, none⟩) 2 2 [[1, 2], [5]] := by
    have hz := HZ.out
    refine Rp.sl_block rfl (show Blk _ _ _ _ from K3.out) ⟨by omega, by omega⟩ rfl (by decide) (fun i x hx => ?_)
    match i, hx with
    | 0, hx =>
      cases hx
      refine ⟨_, rfl, Rp.sl_block (r := rpU64) rfl (show Blk _ _ _ _ from K1.out) ⟨by omega, by omega⟩ rfl (by decide) (fun i x hx => ?_)⟩
      match i, hx with
      | 0, hx | 1, hx => cases hx; exact ⟨_, rfl, u64_ok _ _ _ (by decide)⟩
    | 1, hx =>
      cases hx
      refine ⟨_, rfl, Rp.sl_block (r := rpU64) rfl (show Blk _ _ _ _ from K2.out) ⟨by omega, by omega⟩ rfl (by decide) (fun i x hx => ?_)⟩
      match i, hx with
      | 0, hx => cases hx; exact ⟨_, rfl, u64_ok _ _ _ (by decide)⟩
  have HS := Lib.hid hs
  have hk4 := (show Blk _ _ _ _ from K4.out)
  have hd := dealt_any (f := 10) (t := 17) 12 hs (fun k hk => hk.2) (by decide) (by decide) (by decide)
  rw [E1.out] at hd
  have HDL := Lib.hid hd
  have hkl := hk4.lt
  have hz0 := HB.out.size
  clear hs hd hk4
  refine HDL.out.mono ?_; rintro e w1 ⟨rfl, hb1⟩
  have hk4 := Blk.below (show Blk _ _ _ _ from K4.out) hb1 hkl
  have d0 := hk4.cell 0
  have d1 := hk4.cell 1
  have d2 := hk4.cell 2
  have HB1 := Lib.hid hb1
  clear hb1 hk4
  go_wp2_with fail
  have hs1 := share_any (f := 10) (t := 17) 0 (Rp.sl_below HS.out HB1.out (fun k hk => hk.2)) (fun k hk => Nat.lt_of_lt_of_le hk.2 HB1.out.size) (by decide) (by decide)
  rw [E2.out] at hs1
  refine hs1.mono ?_; rintro e w2 ⟨rfl, hb2⟩
  have hb02 := HB1.out.trans (hb2.mono HB1.out.size)
  have hk4 := Blk.below (show Blk _ _ _ _ from K4.out) hb02 hkl
  have d0 := hk4.cell 0
  have d1 := hk4.cell 1
  have d2 := hk4.cell 2
  have HB2 := Lib.hid hb02
  clear hb2 hk4 hs1 hb02
  go_wp2_with fail
  have hs2 := share_any (f := 10) (t := 17) 1 (Rp.sl_below HS.out HB2.out (fun k hk => hk.2)) (fun k hk => Nat.lt_of_lt_of_le hk.2 HB2.out.size) (by decide) (by decide)
  rw [E3.out] at hs2
  refine hs2.mono ?_; rintro e w3 ⟨rfl, hb3⟩
  have hb03 := HB2.out.trans (hb3.mono HB2.out.size)
  clear hs2
  go_wp2_with fail
  go_ret
  exact ⟨rfl, HB.out.trans (hb03.mono hz0)⟩
end Go.Proofs.Ytmdgmnaaopineaa
/- The walk of the law StripeDeals. -/
namespace Go.Proofs.Ytmdgmnaaopineaa
open Go.ChangeShapes Go.WideShapes Go.ChangeAt Go.RowKit
set_option linter.unusedVariables false
theorem nodes_bad {D : Dom} {A : Option Addr} {n c f t : Nat} {sets : List (List Nat)} {w : World} (hs : (rpSlice rpU64).sl w D A n c sets) (hD : ∀ k, D k → k < w.heap.size) (hf : f ≤ 18446744073709551615) (ht : t ≤ 18446744073709551615) (hno : ¬ SOk (f, t, sets)) :
    Calls Try.prog 66 #[.agg (stpV f t A n c)] w fun e w' => e = .returned (.slice none 0 0) ∧ Below w.heap.size w w' := by
  obtain ⟨hlen, hnc, hcm⟩ := Rp.sl_len hs
  subst hlen
  have hb0 : Below w.heap.size w (w.alloc (.cells (stpV f t A sets.length c) 31)) := (Below.refl _ _).alloc (Nat.le_refl _) _
  have hr := right_any (Rp.sl_below hs hb0 hD) (fun k hk => Nat.lt_of_lt_of_le (hD k hk) hb0.size) hf ht
  rw [dec_false hno] at hr
  have HR := Lib.hid hr
  have HB0 := Lib.hid hb0
  clear hs hD hb0 hr hno
  go_enter Try.func66, Try.ntmps66
  go_wp2_with fail
  refine HR.out.mono ?_; rintro e w1 ⟨rfl, hb1⟩
  go_wp2_with fail
  go_ret
  exact ⟨rfl, HB0.out.trans (hb1.mono HB0.out.size)⟩

section
variable {D : Dom} {A : Option Addr} {c f t : Nat} {sets : List (List Nat)} {w : World}
set_option maxRecDepth 100000 in
set_option maxHeartbeats 4000000 in
theorem deals_no (p : Nat) (set : Int) (hno : ¬ SOk (f, t, sets)) (hs : (rpSlice rpU64).sl w D A sets.length c sets) (hD : ∀ k, D k → k < w.heap.size) (hf : f ≤ 18446744073709551615) (ht : t ≤ 18446744073709551615) (hp : p ≤ 18446744073709551615) (hs0 : -9223372036854775808 ≤ set) (hs1 : set ≤ 9223372036854775807) :
    Calls Try.prog 12 #[.agg (stpV f t A sets.length c), .int .u64 (p : Int), .int .i64 set] w fun e w' => e = .returned (.bool true) ∧ Below w.heap.size w w' := by
  obtain ⟨_, hnc, hcm⟩ := Rp.sl_len hs
  unfold maxLen at hcm
  have hb0 : Below w.heap.size w (w.alloc (.cells (stpV f t A sets.length c) 31)) := (Below.refl _ _).alloc (Nat.le_refl _) _
  have HS := Lib.hid (Rp.sl_below hs hb0 hD)
  have HB := Lib.hid hb0
  have HD := Lib.hid (fun k hk => Nat.lt_of_lt_of_le (hD k hk) hb0.size)
  have HK := Lib.hid (Blk.new w 31 (stpV f t A sets.length c))
  clear hs hD hb0
  have E1 := Lib.hid (dealt_out (s := (f, t, sets)) (p := p) (fun h => hno h.1))
  have hsh : share (f, t, sets) set = 0 := share_out (fun h => hno h.1)
  have E2 := Lib.hid (back_out (s := (f, t, sets)) (set := set) (loc := p) (by rw [hsh]; omega))
  have E3 := Lib.hid hsh
  have E4 := Lib.hid (dec_false hno)
  have HNO := Lib.hid hno
  clear hsh hno
  go_enter Try.func12, Try.ntmps12
  go_wp2_with fail
  generalize World.alloc w _ = w0 at *
  have hkl := (show Blk _ _ _ _ from HK.out).lt
  have hz0 := HB.out.size
  have B0 : Hid (Below w0.heap.size w0 w0) := Below.refl _ _
  refine (long_any (f := f) (t := t) HS.out HD.out).mono ?_; rintro e w1 ⟨b, rfl, _, hb⟩
  have hk := (show Blk _ _ _ _ from HK.out).below hb hkl
  have d0 : w1.cell? ⟨w.heap.size, 0, none⟩ = some (.int .u64 (f : Int)) := hk.cell 0
  have d1 : w1.cell? ⟨w.heap.size, 1, none⟩ = some (.int .u64 (t : Int)) := hk.cell 1
  have d2 : w1.cell? ⟨w.heap.size, 2, none⟩ = some (.slice A sets.length c) := hk.cell 2
  have B1 := Lib.hid hb
  clear hb hk
  cases b
  case true =>
    go_wp2_with fail
    refine (slive_any _).mono ?_; rintro e w2 ⟨rfl, hb⟩
    go_wp2_with fail
    go_ret
    exact ⟨rfl, HB.out.trans ((B1.out.trans (hb.mono B1.out.size)).mono hz0)⟩
  go_wp2_with fail
  clear d0 d1 d2
  have hc := dealt_any p (Rp.sl_below HS.out B1.out HD.out) (fun k hk => Nat.lt_of_lt_of_le (HD.out k hk) B1.out.size) hf ht hp
  rw [E1.out] at hc
  have HC1 := Lib.hid hc
  clear hc
  refine (HC1.out).mono ?_; rintro e w2 ⟨rfl, hb⟩
  have hbn := B1.out.trans (hb.mono B1.out.size)
  have hk := HK.out.below hbn hkl
  have d0 : w2.cell? ⟨w.heap.size, 0, none⟩ = some (.int .u64 (f : Int)) := hk.cell 0
  have d1 : w2.cell? ⟨w.heap.size, 1, none⟩ = some (.int .u64 (t : Int)) := hk.cell 1
  have d2 : w2.cell? ⟨w.heap.size, 2, none⟩ = some (.slice A sets.length c) := hk.cell 2
  have B2 := Lib.hid hbn
  clear hb hbn hk
  go_wp2_with fail
  clear d0 d1 d2
  have hc := back_any set p (Rp.sl_below HS.out B2.out HD.out) (fun k hk => Nat.lt_of_lt_of_le (HD.out k hk) B2.out.size) hf ht hp
  rw [E2.out] at hc
  have HC2 := Lib.hid hc
  clear hc
  refine (HC2.out).mono ?_; rintro e w3 ⟨rfl, hb⟩
  have hbn := B2.out.trans (hb.mono B2.out.size)
  have hk := HK.out.below hbn hkl
  have d0 : w3.cell? ⟨w.heap.size, 0, none⟩ = some (.int .u64 (f : Int)) := hk.cell 0
  have d1 : w3.cell? ⟨w.heap.size, 1, none⟩ = some (.int .u64 (t : Int)) := hk.cell 1
  have d2 : w3.cell? ⟨w.heap.size, 2, none⟩ = some (.slice A sets.length c) := hk.cell 2
  have B3 := Lib.hid hbn
  clear hb hbn hk
  go_wp2_with fail
  clear d0 d1 d2
  have hc := rright_any (Rp.sl_below HS.out B3.out HD.out) (fun k hk => Nat.lt_of_lt_of_le (HD.out k hk) B3.out.size) hf ht
  rw [E4.out] at hc
  have HC3 := Lib.hid hc
  clear hc
  refine (HC3.out).mono ?_; rintro e w4 ⟨rfl, hb⟩
  have hbn := B3.out.trans (hb.mono B3.out.size)
  have hk := HK.out.below hbn hkl
  have d0 : w4.cell? ⟨w.heap.size, 0, none⟩ = some (.int .u64 (f : Int)) := hk.cell 0
  have d1 : w4.cell? ⟨w.heap.size, 1, none⟩ = some (.int .u64 (t : Int)) := hk.cell 1
  have d2 : w4.cell? ⟨w.heap.size, 2, none⟩ = some (.slice A sets.length c) := hk.cell 2
  have B4 := Lib.hid hbn
  clear hb hbn hk
  go_wp2_with fail
  clear d0 d1 d2
  have hc := share_any set (Rp.sl_below HS.out B4.out HD.out) (fun k hk => Nat.lt_of_lt_of_le (HD.out k hk) B4.out.size) hf ht
  rw [E3.out] at hc
  have HC4 := Lib.hid hc
  clear hc
  refine (HC4.out).mono ?_; rintro e w5 ⟨rfl, hb⟩
  have hbn := B4.out.trans (hb.mono B4.out.size)
  have hk := HK.out.below hbn hkl
  have d0 : w5.cell? ⟨w.heap.size, 0, none⟩ = some (.int .u64 (f : Int)) := hk.cell 0
  have d1 : w5.cell? ⟨w.heap.size, 1, none⟩ = some (.int .u64 (t : Int)) := hk.cell 1
  have d2 : w5.cell? ⟨w.heap.size, 2, none⟩ = some (.slice A sets.length c) := hk.cell 2
  have B5 := Lib.hid hbn
  clear hb hbn hk
  go_wp2_with fail
  clear d0 d1 d2
  have hc := nodes_bad (Rp.sl_below HS.out B5.out HD.out) (fun k hk => Nat.lt_of_lt_of_le (HD.out k hk) B5.out.size) hf ht HNO.out
  have HC5 := Lib.hid hc
  clear hc
  refine (HC5.out).mono ?_; rintro e w6 ⟨rfl, hb⟩
  have hbn := B5.out.trans (hb.mono B5.out.size)
  have hk := HK.out.below hbn hkl
  have d0 : w6.cell? ⟨w.heap.size, 0, none⟩ = some (.int .u64 (f : Int)) := hk.cell 0
  have d1 : w6.cell? ⟨w.heap.size, 1, none⟩ = some (.int .u64 (t : Int)) := hk.cell 1
  have d2 : w6.cell? ⟨w.heap.size, 2, none⟩ = some (.slice A sets.length c) := hk.cell 2
  have B6 := Lib.hid hbn
  clear hb hbn hk
  go_wp2_with fail
  clear d0 d1 d2
  refine (slive_any _).mono ?_; rintro e w7 ⟨rfl, hb⟩
  have hbn := B6.out.trans (hb.mono B6.out.size)
  have B7 := Lib.hid hbn
  clear hb hbn
  go_wp2_with fail
  go_ret
  exact ⟨rfl, HB.out.trans (B7.out.mono hz0)⟩
set_option maxRecDepth 100000 in
set_option maxHeartbeats 4000000 in
theorem deals_in_is (p : Nat) (set : Int) (hok : SOk (f, t, sets)) (hin : f ≤ p ∧ p < t) (his : p < share (f, t, sets) set) (hs : (rpSlice rpU64).sl w D A sets.length c sets) (hD : ∀ k, D k → k < w.heap.size) (hf : f ≤ 18446744073709551615) (ht : t ≤ 18446744073709551615) (hp : p ≤ 18446744073709551615) (hs0 : -9223372036854775808 ≤ set) (hs1 : set ≤ 9223372036854775807) :
    Calls Try.prog 12 #[.agg (stpV f t A sets.length c), .int .u64 (p : Int), .int .i64 set] w fun e w' => e = .returned (.bool true) ∧ Below w.heap.size w w' := by
  obtain ⟨_, hnc, hcm⟩ := Rp.sl_len hs
  unfold maxLen at hcm
  have hb0 : Below w.heap.size w (w.alloc (.cells (stpV f t A sets.length c) 31)) := (Below.refl _ _).alloc (Nat.le_refl _) _
  have HS := Lib.hid (Rp.sl_below hs hb0 hD)
  have HB := Lib.hid hb0
  have HD := Lib.hid (fun k hk => Nat.lt_of_lt_of_le (hD k hk) hb0.size)
  have HK := Lib.hid (Blk.new w 31 (stpV f t A sets.length c))
  clear hs hD hb0
  have h1 : f < t := hok.1
  have h2 : t ≤ 4611686018427387904 := hok.2.1
  have h3 : 1 ≤ sets.length := hok.2.2.1
  have h4 : sets.length ≤ 8 := hok.2.2.2.1
  have E4 := Lib.hid (dec_true hok)
  have hin1 : f ≤ p := hin.1
  have hin2 : p < t := hin.2
  obtain ⟨K, hK⟩ : ∃ K : Nat, K = (p - f) % sets.length := ⟨_, rfl⟩
  obtain ⟨N, hN⟩ : ∃ N : Nat, N = (p - f) / sets.length := ⟨_, rfl⟩
  have hKl : K < 8 := by have := Nat.mod_lt (p - f) (show 0 < sets.length by omega); omega
  have hNl : N ≤ 18446744073709551615 := by have := Nat.div_le_self (p - f) sets.length; omega
  have e1 : dealt (f, t, sets) p = (K, N, true) := by rw [hK, hN]; exact dealt_in hok hin.1 hin.2
  have e5 : back (f, t, sets) (K : Int) N = (p, true) := by rw [hK, hN]; exact dealt_back hok hin.1 hin.2
  have hKe : ((p : Int) - f) % (sets.length : Int) = (K : Int) := by rw [hK, Int.natCast_emod, Int.natCast_sub hin1]
  have hNe : ((p : Int) - f) / (sets.length : Int) = (N : Int) := by rw [hN, Int.natCast_ediv, Int.natCast_sub hin1]
  have E1 := Lib.hid e1
  have E5 := Lib.hid e5
  clear hK hN e1 e5 hin
  obtain ⟨j, rfl, hj, hbk, hq1, hdq⟩ := back_dealt his
  dsimp only at hj hbk hq1 hdq
  obtain ⟨Q, hQ⟩ : ∃ Q : Nat, Q = f + p * sets.length + j := ⟨_, rfl⟩
  rw [← hQ] at hbk hq1 hdq
  have hQl : Q ≤ 18446744073709551615 := by omega
  obtain ⟨sh, hsh⟩ : ∃ sh : Nat, sh = share (f, t, sets) (j : Int) := ⟨_, rfl⟩
  have hlt : p < sh := by rw [hsh]; exact his
  have hdlt : decide (p < sh) = true := by simp; omega
  have hdj : decide (j < sets.length) = true := by simp; omega
  have E2 := Lib.hid hbk
  have E3 := Lib.hid hsh.symm
  have E6 := Lib.hid hdq
  clear hQ hsh hbk hdq his
  clear hok
  go_enter Try.func12, Try.ntmps12
  go_wp2_with fail
  generalize World.alloc w _ = w0 at *
  have hkl := (show Blk _ _ _ _ from HK.out).lt
  have hz0 := HB.out.size
  have B0 : Hid (Below w0.heap.size w0 w0) := Below.refl _ _
  refine (long_any (f := f) (t := t) HS.out HD.out).mono ?_; rintro e w1 ⟨b, rfl, _, hb⟩
  have hk := (show Blk _ _ _ _ from HK.out).below hb hkl
  have d0 : w1.cell? ⟨w.heap.size, 0, none⟩ = some (.int .u64 (f : Int)) := hk.cell 0
  have d1 : w1.cell? ⟨w.heap.size, 1, none⟩ = some (.int .u64 (t : Int)) := hk.cell 1
  have d2 : w1.cell? ⟨w.heap.size, 2, none⟩ = some (.slice A sets.length c) := hk.cell 2
  have B1 := Lib.hid hb
  clear hb hk
  cases b
  case true =>
    go_wp2_with fail
    refine (slive_any _).mono ?_; rintro e w2 ⟨rfl, hb⟩
    go_wp2_with fail
    go_ret
    exact ⟨rfl, HB.out.trans ((B1.out.trans (hb.mono B1.out.size)).mono hz0)⟩
  go_wp2_with fail
  clear d0 d1 d2
  have hc := dealt_any p (Rp.sl_below HS.out B1.out HD.out) (fun k hk => Nat.lt_of_lt_of_le (HD.out k hk) B1.out.size) hf ht hp
  rw [E1.out] at hc
  have HC1 := Lib.hid hc
  clear hc
  refine (HC1.out).mono ?_; rintro e w2 ⟨rfl, hb⟩
  have hbn := B1.out.trans (hb.mono B1.out.size)
  have hk := HK.out.below hbn hkl
  have d0 : w2.cell? ⟨w.heap.size, 0, none⟩ = some (.int .u64 (f : Int)) := hk.cell 0
  have d1 : w2.cell? ⟨w.heap.size, 1, none⟩ = some (.int .u64 (t : Int)) := hk.cell 1
  have d2 : w2.cell? ⟨w.heap.size, 2, none⟩ = some (.slice A sets.length c) := hk.cell 2
  have B2 := Lib.hid hbn
  clear hb hbn hk
  go_wp2_with fail
  clear d0 d1 d2
  have hc := back_any (j : Int) p (Rp.sl_below HS.out B2.out HD.out) (fun k hk => Nat.lt_of_lt_of_le (HD.out k hk) B2.out.size) hf ht hp
  rw [E2.out] at hc
  have HC2 := Lib.hid hc
  clear hc
  refine (HC2.out).mono ?_; rintro e w3 ⟨rfl, hb⟩
  have hbn := B2.out.trans (hb.mono B2.out.size)
  have hk := HK.out.below hbn hkl
  have d0 : w3.cell? ⟨w.heap.size, 0, none⟩ = some (.int .u64 (f : Int)) := hk.cell 0
  have d1 : w3.cell? ⟨w.heap.size, 1, none⟩ = some (.int .u64 (t : Int)) := hk.cell 1
  have d2 : w3.cell? ⟨w.heap.size, 2, none⟩ = some (.slice A sets.length c) := hk.cell 2
  have B3 := Lib.hid hbn
  clear hb hbn hk
  go_wp2_with fail
  clear d0 d1 d2
  have hc := rright_any (Rp.sl_below HS.out B3.out HD.out) (fun k hk => Nat.lt_of_lt_of_le (HD.out k hk) B3.out.size) hf ht
  rw [E4.out] at hc
  have HC3 := Lib.hid hc
  clear hc
  refine (HC3.out).mono ?_; rintro e w4 ⟨rfl, hb⟩
  have hbn := B3.out.trans (hb.mono B3.out.size)
  have hk := HK.out.below hbn hkl
  have d0 : w4.cell? ⟨w.heap.size, 0, none⟩ = some (.int .u64 (f : Int)) := hk.cell 0
  have d1 : w4.cell? ⟨w.heap.size, 1, none⟩ = some (.int .u64 (t : Int)) := hk.cell 1
  have d2 : w4.cell? ⟨w.heap.size, 2, none⟩ = some (.slice A sets.length c) := hk.cell 2
  have B4 := Lib.hid hbn
  clear hb hbn hk
  go_wp2_with fail
  clear d0 d1 d2
  have hc := back_any (K : Int) N (Rp.sl_below HS.out B4.out HD.out) (fun k hk => Nat.lt_of_lt_of_le (HD.out k hk) B4.out.size) hf ht hNl
  rw [E5.out] at hc
  have HC4 := Lib.hid hc
  clear hc
  refine (HC4.out).mono ?_; rintro e w5 ⟨rfl, hb⟩
  have hbn := B4.out.trans (hb.mono B4.out.size)
  have hk := HK.out.below hbn hkl
  have d0 : w5.cell? ⟨w.heap.size, 0, none⟩ = some (.int .u64 (f : Int)) := hk.cell 0
  have d1 : w5.cell? ⟨w.heap.size, 1, none⟩ = some (.int .u64 (t : Int)) := hk.cell 1
  have d2 : w5.cell? ⟨w.heap.size, 2, none⟩ = some (.slice A sets.length c) := hk.cell 2
  have B5 := Lib.hid hbn
  clear hb hbn hk
  go_wp2_with fail
  clear d0 d1 d2
  have hc := share_any (j : Int) (Rp.sl_below HS.out B5.out HD.out) (fun k hk => Nat.lt_of_lt_of_le (HD.out k hk) B5.out.size) hf ht
  rw [E3.out] at hc
  have HC5 := Lib.hid hc
  clear hc
  refine (HC5.out).mono ?_; rintro e w6 ⟨rfl, hb⟩
  have hbn := B5.out.trans (hb.mono B5.out.size)
  have hk := HK.out.below hbn hkl
  have d0 : w6.cell? ⟨w.heap.size, 0, none⟩ = some (.int .u64 (f : Int)) := hk.cell 0
  have d1 : w6.cell? ⟨w.heap.size, 1, none⟩ = some (.int .u64 (t : Int)) := hk.cell 1
  have d2 : w6.cell? ⟨w.heap.size, 2, none⟩ = some (.slice A sets.length c) := hk.cell 2
  have B6 := Lib.hid hbn
  clear hb hbn hk
  go_wp2_with fail
  clear d0 d1 d2
  have hc := dealt_any Q (Rp.sl_below HS.out B6.out HD.out) (fun k hk => Nat.lt_of_lt_of_le (HD.out k hk) B6.out.size) hf ht hQl
  rw [E6.out] at hc
  have HC6 := Lib.hid hc
  clear hc
  refine (HC6.out).mono ?_; rintro e w7 ⟨rfl, hb⟩
  have hbn := B6.out.trans (hb.mono B6.out.size)
  have hk := HK.out.below hbn hkl
  have d0 : w7.cell? ⟨w.heap.size, 0, none⟩ = some (.int .u64 (f : Int)) := hk.cell 0
  have d1 : w7.cell? ⟨w.heap.size, 1, none⟩ = some (.int .u64 (t : Int)) := hk.cell 1
  have d2 : w7.cell? ⟨w.heap.size, 2, none⟩ = some (.slice A sets.length c) := hk.cell 2
  have B7 := Lib.hid hbn
  clear hb hbn hk
  go_wp2_with fail
  clear d0 d1 d2
  refine (slive_any _).mono ?_; rintro e w8 ⟨rfl, hb⟩
  have hbn := B7.out.trans (hb.mono B7.out.size)
  have B8 := Lib.hid hbn
  clear hb hbn
  go_wp2_with fail
  go_ret
  exact ⟨rfl, HB.out.trans (B8.out.mono hz0)⟩
set_option maxRecDepth 100000 in
set_option maxHeartbeats 4000000 in
theorem deals_in_there (p : Nat) (set : Int) (hok : SOk (f, t, sets)) (hin : f ≤ p ∧ p < t) (his : ¬ p < share (f, t, sets) set) (hth : 0 ≤ set ∧ set < sets.length) (hs : (rpSlice rpU64).sl w D A sets.length c sets) (hD : ∀ k, D k → k < w.heap.size) (hf : f ≤ 18446744073709551615) (ht : t ≤ 18446744073709551615) (hp : p ≤ 18446744073709551615) (hs0 : -9223372036854775808 ≤ set) (hs1 : set ≤ 9223372036854775807) :
    Calls Try.prog 12 #[.agg (stpV f t A sets.length c), .int .u64 (p : Int), .int .i64 set] w fun e w' => e = .returned (.bool true) ∧ Below w.heap.size w w' := by
  obtain ⟨_, hnc, hcm⟩ := Rp.sl_len hs
  unfold maxLen at hcm
  have hb0 : Below w.heap.size w (w.alloc (.cells (stpV f t A sets.length c) 31)) := (Below.refl _ _).alloc (Nat.le_refl _) _
  have HS := Lib.hid (Rp.sl_below hs hb0 hD)
  have HB := Lib.hid hb0
  have HD := Lib.hid (fun k hk => Nat.lt_of_lt_of_le (hD k hk) hb0.size)
  have HK := Lib.hid (Blk.new w 31 (stpV f t A sets.length c))
  clear hs hD hb0
  have h1 : f < t := hok.1
  have h2 : t ≤ 4611686018427387904 := hok.2.1
  have h3 : 1 ≤ sets.length := hok.2.2.1
  have h4 : sets.length ≤ 8 := hok.2.2.2.1
  have E4 := Lib.hid (dec_true hok)
  have hin1 : f ≤ p := hin.1
  have hin2 : p < t := hin.2
  obtain ⟨K, hK⟩ : ∃ K : Nat, K = (p - f) % sets.length := ⟨_, rfl⟩
  obtain ⟨N, hN⟩ : ∃ N : Nat, N = (p - f) / sets.length := ⟨_, rfl⟩
  have hKl : K < 8 := by have := Nat.mod_lt (p - f) (show 0 < sets.length by omega); omega
  have hNl : N ≤ 18446744073709551615 := by have := Nat.div_le_self (p - f) sets.length; omega
  have e1 : dealt (f, t, sets) p = (K, N, true) := by rw [hK, hN]; exact dealt_in hok hin.1 hin.2
  have e5 : back (f, t, sets) (K : Int) N = (p, true) := by rw [hK, hN]; exact dealt_back hok hin.1 hin.2
  have hKe : ((p : Int) - f) % (sets.length : Int) = (K : Int) := by rw [hK, Int.natCast_emod, Int.natCast_sub hin1]
  have hNe : ((p : Int) - f) / (sets.length : Int) = (N : Int) := by rw [hN, Int.natCast_ediv, Int.natCast_sub hin1]
  have E1 := Lib.hid e1
  have E5 := Lib.hid e5
  clear hK hN e1 e5 hin
  have E2 := Lib.hid (back_out (s := (f, t, sets)) (set := set) (loc := p) (by omega))
  obtain ⟨hth1, hth2⟩ := hth
  obtain ⟨sh, hsh⟩ : ∃ sh : Nat, sh = share (f, t, sets) set := ⟨_, rfl⟩
  have hge : sh ≤ p := by rw [hsh]; omega
  have hdlt : decide (p < sh) = false := by simp; omega
  have E3 := Lib.hid hsh.symm
  clear hsh his
  clear hok
  go_enter Try.func12, Try.ntmps12
  go_wp2_with fail
  generalize World.alloc w _ = w0 at *
  have hkl := (show Blk _ _ _ _ from HK.out).lt
  have hz0 := HB.out.size
  have B0 : Hid (Below w0.heap.size w0 w0) := Below.refl _ _
  refine (long_any (f := f) (t := t) HS.out HD.out).mono ?_; rintro e w1 ⟨b, rfl, _, hb⟩
  have hk := (show Blk _ _ _ _ from HK.out).below hb hkl
  have d0 : w1.cell? ⟨w.heap.size, 0, none⟩ = some (.int .u64 (f : Int)) := hk.cell 0
  have d1 : w1.cell? ⟨w.heap.size, 1, none⟩ = some (.int .u64 (t : Int)) := hk.cell 1
  have d2 : w1.cell? ⟨w.heap.size, 2, none⟩ = some (.slice A sets.length c) := hk.cell 2
  have B1 := Lib.hid hb
  clear hb hk
  cases b
  case true =>
    go_wp2_with fail
    refine (slive_any _).mono ?_; rintro e w2 ⟨rfl, hb⟩
    go_wp2_with fail
    go_ret
    exact ⟨rfl, HB.out.trans ((B1.out.trans (hb.mono B1.out.size)).mono hz0)⟩
  go_wp2_with fail
  clear d0 d1 d2
  have hc := dealt_any p (Rp.sl_below HS.out B1.out HD.out) (fun k hk => Nat.lt_of_lt_of_le (HD.out k hk) B1.out.size) hf ht hp
  rw [E1.out] at hc
  have HC1 := Lib.hid hc
  clear hc
  refine (HC1.out).mono ?_; rintro e w2 ⟨rfl, hb⟩
  have hbn := B1.out.trans (hb.mono B1.out.size)
  have hk := HK.out.below hbn hkl
  have d0 : w2.cell? ⟨w.heap.size, 0, none⟩ = some (.int .u64 (f : Int)) := hk.cell 0
  have d1 : w2.cell? ⟨w.heap.size, 1, none⟩ = some (.int .u64 (t : Int)) := hk.cell 1
  have d2 : w2.cell? ⟨w.heap.size, 2, none⟩ = some (.slice A sets.length c) := hk.cell 2
  have B2 := Lib.hid hbn
  clear hb hbn hk
  go_wp2_with fail
  clear d0 d1 d2
  have hc := back_any set p (Rp.sl_below HS.out B2.out HD.out) (fun k hk => Nat.lt_of_lt_of_le (HD.out k hk) B2.out.size) hf ht hp
  rw [E2.out] at hc
  have HC2 := Lib.hid hc
  clear hc
  refine (HC2.out).mono ?_; rintro e w3 ⟨rfl, hb⟩
  have hbn := B2.out.trans (hb.mono B2.out.size)
  have hk := HK.out.below hbn hkl
  have d0 : w3.cell? ⟨w.heap.size, 0, none⟩ = some (.int .u64 (f : Int)) := hk.cell 0
  have d1 : w3.cell? ⟨w.heap.size, 1, none⟩ = some (.int .u64 (t : Int)) := hk.cell 1
  have d2 : w3.cell? ⟨w.heap.size, 2, none⟩ = some (.slice A sets.length c) := hk.cell 2
  have B3 := Lib.hid hbn
  clear hb hbn hk
  go_wp2_with fail
  clear d0 d1 d2
  have hc := rright_any (Rp.sl_below HS.out B3.out HD.out) (fun k hk => Nat.lt_of_lt_of_le (HD.out k hk) B3.out.size) hf ht
  rw [E4.out] at hc
  have HC3 := Lib.hid hc
  clear hc
  refine (HC3.out).mono ?_; rintro e w4 ⟨rfl, hb⟩
  have hbn := B3.out.trans (hb.mono B3.out.size)
  have hk := HK.out.below hbn hkl
  have d0 : w4.cell? ⟨w.heap.size, 0, none⟩ = some (.int .u64 (f : Int)) := hk.cell 0
  have d1 : w4.cell? ⟨w.heap.size, 1, none⟩ = some (.int .u64 (t : Int)) := hk.cell 1
  have d2 : w4.cell? ⟨w.heap.size, 2, none⟩ = some (.slice A sets.length c) := hk.cell 2
  have B4 := Lib.hid hbn
  clear hb hbn hk
  go_wp2_with fail
  clear d0 d1 d2
  have hc := back_any (K : Int) N (Rp.sl_below HS.out B4.out HD.out) (fun k hk => Nat.lt_of_lt_of_le (HD.out k hk) B4.out.size) hf ht hNl
  rw [E5.out] at hc
  have HC4 := Lib.hid hc
  clear hc
  refine (HC4.out).mono ?_; rintro e w5 ⟨rfl, hb⟩
  have hbn := B4.out.trans (hb.mono B4.out.size)
  have hk := HK.out.below hbn hkl
  have d0 : w5.cell? ⟨w.heap.size, 0, none⟩ = some (.int .u64 (f : Int)) := hk.cell 0
  have d1 : w5.cell? ⟨w.heap.size, 1, none⟩ = some (.int .u64 (t : Int)) := hk.cell 1
  have d2 : w5.cell? ⟨w.heap.size, 2, none⟩ = some (.slice A sets.length c) := hk.cell 2
  have B5 := Lib.hid hbn
  clear hb hbn hk
  go_wp2_with fail
  clear d0 d1 d2
  have hc := share_any set (Rp.sl_below HS.out B5.out HD.out) (fun k hk => Nat.lt_of_lt_of_le (HD.out k hk) B5.out.size) hf ht
  rw [E3.out] at hc
  have HC5 := Lib.hid hc
  clear hc
  refine (HC5.out).mono ?_; rintro e w6 ⟨rfl, hb⟩
  have hbn := B5.out.trans (hb.mono B5.out.size)
  have hk := HK.out.below hbn hkl
  have d0 : w6.cell? ⟨w.heap.size, 0, none⟩ = some (.int .u64 (f : Int)) := hk.cell 0
  have d1 : w6.cell? ⟨w.heap.size, 1, none⟩ = some (.int .u64 (t : Int)) := hk.cell 1
  have d2 : w6.cell? ⟨w.heap.size, 2, none⟩ = some (.slice A sets.length c) := hk.cell 2
  have B6 := Lib.hid hbn
  clear hb hbn hk
  go_wp2_with fail
  clear d0 d1 d2
  refine (slive_any _).mono ?_; rintro e w7 ⟨rfl, hb⟩
  have hbn := B6.out.trans (hb.mono B6.out.size)
  have B7 := Lib.hid hbn
  clear hb hbn
  go_wp2_with fail
  go_ret
  exact ⟨rfl, HB.out.trans (B7.out.mono hz0)⟩
set_option maxRecDepth 100000 in
set_option maxHeartbeats 4000000 in
theorem deals_in_not (p : Nat) (set : Int) (hok : SOk (f, t, sets)) (hin : f ≤ p ∧ p < t) (his : ¬ p < share (f, t, sets) set) (hth : ¬ (0 ≤ set ∧ set < sets.length)) (hs : (rpSlice rpU64).sl w D A sets.length c sets) (hD : ∀ k, D k → k < w.heap.size) (hf : f ≤ 18446744073709551615) (ht : t ≤ 18446744073709551615) (hp : p ≤ 18446744073709551615) (hs0 : -9223372036854775808 ≤ set) (hs1 : set ≤ 9223372036854775807) :
    Calls Try.prog 12 #[.agg (stpV f t A sets.length c), .int .u64 (p : Int), .int .i64 set] w fun e w' => e = .returned (.bool true) ∧ Below w.heap.size w w' := by
  obtain ⟨_, hnc, hcm⟩ := Rp.sl_len hs
  unfold maxLen at hcm
  have hb0 : Below w.heap.size w (w.alloc (.cells (stpV f t A sets.length c) 31)) := (Below.refl _ _).alloc (Nat.le_refl _) _
  have HS := Lib.hid (Rp.sl_below hs hb0 hD)
  have HB := Lib.hid hb0
  have HD := Lib.hid (fun k hk => Nat.lt_of_lt_of_le (hD k hk) hb0.size)
  have HK := Lib.hid (Blk.new w 31 (stpV f t A sets.length c))
  clear hs hD hb0
  have h1 : f < t := hok.1
  have h2 : t ≤ 4611686018427387904 := hok.2.1
  have h3 : 1 ≤ sets.length := hok.2.2.1
  have h4 : sets.length ≤ 8 := hok.2.2.2.1
  have E4 := Lib.hid (dec_true hok)
  have hin1 : f ≤ p := hin.1
  have hin2 : p < t := hin.2
  obtain ⟨K, hK⟩ : ∃ K : Nat, K = (p - f) % sets.length := ⟨_, rfl⟩
  obtain ⟨N, hN⟩ : ∃ N : Nat, N = (p - f) / sets.length := ⟨_, rfl⟩
  have hKl : K < 8 := by have := Nat.mod_lt (p - f) (show 0 < sets.length by omega); omega
  have hNl : N ≤ 18446744073709551615 := by have := Nat.div_le_self (p - f) sets.length; omega
  have e1 : dealt (f, t, sets) p = (K, N, true) := by rw [hK, hN]; exact dealt_in hok hin.1 hin.2
  have e5 : back (f, t, sets) (K : Int) N = (p, true) := by rw [hK, hN]; exact dealt_back hok hin.1 hin.2
  have hKe : ((p : Int) - f) % (sets.length : Int) = (K : Int) := by rw [hK, Int.natCast_emod, Int.natCast_sub hin1]
  have hNe : ((p : Int) - f) / (sets.length : Int) = (N : Int) := by rw [hN, Int.natCast_ediv, Int.natCast_sub hin1]
  have E1 := Lib.hid e1
  have E5 := Lib.hid e5
  clear hK hN e1 e5 hin
  have E2 := Lib.hid (back_out (s := (f, t, sets)) (set := set) (loc := p) (by omega))
  have hth' : set < 0 ∨ (0 ≤ set ∧ (sets.length : Int) ≤ set) := by omega
  clear his hth
  clear hok
  rcases hth' with hth | ⟨hth1, hth2⟩
  all_goals
    go_enter Try.func12, Try.ntmps12
    go_wp2_with fail
    generalize World.alloc w _ = w0 at *
    have hkl := (show Blk _ _ _ _ from HK.out).lt
    have hz0 := HB.out.size
    have B0 : Hid (Below w0.heap.size w0 w0) := Below.refl _ _
    refine (long_any (f := f) (t := t) HS.out HD.out).mono ?_; rintro e w1 ⟨b, rfl, _, hb⟩
    have hk := (show Blk _ _ _ _ from HK.out).below hb hkl
    have d0 : w1.cell? ⟨w.heap.size, 0, none⟩ = some (.int .u64 (f : Int)) := hk.cell 0
    have d1 : w1.cell? ⟨w.heap.size, 1, none⟩ = some (.int .u64 (t : Int)) := hk.cell 1
    have d2 : w1.cell? ⟨w.heap.size, 2, none⟩ = some (.slice A sets.length c) := hk.cell 2
    have B1 := Lib.hid hb
    clear hb hk
    cases b
    case true =>
      go_wp2_with fail
      refine (slive_any _).mono ?_; rintro e w2 ⟨rfl, hb⟩
      go_wp2_with fail
      go_ret
      exact ⟨rfl, HB.out.trans ((B1.out.trans (hb.mono B1.out.size)).mono hz0)⟩
    go_wp2_with fail
    clear d0 d1 d2
    have hc := dealt_any p (Rp.sl_below HS.out B1.out HD.out) (fun k hk => Nat.lt_of_lt_of_le (HD.out k hk) B1.out.size) hf ht hp
    rw [E1.out] at hc
    have HC1 := Lib.hid hc
    clear hc
    refine (HC1.out).mono ?_; rintro e w2 ⟨rfl, hb⟩
    have hbn := B1.out.trans (hb.mono B1.out.size)
    have hk := HK.out.below hbn hkl
    have d0 : w2.cell? ⟨w.heap.size, 0, none⟩ = some (.int .u64 (f : Int)) := hk.cell 0
    have d1 : w2.cell? ⟨w.heap.size, 1, none⟩ = some (.int .u64 (t : Int)) := hk.cell 1
    have d2 : w2.cell? ⟨w.heap.size, 2, none⟩ = some (.slice A sets.length c) := hk.cell 2
    have B2 := Lib.hid hbn
    clear hb hbn hk
    go_wp2_with fail
    clear d0 d1 d2
    have hc := back_any set p (Rp.sl_below HS.out B2.out HD.out) (fun k hk => Nat.lt_of_lt_of_le (HD.out k hk) B2.out.size) hf ht hp
    rw [E2.out] at hc
    have HC2 := Lib.hid hc
    clear hc
    refine (HC2.out).mono ?_; rintro e w3 ⟨rfl, hb⟩
    have hbn := B2.out.trans (hb.mono B2.out.size)
    have hk := HK.out.below hbn hkl
    have d0 : w3.cell? ⟨w.heap.size, 0, none⟩ = some (.int .u64 (f : Int)) := hk.cell 0
    have d1 : w3.cell? ⟨w.heap.size, 1, none⟩ = some (.int .u64 (t : Int)) := hk.cell 1
    have d2 : w3.cell? ⟨w.heap.size, 2, none⟩ = some (.slice A sets.length c) := hk.cell 2
    have B3 := Lib.hid hbn
    clear hb hbn hk
    go_wp2_with fail
    clear d0 d1 d2
    have hc := rright_any (Rp.sl_below HS.out B3.out HD.out) (fun k hk => Nat.lt_of_lt_of_le (HD.out k hk) B3.out.size) hf ht
    rw [E4.out] at hc
    have HC3 := Lib.hid hc
    clear hc
    refine (HC3.out).mono ?_; rintro e w4 ⟨rfl, hb⟩
    have hbn := B3.out.trans (hb.mono B3.out.size)
    have hk := HK.out.below hbn hkl
    have d0 : w4.cell? ⟨w.heap.size, 0, none⟩ = some (.int .u64 (f : Int)) := hk.cell 0
    have d1 : w4.cell? ⟨w.heap.size, 1, none⟩ = some (.int .u64 (t : Int)) := hk.cell 1
    have d2 : w4.cell? ⟨w.heap.size, 2, none⟩ = some (.slice A sets.length c) := hk.cell 2
    have B4 := Lib.hid hbn
    clear hb hbn hk
    go_wp2_with fail
    clear d0 d1 d2
    have hc := back_any (K : Int) N (Rp.sl_below HS.out B4.out HD.out) (fun k hk => Nat.lt_of_lt_of_le (HD.out k hk) B4.out.size) hf ht hNl
    rw [E5.out] at hc
    have HC4 := Lib.hid hc
    clear hc
    refine (HC4.out).mono ?_; rintro e w5 ⟨rfl, hb⟩
    have hbn := B4.out.trans (hb.mono B4.out.size)
    have hk := HK.out.below hbn hkl
    have d0 : w5.cell? ⟨w.heap.size, 0, none⟩ = some (.int .u64 (f : Int)) := hk.cell 0
    have d1 : w5.cell? ⟨w.heap.size, 1, none⟩ = some (.int .u64 (t : Int)) := hk.cell 1
    have d2 : w5.cell? ⟨w.heap.size, 2, none⟩ = some (.slice A sets.length c) := hk.cell 2
    have B5 := Lib.hid hbn
    clear hb hbn hk
    go_wp2_with fail
    clear d0 d1 d2
    refine (slive_any _).mono ?_; rintro e w6 ⟨rfl, hb⟩
    have hbn := B5.out.trans (hb.mono B5.out.size)
    have B6 := Lib.hid hbn
    clear hb hbn
    go_wp2_with fail
    go_ret
    exact ⟨rfl, HB.out.trans (B6.out.mono hz0)⟩
set_option maxRecDepth 100000 in
set_option maxHeartbeats 4000000 in
theorem deals_out_is (p : Nat) (set : Int) (hok : SOk (f, t, sets)) (hin : ¬ (f ≤ p ∧ p < t)) (his : p < share (f, t, sets) set) (hs : (rpSlice rpU64).sl w D A sets.length c sets) (hD : ∀ k, D k → k < w.heap.size) (hf : f ≤ 18446744073709551615) (ht : t ≤ 18446744073709551615) (hp : p ≤ 18446744073709551615) (hs0 : -9223372036854775808 ≤ set) (hs1 : set ≤ 9223372036854775807) :
    Calls Try.prog 12 #[.agg (stpV f t A sets.length c), .int .u64 (p : Int), .int .i64 set] w fun e w' => e = .returned (.bool true) ∧ Below w.heap.size w w' := by
  obtain ⟨_, hnc, hcm⟩ := Rp.sl_len hs
  unfold maxLen at hcm
  have hb0 : Below w.heap.size w (w.alloc (.cells (stpV f t A sets.length c) 31)) := (Below.refl _ _).alloc (Nat.le_refl _) _
  have HS := Lib.hid (Rp.sl_below hs hb0 hD)
  have HB := Lib.hid hb0
  have HD := Lib.hid (fun k hk => Nat.lt_of_lt_of_le (hD k hk) hb0.size)
  have HK := Lib.hid (Blk.new w 31 (stpV f t A sets.length c))
  clear hs hD hb0
  have h1 : f < t := hok.1
  have h2 : t ≤ 4611686018427387904 := hok.2.1
  have h3 : 1 ≤ sets.length := hok.2.2.1
  have h4 : sets.length ≤ 8 := hok.2.2.2.1
  have E4 := Lib.hid (dec_true hok)
  have E1 := Lib.hid (dealt_out (s := (f, t, sets)) (p := p) (fun h => hin h.2))
  have hin' : p < f ∨ (f ≤ p ∧ t ≤ p) := by omega
  clear hin
  obtain ⟨j, rfl, hj, hbk, hq1, hdq⟩ := back_dealt his
  dsimp only at hj hbk hq1 hdq
  obtain ⟨Q, hQ⟩ : ∃ Q : Nat, Q = f + p * sets.length + j := ⟨_, rfl⟩
  rw [← hQ] at hbk hq1 hdq
  have hQl : Q ≤ 18446744073709551615 := by omega
  obtain ⟨sh, hsh⟩ : ∃ sh : Nat, sh = share (f, t, sets) (j : Int) := ⟨_, rfl⟩
  have hlt : p < sh := by rw [hsh]; exact his
  have hdlt : decide (p < sh) = true := by simp; omega
  have hdj : decide (j < sets.length) = true := by simp; omega
  have E2 := Lib.hid hbk
  have E3 := Lib.hid hsh.symm
  have E6 := Lib.hid hdq
  clear hQ hsh hbk hdq his
  clear hok
  rcases hin' with hin1 | ⟨hin1, hin2⟩
  all_goals
    go_enter Try.func12, Try.ntmps12
    go_wp2_with fail
    generalize World.alloc w _ = w0 at *
    have hkl := (show Blk _ _ _ _ from HK.out).lt
    have hz0 := HB.out.size
    have B0 : Hid (Below w0.heap.size w0 w0) := Below.refl _ _
    refine (long_any (f := f) (t := t) HS.out HD.out).mono ?_; rintro e w1 ⟨b, rfl, _, hb⟩
    have hk := (show Blk _ _ _ _ from HK.out).below hb hkl
    have d0 : w1.cell? ⟨w.heap.size, 0, none⟩ = some (.int .u64 (f : Int)) := hk.cell 0
    have d1 : w1.cell? ⟨w.heap.size, 1, none⟩ = some (.int .u64 (t : Int)) := hk.cell 1
    have d2 : w1.cell? ⟨w.heap.size, 2, none⟩ = some (.slice A sets.length c) := hk.cell 2
    have B1 := Lib.hid hb
    clear hb hk
    cases b
    case true =>
      go_wp2_with fail
      refine (slive_any _).mono ?_; rintro e w2 ⟨rfl, hb⟩
      go_wp2_with fail
      go_ret
      exact ⟨rfl, HB.out.trans ((B1.out.trans (hb.mono B1.out.size)).mono hz0)⟩
    go_wp2_with fail
    clear d0 d1 d2
    have hc := dealt_any p (Rp.sl_below HS.out B1.out HD.out) (fun k hk => Nat.lt_of_lt_of_le (HD.out k hk) B1.out.size) hf ht hp
    rw [E1.out] at hc
    have HC1 := Lib.hid hc
    clear hc
    refine (HC1.out).mono ?_; rintro e w2 ⟨rfl, hb⟩
    have hbn := B1.out.trans (hb.mono B1.out.size)
    have hk := HK.out.below hbn hkl
    have d0 : w2.cell? ⟨w.heap.size, 0, none⟩ = some (.int .u64 (f : Int)) := hk.cell 0
    have d1 : w2.cell? ⟨w.heap.size, 1, none⟩ = some (.int .u64 (t : Int)) := hk.cell 1
    have d2 : w2.cell? ⟨w.heap.size, 2, none⟩ = some (.slice A sets.length c) := hk.cell 2
    have B2 := Lib.hid hbn
    clear hb hbn hk
    go_wp2_with fail
    clear d0 d1 d2
    have hc := back_any (j : Int) p (Rp.sl_below HS.out B2.out HD.out) (fun k hk => Nat.lt_of_lt_of_le (HD.out k hk) B2.out.size) hf ht hp
    rw [E2.out] at hc
    have HC2 := Lib.hid hc
    clear hc
    refine (HC2.out).mono ?_; rintro e w3 ⟨rfl, hb⟩
    have hbn := B2.out.trans (hb.mono B2.out.size)
    have hk := HK.out.below hbn hkl
    have d0 : w3.cell? ⟨w.heap.size, 0, none⟩ = some (.int .u64 (f : Int)) := hk.cell 0
    have d1 : w3.cell? ⟨w.heap.size, 1, none⟩ = some (.int .u64 (t : Int)) := hk.cell 1
    have d2 : w3.cell? ⟨w.heap.size, 2, none⟩ = some (.slice A sets.length c) := hk.cell 2
    have B3 := Lib.hid hbn
    clear hb hbn hk
    go_wp2_with fail
    clear d0 d1 d2
    have hc := rright_any (Rp.sl_below HS.out B3.out HD.out) (fun k hk => Nat.lt_of_lt_of_le (HD.out k hk) B3.out.size) hf ht
    rw [E4.out] at hc
    have HC3 := Lib.hid hc
    clear hc
    refine (HC3.out).mono ?_; rintro e w4 ⟨rfl, hb⟩
    have hbn := B3.out.trans (hb.mono B3.out.size)
    have hk := HK.out.below hbn hkl
    have d0 : w4.cell? ⟨w.heap.size, 0, none⟩ = some (.int .u64 (f : Int)) := hk.cell 0
    have d1 : w4.cell? ⟨w.heap.size, 1, none⟩ = some (.int .u64 (t : Int)) := hk.cell 1
    have d2 : w4.cell? ⟨w.heap.size, 2, none⟩ = some (.slice A sets.length c) := hk.cell 2
    have B4 := Lib.hid hbn
    clear hb hbn hk
    go_wp2_with fail
    clear d0 d1 d2
    have hc := share_any (j : Int) (Rp.sl_below HS.out B4.out HD.out) (fun k hk => Nat.lt_of_lt_of_le (HD.out k hk) B4.out.size) hf ht
    rw [E3.out] at hc
    have HC4 := Lib.hid hc
    clear hc
    refine (HC4.out).mono ?_; rintro e w5 ⟨rfl, hb⟩
    have hbn := B4.out.trans (hb.mono B4.out.size)
    have hk := HK.out.below hbn hkl
    have d0 : w5.cell? ⟨w.heap.size, 0, none⟩ = some (.int .u64 (f : Int)) := hk.cell 0
    have d1 : w5.cell? ⟨w.heap.size, 1, none⟩ = some (.int .u64 (t : Int)) := hk.cell 1
    have d2 : w5.cell? ⟨w.heap.size, 2, none⟩ = some (.slice A sets.length c) := hk.cell 2
    have B5 := Lib.hid hbn
    clear hb hbn hk
    go_wp2_with fail
    clear d0 d1 d2
    have hc := dealt_any Q (Rp.sl_below HS.out B5.out HD.out) (fun k hk => Nat.lt_of_lt_of_le (HD.out k hk) B5.out.size) hf ht hQl
    rw [E6.out] at hc
    have HC5 := Lib.hid hc
    clear hc
    refine (HC5.out).mono ?_; rintro e w6 ⟨rfl, hb⟩
    have hbn := B5.out.trans (hb.mono B5.out.size)
    have hk := HK.out.below hbn hkl
    have d0 : w6.cell? ⟨w.heap.size, 0, none⟩ = some (.int .u64 (f : Int)) := hk.cell 0
    have d1 : w6.cell? ⟨w.heap.size, 1, none⟩ = some (.int .u64 (t : Int)) := hk.cell 1
    have d2 : w6.cell? ⟨w.heap.size, 2, none⟩ = some (.slice A sets.length c) := hk.cell 2
    have B6 := Lib.hid hbn
    clear hb hbn hk
    go_wp2_with fail
    clear d0 d1 d2
    refine (slive_any _).mono ?_; rintro e w7 ⟨rfl, hb⟩
    have hbn := B6.out.trans (hb.mono B6.out.size)
    have B7 := Lib.hid hbn
    clear hb hbn
    go_wp2_with fail
    go_ret
    exact ⟨rfl, HB.out.trans (B7.out.mono hz0)⟩
set_option maxRecDepth 100000 in
set_option maxHeartbeats 4000000 in
theorem deals_out_there (p : Nat) (set : Int) (hok : SOk (f, t, sets)) (hin : ¬ (f ≤ p ∧ p < t)) (his : ¬ p < share (f, t, sets) set) (hth : 0 ≤ set ∧ set < sets.length) (hs : (rpSlice rpU64).sl w D A sets.length c sets) (hD : ∀ k, D k → k < w.heap.size) (hf : f ≤ 18446744073709551615) (ht : t ≤ 18446744073709551615) (hp : p ≤ 18446744073709551615) (hs0 : -9223372036854775808 ≤ set) (hs1 : set ≤ 9223372036854775807) :
    Calls Try.prog 12 #[.agg (stpV f t A sets.length c), .int .u64 (p : Int), .int .i64 set] w fun e w' => e = .returned (.bool true) ∧ Below w.heap.size w w' := by
  obtain ⟨_, hnc, hcm⟩ := Rp.sl_len hs
  unfold maxLen at hcm
  have hb0 : Below w.heap.size w (w.alloc (.cells (stpV f t A sets.length c) 31)) := (Below.refl _ _).alloc (Nat.le_refl _) _
  have HS := Lib.hid (Rp.sl_below hs hb0 hD)
  have HB := Lib.hid hb0
  have HD := Lib.hid (fun k hk => Nat.lt_of_lt_of_le (hD k hk) hb0.size)
  have HK := Lib.hid (Blk.new w 31 (stpV f t A sets.length c))
  clear hs hD hb0
  have h1 : f < t := hok.1
  have h2 : t ≤ 4611686018427387904 := hok.2.1
  have h3 : 1 ≤ sets.length := hok.2.2.1
  have h4 : sets.length ≤ 8 := hok.2.2.2.1
  have E4 := Lib.hid (dec_true hok)
  have E1 := Lib.hid (dealt_out (s := (f, t, sets)) (p := p) (fun h => hin h.2))
  have hin' : p < f ∨ (f ≤ p ∧ t ≤ p) := by omega
  clear hin
  have E2 := Lib.hid (back_out (s := (f, t, sets)) (set := set) (loc := p) (by omega))
  obtain ⟨hth1, hth2⟩ := hth
  obtain ⟨sh, hsh⟩ : ∃ sh : Nat, sh = share (f, t, sets) set := ⟨_, rfl⟩
  have hge : sh ≤ p := by rw [hsh]; omega
  have hdlt : decide (p < sh) = false := by simp; omega
  have E3 := Lib.hid hsh.symm
  clear hsh his
  clear hok
  rcases hin' with hin1 | ⟨hin1, hin2⟩
  all_goals
    go_enter Try.func12, Try.ntmps12
    go_wp2_with fail
    generalize World.alloc w _ = w0 at *
    have hkl := (show Blk _ _ _ _ from HK.out).lt
    have hz0 := HB.out.size
    have B0 : Hid (Below w0.heap.size w0 w0) := Below.refl _ _
    refine (long_any (f := f) (t := t) HS.out HD.out).mono ?_; rintro e w1 ⟨b, rfl, _, hb⟩
    have hk := (show Blk _ _ _ _ from HK.out).below hb hkl
    have d0 : w1.cell? ⟨w.heap.size, 0, none⟩ = some (.int .u64 (f : Int)) := hk.cell 0
    have d1 : w1.cell? ⟨w.heap.size, 1, none⟩ = some (.int .u64 (t : Int)) := hk.cell 1
    have d2 : w1.cell? ⟨w.heap.size, 2, none⟩ = some (.slice A sets.length c) := hk.cell 2
    have B1 := Lib.hid hb
    clear hb hk
    cases b
    case true =>
      go_wp2_with fail
      refine (slive_any _).mono ?_; rintro e w2 ⟨rfl, hb⟩
      go_wp2_with fail
      go_ret
      exact ⟨rfl, HB.out.trans ((B1.out.trans (hb.mono B1.out.size)).mono hz0)⟩
    go_wp2_with fail
    clear d0 d1 d2
    have hc := dealt_any p (Rp.sl_below HS.out B1.out HD.out) (fun k hk => Nat.lt_of_lt_of_le (HD.out k hk) B1.out.size) hf ht hp
    rw [E1.out] at hc
    have HC1 := Lib.hid hc
    clear hc
    refine (HC1.out).mono ?_; rintro e w2 ⟨rfl, hb⟩
    have hbn := B1.out.trans (hb.mono B1.out.size)
    have hk := HK.out.below hbn hkl
    have d0 : w2.cell? ⟨w.heap.size, 0, none⟩ = some (.int .u64 (f : Int)) := hk.cell 0
    have d1 : w2.cell? ⟨w.heap.size, 1, none⟩ = some (.int .u64 (t : Int)) := hk.cell 1
    have d2 : w2.cell? ⟨w.heap.size, 2, none⟩ = some (.slice A sets.length c) := hk.cell 2
    have B2 := Lib.hid hbn
    clear hb hbn hk
    go_wp2_with fail
    clear d0 d1 d2
    have hc := back_any set p (Rp.sl_below HS.out B2.out HD.out) (fun k hk => Nat.lt_of_lt_of_le (HD.out k hk) B2.out.size) hf ht hp
    rw [E2.out] at hc
    have HC2 := Lib.hid hc
    clear hc
    refine (HC2.out).mono ?_; rintro e w3 ⟨rfl, hb⟩
    have hbn := B2.out.trans (hb.mono B2.out.size)
    have hk := HK.out.below hbn hkl
    have d0 : w3.cell? ⟨w.heap.size, 0, none⟩ = some (.int .u64 (f : Int)) := hk.cell 0
    have d1 : w3.cell? ⟨w.heap.size, 1, none⟩ = some (.int .u64 (t : Int)) := hk.cell 1
    have d2 : w3.cell? ⟨w.heap.size, 2, none⟩ = some (.slice A sets.length c) := hk.cell 2
    have B3 := Lib.hid hbn
    clear hb hbn hk
    go_wp2_with fail
    clear d0 d1 d2
    have hc := rright_any (Rp.sl_below HS.out B3.out HD.out) (fun k hk => Nat.lt_of_lt_of_le (HD.out k hk) B3.out.size) hf ht
    rw [E4.out] at hc
    have HC3 := Lib.hid hc
    clear hc
    refine (HC3.out).mono ?_; rintro e w4 ⟨rfl, hb⟩
    have hbn := B3.out.trans (hb.mono B3.out.size)
    have hk := HK.out.below hbn hkl
    have d0 : w4.cell? ⟨w.heap.size, 0, none⟩ = some (.int .u64 (f : Int)) := hk.cell 0
    have d1 : w4.cell? ⟨w.heap.size, 1, none⟩ = some (.int .u64 (t : Int)) := hk.cell 1
    have d2 : w4.cell? ⟨w.heap.size, 2, none⟩ = some (.slice A sets.length c) := hk.cell 2
    have B4 := Lib.hid hbn
    clear hb hbn hk
    go_wp2_with fail
    clear d0 d1 d2
    have hc := share_any set (Rp.sl_below HS.out B4.out HD.out) (fun k hk => Nat.lt_of_lt_of_le (HD.out k hk) B4.out.size) hf ht
    rw [E3.out] at hc
    have HC4 := Lib.hid hc
    clear hc
    refine (HC4.out).mono ?_; rintro e w5 ⟨rfl, hb⟩
    have hbn := B4.out.trans (hb.mono B4.out.size)
    have hk := HK.out.below hbn hkl
    have d0 : w5.cell? ⟨w.heap.size, 0, none⟩ = some (.int .u64 (f : Int)) := hk.cell 0
    have d1 : w5.cell? ⟨w.heap.size, 1, none⟩ = some (.int .u64 (t : Int)) := hk.cell 1
    have d2 : w5.cell? ⟨w.heap.size, 2, none⟩ = some (.slice A sets.length c) := hk.cell 2
    have B5 := Lib.hid hbn
    clear hb hbn hk
    go_wp2_with fail
    clear d0 d1 d2
    refine (slive_any _).mono ?_; rintro e w6 ⟨rfl, hb⟩
    have hbn := B5.out.trans (hb.mono B5.out.size)
    have B6 := Lib.hid hbn
    clear hb hbn
    go_wp2_with fail
    go_ret
    exact ⟨rfl, HB.out.trans (B6.out.mono hz0)⟩
set_option maxRecDepth 100000 in
set_option maxHeartbeats 4000000 in
theorem deals_out_not (p : Nat) (set : Int) (hok : SOk (f, t, sets)) (hin : ¬ (f ≤ p ∧ p < t)) (his : ¬ p < share (f, t, sets) set) (hth : ¬ (0 ≤ set ∧ set < sets.length)) (hs : (rpSlice rpU64).sl w D A sets.length c sets) (hD : ∀ k, D k → k < w.heap.size) (hf : f ≤ 18446744073709551615) (ht : t ≤ 18446744073709551615) (hp : p ≤ 18446744073709551615) (hs0 : -9223372036854775808 ≤ set) (hs1 : set ≤ 9223372036854775807) :
    Calls Try.prog 12 #[.agg (stpV f t A sets.length c), .int .u64 (p : Int), .int .i64 set] w fun e w' => e = .returned (.bool true) ∧ Below w.heap.size w w' := by
  obtain ⟨_, hnc, hcm⟩ := Rp.sl_len hs
  unfold maxLen at hcm
  have hb0 : Below w.heap.size w (w.alloc (.cells (stpV f t A sets.length c) 31)) := (Below.refl _ _).alloc (Nat.le_refl _) _
  have HS := Lib.hid (Rp.sl_below hs hb0 hD)
  have HB := Lib.hid hb0
  have HD := Lib.hid (fun k hk => Nat.lt_of_lt_of_le (hD k hk) hb0.size)
  have HK := Lib.hid (Blk.new w 31 (stpV f t A sets.length c))
  clear hs hD hb0
  have h1 : f < t := hok.1
  have h2 : t ≤ 4611686018427387904 := hok.2.1
  have h3 : 1 ≤ sets.length := hok.2.2.1
  have h4 : sets.length ≤ 8 := hok.2.2.2.1
  have E4 := Lib.hid (dec_true hok)
  have E1 := Lib.hid (dealt_out (s := (f, t, sets)) (p := p) (fun h => hin h.2))
  have hin' : p < f ∨ (f ≤ p ∧ t ≤ p) := by omega
  clear hin
  have E2 := Lib.hid (back_out (s := (f, t, sets)) (set := set) (loc := p) (by omega))
  have hth' : set < 0 ∨ (0 ≤ set ∧ (sets.length : Int) ≤ set) := by omega
  clear his hth
  clear hok
  rcases hin' with hin1 | ⟨hin1, hin2⟩
  all_goals rcases hth' with hth | ⟨hth1, hth2⟩
  all_goals
    go_enter Try.func12, Try.ntmps12
    go_wp2_with fail
    generalize World.alloc w _ = w0 at *
    have hkl := (show Blk _ _ _ _ from HK.out).lt
    have hz0 := HB.out.size
    have B0 : Hid (Below w0.heap.size w0 w0) := Below.refl _ _
    refine (long_any (f := f) (t := t) HS.out HD.out).mono ?_; rintro e w1 ⟨b, rfl, _, hb⟩
    have hk := (show Blk _ _ _ _ from HK.out).below hb hkl
    have d0 : w1.cell? ⟨w.heap.size, 0, none⟩ = some (.int .u64 (f : Int)) := hk.cell 0
    have d1 : w1.cell? ⟨w.heap.size, 1, none⟩ = some (.int .u64 (t : Int)) := hk.cell 1
    have d2 : w1.cell? ⟨w.heap.size, 2, none⟩ = some (.slice A sets.length c) := hk.cell 2
    have B1 := Lib.hid hb
    clear hb hk
    cases b
    case true =>
      go_wp2_with fail
      refine (slive_any _).mono ?_; rintro e w2 ⟨rfl, hb⟩
      go_wp2_with fail
      go_ret
      exact ⟨rfl, HB.out.trans ((B1.out.trans (hb.mono B1.out.size)).mono hz0)⟩
    go_wp2_with fail
    clear d0 d1 d2
    have hc := dealt_any p (Rp.sl_below HS.out B1.out HD.out) (fun k hk => Nat.lt_of_lt_of_le (HD.out k hk) B1.out.size) hf ht hp
    rw [E1.out] at hc
    have HC1 := Lib.hid hc
    clear hc
    refine (HC1.out).mono ?_; rintro e w2 ⟨rfl, hb⟩
    have hbn := B1.out.trans (hb.mono B1.out.size)
    have hk := HK.out.below hbn hkl
    have d0 : w2.cell? ⟨w.heap.size, 0, none⟩ = some (.int .u64 (f : Int)) := hk.cell 0
    have d1 : w2.cell? ⟨w.heap.size, 1, none⟩ = some (.int .u64 (t : Int)) := hk.cell 1
    have d2 : w2.cell? ⟨w.heap.size, 2, none⟩ = some (.slice A sets.length c) := hk.cell 2
    have B2 := Lib.hid hbn
    clear hb hbn hk
    go_wp2_with fail
    clear d0 d1 d2
    have hc := back_any set p (Rp.sl_below HS.out B2.out HD.out) (fun k hk => Nat.lt_of_lt_of_le (HD.out k hk) B2.out.size) hf ht hp
    rw [E2.out] at hc
    have HC2 := Lib.hid hc
    clear hc
    refine (HC2.out).mono ?_; rintro e w3 ⟨rfl, hb⟩
    have hbn := B2.out.trans (hb.mono B2.out.size)
    have hk := HK.out.below hbn hkl
    have d0 : w3.cell? ⟨w.heap.size, 0, none⟩ = some (.int .u64 (f : Int)) := hk.cell 0
    have d1 : w3.cell? ⟨w.heap.size, 1, none⟩ = some (.int .u64 (t : Int)) := hk.cell 1
    have d2 : w3.cell? ⟨w.heap.size, 2, none⟩ = some (.slice A sets.length c) := hk.cell 2
    have B3 := Lib.hid hbn
    clear hb hbn hk
    go_wp2_with fail
    clear d0 d1 d2
    have hc := rright_any (Rp.sl_below HS.out B3.out HD.out) (fun k hk => Nat.lt_of_lt_of_le (HD.out k hk) B3.out.size) hf ht
    rw [E4.out] at hc
    have HC3 := Lib.hid hc
    clear hc
    refine (HC3.out).mono ?_; rintro e w4 ⟨rfl, hb⟩
    have hbn := B3.out.trans (hb.mono B3.out.size)
    have hk := HK.out.below hbn hkl
    have d0 : w4.cell? ⟨w.heap.size, 0, none⟩ = some (.int .u64 (f : Int)) := hk.cell 0
    have d1 : w4.cell? ⟨w.heap.size, 1, none⟩ = some (.int .u64 (t : Int)) := hk.cell 1
    have d2 : w4.cell? ⟨w.heap.size, 2, none⟩ = some (.slice A sets.length c) := hk.cell 2
    have B4 := Lib.hid hbn
    clear hb hbn hk
    go_wp2_with fail
    clear d0 d1 d2
    refine (slive_any _).mono ?_; rintro e w5 ⟨rfl, hb⟩
    have hbn := B4.out.trans (hb.mono B4.out.size)
    have B5 := Lib.hid hbn
    clear hb hbn
    go_wp2_with fail
    go_ret
    exact ⟨rfl, HB.out.trans (B5.out.mono hz0)⟩

theorem stripeDeals_any {n : Nat} (p : Nat) (set : Int) (hs : (rpSlice rpU64).sl w D A n c sets) (hD : ∀ k, D k → k < w.heap.size) (hf : f ≤ 18446744073709551615) (ht : t ≤ 18446744073709551615) (hp : p ≤ 18446744073709551615) (hs0 : -9223372036854775808 ≤ set) (hs1 : set ≤ 9223372036854775807) :
    Calls Try.prog 12 #[.agg (stpV f t A n c), .int .u64 (p : Int), .int .i64 set] w fun e w' => e = .returned (.bool true) ∧ Below w.heap.size w w' := by
  obtain ⟨hlen, _, _⟩ := Rp.sl_len hs
  subst hlen
  by_cases hok : SOk (f, t, sets)
  · by_cases hin : f ≤ p ∧ p < t
    · by_cases his : p < share (f, t, sets) set
      · exact deals_in_is p set hok hin his hs hD hf ht hp hs0 hs1
      · by_cases hth : 0 ≤ set ∧ set < sets.length
        · exact deals_in_there p set hok hin his hth hs hD hf ht hp hs0 hs1
        · exact deals_in_not p set hok hin his hth hs hD hf ht hp hs0 hs1
    · by_cases his : p < share (f, t, sets) set
      · exact deals_out_is p set hok hin his hs hD hf ht hp hs0 hs1
      · by_cases hth : 0 ≤ set ∧ set < sets.length
        · exact deals_out_there p set hok hin his hth hs hD hf ht hp hs0 hs1
        · exact deals_out_not p set hok hin his hth hs hD hf ht hp hs0 hs1
  · exact deals_no p set hok hs hD hf ht hp hs0 hs1
end
end Go.Proofs.Ytmdgmnaaopineaa
/- StripeDeals, its arguments as they come. -/
namespace Go.Proofs.Ytmdgmnaaopineaa
open Go.ChangeShapes Go.WideShapes Go.ChangeAt Go.RowKit
set_option linter.unusedVariables false
abbrev rpStp : Rp Stp := rpPair rpU64 (rpPair rpU64 rpSets)
/-- A stripe's cells, opened. -/
theorem stp_open {w : World} {D : Dom} {x : Stp} {cs : List Value} (h : rpStp.ok w D x cs) : ∃ A c, cs = [.int .u64 (x.1 : Int), .int .u64 (x.2.1 : Int), .slice A x.2.2.length c] ∧ (rpSlice rpU64).sl w D A x.2.2.length c x.2.2 ∧ x.1 ≤ 18446744073709551615 ∧ x.2.1 ≤ 18446744073709551615 := by
  obtain ⟨cs1, cs2, rfl, ⟨rfl, q1⟩, cs3, cs4, rfl, ⟨rfl, q2⟩, h4⟩ := h
  obtain ⟨A, c, rfl, hs⟩ := Rp.sl_form h4
  exact ⟨A, c, rfl, hs, by omega, by omega⟩
theorem agg_of {cs : Array Value} {l : List Value} (h : cs.toList = l) : cs = l.toArray := by
  have : cs.toList.toArray = cs := by simp
  rw [← this, h]
theorem stripeDeals_st (cs : Array Value) (x : Stp) (p set : Int) (w : World) (hx : rpStp.ok w (lt w.heap.size) x cs.toList) (p0 : 0 ≤ p) (p1 : p ≤ 18446744073709551615) (s0 : -9223372036854775808 ≤ set) (s1 : set ≤ 9223372036854775807) :
    Calls Try.prog 12 #[.agg cs, .int .u64 p, .int .i64 set] w fun e w' => e = .returned (.bool true) ∧ Below w.heap.size w w' := by
  obtain ⟨A, c, hcs, hs, hf, ht⟩ := stp_open hx
  obtain ⟨q, rfl⟩ : ∃ q : Nat, p = q := ⟨p.toNat, by omega⟩
  rw [agg_of hcs]
  exact stripeDeals_any q set hs (fun k hk => hk) hf ht (by omega) s0 s1
end Go.Proofs.Ytmdgmnaaopineaa
