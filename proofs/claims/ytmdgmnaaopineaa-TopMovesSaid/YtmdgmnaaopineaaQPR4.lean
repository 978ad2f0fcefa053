/-
  The law of this claim, part 4 of its proof: the parts StrX, Stp3, StpP, StpQ, Stp4, Stp5, StpL.
-/
import Derived.Deep.LoopGhost
import Derived.Test.YtmdgmnaaopineaaQPR3
/- The reference's bytes of a rising list. -/
namespace Go.Proofs.Ytmdgmnaaopineaa
open Go.ChangeShapes Go.WideShapes Go.ChangeAt Go.RowKit
set_option linter.unusedVariables false
def prevOf (o : Option Nat) (l : List Nat) : Nat → Option Nat | 0 => o | k + 1 => l[k]?
def sub1 : Option Nat → Nat → Nat | none, y => y | some a, y => y - a - 1
theorem stepsFrom_cons (o : Option Nat) (x : Nat) (L : List Nat) : stepsFrom o (x :: L) = sub1 o x :: stepsFrom (some x) L := by cases o <;> rfl
theorem stepsFrom_nil (o : Option Nat) : stepsFrom o [] = [] := by cases o <;> rfl
theorem stepsFrom_snoc : ∀ (l : List Nat) (o : Option Nat) (k y : Nat), l[k]? = some y → stepsFrom o (l.take (k + 1)) = stepsFrom o (l.take k) ++ [sub1 (prevOf o l k) y]
  | [], o, k, y, h => by simp at h
  | x :: xs, o, 0, y, h => by
    simp only [List.getElem?_cons_zero, Option.some.injEq] at h
    subst h
    simp [stepsFrom_cons, stepsFrom_nil, prevOf]
  | x :: xs, o, k + 1, y, h => by
    rw [List.take_succ_cons, List.take_succ_cons, stepsFrom_cons, stepsFrom_cons, stepsFrom_snoc xs (some x) k y (by simpa using h)]
    have e : prevOf (some x) xs k = prevOf o (x :: xs) (k + 1) := by cases k <;> rfl
    rw [e]; rfl
theorem flat_snoc (a : List Nat) (x : Nat) : flat (a ++ [x]) = flat a ++ vbytes x := by rw [flat_append, flat_cons, flat_nil, List.append_nil]
section
variable {D : Dom} {A : Option Addr} {n c : Nat} {l : List Nat} {w : World}
set_option maxRecDepth 100000 in
set_option maxHeartbeats 2000000 in
theorem rlbytes_any (hl : rpU64.sl w D A n c l) (hD : ∀ k, D k → k < w.heap.size) (hr : Rises l) (hn : n ≤ 1000) :
    Calls Try.prog 102 #[.slice A n c] w fun e w' => ∃ A2 m c2, e = .returned (.slice A2 m c2) ∧ w'.ownsRow w.heap.size 5 1 (.slice A2 m c2) m ((flat (stepsFrom none l)).map bv) ∧ m ≤ 10 * n ∧ Below w.heap.size w w' := by
  obtain ⟨hlen, hnc, hcm⟩ := Rp.sl_len hl
  have HV : Hid (∀ (x : Nat) (w : World), x < 18446744073709551616 → Calls Try.prog 101 #[.int .u64 (x : Int)] w fun e w' => ∃ A n c, e = .returned (.slice A n c) ∧ w'.ownsRow w.heap.size 5 1 (.slice A n c) n ((vbytes x).map bv) ∧ n ≤ 10 ∧ Below w.heap.size w w') := fun x w hx => (rvbytes_any 9 x w (by omega) (by decide) hx).mono fun e w' ⟨A, n, c, h1, h2, h3⟩ => ⟨A, n, c, h1, h2, by have := h2.1; have := vbytes_10 hx; simp at *; omega, h3⟩
  have HL := Lib.hid hl
  have HN := Lib.hid hlen
  have HD := Lib.hid hD
  have HRI := Lib.hid hr
  clear hl hlen hD hr hcm hnc
  go_enter Try.func102, Try.ntmps102
  go_wp2_with fail
  go_loopw [3, 4] (fun o i wr => ∃ (k m : Nat) (A2 : Option Addr) (c2 : Nat), k ≤ n ∧ i = .int .i64 k ∧ o = .slice A2 m c2 ∧ m ≤ 10 * k ∧ Hid (wr.ownsRow w.heap.size 5 1 (.slice A2 m c2) m ((flat (stepsFrom none (l.take k))).map bv)) ∧ Hid (Below w.heap.size w wr)) (fun _ i _ => n - (intOf i).toNat)
  case atStart => exact ⟨0, 0, none, 0, by omega, rfl, rfl, by omega, World.ownsRow_nil _ _ _ _, Below.refl _ _⟩
  case round =>
    obtain ⟨k, m, A2, c2, hk, rfl, rfl, hm, hown, hbel⟩ := hrel
    by_cases hkn : k < n
    case neg =>
      obtain rfl : k = n := by omega
      have hd : decide ((k : Int) < (k : Int)) = false := by simp
      go_wp2_with fail
      go_ret
      have := hown.out
      rw [List.take_of_length_le (by rw [HN.out]; exact Nat.le_refl _)] at this
      exact ⟨A2, m, c2, rfl, this, hm, hbel.out⟩
    case pos =>
      have hd : decide ((k : Int) < (n : Int)) = true := by simp; omega
      have hkI : (0 : Int) ≤ (k : Int) := by omega
      have hknI : (k : Int) < (n : Int) := by omega
      obtain ⟨b, off, y, rfl, hb, hy, hc, hlt⟩ := u64_at (Rp.sl_below HL.out hbel.out HD.out) hkn
      have HST := Lib.hid (stepsFrom_snoc l none k y hy)
      have hmx : m + 10 ≤ maxLen := by unfold maxLen; omega
      have hsz := hbel.out.size
      by_cases hk0 : k = 0
      case pos =>
        subst hk0
        have hq : ((0 : Int) == 0) = true := rfl
        have HS1 : Hid (flat (stepsFrom none (l.take (0 + 1))) = flat (stepsFrom none (l.take 0)) ++ vbytes y) := by
          have := HST.out; rw [this, flat_snoc]; rfl
        have HY64 : Hid (y < 18446744073709551616) := (by omega : y < 18446744073709551616)
        have hc0 : wr.cell? ⟨b, off, none⟩ = some (.int .u64 (y : Int)) := by simpa using hc
        clear hy hlt
        go_wp2_with fail
        refine (HV.out y _ HY64.out).mono ?_; rintro e w1 ⟨A3, n3, c3, rfl, ho3, hn3, hb3⟩
        have HO3 := Lib.hid ho3
        have HO := Lib.hid (keepO hown.out hb3)
        have HB := Lib.hid (stepB hbel.out hb3)
        clear ho3 hb3
        go_wp2_with (at_builtin; refine wpList_app rfl (.tmp 13) (.tmp 17) _ rfl elemB rfl HO.out rfl (Src.bytes (own_bytes HO3.out)) (by omega) (by omega) HB.out.size ?_; intro A5 c5 w5 ho5 hg5 hat5; have HO5 := Lib.hid ho5; have HB5 := Lib.hid (HB.out.grown hg5 HB.out.size (fun j hj => (HO.out.lt j hj).1)); clear ho5 hg5 hat5)
        go_roundw
        case rel => exact ⟨0 + 1, m + n3, A5, c5, by omega, by go_num, rfl, by omega, by rw [HS1.out, List.map_append]; exact HO5.out, HB5.out⟩
        case measure => simp [intOf]; omega
      case neg =>
        have hq : ((k : Int) == 0) = false := by simp; omega
        obtain ⟨b', off', a, hA', hb', ha, hca, hlta⟩ := u64_at (k := k - 1) (Rp.sl_below HL.out hbel.out HD.out) (by omega)
        injection hA' with hA'
        injection hA' with hA1 hA2 _
        subst hA1; subst hA2
        have hlt2 : a < y := HRI.out (k - 1) a y ha (by rw [show k - 1 + 1 = k by omega]; exact hy)
        have hpr : prevOf none l k = some a := by
          obtain ⟨j, rfl⟩ : ∃ j, k = j + 1 := ⟨k - 1, by omega⟩
          exact ha
        have HS1 : Hid (flat (stepsFrom none (l.take (k + 1))) = flat (stepsFrom none (l.take k)) ++ vbytes (y - a - 1)) := by
          have := HST.out; rw [this, flat_snoc, hpr]; rfl
        obtain ⟨J, hJ⟩ : ∃ J, J = k - 1 := ⟨_, rfl⟩
        have hcb : wr.cell? ⟨b, off + J, none⟩ = some (.int .u64 (a : Int)) := by rw [hJ]; exact hca
        have s2 : IntKind.i64.wrap ((k : Int) - 1) = (J : Int) := by rw [IntWalk.i64_in _ (by omega)]; omega
        have hJ0 : (0 : Int) ≤ (J : Int) := by omega
        have hJ1 : (J : Int) < (n : Int) := by omega
        have s0 : IntKind.u64.wrap ((y : Int) - (a : Int)) = (y : Int) - (a : Int) := IntWalk.u64_in _ (by omega)
        have s1 : IntKind.u64.wrap ((y : Int) - (a : Int) - 1) = ((y - a - 1 : Nat) : Int) := by rw [IntWalk.u64_in _ (by omega)]; omega
        have HY64 : Hid (y - a - 1 < 18446744073709551616) := (by omega : y - a - 1 < 18446744073709551616)
        obtain ⟨Y, hY⟩ : ∃ Y, Y = y - a - 1 := ⟨_, rfl⟩
        rw [← hY] at s1 HY64 HS1
        have hbl : b < w.heap.size := HD.out b hb
        have HCK : Hid (∀ w', Below w.heap.size w w' → w'.cell? ⟨b, off + k, none⟩ = some (.int .u64 (y : Int)) ∧ w'.cell? ⟨b, off + J, none⟩ = some (.int .u64 (a : Int))) := fun w' hb' => ⟨(hb'.cell (p := ⟨b, off + k, none⟩) hbl).trans ((hbel.out.cell (p := ⟨b, off + k, none⟩) hbl).symm.trans hc), (hb'.cell (p := ⟨b, off + J, none⟩) hbl).trans ((hbel.out.cell (p := ⟨b, off + J, none⟩) hbl).symm.trans hcb)⟩
        clear hy hlt hlt2 hpr ha hY hlta hca hJ hbl
        go_wp2_with fail
        go_region_held3 (fun w' => w'.cell? ⟨b, off + k, none⟩ = some (.int .u64 (y : Int)) ∧ w'.cell? ⟨b, off + J, none⟩ = some (.int .u64 (a : Int)))
          (first | go_keep | exact HCK.out _ HB5.out | exact HCK.out _ HB.out | exact HCK.out _ hbel.out)
          (first
            | (go_at_call 101; refine (HV.out Y _ HY64.out).mono ?_; rintro e w1 ⟨A3, n3, c3, rfl, ho3, hn3, hb3b⟩; have hb3 : Below wr.heap.size wr w1 := ⟨hb3b.os, hb3b.tape, hb3b.output, hb3b.size, hb3b.block⟩; have HO3 := Lib.hid ho3; have HO := Lib.hid (keepO hown.out hb3); have HB := Lib.hid (stepB hbel.out hb3); have hmx5 : m + n3 ≤ maxLen := (by omega); clear ho3 hb3 hb3b)
            | (refine step_app rfl (.tmp 19) (.tmp 31) _ rfl elemB (by rfl) HO.out (by rfl) (Src.bytes (own_bytes HO3.out)) hmx5 (by omega) HB.out.size ?_; intro A5 c5 w5 ho5 hg5 hat5; have HO5 := Lib.hid ho5; have HB5 := Lib.hid (HB.out.grown hg5 HB.out.size (fun j hj => (HO.out.lt j hj).1)); clear ho5 hg5 hat5))
        go_wp2_with fail
        go_roundw
        case rel => exact ⟨k + 1, m + n3, A5, c5, by omega, by go_num, rfl, by omega, by rw [HS1.out, List.map_append]; exact HO5.out, HB5.out⟩
        case measure => simp [intOf]; omega
end
end Go.Proofs.Ytmdgmnaaopineaa
/- The walk of stripe.Right: whether a stripe is well-formed. -/
namespace Go.Proofs.Ytmdgmnaaopineaa
open Go.ChangeShapes Go.WideShapes Go.ChangeAt Go.RowKit
set_option linter.unusedVariables false
abbrev stpV (f t : Nat) (A : Option Addr) (n c : Nat) : Array Value := #[.int .u64 (f : Int), .int .u64 (t : Int), .slice A n c]
def SUpTo (s : Stp) (k : Nat) : Prop := (s.1 < s.2.1 ∧ s.2.1 ≤ 4611686018427387904 ∧ 1 ≤ s.2.2.length ∧ s.2.2.length ≤ 8) ∧ ∀ (i : Nat) (l : List Nat), i < k → s.2.2[i]? = some l → SetOk s.2.2 i l
theorem sUpTo_all {s : Stp} : SUpTo s s.2.2.length ↔ SOk s :=
  ⟨fun ⟨⟨a, b, c, d⟩, h⟩ => ⟨a, b, c, d, fun i l hl => h i l (List.getElem?_eq_some_iff.1 hl).1 hl⟩, fun ⟨a, b, c, d, h⟩ => ⟨⟨a, b, c, d⟩, fun i l _ hl => h i l hl⟩⟩
theorem sUpTo_mono {s : Stp} {k : Nat} (h : SOk s) : SUpTo s k := ⟨⟨h.1, h.2.1, h.2.2.1, h.2.2.2.1⟩, fun i l _ hl => h.2.2.2.2 i l hl⟩
theorem sUpTo_succ {s : Stp} {k : Nat} {l : List Nat} (hl : s.2.2[k]? = some l) : SUpTo s (k + 1) ↔ SUpTo s k ∧ SetOk s.2.2 k l := by
  constructor
  · rintro ⟨a, h⟩
    exact ⟨⟨a, fun i l' hi hl' => h i l' (by omega) hl'⟩, h k l (by omega) hl⟩
  · rintro ⟨⟨a, h⟩, h2⟩
    refine ⟨a, fun i l' hi hl' => ?_⟩
    rcases Nat.lt_or_ge i k with h3 | h3
    · exact h i l' h3 hl'
    · obtain rfl : i = k := by omega
      rw [hl] at hl'
      injection hl' with hl'
      exact hl' ▸ h2

set_option maxRecDepth 100000 in
set_option maxHeartbeats 4000000 in
theorem right_any {D : Dom} {A : Option Addr} {n c f t : Nat} {sets : List (List Nat)} {w : World} (hs : (rpSlice rpU64).sl w D A n c sets) (hD : ∀ k, D k → k < w.heap.size) (hf : f ≤ 18446744073709551615) (ht : t ≤ 18446744073709551615) :
    Calls Try.prog 53 #[.agg (stpV f t A n c)] w fun e w' => e = .returned (.bool (dec (SOk (f, t, sets)))) ∧ Below w.heap.size w w' := by
  obtain ⟨hlen, hnc, hcm⟩ := Rp.sl_len hs
  unfold maxLen at hcm
  subst hlen
  have hb0 : Below w.heap.size w (w.alloc (.cells (stpV f t A sets.length c) 31)) := (Below.refl _ _).alloc (Nat.le_refl _) _
  have HS := Lib.hid (Rp.sl_below hs hb0 hD)
  have HB0 := Lib.hid hb0
  have HD := Lib.hid (fun k hk => Nat.lt_of_lt_of_le (hD k hk) hb0.size)
  have HK := Lib.hid (Blk.new w 31 (stpV f t A sets.length c))
  clear hs hD hb0
  have hcase : ∃ b : Bool, Hid (dec (SUpTo (f, t, sets) 0) = b) ∧ ((t ≤ f ∧ b = false) ∨ (f < t ∧ 4611686018427387904 < t ∧ b = false) ∨ (f < t ∧ t ≤ 4611686018427387904 ∧ sets.length < 1 ∧ b = false) ∨
      (f < t ∧ t ≤ 4611686018427387904 ∧ 1 ≤ sets.length ∧ 8 < sets.length ∧ b = false) ∨ (f < t ∧ t ≤ 4611686018427387904 ∧ 1 ≤ sets.length ∧ sets.length ≤ 8 ∧ b = true)) := by
    by_cases h1 : f < t
    · by_cases h2 : t ≤ 4611686018427387904
      · by_cases h3 : 1 ≤ sets.length
        · by_cases h4 : sets.length ≤ 8
          · exact ⟨true, dec_true ⟨⟨h1, h2, h3, h4⟩, fun i l h => by omega⟩, by simp; omega⟩
          · exact ⟨false, dec_false (fun h => h4 h.1.2.2.2), by simp; omega⟩
        · exact ⟨false, dec_false (fun h => h3 h.1.2.2.1), .inr (.inr (.inl ⟨h1, h2, by omega, rfl⟩))⟩
      · exact ⟨false, dec_false (fun h => h2 h.1.2.1), by simp; omega⟩
    · exact ⟨false, dec_false (fun h => h1 h.1.1), by simp; omega⟩
  obtain ⟨b0, HP0, hc⟩ := hcase
  rcases hc with ⟨d1, rfl⟩ | ⟨d1, d2, rfl⟩ | ⟨d1, d2, d3, rfl⟩ | ⟨d1, d2, d3, d4, rfl⟩ | ⟨d1, d2, d3, d4, rfl⟩
  all_goals
    go_enter Try.func53, Try.ntmps53
    go_wp2_with fail
    go_step3
    go_wp2_with fail
    go_step3
    go_wp2_with fail
    generalize World.alloc w _ = w0 at *
    have hz0 := HB0.out.size
    have hkl := HK.out.lt
    go_loopw [3, 31] (fun g i wr => ∃ (k : Nat) (gb : Bool), k ≤ sets.length ∧ i = .int .i64 k ∧ g = .bool gb ∧ Hid (gb = dec (SUpTo (f, t, sets) k)) ∧ Below w0.heap.size w0 wr) (fun _ i _ => sets.length - (intOf i).toNat)
    case atStart => exact ⟨0, _, by omega, rfl, rfl, by (show _ = dec _; rw [HP0.out]; try (simp; try omega)), Below.refl _ _⟩
    case round =>
      obtain ⟨k, gb, hk, rfl, rfl, hgb, hbr⟩ := hrel
      have HBR := Lib.hid hbr
      have hzr := hbr.size
      by_cases hkn : k < sets.length
      · obtain ⟨b, off, s, A2, c2, rfl, hb, hs, hcell, hrow⟩ := rows_at (Rp.sl_below HS.out hbr HD.out) hkn
        have HSS := Lib.hid hs
        have HR := Lib.hid hrow
        clear hs hrow
        cases gb
        · have hno := of_not_dec hgb.out.symm
          have HNO := Lib.hid (fun h : SOk (f, t, sets) => hno (sUpTo_mono h))
          clear hno hbr
          go_wp2_with fail
          try rw [Exit.noGoto_ret]
          go_ret
          rw [dec_false HNO.out]
          exact ⟨rfl, HB0.out.trans (HBR.out.mono hz0)⟩
        · have hyes := Lib.hid (of_dec hgb.out.symm)
          obtain ⟨⟨p1, p2, p3, p4⟩, _⟩ := hyes.out
          dsimp only at p1 p2 p3 p4
          try (exfalso; omega)
          all_goals
            have hnd := nodes_any HR.out (fun k hk => Nat.lt_of_lt_of_le (HD.out k hk) hzr)
            clear hbr
            cases hq : dec (NodesOk s)
            · rw [hq] at hnd
              have HND := Lib.hid hnd
              have HQ := Lib.hid (of_not_dec hq)
              clear hnd hq
              go_wp2_with fail
              refine HND.out.mono ?_; rintro e w1 ⟨rfl, hb1⟩
              go_wp2_with fail
              go_roundw
              case rel => exact ⟨k + 1, false, by omega, by go_num, rfl, (dec_false (fun h => HQ.out (setOk_iff.1 ((sUpTo_succ HSS.out).1 h).2).1)).symm, HBR.out.trans (hb1.mono hzr)⟩
              case measure => simp [intOf]; omega
            · rw [hq] at hnd
              have HND := Lib.hid hnd
              have HQ := Lib.hid (of_dec hq)
              obtain ⟨A', hcut, hsl2⟩ := run_cut_h elemSets (Rp.sl_below HS.out HBR.out HD.out) rfl (k : Int) (by omega) (by omega)
              rw [Int.toNat_natCast] at hcut hsl2
              have HS2 := Lib.hid hsl2
              have hbk := HK.out.below HBR.out hkl
              have HBK := Lib.hid hbk
              have d2c := hbk.cell 2
              clear hnd hq hsl2 hbk
              go_wp2_with fail
              refine HND.out.mono ?_; rintro e w1 ⟨rfl, hb1⟩
              have d2c1 : w1.cell? ⟨w.heap.size, 2, none⟩ = some (.slice (some ⟨b, off, none⟩) sets.length c) := (HBK.out.below hb1 HBK.out.lt).cell 2
              have d2c0 : w1.cell? ⟨w.heap.size, 0, none⟩ = some (.int .u64 (f : Int)) := (HBK.out.below hb1 HBK.out.lt).cell 0
              have HB1 := Lib.hid hb1
              clear hb1 d2c
              go_wp2_with fail
              refine (apart_any (Rp.sl_below HR.out HB1.out (fun k hk => Nat.lt_of_lt_of_le (HD.out k hk) hzr)) (Rp.sl_below HS2.out HB1.out (fun k hk => Nat.lt_of_lt_of_le (HD.out k hk) hzr))).mono ?_; rintro e w2 ⟨rfl, rfl⟩
              go_wp2_with fail
              go_roundw
              case rel =>
                refine ⟨k + 1, dec (Apart s (sets.take k)), by omega, by go_num, rfl, dec_congr ?_, HBR.out.trans (HB1.out.mono hzr)⟩
                rw [sUpTo_succ HSS.out, setOk_iff]
                exact ⟨fun h => ⟨hyes.out, HQ.out, h⟩, fun h => h.2.2⟩
              case measure => simp [intOf]; omega
      · obtain rfl : k = sets.length := by omega
        clear hbr
        go_wp2_with fail
        try rw [Exit.noGoto_ret]
        go_ret
        rw [← dec_congr sUpTo_all]
        exact ⟨by rw [← hgb.out]; rfl, HB0.out.trans (HBR.out.mono hz0)⟩
end Go.Proofs.Ytmdgmnaaopineaa
/- A stripe is written: zigzag.steps, PutRising, stripe.Put, stripe.Bytes. -/
namespace Go.Proofs.Ytmdgmnaaopineaa
open Go.ChangeShapes Go.WideShapes Go.ChangeAt Go.RowKit
set_option linter.unusedVariables false
theorem stepsFrom_length : ∀ (o : Option Nat) (l : List Nat), (stepsFrom o l).length = l.length
  | o, [] => by rw [stepsFrom_nil]
  | o, x :: xs => by rw [stepsFrom_cons, List.length_cons, stepsFrom_length, List.length_cons]
theorem stepsFrom_lt : ∀ (o : Option Nat) (l : List Nat) (B : Nat), (∀ x ∈ l, x < B) → ∀ x ∈ stepsFrom o l, x < B
  | o, [], B, h, x, hx => by rw [stepsFrom_nil] at hx; cases hx
  | o, y :: ys, B, h, x, hx => by
    rw [stepsFrom_cons] at hx
    rcases List.mem_cons.1 hx with rfl | hx
    · have := h y (by simp)
      cases o with
      | none => exact this
      | some a => show y - a - 1 < B; omega
    · exact stepsFrom_lt _ ys B (fun z hz => h z (by simp [hz])) x hx
section
variable {D : Dom} {A : Option Addr} {n c : Nat} {l : List Nat} {w : World}
set_option maxRecDepth 100000 in
set_option maxHeartbeats 2000000 in
theorem steps_any (hl : rpU64.sl w D A n c l) (hD : ∀ k, D k → k < w.heap.size) (hr : Rises l) (hn : n ≤ 1000) :
    Calls Try.prog 137 #[.slice A n c] w fun e w' => ∃ A2 c2, e = .returned (.slice A2 n c2) ∧ w'.ownsRow w.heap.size 22 1 (.slice A2 n c2) n ((stepsFrom none l).map uv) ∧ Below w.heap.size w w' := by
  obtain ⟨hlen, hnc, hcm⟩ := Rp.sl_len hl
  have HL := Lib.hid hl
  have HN := Lib.hid hlen
  have HD := Lib.hid hD
  have HRI := Lib.hid hr
  clear hl hlen hD hr hcm hnc
  go_enter Try.func137, Try.ntmps137
  go_wp2_with fail
  go_loopw [3, 8] (fun o i wr => ∃ (k : Nat) (A2 : Option Addr) (c2 : Nat), k ≤ n ∧ i = .int .i64 k ∧ o = .slice A2 k c2 ∧ Hid (wr.ownsRow w.heap.size 22 1 (.slice A2 k c2) k ((stepsFrom none (l.take k)).map uv)) ∧ Hid (Below w.heap.size w wr)) (fun _ i _ => n - (intOf i).toNat)
  case atStart => exact ⟨0, none, 0, by omega, rfl, rfl, World.ownsRow_nil _ _ _ _, Below.refl _ _⟩
  case round =>
    obtain ⟨k, A2, c2, hk, rfl, rfl, hown, hbel⟩ := hrel
    by_cases hkn : k < n
    case neg =>
      obtain rfl : k = n := by omega
      have hd : decide ((k : Int) < (k : Int)) = false := by simp
      go_wp2_with fail
      go_ret
      have := hown.out
      rw [List.take_of_length_le (by rw [HN.out]; exact Nat.le_refl _)] at this
      exact ⟨A2, c2, rfl, this, hbel.out⟩
    case pos =>
      have hd : decide ((k : Int) < (n : Int)) = true := by simp; omega
      have hkI : (0 : Int) ≤ (k : Int) := by omega
      have hknI : (k : Int) < (n : Int) := by omega
      obtain ⟨b, off, y, rfl, hb, hy, hc, hlt⟩ := u64_at (Rp.sl_below HL.out hbel.out HD.out) hkn
      have HST := Lib.hid (stepsFrom_snoc l none k y hy)
      have hmx : k + 1 ≤ maxLen := by unfold maxLen; omega
      have hsz := hbel.out.size
      by_cases hk0 : k = 0
      case pos =>
        subst hk0
        have HS1 : Hid (stepsFrom none (l.take (0 + 1)) = stepsFrom none (l.take 0) ++ [y]) := HST.out
        have hc0 : wr.cell? ⟨b, off, none⟩ = some (.int .u64 (y : Int)) := by simpa using hc
        clear hy hlt
        go_wp2_with (at_builtin; refine wpList_app rfl (.tmp 23) (.tmp 25) _ rfl elem64 rfl (hown.out.alloc _) rfl (Src.new wr (.int .u64 (y : Int)) _ rfl) hmx (by omega) (by simp; omega) ?_; intro A5 c5 w5 ho5 hg5 hat5; have HO5 := Lib.hid ho5; have HB5 := Lib.hid ((stepB hbel.out (below1 wr (.cells #[.int .u64 (y : Int)] 22))).grown hg5 (stepB hbel.out (below1 wr (.cells #[.int .u64 (y : Int)] 22))).size (fun j hj => (hown.out.lt j hj).1)); clear ho5 hg5 hat5)
        go_roundw
        case rel => exact ⟨0 + 1, A5, c5, by omega, by go_num, rfl, by rw [HS1.out, List.map_append]; exact HO5.out, HB5.out⟩
        case measure => simp [intOf]; omega
      case neg =>
        have hq : decide ((0 : Int) < (k : Int)) = true := by simp; omega
        obtain ⟨b', off', a, hA', hb', ha, hca, hlta⟩ := u64_at (k := k - 1) (Rp.sl_below HL.out hbel.out HD.out) (by omega)
        injection hA' with hA'
        injection hA' with hA1 hA2 _
        subst hA1; subst hA2
        have hlt2 : a < y := HRI.out (k - 1) a y ha (by rw [show k - 1 + 1 = k by omega]; exact hy)
        have hpr : prevOf none l k = some a := by
          obtain ⟨j, rfl⟩ : ∃ j, k = j + 1 := ⟨k - 1, by omega⟩
          exact ha
        have HS1 : Hid (stepsFrom none (l.take (k + 1)) = stepsFrom none (l.take k) ++ [y - a - 1]) := by
          have := HST.out; rw [this, hpr]; rfl
        have s0 : IntKind.u64.wrap ((a : Int) + 1) = (a : Int) + 1 := IntWalk.u64_in _ (by omega)
        have s1 : IntKind.u64.wrap ((y : Int) - ((a : Int) + 1)) = ((y - a - 1 : Nat) : Int) := by rw [IntWalk.u64_in _ (by omega)]; omega
        obtain ⟨Y, hY⟩ : ∃ Y, Y = y - a - 1 := ⟨_, rfl⟩
        rw [← hY] at s1 HS1
        obtain ⟨J, hJ⟩ : ∃ J, J = k - 1 := ⟨_, rfl⟩
        have hcb : wr.cell? ⟨b, off + J, none⟩ = some (.int .u64 (a : Int)) := by rw [hJ]; exact hca
        have s2 : IntKind.i64.wrap ((k : Int) - 1) = (J : Int) := by rw [IntWalk.i64_in _ (by omega)]; omega
        have hJ0 : (0 : Int) ≤ (J : Int) := by omega
        have hJ1 : (J : Int) < (n : Int) := by omega
        clear hy hlt hlt2 hpr ha hY hlta hca hJ
        go_wp2_with (at_builtin; refine wpList_app rfl (.tmp 23) (.tmp 25) _ rfl elem64 rfl (hown.out.alloc _) rfl (Src.new wr (.int .u64 (Y : Int)) _ rfl) hmx (by omega) (by simp; omega) ?_; intro A5 c5 w5 ho5 hg5 hat5; have HO5 := Lib.hid ho5; have HB5 := Lib.hid ((stepB hbel.out (below1 wr (.cells #[.int .u64 (Y : Int)] 22))).grown hg5 (stepB hbel.out (below1 wr (.cells #[.int .u64 (Y : Int)] 22))).size (fun j hj => (hown.out.lt j hj).1)); clear ho5 hg5 hat5)
        go_roundw
        case rel => exact ⟨k + 1, A5, c5, by omega, by go_num, rfl, by rw [HS1.out, List.map_append]; exact HO5.out, HB5.out⟩
        case measure => simp [intOf]; omega
end
section
variable {D F : Dom} {A : Option Addr} {n c g : Nat} {l : List Nat} {b : List UInt8} {most code : Int} {w : World}
/-- What a call that writes numbers gives. -/
def PutIs (w : World) (F : Dom) (g : Nat) (most : Int) (b : List UInt8) (code : Int) (ns : List Nat) (e : Ending) (w' : World) : Prop :=
  e = .returned (.tuple #[]) ∧ ∃ F', Pen w' F' g most (putsB most (b, code) (ns.map vbytes)).1 (putsB most (b, code) (ns.map vbytes)).2 ∧ Chg F w w' ∧ (∀ k, F' k → F k ∨ w.heap.size ≤ k)
theorem puts_len (most : Int) (b : List UInt8) (code : Int) (ns : List Nat) (h : ∀ x ∈ ns, x < 18446744073709551616) : (putsB most (b, code) (ns.map vbytes)).1.length ≤ b.length + 10 * ns.length := by
  have h1 := putsB_len most (b, code) (ns.map vbytes)
  have h2 := vpieces_len ns h
  simp only at h1
  omega
theorem puts_snoc (most : Int) (b : List UInt8) (code : Int) (ns : List Nat) (x : Nat) : putsB most (b, code) ((ns ++ [x]).map vbytes) = putB most (putsB most (b, code) (ns.map vbytes)).1 (putsB most (b, code) (ns.map vbytes)).2 (vbytes x) := by
  rw [List.map_append]; exact putsB_snoc _ _ _ _
theorem puts_append (most : Int) (b : List UInt8) (code : Int) (ns ms : List Nat) : putsB most (b, code) ((ns ++ ms).map vbytes) = putsB most ((putsB most (b, code) (ns.map vbytes)).1, (putsB most (b, code) (ns.map vbytes)).2) (ms.map vbytes) := by
  rw [List.map_append]; exact putsB_append _ _ _ _
set_option maxRecDepth 100000 in
set_option maxHeartbeats 2000000 in
theorem putRising_any (h : Pen w F g most b code) (h0 : 0 ≤ most) (h1 : most ≤ 9223372036854775807) (hb : b.length ≤ 100000000) (hl : rpU64.sl w D A n c l) (hD : ∀ k, D k → k < w.heap.size) (hr : Rises l) (hl64 : ∀ x ∈ l, x < 18446744073709551616) (hn : n ≤ 1000) :
    Calls Try.prog 105 #[.pointer (some ⟨g, 0, none⟩), .slice A n c] w (PutIs w F g most b code (stepsFrom none l)) := by
  have hlen := (Rp.sl_len hl).1
  have HP := Lib.hid h
  have hri := fun w' (hb : Below w.heap.size w w') => rises_any (Rp.sl_below hl hb hD) (fun k hk => Nat.lt_of_lt_of_le (hD k hk) hb.size)
  rw [dec_true hr] at hri
  have HRI := Lib.hid hri
  have HST : Hid (∀ w', Below w.heap.size w w' → _) := fun w' (hb : Below w.heap.size w w') => steps_any (Rp.sl_below hl hb hD) (fun k hk => Nat.lt_of_lt_of_le (hD k hk) hb.size) hr hn
  have hsl : (stepsFrom none l).length = n := by rw [stepsFrom_length, hlen]
  have hs64 := stepsFrom_lt none l _ hl64
  have HFL := Lib.hid h.lt
  generalize stepsFrom none l = ns at *
  have HSL := Lib.hid hsl
  have HS64 := Lib.hid hs64
  clear h hl hD hr hl64 hlen hri hsl hs64
  go_enter Try.func105, Try.ntmps105
  go_wp2_with fail
  refine (HRI.out _ (Below.refl _ _)).mono ?_; rintro e w1 ⟨rfl, hb1⟩
  have HB1 := Lib.hid hb1
  clear hb1
  go_wp2_with fail
  refine (HST.out _ HB1.out).mono ?_; rintro e w2 ⟨A2, c2, rfl, ho, hb2⟩
  have HB2 := Lib.hid (stepB HB1.out hb2)
  have HO2 := Lib.hid (own_mono ho HB1.out.size)
  clear ho hb2
  go_wp2_with fail
  go_loopw [14] (fun i wr => ∃ (k : Nat) (F' : Dom), k ≤ n ∧ i = .int .i64 k ∧ Hid (Pen wr F' g most (putsB most (b, code) ((ns.take k).map vbytes)).1 (putsB most (b, code) ((ns.take k).map vbytes)).2) ∧ Hid (Chg (fun k => F k ∨ w2.heap.size ≤ k) w2 wr) ∧ Hid (∀ q, F' q → F q ∨ w2.heap.size ≤ q)) (fun i _ => n - (intOf i).toNat)
  case atStart => exact ⟨0, F, by omega, rfl, HP.out.below HB2.out, Chg.refl _ _, fun q hq => .inl hq⟩
  case round =>
    obtain ⟨k, F', hk, rfl, hpen, hchg, hF'⟩ := hrel
    by_cases hlt : k < n
    · obtain ⟨x, hx⟩ : ∃ x, ns[k]? = some x := ⟨_, List.getElem?_eq_getElem (by rw [HSL.out]; exact hlt)⟩
      have hx64 := HS64.out x (List.mem_of_getElem? hx)
      have hown := chO HO2.out hchg.out (fun q hq hF => by
        have h2 := HO2.out.lt q hq
        rcases hF with hF | hF
        · have := HFL.out q hF; omega
        · omega)
      obtain ⟨bo, rfl, hbo, _, _, hco, _⟩ := own_block hown (show 0 < n by omega)
      have hcell := hco k (uv x) (by rw [List.getElem?_map, hx]; rfl)
      unfold uv at hcell
      have hts : ns.take (k + 1) = ns.take k ++ [x] := by rw [List.take_add_one, hx]; rfl
      have hlen : (putsB most (b, code) ((ns.take k).map vbytes)).1.length ≤ 1000000000 := by
        have h1 := puts_len most b code (ns.take k) (fun y hy => HS64.out y (List.mem_of_mem_take hy))
        have h3 : (ns.take k).length ≤ k := by rw [List.length_take]; omega
        omega
      have HV := Lib.hid (vput_at hpen.out h0 h1 hlen x hx64)
      have HTS := Lib.hid hts
      have hzr := hchg.out.size
      have hd : decide ((k : Int) < (n : Int)) = true := by simp; omega
      have hkI : (0 : Int) ≤ (k : Int) := by omega
      have hkI2 : (k : Int) < (n : Int) := by omega
      clear hts hlen hx hx64 hco hown
      go_wp2_with fail
      refine HV.out.mono ?_; rintro e w3 ⟨rfl, F3, hp3, hch3, hF3⟩
      have HP3 := Lib.hid hp3
      have HCH3 := Lib.hid hch3
      have HF3 := Lib.hid hF3
      clear hp3 hch3 hF3 hcell
      go_wp2_with fail
      go_roundw
      case rel =>
        refine ⟨k + 1, F3, by omega, by go_num, ?_, ?_, ?_⟩
        · show Pen _ _ _ _ _ _
          rw [HTS.out, puts_snoc]; exact HP3.out
        · exact hchg.out.trans (HCH3.out.more (fun q _ hq => hF'.out q hq))
        · intro q hq
          rcases HF3.out q hq with h | h
          · exact hF'.out q h
          · exact .inr (by omega)
      case measure => simp [intOf]; omega
    · obtain rfl : k = n := by omega
      have hd : decide ((k : Int) < (k : Int)) = false := by simp
      have HP3 : Hid (Pen wr F' g most (putsB most (b, code) (ns.map vbytes)).1 (putsB most (b, code) (ns.map vbytes)).2) := by
        have := hpen.out
        rw [List.take_of_length_le (by rw [HSL.out]; exact Nat.le_refl _)] at this
        exact this
      clear hpen
      go_wp2_with fail
      go_end0
      refine ⟨rfl, F', HP3.out, (Chg.of_pure HB2.out F).trans (hchg.out.more (fun k hk h => ?_)), fun k hk => ?_⟩
      · rcases h with h | h
        · exact h
        · omega
      · rcases hF'.out k hk with h | h
        · exact .inl h
        · exact .inr (Nat.le_trans HB2.out.size h)
end
end Go.Proofs.Ytmdgmnaaopineaa
/- A stripe is written: stripe.Put, stripe.Bytes. -/
namespace Go.Proofs.Ytmdgmnaaopineaa
open Go.ChangeShapes Go.WideShapes Go.ChangeAt Go.RowKit
set_option linter.unusedVariables false
def pn (T N : Nat) (sets : List (List Nat)) (k : Nat) : List Nat := T :: N :: ((sets.take k).map setn).flatten
theorem pn_step {T N k : Nat} {sets : List (List Nat)} {x : List Nat} (h : sets[k]? = some x) : pn T N sets (k + 1) = (pn T N sets k ++ [x.length]) ++ stepsFrom none x := by
  unfold pn
  rw [List.take_add_one, h]
  simp [setn]
theorem pn_end {f t : Nat} {sets : List (List Nat)} : pn (t - f - 1) sets.length sets sets.length = stn (f, t, sets) := by
  unfold pn stn
  rw [List.take_length]
theorem setn_lt {x : List Nat} (h : NodesOk x) : ∀ y ∈ setn x, y < 18446744073709551616 := by
  intro y hy
  rcases List.mem_cons.1 hy with rfl | hy
  · have := h.2.1; omega
  · exact stepsFrom_lt none x _ (fun z hz => by have := nodesOk_lt h z hz; omega) y hy
theorem setn_length {x : List Nat} (h : NodesOk x) : (setn x).length ≤ 9 := by
  have := h.2.1
  show (stepsFrom none x).length + 1 ≤ 9
  rw [stepsFrom_length]; omega
theorem flat_len {sets : List (List Nat)} (h : ∀ x ∈ sets, NodesOk x) : ((sets.map setn).flatten).length ≤ 9 * sets.length := by
  induction sets with
  | nil => simp
  | cons x xs ih =>
    have h1 := setn_length (h x (by simp))
    have h2 := ih (fun y hy => h y (by simp [hy]))
    simp only [List.map_cons, List.flatten_cons, List.length_append, List.length_cons]
    omega
theorem pn_lt {T N : Nat} {sets : List (List Nat)} (hT : T < 18446744073709551616) (hN : N < 18446744073709551616) (h : ∀ x ∈ sets, NodesOk x) (k : Nat) : ∀ y ∈ pn T N sets k, y < 18446744073709551616 := by
  intro y hy
  unfold pn at hy
  rcases List.mem_cons.1 hy with rfl | hy
  · exact hT
  rcases List.mem_cons.1 hy with rfl | hy
  · exact hN
  obtain ⟨z, hz, hyz⟩ := List.mem_flatten.1 hy
  obtain ⟨x, hx, rfl⟩ := List.mem_map.1 hz
  exact setn_lt (h x (List.mem_of_mem_take hx)) y hyz
theorem pn_length {T N : Nat} {sets : List (List Nat)} (h : ∀ x ∈ sets, NodesOk x) (k : Nat) : (pn T N sets k).length ≤ 2 + 9 * k := by
  have h1 := flat_len (sets := sets.take k) (fun x hx => h x (List.mem_of_mem_take hx))
  have h2 : (sets.take k).length ≤ k := by rw [List.length_take]; omega
  unfold pn
  simp only [List.length_cons]
  omega
theorem sOk_nodes {s : Stp} (h : SOk s) : ∀ x ∈ s.2.2, NodesOk x := fun x hx => by
  obtain ⟨i, hi⟩ := List.getElem?_of_mem hx
  exact (setOk_iff.1 (h.2.2.2.2 i x hi)).1
section
variable {D F : Dom} {A : Option Addr} {n c g f t : Nat} {sets : List (List Nat)} {b : List UInt8} {most code : Int} {w : World}
set_option maxRecDepth 100000 in
set_option maxHeartbeats 3000000 in
theorem stput_ok (hs : (rpSlice rpU64).sl w D A n c sets) (hD : ∀ k, D k → k < w.heap.size) (hDF : ∀ k, D k → ¬ F k) (hok : SOk (f, t, sets)) (h : Pen w F g most b code) (h0 : 0 ≤ most) (h1 : most ≤ 9223372036854775807) (hb : b.length ≤ 10000000) :
    Calls Try.prog 51 #[.pointer (some ⟨g, 0, none⟩), .agg (stpV f t A n c)] w (PutIs w F g most b code (stn (f, t, sets))) := by
  obtain ⟨hlen, hnc, hcm⟩ := Rp.sl_len hs
  have hnod := sOk_nodes hok
  simp only at hnod
  have hok' := hok
  obtain ⟨hft, ht62, hn1, hn8, _⟩ := hok'
  simp only at hft ht62 hn1 hn8
  subst hlen
  rw [← pn_end]
  have hb0 := below1 w (.cells (stpV f t A sets.length c) 31)
  have hr := right_any (f := f) (t := t) (Rp.sl_below hs hb0 hD) (fun k hk => Nat.lt_of_lt_of_le (hD k hk) hb0.size) (by omega) (by omega)
  rw [dec_true hok] at hr
  have HR := Lib.hid hr
  have HB0 := Lib.hid hb0
  have HK0 := Lib.hid (blk11 w 31 (stpV f t A sets.length c))
  have HS : Hid (Sl (rpSlice rpU64) w D A sets.length c sets) := ⟨hs, hD⟩
  have HDF := Lib.hid hDF
  have HP := Lib.hid h
  have HFL := Lib.hid h.lt
  obtain ⟨T, hT⟩ : ∃ T, T = t - f - 1 := ⟨_, rfl⟩
  rw [← hT]
  have hT64 : T < 18446744073709551616 := by omega
  have s0 : IntKind.u64.wrap ((t : Int) - (f : Int)) = (t : Int) - (f : Int) := IntWalk.u64_in _ (by omega)
  have s1 : IntKind.u64.wrap ((t : Int) - (f : Int) - 1) = (T : Int) := by rw [IntWalk.u64_in _ (by omega)]; omega
  have s2 : IntKind.u64.wrap (sets.length : Int) = (sets.length : Int) := IntWalk.u64_in _ (by omega)
  have HT64 := Lib.hid hT64
  have HNOD := Lib.hid hnod
  have HNR : Hid (∀ x ∈ sets, Rises x ∧ x.length ≤ 8 ∧ ∀ y ∈ x, y < 18446744073709551616) := fun x hx => ⟨(hnod x hx).2.2.1, (hnod x hx).2.1, fun y hy => by have := nodesOk_lt (hnod x hx) y hy; omega⟩
  clear hs hD hDF h hok hr hb0 hT hT64 hnod hft ht62
  generalize hN : sets.length = N at *
  have HN := Lib.hid hN
  clear hN
  go_enter Try.func51, Try.ntmps51
  go_wp2_with fail
  generalize World.alloc w _ = w0 at *
  have k0 := (show Blk w0 _ _ _ from HK0.out).cell 0
  have k1 := (show Blk w0 _ _ _ from HK0.out).cell 1
  have k2 := (show Blk w0 _ _ _ from HK0.out).cell 2
  go_wp2_with fail
  refine HR.out.mono ?_; rintro e w1 ⟨rfl, hb1⟩
  have HK1 := Lib.hid (keepB (show Blk w0 w.heap.size 31 _ from HK0.out) hb1)
  have HB1 := Lib.hid (stepB HB0.out hb1)
  have HNF : Hid (¬ F w.heap.size) := fun hF => by have := HFL.out _ hF; omega
  have hlt1 := (show Blk w1 w.heap.size 31 _ from HK1.out).lt
  have c0 := (show Blk w1 w.heap.size 31 _ from HK1.out).cell 0
  have c1 := (show Blk w1 w.heap.size 31 _ from HK1.out).cell 1
  clear hb1 k0 k1 k2
  go_wp2_with fail
  refine (vput_at (HP.out.below HB1.out) h0 h1 (by omega) T HT64.out).mono ?_; rintro e w2 ⟨rfl, F2, hp2, hch2, hF2⟩
  have HP2 := Lib.hid hp2
  have HCH2 := Lib.hid hch2
  have HF2 := Lib.hid hF2
  have HK2 := Lib.hid (chB (show Blk w1 w.heap.size 31 _ from HK1.out) hch2 HNF.out)
  have hz12 := hch2.size
  clear hp2 hch2 hF2 c0 c1
  have c2 := (show Blk w2 w.heap.size 31 _ from HK2.out).cell 2
  have hl2 : Hid ((putB most b code (vbytes T)).1.length ≤ 1000000000) := by have h1 := putB_len most b code (vbytes T); have h2 := vbytes_10 HT64.out; exact (by omega : (putB most b code (vbytes T)).1.length ≤ 1000000000)
  go_wp2_with fail
  refine (vput_at HP2.out h0 h1 hl2.out N (by omega)).mono ?_; rintro e w3 ⟨rfl, F3, hp3, hch3, hF3⟩
  have HP3 : Hid (Pen w3 F3 g most (putsB most (b, code) ((pn T N sets 0).map vbytes)).1 (putsB most (b, code) ((pn T N sets 0).map vbytes)).2) := by
    have e0 : pn T N sets 0 = [T, N] := by simp [pn]
    rw [e0]
    exact hp3
  have HK3 := Lib.hid (chB (show Blk w2 w.heap.size 31 _ from HK2.out) hch3 (fun hF => by
    rcases HF2.out _ hF with h | h
    · exact HNF.out h
    · omega))
  have HCH3 : Hid (Chg (fun k => F k ∨ w1.heap.size ≤ k) w1 w3) := (HCH2.out.more (fun k _ hk => .inl hk)).trans (hch3.more (fun k _ hk => HF2.out k hk))
  have HF3 : Hid (∀ q, F3 q → F q ∨ w1.heap.size ≤ q) := fun q hq => by
    rcases hF3 q hq with h | h
    · exact HF2.out q h
    · exact .inr (by omega)
  clear hp3 hch3 hF3 c2
  have c2 := (show Blk w3 w.heap.size 31 _ from HK3.out).cell 2
  go_wp2_with fail
  clear c2
  go_loopw [28] (fun i wr => ∃ (k : Nat) (F' : Dom), k ≤ N ∧ i = .int .i64 k ∧ Hid (Pen wr F' g most (putsB most (b, code) ((pn T N sets k).map vbytes)).1 (putsB most (b, code) ((pn T N sets k).map vbytes)).2) ∧ Hid (Chg (fun k => F k ∨ w1.heap.size ≤ k) w1 wr) ∧ Hid (∀ q, F' q → F q ∨ w1.heap.size ≤ q)) (fun i _ => N - (intOf i).toNat)
  case atStart => exact ⟨0, F3, by omega, rfl, HP3.out, HCH3.out, HF3.out⟩
  case round =>
    clear HP3 HCH3 HF3 HK3 HK2 HP2 HCH2 HF2 hl2
    obtain ⟨k, F', hk, rfl, hpen, hchg, hF'⟩ := hrel
    by_cases hlt : k < N
    · have hsr := chS (keepS HS.out HB1.out) hchg.out (fun q hq hF => by
        rcases hF with hF | hF
        · exact HDF.out q hq hF
        · have := HS.out.2 q hq; have := HB1.out.size; omega)
      obtain ⟨bo, off, x, A3, c3, rfl, hbD, hx, hcell, hrow⟩ := rows_at hsr.1 hlt
      have HRW : Hid (Sl rpU64 wr D A3 x.length c3 x) := ⟨hrow, hsr.2⟩
      have hxm := List.mem_of_getElem? hx
      obtain ⟨hxr, hx8, hx64⟩ := HNR.out x hxm
      have HXR := Lib.hid hxr
      have HX64 := Lib.hid hx64
      have HPS := Lib.hid (pn_step (T := T) (N := N) hx)
      have hlen : (putsB most (b, code) ((pn T N sets k).map vbytes)).1.length ≤ 20000000 := by
        have h1 := puts_len most b code (pn T N sets k) (pn_lt HT64.out (by omega) HNOD.out k)
        have h2 := pn_length (T := T) (N := N) HNOD.out k
        omega
      have hlen2 : (putB most (putsB most (b, code) ((pn T N sets k).map vbytes)).1 (putsB most (b, code) ((pn T N sets k).map vbytes)).2 (vbytes x.length)).1.length ≤ 100000000 := by
        have h1 := putB_len most (putsB most (b, code) ((pn T N sets k).map vbytes)).1 (putsB most (b, code) ((pn T N sets k).map vbytes)).2 (vbytes x.length)
        have h2 := vbytes_10 (x := x.length) (by omega)
        omega
      have HV := Lib.hid (vput_at hpen.out h0 h1 (by omega) x.length (by omega))
      have HLEN2 := Lib.hid hlen2
      have hzr := hchg.out.size
      have hd : decide ((k : Int) < (N : Int)) = true := by simp; omega
      have hkI : (0 : Int) ≤ (k : Int) := by omega
      have hkI2 : (k : Int) < (N : Int) := by omega
      have s3 : IntKind.u64.wrap (x.length : Int) = (x.length : Int) := IntWalk.u64_in _ (by omega)
      clear hlen hlen2 hx hxm hxr hx64 hrow hsr
      go_wp2_with fail
      refine HV.out.mono ?_; rintro e w4 ⟨rfl, F4, hp4, hch4, hF4⟩
      have HP4 := Lib.hid hp4
      have HCH4 := Lib.hid hch4
      have HF4 : Hid (∀ q, F4 q → F q ∨ w1.heap.size ≤ q) := fun q hq => by
        rcases hF4 q hq with h | h
        · exact hF'.out q h
        · exact .inr (by omega)
      have hrw := chS HRW.out hch4 (fun q hq hF => by
        rcases hF'.out q hF with hF | hF
        · exact HDF.out q hq hF
        · have := HS.out.2 q hq; have := HB1.out.size; omega)
      have HPR := Lib.hid (putRising_any hp4 h0 h1 HLEN2.out hrw.1 hrw.2 HXR.out HX64.out (by omega))
      have hz4 := hch4.size
      clear hp4 hch4 hF4 hrw hcell
      go_wp2_with fail
      refine HPR.out.mono ?_; rintro e w5 ⟨rfl, F5, hp5, hch5, hF5⟩
      have HP5 : Hid (Pen w5 F5 g most (putsB most (b, code) ((pn T N sets (k + 1)).map vbytes)).1 (putsB most (b, code) ((pn T N sets (k + 1)).map vbytes)).2) := by
        rw [HPS.out, puts_append, puts_snoc]
        exact hp5
      have HCH5 := Lib.hid hch5
      have HF5 := Lib.hid hF5
      clear hp5 hch5 hF5
      go_wp2_with fail
      go_roundw
      case rel =>
        refine ⟨k + 1, F5, by omega, by go_num, HP5.out, (hchg.out.trans (HCH4.out.more (fun q _ hq => hF'.out q hq))).trans (HCH5.out.more (fun q _ hq => HF4.out q hq)), fun q hq => ?_⟩
        rcases HF5.out q hq with h | h
        · exact HF4.out q h
        · exact .inr (by omega)
      case measure => simp [intOf]; omega
    · obtain rfl : k = N := by omega
      have hd : decide ((k : Int) < (k : Int)) = false := by simp
      go_wp2_with fail
      go_end0
      refine ⟨rfl, F', hpen.out, (Chg.of_pure HB1.out F).trans (hchg.out.more (fun q hq h => ?_)), fun q hq => ?_⟩
      · rcases h with h | h
        · exact h
        · omega
      · rcases hF'.out q hq with h | h
        · exact .inl h
        · exact .inr (Nat.le_trans HB1.out.size h)
set_option maxRecDepth 100000 in
theorem stput_bad (hs : (rpSlice rpU64).sl w D A n c sets) (hD : ∀ k, D k → k < w.heap.size) (hf : f ≤ 18446744073709551615) (ht : t ≤ 18446744073709551615) (hno : ¬ SOk (f, t, sets)) (h : Pen w F g most b code) :
    Calls Try.prog 51 #[.pointer (some ⟨g, 0, none⟩), .agg (stpV f t A n c)] w fun e w' => e = .returned (.tuple #[]) ∧ Pen w' F g most b (if code = 0 then 3 else code) ∧ Chg F w w' := by
  have hb0 := below1 w (.cells (stpV f t A n c) 31)
  have hr := right_any (f := f) (t := t) (Rp.sl_below hs hb0 hD) (fun k hk => Nat.lt_of_lt_of_le (hD k hk) hb0.size) hf ht
  rw [dec_false hno] at hr
  have HR := Lib.hid hr
  have HB0 := Lib.hid hb0
  have HP := Lib.hid h
  obtain ⟨cd, hcd⟩ : ∃ cd : Int, cd = (if code = 0 then 3 else code) := ⟨_, rfl⟩
  rw [← hcd]
  have HCD := Lib.hid hcd
  clear h hs hD hcd hr hb0 hno
  go_enter Try.func51, Try.ntmps51
  go_wp2_with fail
  refine HR.out.mono ?_; rintro e w1 ⟨rfl, hb1⟩
  have HB1 := Lib.hid (stepB HB0.out hb1)
  clear hb1
  go_wp2_with fail
  refine (fail_at (HP.out.below HB1.out) 3).mono ?_; rintro e w2 ⟨rfl, hp2, hc2⟩
  rw [← HCD.out] at hp2
  have HP2 := Lib.hid hp2
  have HC2 := Lib.hid hc2
  clear hp2 hc2
  go_wp2_with fail
  exact bodyPost_ret (v := .tuple #[]) (by simp [results, Try.results51, go_sem]) rfl ⟨rfl, HP2.out, (Chg.of_pure HB1.out F).trans HC2.out⟩
end
theorem stb_len {s : Stp} (h : SOk s) : (stb s).length ≤ 740 := by
  have h1 := vpieces_len (stn s) (by
    have := pn_lt (T := s.2.1 - s.1 - 1) (N := s.2.2.length) (sets := s.2.2) (by have := h.2.1; omega) (by have := h.2.2.2.1; omega) (sOk_nodes h) s.2.2.length
    rw [pn_end] at this; exact this)
  have h2 := pn_length (T := s.2.1 - s.1 - 1) (N := s.2.2.length) (sets := s.2.2) (sOk_nodes h) s.2.2.length
  rw [pn_end] at h2
  have h3 := h.2.2.2.1
  show ((stn s).map vbytes).flatten.length ≤ 740
  have h4 : (stn (s.1, s.2.1, s.2.2)).length = (stn s).length := rfl
  omega
theorem stput_fit {s : Stp} (h : SOk s) {most : Int} (hm : 740 ≤ most) : putsB most ([], 0) ((stn s).map vbytes) = (stb s, 0) := by
  have := putsB_fit (most := most) (b := []) (xs := (stn s).map vbytes) (by have := stb_len h; show ((stb s).length : Int) ≤ most; omega)
  exact this
section
variable {D : Dom} {A : Option Addr} {n c f t : Nat} {sets : List (List Nat)} {w : World}
set_option maxRecDepth 100000 in
theorem stbytes_ok (hs : (rpSlice rpU64).sl w D A n c sets) (hD : ∀ k, D k → k < w.heap.size) (hok : SOk (f, t, sets)) :
    Calls Try.prog 49 #[.agg (stpV f t A n c)] w fun e w' => ∃ A2 m c2, e = .returned (.tuple #[.slice A2 m c2, .int .i64 0]) ∧ w'.ownsRow w.heap.size 5 1 (.slice A2 m c2) m ((stb (f, t, sets)).map bv) ∧ Below w.heap.size w w' := by
  have hb0 := below1 w (.cells (stpV f t A n c) 31)
  have HK0 := Lib.hid (Blk.new w 31 (stpV f t A n c))
  have HB0 := Lib.hid hb0
  have HS := Lib.hid (keepS (show Sl (rpSlice rpU64) w D A n c sets from ⟨hs, hD⟩) hb0)
  have HOK := Lib.hid hok
  have HDL := Lib.hid hD
  have HFIT := Lib.hid (stput_fit hok (most := 1024) (by decide))
  have hl := stb_len hok
  clear hs hb0 hok hD
  go_enter Try.func49, Try.ntmps49
  go_wp2_with fail
  generalize World.alloc w _ = w0 at *
  have hz0 := HB0.out.size
  refine (new_any 1024 _).mono ?_; rintro e w1 ⟨rfl, hp1, hb1⟩
  have hk1 := keepB (show Blk w0 w.heap.size 31 _ from HK0.out) hb1
  have c0 := hk1.cell 0
  have c1 := hk1.cell 1
  have c2 := hk1.cell 2
  have HB1 := Lib.hid (stepB HB0.out hb1)
  have HS1 := Lib.hid (keepS HS.out hb1)
  have HP1 := Lib.hid hp1
  clear hb1 hk1 hp1
  go_wp2_with fail
  refine (stput_ok HS1.out.1 HS1.out.2 (fun k hk hF => by have e : k = w0.heap.size := hF; have := HDL.out k hk; omega) HOK.out HP1.out (by decide) (by decide) (by simp)).mono ?_; rintro e w2 ⟨rfl, F2, hp2, hch2, hF2⟩
  rw [show max (1024 : Int) 0 = 1024 from rfl, HFIT.out] at hp2
  have HP2 := Lib.hid hp2
  have HB2 := Lib.hid (HB1.out.trans (hch2.below HB1.out.size (fun k hk => by have : k = w0.heap.size := hk; omega)))
  clear hp2 hch2 hF2 c0 c1 c2
  go_wp2_with fail
  refine (bytes_ok HP2.out (by omega)).mono ?_; rintro e w3 ⟨A, n, c, rfl, ho, hb3⟩
  have HO := Lib.hid ho
  have HB3 := Lib.hid (stepB HB2.out hb3)
  clear ho hb3
  go_wp2_with fail
  go_ret2
  exact ⟨A, n, c, rfl, own_mono HO.out HB2.out.size, HB3.out⟩
set_option maxRecDepth 100000 in
theorem stbytes_bad (hs : (rpSlice rpU64).sl w D A n c sets) (hD : ∀ k, D k → k < w.heap.size) (hf : f ≤ 18446744073709551615) (ht : t ≤ 18446744073709551615) (hno : ¬ SOk (f, t, sets)) :
    Calls Try.prog 49 #[.agg (stpV f t A n c)] w fun e w' => e = .returned (.tuple #[.slice none 0 0, .int .i64 3]) ∧ Below w.heap.size w w' := by
  have hb0 := below1 w (.cells (stpV f t A n c) 31)
  have HK0 := Lib.hid (Blk.new w 31 (stpV f t A n c))
  have HB0 := Lib.hid hb0
  have HS := Lib.hid (keepS (show Sl (rpSlice rpU64) w D A n c sets from ⟨hs, hD⟩) hb0)
  have HNO := Lib.hid hno
  clear hs hb0 hno hD
  go_enter Try.func49, Try.ntmps49
  go_wp2_with fail
  generalize World.alloc w _ = w0 at *
  have hz0 := HB0.out.size
  refine (new_any 1024 _).mono ?_; rintro e w1 ⟨rfl, hp1, hb1⟩
  have hk1 := keepB (show Blk w0 w.heap.size 31 _ from HK0.out) hb1
  have c0 := hk1.cell 0
  have c1 := hk1.cell 1
  have c2 := hk1.cell 2
  have HB1 := Lib.hid (stepB HB0.out hb1)
  have HS1 := Lib.hid (keepS HS.out hb1)
  have HP1 := Lib.hid hp1
  clear hb1 hk1 hp1
  go_wp2_with fail
  refine (stput_bad HS1.out.1 HS1.out.2 hf ht HNO.out HP1.out).mono ?_; rintro e w2 ⟨rfl, hp2, hch2⟩
  have HP2 := Lib.hid hp2
  have HB2 := Lib.hid (HB1.out.trans (hch2.below HB1.out.size (fun k hk => by have : k = w0.heap.size := hk; omega)))
  clear hp2 hch2 c0 c1 c2
  go_wp2_with fail
  refine (bytes_bad HP2.out (by decide)).mono ?_; rintro e w3 ⟨rfl, rfl⟩
  go_wp2_with fail
  go_ret2
  exact ⟨rfl, HB2.out⟩
end
end Go.Proofs.Ytmdgmnaaopineaa
/- The walk of the reference's Right. -/
namespace Go.Proofs.Ytmdgmnaaopineaa
open Go.ChangeShapes Go.WideShapes Go.ChangeAt Go.RowKit
set_option linter.unusedVariables false
set_option maxRecDepth 100000 in
set_option maxHeartbeats 4000000 in
theorem rright_any {D : Dom} {A : Option Addr} {n c f t : Nat} {sets : List (List Nat)} {w : World} (hs : (rpSlice rpU64).sl w D A n c sets) (hD : ∀ k, D k → k < w.heap.size) (hf : f ≤ 18446744073709551615) (ht : t ≤ 18446744073709551615) :
    Calls Try.prog 46 #[.agg (stpV f t A n c)] w fun e w' => e = .returned (.bool (dec (SOk (f, t, sets)))) ∧ Below w.heap.size w w' := by
  obtain ⟨hlen, hnc, hcm⟩ := Rp.sl_len hs
  unfold maxLen at hcm
  subst hlen
  have hb0 : Below w.heap.size w (w.alloc (.cells (stpV f t A sets.length c) 31)) := (Below.refl _ _).alloc (Nat.le_refl _) _
  have HS := Lib.hid (Rp.sl_below hs hb0 hD)
  have HB0 := Lib.hid hb0
  have HD := Lib.hid (fun k hk => Nat.lt_of_lt_of_le (hD k hk) hb0.size)
  have HK := Lib.hid (Blk.new w 31 (stpV f t A sets.length c))
  clear hs hD hb0
  by_cases hpre : f < t ∧ t ≤ 4611686018427387904 ∧ 1 ≤ sets.length ∧ sets.length ≤ 8
  case neg =>
    have HN := Lib.hid (show ¬ SOk (f, t, sets) from fun h => hpre ⟨h.1, h.2.1, h.2.2.1, h.2.2.2.1⟩)
    have hc : t ≤ f ∨ (f < t ∧ 4611686018427387904 < t) ∨ (f < t ∧ t ≤ 4611686018427387904 ∧ sets.length < 1) ∨ (f < t ∧ t ≤ 4611686018427387904 ∧ 1 ≤ sets.length ∧ 8 < sets.length) := by omega
    clear hpre
    rcases hc with d1 | ⟨d1, d2⟩ | ⟨d1, d2, d3⟩ | ⟨d1, d2, d3, d4⟩
    all_goals
      go_enter Try.func46, Try.ntmps46
      go_wp2_with fail
      go_ret
      rw [dec_false HN.out]
      exact ⟨rfl, HB0.out⟩
  case pos =>
    obtain ⟨d1, d2, d3, d4⟩ := hpre
    have w1 : decide (t ≤ f) = false := by simp; omega
    have w2 : decide ((4611686018427387904 : Int) < (t : Int)) = false := by simp; omega
    have w3 : decide ((sets.length : Int) < 1) = false := by simp; omega
    have w4 : decide ((8 : Int) < (sets.length : Int)) = false := by simp; omega
    have HP0 : Hid (SUpTo (f, t, sets) 0) := ⟨⟨d1, d2, d3, d4⟩, fun i l h => by omega⟩
    go_enter Try.func46, Try.ntmps46
    go_wp2_with fail
    generalize World.alloc w _ = w0 at *
    have hz0 := HB0.out.size
    have hkl := HK.out.lt
    go_loopw [3] (fun i wr => ∃ (k : Nat), k ≤ sets.length ∧ i = .int .i64 k ∧ Hid (SUpTo (f, t, sets) k) ∧ Below w0.heap.size w0 wr) (fun i _ => sets.length - (intOf i).toNat)
    case atStart => exact ⟨0, by omega, rfl, HP0, Below.refl _ _⟩
    case round =>
      obtain ⟨k, hk, rfl, hup, hbr⟩ := hrel
      have HBR := Lib.hid hbr
      have hzr := hbr.size
      have hbk := HK.out.below hbr hkl
      have d2c : wr.cell? ⟨w.heap.size, 2, none⟩ = some (.slice A sets.length c) := hbk.cell 2
      have HBK := Lib.hid hbk
      clear hbk
      by_cases hkn : k < sets.length
      · obtain ⟨b, off, s, A2, c2, rfl, hb, hs, hcell, hrow⟩ := rows_at (Rp.sl_below HS.out hbr HD.out) hkn
        have HSS := Lib.hid hs
        have HR := Lib.hid hrow
        obtain ⟨_, hs1, hs2⟩ := Rp.sl_len hrow
        unfold maxLen at hs2
        have HNO := Lib.hid (fun h : ¬ SetOk sets k s => (fun hh : SOk (f, t, sets) => h (hh.2.2.2.2 k s HSS.out)))
        clear hs hrow hbr
        by_cases e1 : s.length < 1
        · have hno := Lib.hid (HNO.out (fun h => by have := h.1; omega))
          go_wp2_with fail
          go_ret
          rw [dec_false hno.out]
          exact ⟨rfl, HB0.out.trans (HBR.out.mono hz0)⟩
        by_cases e2 : 8 < s.length
        · have hno := Lib.hid (HNO.out (fun h => by have := h.2.1; omega))
          go_wp2_with fail
          go_ret
          rw [dec_false hno.out]
          exact ⟨rfl, HB0.out.trans (HBR.out.mono hz0)⟩
        have w5 : decide ((s.length : Int) < 1) = false := by simp; omega
        have w6 : decide ((8 : Int) < (s.length : Int)) = false := by simp; omega
        have hrs := rises_ref HR.out (fun k hk => Nat.lt_of_lt_of_le (HD.out k hk) hzr)
        cases hq : dec (Rises s)
        · rw [hq] at hrs
          have HRS := Lib.hid hrs
          have hno := Lib.hid (HNO.out (fun h => of_not_dec hq h.2.2.1))
          clear hrs hq
          go_wp2_with fail
          refine HRS.out.mono ?_; rintro e w1 ⟨rfl, hb1⟩
          go_wp2_with fail
          go_ret
          rw [dec_false hno.out]
          exact ⟨rfl, (HB0.out.trans (HBR.out.mono hz0)).trans (hb1.mono (Nat.le_trans hz0 hzr))⟩
        rw [hq] at hrs
        have HRS := Lib.hid hrs
        have HQ := Lib.hid (of_dec hq)
        obtain ⟨b', off', y, rfl, hb', hy, hc', hlt⟩ := u64_at HR.out (show s.length - 1 < s.length by omega)
        have HY := Lib.hid hy
        have hbD : b' < wr.heap.size := Nat.lt_of_lt_of_le (HD.out b' hb') hzr
        have HC := Lib.hid hc'
        have hn1 : ((s.length : Int) - 1).toNat = s.length - 1 := by omega
        have hn2 : ((s.length - 1 : Nat) : Int) = (s.length : Int) - 1 := by omega
        clear hrs hq hy hc'
        by_cases hyb : y < 4294967296
        · have hcmp : decide ((4294967296 : Int) ≤ (y : Int)) = false := by simp; omega
          have HYB := Lib.hid hyb
          clear hyb
          have htw := fun (w1 : World) (hb1 : Below wr.heap.size wr w1) => twice_any (m := k) (Rp.sl_below HR.out hb1 (fun k hk => Nat.lt_of_lt_of_le (HD.out k hk) hzr)) (Rp.sl_below (Rp.sl_below HS.out HBR.out HD.out) hb1 (fun k hk => Nat.lt_of_lt_of_le (HD.out k hk) hzr)) hk (fun k hk => Nat.lt_of_lt_of_le (Nat.lt_of_lt_of_le (HD.out k hk) hzr) hb1.size) (fun k hk => Nat.lt_of_lt_of_le (Nat.lt_of_lt_of_le (HD.out k hk) hzr) hb1.size)
          have HTW := Lib.hid htw
          clear htw
          go_wp2_with fail
          refine HRS.out.mono ?_; rintro e w1 ⟨rfl, hb1⟩
          have hc1 : w1.cell? ⟨b', off' + (s.length - 1), none⟩ = some (.int .u64 (y : Int)) := (hb1.cell (p := ⟨b', off' + (s.length - 1), none⟩) hbD).trans HC.out
          have d2c1 : w1.cell? ⟨w.heap.size, 2, none⟩ = some (.slice (some ⟨b, off, none⟩) sets.length c) := (HBK.out.below hb1 HBK.out.lt).cell 2
          have HB1 := Lib.hid hb1
          clear hb1 d2c
          go_wp2_with fail
          cases hq2 : dec (TwiceIn sets k s)
          · have ht2 := HTW.out w1 HB1.out
            rw [hq2] at ht2
            have HT2 := Lib.hid ht2
            have HQ2 := Lib.hid (of_not_dec hq2)
            clear ht2 hq2
            refine HT2.out.mono ?_; rintro e w2 ⟨rfl, hb2⟩
            clear hc1 d2c1
            go_wp2_with fail
            go_roundw
            case rel =>
              refine ⟨k + 1, by omega, by go_num, (sUpTo_succ HSS.out).2 ⟨hup.out, setOk_iff'.2 ⟨⟨by omega, by omega, HQ.out, fun a ha => by rw [HY.out] at ha; injection ha with ha; have := HYB.out; omega⟩, HQ2.out⟩⟩, ?_⟩
              have h1 := HBR.out.trans (HB1.out.mono hzr)
              exact h1.trans (hb2.mono h1.size)
            case measure => simp [intOf]; omega
          · have ht2 := HTW.out w1 HB1.out
            rw [hq2] at ht2
            have HT2 := Lib.hid ht2
            have hno := Lib.hid (HNO.out (fun h => (setOk_iff'.1 h).2 (of_dec hq2)))
            clear ht2 hq2
            refine HT2.out.mono ?_; rintro e w2 ⟨rfl, hb2⟩
            clear hc1 d2c1
            go_wp2_with fail
            go_ret
            rw [dec_false hno.out]
            have h1 := HBR.out.trans (HB1.out.mono hzr)
            exact ⟨rfl, HB0.out.trans ((h1.trans (hb2.mono h1.size)).mono hz0)⟩
        · have hcmp : decide ((4294967296 : Int) ≤ (y : Int)) = true := by simp; omega
          have hno := Lib.hid (HNO.out (fun h => hyb (h.2.2.2.1 y HY.out)))
          clear hyb
          go_wp2_with fail
          refine HRS.out.mono ?_; rintro e w1 ⟨rfl, hb1⟩
          have hc1 : w1.cell? ⟨b', off' + (s.length - 1), none⟩ = some (.int .u64 (y : Int)) := (hb1.cell (p := ⟨b', off' + (s.length - 1), none⟩) hbD).trans HC.out
          have HB1 := Lib.hid hb1
          clear hb1 d2c
          go_wp2_with fail
          go_ret
          rw [dec_false hno.out]
          have h1 := HBR.out.trans (HB1.out.mono hzr)
          exact ⟨rfl, HB0.out.trans (h1.mono hz0)⟩
      · obtain rfl : k = sets.length := by omega
        clear hbr
        go_wp2_with fail
        go_ret
        rw [← dec_congr sUpTo_all]
        rw [dec_true (p := SUpTo (f, t, sets) (f, t, sets).2.2.length) hup.out]
        exact ⟨rfl, HB0.out.trans (HBR.out.mono hz0)⟩
end Go.Proofs.Ytmdgmnaaopineaa
/- The walks of Dealt, Share, Back; whether sets are too many. -/
namespace Go.Proofs.Ytmdgmnaaopineaa
open Go.ChangeShapes Go.WideShapes Go.ChangeAt Go.RowKit
set_option linter.unusedVariables false
section
variable {D : Dom} {A : Option Addr} {n c f t : Nat} {sets : List (List Nat)} {w : World}
set_option maxRecDepth 100000 in
theorem dealt_any (p : Nat) (hs : (rpSlice rpU64).sl w D A n c sets) (hD : ∀ k, D k → k < w.heap.size) (hf : f ≤ 18446744073709551615) (ht : t ≤ 18446744073709551615) (hp : p ≤ 18446744073709551615) :
    Calls Try.prog 37 #[.agg (stpV f t A n c), .int .u64 (p : Int)] w fun e w' => e = .returned (.tuple #[.int .i64 ((dealt (f, t, sets) p).1 : Int), .int .u64 ((dealt (f, t, sets) p).2.1 : Int), .bool (dealt (f, t, sets) p).2.2]) ∧ Below w.heap.size w w' := by
  obtain ⟨hlen, hnc, hcm⟩ := Rp.sl_len hs
  unfold maxLen at hcm
  subst hlen
  have hb0 : Below w.heap.size w (w.alloc (.cells (stpV f t A sets.length c) 31)) := (Below.refl _ _).alloc (Nat.le_refl _) _
  have hr := right_any (Rp.sl_below hs hb0 hD) (fun k hk => Nat.lt_of_lt_of_le (hD k hk) hb0.size) hf ht
  have HB0 := Lib.hid hb0
  have HK := Lib.hid (Blk.new w 31 (stpV f t A sets.length c))
  clear hs hD hb0
  cases hq : dec (SOk (f, t, sets))
  · rw [hq] at hr
    have HR := Lib.hid hr
    rw [dealt_out (fun h => of_not_dec hq h.1)]
    clear hr hq
    go_enter Try.func37, Try.ntmps37
    go_wp2_with fail
    refine HR.out.mono ?_; rintro e w1 ⟨rfl, hb1⟩
    go_wp2_with fail
    go_ret3
    exact ⟨rfl, HB0.out.trans (hb1.mono HB0.out.size)⟩
  · rw [hq] at hr
    have HR := Lib.hid hr
    have hok := of_dec hq
    have h1 : f < t := hok.1
    have h2 : t ≤ 4611686018427387904 := hok.2.1
    have h3 : 1 ≤ sets.length := hok.2.2.1
    have h4 : sets.length ≤ 8 := hok.2.2.2.1
    have HOK := Lib.hid hok
    clear hr hq hok
    by_cases hin : f ≤ p ∧ p < t
    · obtain ⟨hp1, hp2⟩ := hin
      rw [dealt_in HOK.out hp1 hp2]
      obtain ⟨a, rfl⟩ : ∃ a, p = f + a := ⟨p - f, by omega⟩
      have e1 : f + a - f = a := by omega
      dsimp only
      rw [e1]
      clear e1
      obtain ⟨m, hm⟩ : ∃ m : Nat, m = sets.length := ⟨_, rfl⟩
      rw [← hm] at h3 h4 ⊢
      go_enter Try.func37, Try.ntmps37
      go_wp2_with fail
      rw [hm]
      refine HR.out.mono ?_; rintro e w1 ⟨rfl, hb1⟩
      rw [← hm]
      have hbk := HK.out.below hb1 HK.out.lt
      have d0 : w1.cell? ⟨w.heap.size, 0, none⟩ = some (.int .u64 (f : Int)) := hbk.cell 0
      have d1 : w1.cell? ⟨w.heap.size, 1, none⟩ = some (.int .u64 (t : Int)) := hbk.cell 1
      have d2 : w1.cell? ⟨w.heap.size, 2, none⟩ = some (.slice A m c) := by rw [hm]; exact hbk.cell 2
      have HM := Lib.hid hm
      clear hbk hm
      have HB1 := Lib.hid hb1
      clear hb1
      have hA : ((f : Int) + a - f) = a := by omega
      have hM1 : (a : Int) % m = ((a % m : Nat) : Int) := by simp
      have hM2 : a % m < m := Nat.mod_lt _ (by omega)
      have hB : wrap64 (((f : Int) + a - f) % m) = ((a % m : Nat) : Int) := by rw [hA, hM1]; exact IntWalk.wrap64_in _ (by omega)
      have hC : ((f : Int) + a - f) / m = ((a / m : Nat) : Int) := by rw [hA]; simp
      have HBB := Lib.hid hB
      have HCC := Lib.hid hC
      clear hA hM1 hM2 hB hC
      go_wp2_with fail
      go_quiet (fail)
      go_wp2_with fail
      go_ret3
      have hdn : ∀ q, Below w1.heap.size w1 (w1.drewN q) := fun q => ⟨rfl, rfl, rfl, Nat.le_refl _, fun _ _ => rfl⟩
      refine ⟨?_, HB0.out.trans ((HB1.out.trans ((hdn _).mono HB1.out.size)).mono HB0.out.size)⟩
      rw [← HBB.out, ← HCC.out]
      rfl
    · rw [dealt_out (fun h => hin h.2)]
      have hc : p < f ∨ (f ≤ p ∧ t ≤ p) := by omega
      clear hin
      rcases hc with hc | ⟨hc, hc2⟩
      all_goals
        go_enter Try.func37, Try.ntmps37
        go_wp2_with fail
        refine HR.out.mono ?_; rintro e w1 ⟨rfl, hb1⟩
        have hbk := HK.out.below hb1 HK.out.lt
        have d0 : w1.cell? ⟨w.heap.size, 0, none⟩ = some (.int .u64 (f : Int)) := hbk.cell 0
        have d1 : w1.cell? ⟨w.heap.size, 1, none⟩ = some (.int .u64 (t : Int)) := hbk.cell 1
        have HB1 := Lib.hid hb1
        clear hbk hb1
        go_wp2_with fail
        go_ret3
        exact ⟨rfl, HB0.out.trans (HB1.out.mono HB0.out.size)⟩
set_option maxRecDepth 100000 in
theorem share_any (set : Int) (hs : (rpSlice rpU64).sl w D A n c sets) (hD : ∀ k, D k → k < w.heap.size) (hf : f ≤ 18446744073709551615) (ht : t ≤ 18446744073709551615) :
    Calls Try.prog 65 #[.agg (stpV f t A n c), .int .i64 set] w fun e w' => e = .returned (.int .u64 (share (f, t, sets) set : Int)) ∧ Below w.heap.size w w' := by
  obtain ⟨hlen, hnc, hcm⟩ := Rp.sl_len hs
  unfold maxLen at hcm
  subst hlen
  have hb0 : Below w.heap.size w (w.alloc (.cells (stpV f t A sets.length c) 31)) := (Below.refl _ _).alloc (Nat.le_refl _) _
  have hr := right_any (Rp.sl_below hs hb0 hD) (fun k hk => Nat.lt_of_lt_of_le (hD k hk) hb0.size) hf ht
  have HB0 := Lib.hid hb0
  have HK := Lib.hid (Blk.new w 31 (stpV f t A sets.length c))
  clear hs hD hb0
  cases hq : dec (SOk (f, t, sets))
  · rw [hq] at hr
    have HR := Lib.hid hr
    rw [share_out (fun h => of_not_dec hq h.1)]
    clear hr hq
    go_enter Try.func65, Try.ntmps65
    go_wp2_with fail
    refine HR.out.mono ?_; rintro e w1 ⟨rfl, hb1⟩
    go_wp2_with fail
    go_ret
    exact ⟨rfl, HB0.out.trans (hb1.mono HB0.out.size)⟩
  · rw [hq] at hr
    have HR := Lib.hid hr
    have hok := of_dec hq
    have h1 : f < t := hok.1
    have h2 : t ≤ 4611686018427387904 := hok.2.1
    have h3 : 1 ≤ sets.length := hok.2.2.1
    have h4 : sets.length ≤ 8 := hok.2.2.2.1
    have HOK := Lib.hid hok
    clear hr hq hok
    by_cases hin : 0 ≤ set ∧ set < sets.length
    · obtain ⟨hp1, hp2⟩ := hin
      obtain ⟨j, rfl⟩ : ∃ j : Nat, set = j := ⟨set.toNat, by omega⟩
      have hj : j < sets.length := by omega
      rw [share_in HOK.out hj]
      dsimp only
      obtain ⟨a, rfl⟩ : ∃ a, t = f + a := ⟨t - f, by omega⟩
      have e1 : f + a - f = a := by omega
      rw [e1]
      clear e1
      obtain ⟨m, hm⟩ : ∃ m : Nat, m = sets.length := ⟨_, rfl⟩
      have hj' : j < m := by omega
      rw [← hm] at h3 h4 ⊢
      have hres : (((f : Int) + a - f + m - 1 - j) / m) = (((a + m - 1 - j) / m : Nat) : Int) := by
        have : ((a + m - 1 - j : Nat) : Int) = (f : Int) + a - f + m - 1 - j := by omega
        rw [Int.natCast_ediv, this]
      have HRES := Lib.hid hres
      have hlim : a ≤ 4611686018427387904 := by omega
      clear hres hp1 hp2 hj
      go_enter Try.func65, Try.ntmps65
      go_wp2_with fail
      rw [hm]
      refine HR.out.mono ?_; rintro e w1 ⟨rfl, hb1⟩
      rw [← hm]
      have hbk := HK.out.below hb1 HK.out.lt
      have d0 : w1.cell? ⟨w.heap.size, 0, none⟩ = some (.int .u64 (f : Int)) := hbk.cell 0
      have d1 : w1.cell? ⟨w.heap.size, 1, none⟩ = some (.int .u64 ((f + a : Nat) : Int)) := hbk.cell 1
      have d2 : w1.cell? ⟨w.heap.size, 2, none⟩ = some (.slice A m c) := by rw [hm]; exact hbk.cell 2
      have HB1 := Lib.hid hb1
      have HM := Lib.hid hm
      clear hbk hm hb1
      go_wp2_with fail
      go_ret
      exact ⟨by rw [← HRES.out]; rfl, HB0.out.trans (HB1.out.mono HB0.out.size)⟩
    · rw [share_out (fun h => hin h.2)]
      have hc : set < 0 ∨ (0 ≤ set ∧ (sets.length : Int) ≤ set) := by omega
      clear hin
      rcases hc with hc | ⟨hc, hc2⟩
      all_goals
        go_enter Try.func65, Try.ntmps65
        go_wp2_with fail
        refine HR.out.mono ?_; rintro e w1 ⟨rfl, hb1⟩
        have hbk := HK.out.below hb1 HK.out.lt
        have d2 : w1.cell? ⟨w.heap.size, 2, none⟩ = some (.slice A sets.length c) := hbk.cell 2
        have HB1 := Lib.hid hb1
        clear hbk hb1
        go_wp2_with fail
        go_ret
        exact ⟨rfl, HB0.out.trans (HB1.out.mono HB0.out.size)⟩
set_option maxRecDepth 100000 in
theorem back_any (set : Int) (loc : Nat) (hs : (rpSlice rpU64).sl w D A n c sets) (hD : ∀ k, D k → k < w.heap.size) (hf : f ≤ 18446744073709551615) (ht : t ≤ 18446744073709551615) (hl : loc ≤ 18446744073709551615) :
    Calls Try.prog 64 #[.agg (stpV f t A n c), .int .i64 set, .int .u64 (loc : Int)] w fun e w' => e = .returned (.tuple #[.int .u64 ((back (f, t, sets) set loc).1 : Int), .bool (back (f, t, sets) set loc).2]) ∧ Below w.heap.size w w' := by
  obtain ⟨hlen, hnc, hcm⟩ := Rp.sl_len hs
  unfold maxLen at hcm
  subst hlen
  have hb0 : Below w.heap.size w (w.alloc (.cells (stpV f t A sets.length c) 31)) := (Below.refl _ _).alloc (Nat.le_refl _) _
  have hr := share_any set (Rp.sl_below hs hb0 hD) (fun k hk => Nat.lt_of_lt_of_le (hD k hk) hb0.size) hf ht
  have HB0 := Lib.hid hb0
  have HK := Lib.hid (Blk.new w 31 (stpV f t A sets.length c))
  have HR := Lib.hid hr
  clear hs hD hb0 hr
  by_cases hlt : loc < share (f, t, sets) set
  · obtain ⟨j, rfl, hj, hbk, hin, _⟩ := back_dealt hlt
    rw [hbk]
    obtain ⟨hok, _, _⟩ := share_pos hlt
    have h2 : t ≤ 4611686018427387904 := hok.2.1
    have h4 : sets.length ≤ 8 := hok.2.2.2.1
    dsimp only at hj hin ⊢
    obtain ⟨q, hq⟩ : ∃ q : Nat, q = loc * sets.length := ⟨_, rfl⟩
    rw [← hq] at hin ⊢
    have hqI : (loc : Int) * (sets.length : Int) = (q : Int) := by rw [hq]; simp
    obtain ⟨sh, hsh⟩ : ∃ sh : Nat, sh = share (f, t, sets) j := ⟨_, rfl⟩
    have hr2 := HR.out
    rw [← hsh] at hr2 hlt
    have HR2 := Lib.hid hr2
    have hd : decide (sh ≤ loc) = false := by simp; omega
    clear hbk hok hsh hr2 hq
    go_enter Try.func64, Try.ntmps64
    go_wp2_with fail
    refine HR2.out.mono ?_; rintro e w1 ⟨rfl, hb1⟩
    have hbk := HK.out.below hb1 HK.out.lt
    have d0 : w1.cell? ⟨w.heap.size, 0, none⟩ = some (.int .u64 (f : Int)) := hbk.cell 0
    have d2 : w1.cell? ⟨w.heap.size, 2, none⟩ = some (.slice A sets.length c) := hbk.cell 2
    have HB1 := Lib.hid hb1
    clear hbk hb1
    go_wp2_with fail
    go_ret2
    exact ⟨by simp, HB0.out.trans (HB1.out.mono HB0.out.size)⟩
  · rw [back_out (by omega)]
    obtain ⟨sh, hsh⟩ : ∃ sh : Nat, sh = share (f, t, sets) set := ⟨_, rfl⟩
    have hr2 := HR.out
    rw [← hsh] at hr2 hlt
    have HR2 := Lib.hid hr2
    have hd : decide (sh ≤ loc) = true := by simp; omega
    clear hsh hr2
    go_enter Try.func64, Try.ntmps64
    go_wp2_with fail
    refine HR2.out.mono ?_; rintro e w1 ⟨rfl, hb1⟩
    have HB1 := Lib.hid hb1
    clear hb1
    go_wp2_with fail
    go_ret2
    exact ⟨rfl, HB0.out.trans (HB1.out.mono HB0.out.size)⟩
def SomeBool (R : Bool → World → Prop) (e : Ending) (w' : World) : Prop := ∃ b : Bool, e = .returned (.bool b) ∧ R b w'
theorem long_any (hs : (rpSlice rpU64).sl w D A n c sets) (hD : ∀ k, D k → k < w.heap.size) :
    Calls Try.prog 17 #[.agg (stpV f t A n c)] w (SomeBool fun b w' => (b = false → sets.length ≤ 20 ∧ ∀ (i : Nat) l, sets[i]? = some l → l.length ≤ 20) ∧ Below w.heap.size w w') := by
  obtain ⟨hlen, hnc, hcm⟩ := Rp.sl_len hs
  unfold maxLen at hcm
  subst hlen
  have hb0 : Below w.heap.size w (w.alloc (.cells (stpV f t A sets.length c) 31)) := (Below.refl _ _).alloc (Nat.le_refl _) _
  have HS := Lib.hid (Rp.sl_below hs hb0 hD)
  have HB0 := Lib.hid hb0
  have HK := Lib.hid (Blk.new w 31 (stpV f t A sets.length c))
  clear hs hD hb0
  go_enter Try.func17, Try.ntmps17
  go_wp2_with fail
  generalize World.alloc w _ = w0 at *
  have hbk := (show Blk _ _ _ _ from HK.out)
  have d2 : w0.cell? ⟨w.heap.size, 2, none⟩ = some (.slice A sets.length c) := hbk.cell 2
  clear hbk
  go_loop [3] (fun i => ∃ k : Nat, k ≤ sets.length ∧ k ≤ 20 ∧ i = .int .i64 k ∧ Hid (∀ (i : Nat) l, i < k → sets[i]? = some l → l.length ≤ 20)) (fun i => sets.length - (intOf i).toNat)
  case atStart => exact ⟨0, by omega, by omega, rfl, fun j x h => by omega⟩
  case round =>
    obtain ⟨k, hk, hk20, rfl, hsh⟩ := hrel
    by_cases hin : k < sets.length ∧ k < 20
    · obtain ⟨h1, h2⟩ := hin
      obtain ⟨b, off, s, A2, c2, rfl, hb, hs, hcell, hrow⟩ := rows_at HS.out h1
      obtain ⟨_, hs1, hs2⟩ := Rp.sl_len hrow
      unfold maxLen at hs2
      have HSS := Lib.hid hs
      clear hrow hs
      by_cases hl : 20 < s.length
      · go_wp2_with fail
        go_ret
        exact ⟨true, rfl, by simp, HB0.out⟩
      · go_wp2_with fail
        go_round
        case rel =>
          refine ⟨k + 1, by omega, by omega, by go_num, fun j y hj hy => ?_⟩
          rcases Nat.lt_or_ge j k with h | h
          · exact hsh.out j y h hy
          · obtain rfl : j = k := by omega
            rw [HSS.out] at hy
            injection hy with hy
            subst hy
            omega
        case measure => simp [intOf]; omega
    · by_cases hmany : 20 < sets.length
      · obtain rfl : k = 20 := by omega
        clear hin
        go_wp2_with fail
        go_ret
        exact ⟨true, rfl, by simp, HB0.out⟩
      · obtain rfl : k = sets.length := by omega
        clear hin
        go_wp2_with fail
        go_ret
        have hall : ∀ (i : Nat) l, sets[i]? = some l → l.length ≤ 20 := fun i l hl => hsh.out i l (List.getElem?_eq_some_iff.1 hl).1 hl
        exact ⟨false, by simp; omega, by first | exact fun _ => ⟨by omega, hall⟩ | exact fun _ => hall, HB0.out⟩
end
end Go.Proofs.Ytmdgmnaaopineaa
/- The example of chapter 19's laws. -/
namespace Go.Proofs.Ytmdgmnaaopineaa
open Go.ChangeShapes Go.WideShapes Go.ChangeAt Go.RowKit
set_option linter.unusedVariables false
theorem Rp.sl_block {α : Type} {r : Rp α} (hsz : r.size = 1) {w : World} {g : Nat} {t : TypeId} {cs : Array Value} (hb : Blk w g t cs) {D : Dom} (hg : D g) {l : List α} {n : Nat} (hn : l.length = n) (hm : n ≤ maxLen)
    (hrow : ∀ (i : Nat) x, l[i]? = some x → ∃ v, cs[i]? = some v ∧ r.ok w D x [v]) : r.sl w D (some ⟨g, 0, none⟩) n n l := by
  subst hn
  refine ⟨_, _, rfl, Nat.le_refl _, hm, fun _ => ⟨g, 0, rfl, hg, fun i x hx => ?_⟩⟩
  obtain ⟨v, hv, hok⟩ := hrow i x hx
  refine ⟨[v], hok, fun j u hu => ?_⟩
  have hj : j = 0 := by
    rcases Nat.eq_zero_or_pos j with h0 | h0
    · exact h0
    · rw [List.getElem?_eq_none (by simp; omega)] at hu; cases hu
  subst hj
  simp only [List.getElem?_cons_zero, Option.some.injEq] at hu
  subst hu
  rw [hsz]
  have := hb.cell (0 + i * 1 + 0)
  rw [this]
  simpa using hv
theorem sOk_ten : SOk (10, 17, [[1, 2], [5]]) := by
  refine ⟨by decide, by decide, by decide, by decide, fun i l hl => ?_⟩
  match i, hl with
  | 0, hl =>
    cases hl
    refine ⟨by decide, by decide, fun i a b ha hb => ?_, fun a ha => by cases ha; decide, fun j o hj => by omega⟩
    match i, ha, hb with
    | 0, ha, hb => cases ha; cases hb; decide
    | i + 1, ha, hb => simp at hb
  | 1, hl =>
    cases hl
    refine ⟨by decide, by decide, fun i a b ha hb => by simp at hb, fun a ha => by cases ha; decide, fun j o hj ho x hx => ?_⟩
    obtain rfl : j = 0 := by omega
    cases ho
    simp at hx ⊢
    omega
  | i + 2, hl => simp at hl
theorem Blk.newAt {w : World} {g : Nat} (h : w.heap.size = g) (t : TypeId) (cs : Array Value) : Blk (w.alloc (.cells cs t)) g t cs := h ▸ Blk.new w t cs
theorem size_alloc (w : World) (o : Obj) : (w.alloc o).heap.size = w.heap.size + 1 := by simp
theorem four_blks (w : World) (c1 c2 c3 c4 : Array Value) (t1 t2 t3 t4 : TypeId) :
    Blk ((((w.alloc (.cells c1 t1)).alloc (.cells c2 t2)).alloc (.cells c3 t3)).alloc (.cells c4 t4)) w.heap.size t1 c1 ∧ Blk ((((w.alloc (.cells c1 t1)).alloc (.cells c2 t2)).alloc (.cells c3 t3)).alloc (.cells c4 t4)) (w.heap.size + 1) t2 c2 ∧
    Blk ((((w.alloc (.cells c1 t1)).alloc (.cells c2 t2)).alloc (.cells c3 t3)).alloc (.cells c4 t4)) (w.heap.size + 1 + 1) t3 c3 ∧ Blk ((((w.alloc (.cells c1 t1)).alloc (.cells c2 t2)).alloc (.cells c3 t3)).alloc (.cells c4 t4)) (w.heap.size + 1 + 1 + 1) t4 c4 ∧
    Below w.heap.size w ((((w.alloc (.cells c1 t1)).alloc (.cells c2 t2)).alloc (.cells c3 t3)).alloc (.cells c4 t4)) ∧ ((((w.alloc (.cells c1 t1)).alloc (.cells c2 t2)).alloc (.cells c3 t3)).alloc (.cells c4 t4)).heap.size = w.heap.size + 4 := by
  refine ⟨(((Blk.newAt rfl t1 c1).alloc _).alloc _).alloc _, ((Blk.newAt (size_alloc _ _) t2 c2).alloc _).alloc _, (Blk.newAt (by rw [size_alloc, size_alloc]) t3 c3).alloc _, Blk.newAt (by rw [size_alloc, size_alloc, size_alloc]) t4 c4, ?_, by rw [size_alloc, size_alloc, size_alloc, size_alloc]⟩
  exact ((((Below.refl _ w).alloc (Nat.le_refl _) _).alloc (by simp) _).alloc (by simp; omega) _).alloc (by simp; omega) _
theorem u64_ok (w : World) (D : Dom) (x : Nat) (h : x < 18446744073709551616) : rpU64.ok w D x [.int .u64 (x : Int)] := ⟨rfl, h⟩
theorem slive_any (w : World) : Calls Try.prog 39 #[] w fun e w' => e = .returned (.bool true) ∧ Below w.heap.size w w' := by
  have hok := sOk_ten
  have e1 : dealt (10, 17, [[1, 2], [5]]) 12 = (0, 1, true) := dealt_in hok (by decide) (by decide)
  have e2 : share (10, 17, [[1, 2], [5]]) 0 = 4 := share_in (set := 0) hok (by decide)
  have e3 : share (10, 17, [[1, 2], [5]]) 1 = 3 := share_in (set := 1) hok (by decide)
  have E1 := Lib.hid e1
  have E2 := Lib.hid e2
  have E3 := Lib.hid e3
  clear hok e1 e2 e3
  obtain ⟨k1, k2, k3, k4, hb, hz⟩ := four_blks w #[.int .u64 1, .int .u64 2] #[.int .u64 5] #[.slice (some ⟨w.heap.size, 0, none⟩) 2 2, .slice (some ⟨w.heap.size + 1, 0, none⟩) 1 1] #[.int .u64 10, .int .u64 17, .slice (some ⟨w.heap.size + 1 + 1, 0, none⟩) 2 2] 22 22 46 31
  have K1 := Lib.hid k1
  have K2 := Lib.hid k2
  have K3 := Lib.hid k3
  have K4 := Lib.hid k4
  have HB := Lib.hid hb
  have HZ := Lib.hid hz
  clear k1 k2 k3 k4 hb hz
  go_enter Try.func39, Try.ntmps39
  go_wp2_with fail
  generalize World.alloc (World.alloc (World.alloc (World.alloc w _) _) _) _ = w0 at *
  have hs : (rpSlice rpU64).sl w0 (fun k => w.heap.size ≤ k ∧ k < w0.heap.size) (some ⟨w.heap.size + 1 + 1, 0, none⟩) 2 2 [[1, 2], [5]] := by
    have hz := HZ.out
    refine Rp.sl_block rfl (show Blk _ _ _ _ from K3.out) ⟨by omega, by omega⟩ rfl (by decide) (fun i x hx => ?_)
    match i, hx with
    | 0, hx =>
      cases hx
      refine ⟨_, rfl, Rp.sl_block (r := rpU64) rfl (show Blk _ _ _ _ from K1.out) ⟨by omega, by omega⟩ rfl (by decide) (fun i x hx => ?_)⟩
      match i, hx with
      | 0, hx | 1, hx => cases hx; exact ⟨_, rfl, u64_ok _ _ _ (by decide)⟩
    | 1, hx =>
      cases hx
      refine ⟨_, rfl, Rp.sl_block (r := rpU64) rfl (show Blk _ _ _ _ from K2.out) ⟨by omega, by omega⟩ rfl (by decide) (fun i x hx => ?_)⟩
      match i, hx with
      | 0, hx => cases hx; exact ⟨_, rfl, u64_ok _ _ _ (by decide)⟩
  have HS := Lib.hid hs
  have hk4 := (show Blk _ _ _ _ from K4.out)
  have hd := dealt_any (f := 10) (t := 17) 12 hs (fun k hk => hk.2) (by decide) (by decide) (by decide)
  rw [E1.out] at hd
  have HDL := Lib.hid hd
  have hkl := hk4.lt
  have hz0 := HB.out.size
  clear hs hd hk4
  refine HDL.out.mono ?_; rintro e w1 ⟨rfl, hb1⟩
  have hk4 := Blk.below (show Blk _ _ _ _ from K4.out) hb1 hkl
  have d0 := hk4.cell 0
  have d1 := hk4.cell 1
  have d2 := hk4.cell 2
  have HB1 := Lib.hid hb1
  clear hb1 hk4
  go_wp2_with fail
  have hs1 := share_any (f := 10) (t := 17) 0 (Rp.sl_below HS.out HB1.out (fun k hk => hk.2)) (fun k hk => Nat.lt_of_lt_of_le hk.2 HB1.out.size) (by decide) (by decide)
  rw [E2.out] at hs1
  refine hs1.mono ?_; rintro e w2 ⟨rfl, hb2⟩
  have hb02 := HB1.out.trans (hb2.mono HB1.out.size)
  have hk4 := Blk.below (show Blk _ _ _ _ from K4.out) hb02 hkl
  have d0 := hk4.cell 0
  have d1 := hk4.cell 1
  have d2 := hk4.cell 2
  have HB2 := Lib.hid hb02
  clear hb2 hk4 hs1 hb02
  go_wp2_with fail
  have hs2 := share_any (f := 10) (t := 17) 1 (Rp.sl_below HS.out HB2.out (fun k hk => hk.2)) (fun k hk => Nat.lt_of_lt_of_le hk.2 HB2.out.size) (by decide) (by decide)
  rw [E3.out] at hs2
  refine hs2.mono ?_; rintro e w3 ⟨rfl, hb3⟩
  have hb03 := HB2.out.trans (hb3.mono HB2.out.size)
  clear hs2
  go_wp2_with fail
  go_ret
  exact ⟨rfl, HB.out.trans (hb03.mono hz0)⟩
end Go.Proofs.Ytmdgmnaaopineaa
