/- Whether lists fall; whether links are well-formed: the program's walks. -/
import Derived.Test.YtnihaaifkogpbaaLkR
import Derived.Test.YtnihaaifkogpbaaStpM
import Derived.Test.YtnihaaifkogpbaaU64
import Derived.BigQuiet
import Derived.Deep.DeepCutAuto
import Derived.Deep.CutBlock
namespace Go.Proofs.Ytnihaaifkogpbaa
open Go.ChangeShapes Go.WideShapes Go.ChangeAt Go.RowKit
set_option linter.unusedVariables false
section
variable {D : Dom} {A : Option Addr} {n c below : Nat} {l : List Nat} {w : World}
set_option maxRecDepth 100000 in
set_option maxHeartbeats 2000000 in
theorem dsteps_any (hs : rpU64.sl w D A n c l) (hD : ∀ k, D k → k < w.heap.size) (hb : below ≤ 18446744073709551615) (hn : n ≤ 1000) :
    Calls Try.prog 78 #[.int .u64 (below : Int), .slice A n c] w fun e w' => ∃ A2 n2 c2, e = .returned (.tuple #[.slice A2 n2 c2, .bool (dec (Fall below l))]) ∧ Below w.heap.size w w' := by
  have HN := Lib.hid (Rp.sl_len hs).1
  have HS := Lib.hid (show Sl rpU64 w D A n c l from ⟨hs, hD⟩)
  clear hs hD
  go_enter Try.func78, Try.ntmps78
  go_wp2_with fail
  go_loopw [0, 6, 11] (fun v0 v6 v11 wr => ∃ (k p : Nat) (As : Option Addr) (cs : Nat) (xs : List Value), k ≤ n ∧ p ≤ 18446744073709551615 ∧ v0 = .int .u64 (p : Int) ∧ v6 = .slice As k cs ∧ v11 = .int .i64 (k : Int) ∧ Hid (p = prevOf below l k) ∧ Hid (FallTo below l k) ∧ Hid (wr.ownsRow w.heap.size 29 1 (.slice As k cs) k xs) ∧ Hid (Below w.heap.size w wr)) (fun _ _ v11 _ => n - (intOf v11).toNat)
  case atStart => exact ⟨0, below, none, 0, [], by omega, hb, rfl, rfl, rfl, rfl, fallTo_zero _ _, World.ownsRow_nil _ _ _ _, Below.refl _ _⟩
  case round =>
    obtain ⟨k, p, As, cs, xs, hk, hp, rfl, rfl, rfl, hpe, hfa, hown, hbel⟩ := hrel
    have hzr := hbel.out.size
    by_cases hkn : k < n
    case neg =>
      obtain rfl : k = n := by omega
      have hd : decide ((k : Int) < (k : Int)) = false := by simp
      have HF : Hid (Fall below l) := by
        have h1 := HN.out
        have h := hfa.out
        rw [← h1] at h
        exact h
      go_wp2_with fail
      go_ret2
      exact ⟨As, k, cs, by rw [dec_true HF.out]; rfl, hbel.out⟩
    case pos =>
      have hd : decide ((k : Int) < (n : Int)) = true := by simp; omega
      have hkI : (0 : Int) ≤ (k : Int) := by omega
      have hkI2 : (k : Int) < (n : Int) := by omega
      obtain ⟨b, off, x, rfl, hbD, hx, gx, hx64⟩ := u64_at (keepS HS.out hbel.out).1 hkn
      have HX := Lib.hid hx
      clear hx hbD
      by_cases hlt : x < p
      case neg =>
        have hd2 : decide (p ≤ x) = true := by simp; omega
        have HF : Hid (¬ Fall below l) := fun h => by
          have h1 := h k x (List.getElem?_eq_some_iff.1 HX.out).1 HX.out
          have h2 := hpe.out
          omega
        clear hlt
        go_wp2_with fail
        go_ret2
        exact ⟨none, 0, 0, by rw [dec_false HF.out]; rfl, hbel.out⟩
      case pos =>
        have hd2 : decide (p ≤ x) = false := by simp; omega
        obtain ⟨d0, hd0⟩ : ∃ d0 : Nat, d0 = p - x := ⟨_, rfl⟩
        obtain ⟨d, hdd⟩ : ∃ d : Nat, d = d0 - 1 := ⟨_, rfl⟩
        have s1 : IntKind.u64.wrap ((p : Int) - (x : Int)) = (d0 : Int) := by rw [IntWalk.u64_in _ (by omega)]; omega
        have s2 : IntKind.u64.wrap ((d0 : Int) - 1) = (d : Int) := by rw [IntWalk.u64_in _ (by omega)]; omega
        have HF := Lib.hid ((fallTo_succ HX.out).2 ⟨hfa.out, by rw [← hpe.out]; exact hlt⟩)
        have HP : Hid (x = prevOf below l (k + 1)) := (prevOf_succ HX.out).symm
        have hm : k + 1 ≤ maxLen := by unfold maxLen; omega
        have hla := hown.out.alloc (.cells #[.int .u64 (d : Int)] 29)
        have HLA := Lib.hid hla
        have HBA := Lib.hid (stepB hbel.out (below1 wr (.cells #[.int .u64 (d : Int)] 29)))
        clear hlt hd0 hdd hla
        go_wp2_with (at_builtin; refine wpList_app rfl (.tmp 18) (.tmp 23) _ rfl elem64 rfl HLA.out rfl (Src.new wr (.int .u64 (d : Int)) _ rfl) hm (by omega) (by simp; omega) ?_; intro A2 c2 w3 ho2 hg2 hat2
                     have HO2 := Lib.hid ho2
                     have HB3 := Lib.hid (HBA.out.grown hg2 HBA.out.size (fun q hq => (HLA.out.lt q hq).1))
                     clear ho2 hg2 hat2)
        go_roundw
        case rel => exact ⟨k + 1, x, A2, c2, _, by omega, hx64, rfl, rfl, by go_num, HP, HF, HO2, HB3⟩
        case measure => clear s1 s2; simp [intOf]; omega
theorem dfalls_any (hs : rpU64.sl w D A n c l) (hD : ∀ k, D k → k < w.heap.size) (hb : below ≤ 18446744073709551615) (hn : n ≤ 1000) :
    Calls Try.prog 68 #[.int .u64 (below : Int), .slice A n c] w fun e w' => e = .returned (.bool (dec (Fall below l))) ∧ Below w.heap.size w w' := by
  have HS := Lib.hid (dsteps_any hs hD hb hn)
  clear hs hD
  go_enter Try.func68, Try.ntmps68
  go_wp2_with fail
  refine HS.out.mono ?_; rintro e w1 ⟨A2, n2, c2, rfl, hb1⟩
  have HB := Lib.hid hb1
  clear hb1
  go_wp2_with fail
  go_ret
  exact ⟨rfl, HB.out⟩
/-- The literal of link.Right: is a link not good? -/
theorem lwrong_any {g pos s : Nat} (hs : rpU64.sl w D A n c l) (hD : ∀ k, D k → k < w.heap.size) (hp : pos ≤ 18446744073709551615) (hg : w.cell? ⟨g, 0, none⟩ = some (.int .u64 (pos : Int))) (hgl : g < w.heap.size) :
    Calls Try.prog 67 #[.agg #[.int .u64 (s : Int), .slice A n c], .pointer (some ⟨g, 0, none⟩)] w fun e w' => e = .returned (.bool (dec (¬ LnkGood pos (s, l)))) ∧ Below w.heap.size w w' := by
  have hb0 := below1 w (.cells #[.int .u64 (s : Int), .slice A n c] 44)
  have HN := Lib.hid (Rp.sl_len hs).1
  have HS := Lib.hid (keepS (show Sl rpU64 w D A n c l from ⟨hs, hD⟩) hb0)
  have g0 := (hb0.cell (p := ⟨g, 0, none⟩) hgl).trans hg
  have HB := Lib.hid hb0
  have HK := Lib.hid (blk11 w 44 #[.int .u64 (s : Int), .slice A n c])
  clear hs hD hb0 hg
  by_cases hn : n ≤ 4
  case neg =>
    have hd : decide ((4 : Int) < (n : Int)) = true := by simp; omega
    have HG : Hid (¬ LnkGood pos (s, l)) := fun h => by have h1 := h.1; have h2 := HN.out; simp only at h1; omega
    clear hn
    go_enter Try.func67, Try.ntmps67
    go_upto_region 1 with (fail)
    generalize World.alloc w _ = w0 at *
    have k1 : w0.cell? ⟨w.heap.size, 1, none⟩ = some (.slice A n c) := (show Blk w0 w.heap.size 44 _ from HK.out).cell 1
    go_wp2_with fail
    go_ret
    exact ⟨by rw [dec_true HG.out]; rfl, HB.out⟩
  case pos =>
    have hd : decide ((4 : Int) < (n : Int)) = false := by simp; omega
    have HF := Lib.hid (dfalls_any (below := pos) HS.out.1 HS.out.2 hp (by omega))
    go_enter Try.func67, Try.ntmps67
    go_upto_region 1 with (fail)
    generalize World.alloc w _ = w0 at *
    have k1 : w0.cell? ⟨w.heap.size, 1, none⟩ = some (.slice A n c) := (show Blk w0 w.heap.size 44 _ from HK.out).cell 1
    by_cases hf : Fall pos l
    · have hff := HF.out
      rw [dec_true hf] at hff
      have HFF := Lib.hid hff
      have HG : Hid (LnkGood pos (s, l)) := ⟨by have h2 := HN.out; show l.length ≤ 4; omega, hf⟩
      clear hff hf
      go_wp2_with fail
      refine HFF.out.mono ?_; rintro e w1 ⟨rfl, hb1⟩
      have HB1 := Lib.hid (stepB HB.out hb1)
      clear hb1 k1 g0
      go_wp2_with fail
      go_ret
      exact ⟨by rw [dec_false (fun h => h HG.out)]; rfl, HB1.out⟩
    · have hff := HF.out
      rw [dec_false hf] at hff
      have HFF := Lib.hid hff
      have HG : Hid (¬ LnkGood pos (s, l)) := fun h => hf h.2
      clear hff hf
      go_wp2_with fail
      refine HFF.out.mono ?_; rintro e w1 ⟨rfl, hb1⟩
      have HB1 := Lib.hid (stepB HB.out hb1)
      clear hb1 k1 g0
      go_wp2_with fail
      go_ret
      exact ⟨by rw [dec_true HG.out]; rfl, HB1.out⟩
theorem lstream_any {s : Nat} : Calls Try.prog 66 #[.agg #[.int .u64 (s : Int), .slice A n c]] w fun e w' => e = .returned (.int .u64 (s : Int)) ∧ Below w.heap.size w w' := by
  have HB := Lib.hid (below1 w (.cells #[.int .u64 (s : Int), .slice A n c] 44))
  have HK := Lib.hid (blk11 w 44 #[.int .u64 (s : Int), .slice A n c])
  go_enter Try.func66, Try.ntmps66
  go_upto_region 1 with (fail)
  generalize World.alloc w _ = w0 at *
  have k0 : w0.cell? ⟨w.heap.size, 0, none⟩ = some (.int .u64 (s : Int)) := (show Blk w0 w.heap.size 44 _ from HK.out).cell 0
  go_wp2_with fail
  go_ret
  exact ⟨rfl, HB.out⟩
end
section
variable {D : Dom} {A : Option Addr} {n c pos g : Nat} {l : List Lnk} {w : World}
set_option maxRecDepth 100000 in
set_option maxHeartbeats 2000000 in
theorem lplace_any (hs : rpLnk.sl w D A n c l) (hD : ∀ k, D k → k < w.heap.size) (hn : n ≤ 1000) (hp : pos ≤ 18446744073709551615) (hg : w.cell? ⟨g, 0, none⟩ = some (.int .u64 (pos : Int))) (hgl : g < w.heap.size) :
    Calls Try.prog 69 #[.slice A n c, .func (Fn.func 67) #[] #[.pointer (some ⟨g, 0, none⟩)]] w fun e w' => ∃ r : Nat, e = .returned (.int .i64 (r : Int)) ∧ r ≤ n ∧ AllTo (LnkGood pos) l r ∧ (r < n → ∃ x, l[r]? = some x ∧ ¬ LnkGood pos x) ∧ Below w.heap.size w w' := by
  have HS := Lib.hid (show Sl rpLnk w D A n c l from ⟨hs, hD⟩)
  have HG := Lib.hid hg
  clear hs hg hD
  go_enter Try.func69, Try.ntmps69
  go_wp2_with fail
  go_loopw [9] (fun vi wr => ∃ k : Nat, k ≤ n ∧ vi = .int .i64 k ∧ Hid (AllTo (LnkGood pos) l k) ∧ Hid (Below w.heap.size w wr)) (fun vi _ => n - (intOf vi).toNat)
  case atStart => exact ⟨0, Nat.zero_le _, rfl, allTo_zero _ _, Below.refl _ _⟩
  case round =>
    obtain ⟨k, hkn', rfl, hat, hbel⟩ := hrel
    have hzr := hbel.out.size
    by_cases hkn : k < n
    case neg =>
      have hd : decide (k < n) = false := by simpa using hkn
      obtain rfl : k = n := by omega
      go_wp2_with fail
      go_ret
      exact ⟨k, rfl, Nat.le_refl _, hat.out, fun h => absurd h (Nat.lt_irrefl _), hbel.out⟩
    case pos =>
      have hd : decide (k < n) = true := by simpa using hkn
      have hkI : (0 : Int) ≤ (k : Int) := by omega
      have hkI2 : (k : Int) < (n : Int) := by omega
      have hsr := keepS HS.out hbel.out
      obtain ⟨bo, off, x, A3, c3, rfl, hbD, hx, g0, g1, hrow, hx64⟩ := lnk_at hsr.1 hkn
      obtain ⟨xs, xl⟩ := x
      simp only at g0 g1 hrow hx64
      have HX := Lib.hid hx
      obtain ⟨xn, hxn⟩ : ∃ xn, xn = xl.length := ⟨_, rfl⟩
      rw [← hxn] at g1 hrow
      have hba := below1 wr (.cells #[.int .u64 (xs : Int), .slice A3 xn c3] 44)
      have HBA := Lib.hid hba
      have HK := Lib.hid (blk11 wr 44 #[.int .u64 (xs : Int), .slice A3 xn c3])
      have HW := Lib.hid (lwrong_any (s := xs) (g := g) (Rp.sl_below hrow hba hsr.2) (fun k hk => Nat.lt_of_lt_of_le (hsr.2 k hk) hba.size) hp ((hba.cell (p := ⟨g, 0, none⟩) (by dsimp only; omega)).trans ((hbel.out.cell (p := ⟨g, 0, none⟩) hgl).trans HG.out)) (by have := hba.size; omega))
      clear hrow hx hbD hsr hba hxn
      go_upto_region 4 with (fail)
      generalize World.alloc wr _ = w4 at *
      have v0 : w4.cell? ⟨wr.heap.size, 0, none⟩ = some (.int .u64 (xs : Int)) := (show Blk w4 wr.heap.size 44 _ from HK.out).cell 0
      have v1 : w4.cell? ⟨wr.heap.size, 1, none⟩ = some (.slice A3 xn c3) := (show Blk w4 wr.heap.size 44 _ from HK.out).cell 1
      clear g0 g1
      go_wp2_with fail
      refine HW.out.mono ?_; rintro e w5 ⟨rfl, hb5⟩
      have HB5 := Lib.hid (stepB hbel.out (stepB HBA.out hb5))
      clear v0 v1 hb5
      by_cases hgd : LnkGood pos (xs, xl)
      · rw [dec_false (fun h => h hgd)]
        have HA := Lib.hid ((allTo_succ HX.out).2 ⟨hat.out, hgd⟩)
        clear hgd
        go_wp2_with fail
        go_roundw
        case rel => exact ⟨k + 1, hkn, by go_num, HA, HB5⟩
        case measure => simp [intOf]; omega
      · rw [dec_true hgd]
        have HNG := Lib.hid hgd
        clear hgd
        go_wp2_with fail
        go_ret
        exact ⟨k, rfl, hkn', hat.out, fun _ => ⟨_, HX.out, HNG.out⟩, HB5.out⟩
set_option maxRecDepth 100000 in
set_option maxHeartbeats 2000000 in
theorem lrises_any (hs : rpLnk.sl w D A n c l) (hD : ∀ k, D k → k < w.heap.size) (hn : n ≤ 1000) :
    Calls Try.prog 65 #[.slice A n c, .func (Fn.func 66) #[] #[]] w fun e w' => e = .returned (.bool (dec (UpTo l l.length))) ∧ Below w.heap.size w w' := by
  have HN := Lib.hid (Rp.sl_len hs).1
  have HS := Lib.hid (show Sl rpLnk w D A n c l from ⟨hs, hD⟩)
  clear hs hD
  go_enter Try.func65, Try.ntmps65
  go_wp2_with fail
  go_loopw [8] (fun vi wr => ∃ k : Nat, k ≤ n ∧ vi = .int .i64 k ∧ Hid (UpTo l k) ∧ Hid (Below w.heap.size w wr)) (fun vi _ => n - (intOf vi).toNat)
  case atStart => exact ⟨0, Nat.zero_le _, rfl, upTo_one _ (by decide), Below.refl _ _⟩
  case round =>
    obtain ⟨k, hkn', rfl, hup, hbel⟩ := hrel
    have hzr := hbel.out.size
    by_cases hkn : k < n
    case neg =>
      have hd : decide (k < n) = false := by simpa using hkn
      obtain rfl : k = n := by omega
      have HU : Hid (UpTo l l.length) := by show UpTo _ _; rw [HN.out]; exact hup.out
      go_wp2_with fail
      go_ret
      exact ⟨by rw [dec_true HU.out]; rfl, hbel.out⟩
    case pos =>
      have hd : decide (k < n) = true := by simpa using hkn
      have hkI : (0 : Int) ≤ (k : Int) := by omega
      have hkI2 : (k : Int) < (n : Int) := by omega
      have hsr := keepS HS.out hbel.out
      rcases Nat.eq_zero_or_pos k with hk0 | hk0
      · subst hk0
        have HU : Hid (UpTo l 1) := upTo_one _ (by decide)
        have h00 : decide ((0 : Int) < ((0 : Nat) : Int)) = false := by simp
        clear hsr
        go_upto_region 4 with (fail)
        refine wp_region_grow (by kernel_rfl) (by kernel_rfl) wr.heap.size ?_
        repeat (first | go_big_quiet_step (fail) | quiet_step (fail))
        refine wpQuiet_nil ?_
        rintro w5 ⟨⟨_, hb5⟩, rfl⟩
        have HB5 := Lib.hid (stepB hbel.out hb5)
        clear hb5
        go_wp2_with fail
        go_roundw
        case rel => exact ⟨1, hkn, by go_num, HU, HB5⟩
        case measure => simp [intOf]; omega
      · obtain ⟨j, hj⟩ : ∃ j, k = j + 1 := ⟨k - 1, by omega⟩
        obtain ⟨bo, off, x, A3, c3, rfl, hbD, hx, g0, g1, hrow, hx64⟩ := lnk_at hsr.1 hkn
        obtain ⟨bo2, off2, y, A4, c4, hA2, hbD2, hy, q0, q1, hrow2, hy64⟩ := lnk_at hsr.1 (show j < n by omega)
        injection hA2 with hA2
        injection hA2 with e1 e2
        subst e1; subst e2
        have hbl := hsr.2 bo hbD
        obtain ⟨xs, xl⟩ := x
        obtain ⟨ys, yl⟩ := y
        simp only at g0 g1 q0 q1
        obtain ⟨xn, hxn⟩ : ∃ xn, xn = xl.length := ⟨_, rfl⟩
        obtain ⟨yn, hyn⟩ : ∃ yn, yn = yl.length := ⟨_, rfl⟩
        rw [← hxn] at g1
        rw [← hyn] at q1
        have hjI : (0 : Int) ≤ (j : Int) := by omega
        have hjI2 : (j : Int) < (n : Int) := by omega
        have hsub : IntKind.i64.wrap ((k : Int) - 1) = (j : Int) := by rw [IntWalk.i64_in _ (by omega)]; omega
        have hkpos : decide ((0 : Int) < (k : Int)) = true := by simp; omega
        have HST : Hid (∀ (s : Nat) (A : Option Addr) (n c : Nat) (u : World), Calls Try.prog 66 #[.agg #[.int .u64 (s : Int), .slice A n c]] u fun e w' => e = .returned (.int .u64 (s : Int)) ∧ Below u.heap.size u w') := fun s A n c u => lstream_any
        have k0 : ∀ q : Gr wr.heap.size wr, q.val.cell? ⟨bo, off + k * 2, none⟩ = some (.int .u64 (xs : Int)) := fun q => (q.is.cell (p := ⟨bo, off + k * 2, none⟩) hbl).trans g0
        have k1 : ∀ q : Gr wr.heap.size wr, q.val.cell? ⟨bo, off + k * 2 + 1, none⟩ = some (.slice A3 xn c3) := fun q => (q.is.cell (p := ⟨bo, off + k * 2 + 1, none⟩) hbl).trans g1
        have k2 : ∀ q : Gr wr.heap.size wr, q.val.cell? ⟨bo, off + j * 2, none⟩ = some (.int .u64 (ys : Int)) := fun q => (q.is.cell (p := ⟨bo, off + j * 2, none⟩) hbl).trans q0
        have k3 : ∀ q : Gr wr.heap.size wr, q.val.cell? ⟨bo, off + j * 2 + 1, none⟩ = some (.slice A4 yn c4) := fun q => (q.is.cell (p := ⟨bo, off + j * 2 + 1, none⟩) hbl).trans q1
        have hus : UpTo l (k + 1) ↔ UpTo l k ∧ ys < xs := by
          subst hj
          exact upTo_succ hy hx
        have HUS := Lib.hid hus
        clear hx hy hrow hrow2 hsr hbD hbD2 hxn hyn g0 g1 q0 q1 hus hj
        by_cases hlt : ys < xs
        · have hd5 : decide (xs ≤ ys) = false := by simp; omega
          have HU := Lib.hid (HUS.out.2 ⟨hup.out, hlt⟩)
          go_upto_region 4 with (fail)
          refine wp_region_grow (by kernel_rfl) (by kernel_rfl) wr.heap.size ?_
          repeat (first | go_big_quiet_step ((go_at_call 66; exact Gr.call _ (Nat.le_refl _) (HST.out _ _ _ _ _))) | quiet_step ((go_at_call 66; exact Gr.call _ (Nat.le_refl _) (HST.out _ _ _ _ _))))
          refine wpQuiet_nil ?_
          rintro w5 ⟨⟨_, hb5⟩, rfl⟩
          have HB5 := Lib.hid (stepB hbel.out hb5)
          clear hb5 k0 k1 k2 k3
          go_wp2_with fail
          go_roundw
          case rel => exact ⟨k + 1, hkn, by go_num, HU, HB5⟩
          case measure => clear hsub; simp [intOf]; omega
        · have hd5 : decide (xs ≤ ys) = true := by simp; omega
          have HU : Hid (¬ UpTo l l.length) := fun h => hlt (HUS.out.1 (fun i a b hi => h i a b (by have := HN.out; omega))).2
          go_upto_region 4 with (fail)
          refine wp_region_grow (by kernel_rfl) (by kernel_rfl) wr.heap.size ?_
          repeat (first | go_big_quiet_step ((go_at_call 66; exact Gr.call _ (Nat.le_refl _) (HST.out _ _ _ _ _))) | quiet_step ((go_at_call 66; exact Gr.call _ (Nat.le_refl _) (HST.out _ _ _ _ _))))
          refine wpQuiet_nil ?_
          rintro w5 ⟨⟨_, hb5⟩, rfl⟩
          have HB5 := Lib.hid (stepB hbel.out hb5)
          clear hb5 k0 k1 k2 k3
          go_wp2_with fail
          go_ret
          exact ⟨by rw [dec_false HU.out]; rfl, HB5.out⟩
end
end Go.Proofs.Ytnihaaifkogpbaa
