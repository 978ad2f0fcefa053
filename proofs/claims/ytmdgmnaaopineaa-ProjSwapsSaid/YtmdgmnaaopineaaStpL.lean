/- The example of chapter 19's laws. -/
import Derived.Test.YtmdgmnaaopineaaStp5
namespace Go.Proofs.Ytmdgmnaaopineaa
open Go.ChangeShapes Go.WideShapes Go.ChangeAt Go.RowKit
set_option linter.unusedVariables false
theorem Rp.sl_block {α : Type} {r : Rp α} (hsz : r.size = 1) {w : World} {g : Nat} {t : TypeId} {cs : Array Value} (hb : Blk w g t cs) {D : Dom} (hg : D g) {l : List α} {n : Nat} (hn : l.length = n) (hm : n ≤ maxLen)
    (hrow : ∀ (i : Nat) x, l[i]? = some x → ∃ v, cs[i]? = some v ∧ r.ok w D x [v]) : r.sl w D (some ⟨g, 0, none⟩) n n l := by
  subst hn
  refine ⟨_, _, rfl, Nat.le_refl _, hm, fun _ => ⟨g, 0, rfl, hg, fun i x hx => ?_⟩⟩
  obtain ⟨v, hv, hok⟩ := hrow i x hx
  refine ⟨[v], hok, fun j u hu => ?_⟩
  have hj : j = 0 := by
    rcases Nat.eq_zero_or_pos j with h0 | h0
    · exact h0
    · rw [List.getElem?_eq_none (by simp; omega)] at hu; cases hu
  subst hj
  simp only [List.getElem?_cons_zero, Option.some.injEq] at hu
  subst hu
  rw [hsz]
  have := hb.cell (0 + i * 1 + 0)
  rw [this]
  simpa using hv
theorem sOk_ten : SOk (10, 17, [[1, 2], [5]]) := by
  refine ⟨by decide, by decide, by decide, by decide, fun i l hl => ?_⟩
  match i, hl with
  | 0, hl =>
    cases hl
    refine ⟨by decide, by decide, fun i a b ha hb => ?_, fun a ha => by cases ha; decide, fun j o hj => by omega⟩
    match i, ha, hb with
    | 0, ha, hb => cases ha; cases hb; decide
    | i + 1, ha, hb => simp at hb
  | 1, hl =>
    cases hl
    refine ⟨by decide, by decide, fun i a b ha hb => by simp at hb, fun a ha => by cases ha; decide, fun j o hj ho x hx => ?_⟩
    obtain rfl : j = 0 := by omega
    cases ho
    simp at hx ⊢
    omega
  | i + 2, hl => simp at hl
theorem Blk.newAt {w : World} {g : Nat} (h : w.heap.size = g) (t : TypeId) (cs : Array Value) : Blk (w.alloc (.cells cs t)) g t cs := h ▸ Blk.new w t cs
theorem size_alloc (w : World) (o : Obj) : (w.alloc o).heap.size = w.heap.size + 1 := by simp
theorem four_blks (w : World) (c1 c2 c3 c4 : Array Value) (t1 t2 t3 t4 : TypeId) :
    Blk ((((w.alloc (.cells c1 t1)).alloc (.cells c2 t2)).alloc (.cells c3 t3)).alloc (.cells c4 t4)) w.heap.size t1 c1 ∧ Blk ((((w.alloc (.cells c1 t1)).alloc (.cells c2 t2)).alloc (.cells c3 t3)).alloc (.cells c4 t4)) (w.heap.size + 1) t2 c2 ∧
    Blk ((((w.alloc (.cells c1 t1)).alloc (.cells c2 t2)).alloc (.cells c3 t3)).alloc (.cells c4 t4)) (w.heap.size + 1 + 1) t3 c3 ∧ Blk ((((w.alloc (.cells c1 t1)).alloc (.cells c2 t2)).alloc (.cells c3 t3)).alloc (.cells c4 t4)) (w.heap.size + 1 + 1 + 1) t4 c4 ∧
    Below w.heap.size w ((((w.alloc (.cells c1 t1)).alloc (.cells c2 t2)).alloc (.cells c3 t3)).alloc (.cells c4 t4)) ∧ ((((w.alloc (.cells c1 t1)).alloc (.cells c2 t2)).alloc (.cells c3 t3)).alloc (.cells c4 t4)).heap.size = w.heap.size + 4 := by
  refine ⟨(((Blk.newAt rfl t1 c1).alloc _).alloc _).alloc _, ((Blk.newAt (size_alloc _ _) t2 c2).alloc _).alloc _, (Blk.newAt (by rw [size_alloc, size_alloc]) t3 c3).alloc _, Blk.newAt (by rw [size_alloc, size_alloc, size_alloc]) t4 c4, ?_, by rw [size_alloc, size_alloc, size_alloc, size_alloc]⟩
  exact ((((Below.refl _ w).alloc (Nat.le_refl _) _).alloc (by simp) _).alloc (by simp; omega) _).alloc (by simp; omega) _
theorem u64_ok (w : World) (D : Dom) (x : Nat) (h : x < 18446744073709551616) : rpU64.ok w D x [.int .u64 (x : Int)] := ⟨rfl, h⟩
theorem slive_any (w : World) : Calls Try.prog 39 #[] w fun e w' => e = .returned (.bool true) ∧ Below w.heap.size w w' := by
  have hok := sOk_ten
  have e1 : dealt (10, 17, [[1, 2], [5]]) 12 = (0, 1, true) := dealt_in hok (by decide) (by decide)
  have e2 : share (10, 17, [[1, 2], [5]]) 0 = 4 := share_in (set := 0) hok (by decide)
  have e3 : share (10, 17, [[1, 2], [5]]) 1 = 3 := share_in (set := 1) hok (by decide)
  have E1 := Lib.hid e1
  have E2 := Lib.hid e2
  have E3 := Lib.hid e3
  clear hok e1 e2 e3
  obtain ⟨k1, k2, k3, k4, hb, hz⟩ := four_blks w #[.int .u64 1, .int .u64 2] #[.int .u64 5] #[.slice (some ⟨w.heap.size, 0, none⟩) 2 2, .slice (some ⟨w.heap.size + 1, 0, none⟩) 1 1] #[.int .u64 10, .int .u64 17, .slice (some ⟨w.heap.size + 1 + 1, 0, none⟩) 2 2] 22 22 46 31
  have K1 := Lib.hid k1
  have K2 := Lib.hid k2
  have K3 := Lib.hid k3
  have K4 := Lib.hid k4
  have HB := Lib.hid hb
  have HZ := Lib.hid hz
  clear k1 k2 k3 k4 hb hz
  go_enter Try.func39, Try.ntmps39
  go_wp2_with fail
  generalize World.alloc (World.alloc (World.alloc (World.alloc w _) _) _) _ = w0 at *
  have hs : (rpSlice rpU64).sl w0 (fun k => w.heap.size ≤ k ∧ k < w0.heap.size) (some ⟨w.heap.size + 1 + 1, 0, none⟩) 2 2 [[1, 2], [5]] := by
    have hz := HZ.out
    refine Rp.sl_block rfl (show Blk _ _ _ _ from K3.out) ⟨by omega, by omega⟩ rfl (by decide) (fun i x hx => ?_)
    match i, hx with
    | 0, hx =>
      cases hx
      refine ⟨_, rfl, Rp.sl_block (r := rpU64) rfl (show Blk _ _ _ _ from K1.out) ⟨by omega, by omega⟩ rfl (by decide) (fun i x hx => ?_)⟩
      match i, hx with
      | 0, hx | 1, hx => cases hx; exact ⟨_, rfl, u64_ok _ _ _ (by decide)⟩
    | 1, hx =>
      cases hx
      refine ⟨_, rfl, Rp.sl_block (r := rpU64) rfl (show Blk _ _ _ _ from K2.out) ⟨by omega, by omega⟩ rfl (by decide) (fun i x hx => ?_)⟩
      match i, hx with
      | 0, hx => cases hx; exact ⟨_, rfl, u64_ok _ _ _ (by decide)⟩
  have HS := Lib.hid hs
  have hk4 := (show Blk _ _ _ _ from K4.out)
  have hd := dealt_any (f := 10) (t := 17) 12 hs (fun k hk => hk.2) (by decide) (by decide) (by decide)
  rw [E1.out] at hd
  have HDL := Lib.hid hd
  have hkl := hk4.lt
  have hz0 := HB.out.size
  clear hs hd hk4
  refine HDL.out.mono ?_; rintro e w1 ⟨rfl, hb1⟩
  have hk4 := Blk.below (show Blk _ _ _ _ from K4.out) hb1 hkl
  have d0 := hk4.cell 0
  have d1 := hk4.cell 1
  have d2 := hk4.cell 2
  have HB1 := Lib.hid hb1
  clear hb1 hk4
  go_wp2_with fail
  have hs1 := share_any (f := 10) (t := 17) 0 (Rp.sl_below HS.out HB1.out (fun k hk => hk.2)) (fun k hk => Nat.lt_of_lt_of_le hk.2 HB1.out.size) (by decide) (by decide)
  rw [E2.out] at hs1
  refine hs1.mono ?_; rintro e w2 ⟨rfl, hb2⟩
  have hb02 := HB1.out.trans (hb2.mono HB1.out.size)
  have hk4 := Blk.below (show Blk _ _ _ _ from K4.out) hb02 hkl
  have d0 := hk4.cell 0
  have d1 := hk4.cell 1
  have d2 := hk4.cell 2
  have HB2 := Lib.hid hb02
  clear hb2 hk4 hs1 hb02
  go_wp2_with fail
  have hs2 := share_any (f := 10) (t := 17) 1 (Rp.sl_below HS.out HB2.out (fun k hk => hk.2)) (fun k hk => Nat.lt_of_lt_of_le hk.2 HB2.out.size) (by decide) (by decide)
  rw [E3.out] at hs2
  refine hs2.mono ?_; rintro e w3 ⟨rfl, hb3⟩
  have hb03 := HB2.out.trans (hb3.mono HB2.out.size)
  clear hs2
  go_wp2_with fail
  go_ret
  exact ⟨rfl, HB.out.trans (hb03.mono hz0)⟩
end Go.Proofs.Ytmdgmnaaopineaa
