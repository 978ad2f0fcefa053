/- The example of chapter 21's laws. -/
import Derived.Test.YtmdgmnaaopineaaLoc4
namespace Go.Proofs.Ytmdgmnaaopineaa
open Go.ChangeShapes Go.WideShapes Go.ChangeAt Go.RowKit
set_option linter.unusedVariables false
theorem seven_blks (w : World) (c0 c1 c2 c3 c4 c5 c6 : Array Value) (t0 t1 t2 t3 t4 t5 t6 : TypeId) :
    Blk (((((((w.alloc (.cells c0 t0)).alloc (.cells c1 t1)).alloc (.cells c2 t2)).alloc (.cells c3 t3)).alloc (.cells c4 t4)).alloc (.cells c5 t5)).alloc (.cells c6 t6)) (w.heap.size) t0 c0 ∧
    Blk (((((((w.alloc (.cells c0 t0)).alloc (.cells c1 t1)).alloc (.cells c2 t2)).alloc (.cells c3 t3)).alloc (.cells c4 t4)).alloc (.cells c5 t5)).alloc (.cells c6 t6)) (w.heap.size + 1) t1 c1 ∧
    Blk (((((((w.alloc (.cells c0 t0)).alloc (.cells c1 t1)).alloc (.cells c2 t2)).alloc (.cells c3 t3)).alloc (.cells c4 t4)).alloc (.cells c5 t5)).alloc (.cells c6 t6)) (w.heap.size + 1 + 1) t2 c2 ∧
    Blk (((((((w.alloc (.cells c0 t0)).alloc (.cells c1 t1)).alloc (.cells c2 t2)).alloc (.cells c3 t3)).alloc (.cells c4 t4)).alloc (.cells c5 t5)).alloc (.cells c6 t6)) (w.heap.size + 1 + 1 + 1) t3 c3 ∧
    Blk (((((((w.alloc (.cells c0 t0)).alloc (.cells c1 t1)).alloc (.cells c2 t2)).alloc (.cells c3 t3)).alloc (.cells c4 t4)).alloc (.cells c5 t5)).alloc (.cells c6 t6)) (w.heap.size + 1 + 1 + 1 + 1) t4 c4 ∧
    Blk (((((((w.alloc (.cells c0 t0)).alloc (.cells c1 t1)).alloc (.cells c2 t2)).alloc (.cells c3 t3)).alloc (.cells c4 t4)).alloc (.cells c5 t5)).alloc (.cells c6 t6)) (w.heap.size + 1 + 1 + 1 + 1 + 1) t5 c5 ∧
    Blk (((((((w.alloc (.cells c0 t0)).alloc (.cells c1 t1)).alloc (.cells c2 t2)).alloc (.cells c3 t3)).alloc (.cells c4 t4)).alloc (.cells c5 t5)).alloc (.cells c6 t6)) (w.heap.size + 1 + 1 + 1 + 1 + 1 + 1) t6 c6 ∧ Below w.heap.size w (((((((w.alloc (.cells c0 t0)).alloc (.cells c1 t1)).alloc (.cells c2 t2)).alloc (.cells c3 t3)).alloc (.cells c4 t4)).alloc (.cells c5 t5)).alloc (.cells c6 t6)) ∧ (((((((w.alloc (.cells c0 t0)).alloc (.cells c1 t1)).alloc (.cells c2 t2)).alloc (.cells c3 t3)).alloc (.cells c4 t4)).alloc (.cells c5 t5)).alloc (.cells c6 t6)).heap.size = w.heap.size + 7 := by
  refine ⟨(((((((Blk.newAt rfl t0 c0).alloc _).alloc _).alloc _).alloc _).alloc _).alloc _), ((((((Blk.newAt (by simp only [size_alloc]) t1 c1).alloc _).alloc _).alloc _).alloc _).alloc _), (((((Blk.newAt (by simp only [size_alloc]) t2 c2).alloc _).alloc _).alloc _).alloc _), ((((Blk.newAt (by simp only [size_alloc]) t3 c3).alloc _).alloc _).alloc _), (((Blk.newAt (by simp only [size_alloc]) t4 c4).alloc _).alloc _), ((Blk.newAt (by simp only [size_alloc]) t5 c5).alloc _), (Blk.newAt (by simp only [size_alloc]) t6 c6), ?_, by simp only [size_alloc]⟩
  exact ((((((((Below.refl _ w).alloc (by (try simp only [size_alloc]); omega) _).alloc (by (try simp only [size_alloc]); omega) _).alloc (by (try simp only [size_alloc]); omega) _).alloc (by (try simp only [size_alloc]); omega) _).alloc (by (try simp only [size_alloc]); omega) _).alloc (by (try simp only [size_alloc]); omega) _).alloc (by (try simp only [size_alloc]); omega) _)

abbrev exL : List Stp := [(0, 4, [[1], [2]]), (4, 4611686018427387904, [[3]])]
theorem setOk_one (sets : List (List Nat)) (i x : Nat) (hx : x < 4294967296) (h : ∀ (j : Nat) (o : List Nat), j < i → sets[j]? = some o → x ∉ o) : SetOk sets i [x] := by
  refine ⟨by simp, by simp, fun i a b ha hb => by simp at hb, fun a ha => by simp at ha; omega, fun j o hj ho y hy => ?_⟩
  simp only [List.mem_singleton] at hy
  subst hy
  exact h j o hj ho
theorem sOk_a : SOk (0, 4, [[1], [2]]) := by
  refine ⟨by decide, by decide, by decide, by decide, fun i l hl => ?_⟩
  match i, hl with
  | 0, hl => cases hl; exact setOk_one _ _ _ (by decide) (fun j o hj => by omega)
  | 1, hl =>
    cases hl
    refine setOk_one _ _ _ (by decide) (fun j o hj ho => ?_)
    obtain rfl : j = 0 := by omega
    cases ho
    decide
  | i + 2, hl => simp at hl
theorem sOk_b : SOk (4, 4611686018427387904, [[3]]) := by
  refine ⟨by decide, by decide, by decide, by decide, fun i l hl => ?_⟩
  match i, hl with
  | 0, hl => cases hl; exact setOk_one _ _ _ (by decide) (fun j o hj => by omega)
  | i + 1, hl => simp at hl
theorem pOk_ex : POk (1, exL) := by
  refine ⟨⟨⟨⟨by decide, by decide⟩, by decide, by decide⟩, fun i s hi hs => ?_⟩, rfl⟩
  match i, hs with
  | 0, hs => cases hs; exact ⟨sOk_a, rfl⟩
  | 1, hs => cases hs; exact ⟨sOk_b, rfl⟩
  | i + 2, hs => simp at hs
theorem place_ex {r K N : Nat} {nd : List Nat} (h : PlaceIs exL 3 r K N nd) : r = 0 ∧ K = 1 ∧ N = 1 ∧ nd = [2] := by
  obtain ⟨s, ⟨hs, h1, h2⟩, _, hK, hN, hnd⟩ := h
  match r, hs with
  | 0, hs =>
    cases hs
    subst hK
    have : (2 : Nat) = 2 := rfl
    refine ⟨rfl, rfl, hN, ?_⟩
    simp at hnd
    exact hnd.symm
  | 1, hs => cases hs; omega
  | r + 2, hs => simp at hs
theorem lclive_any (w : World) : Calls Try.prog 26 #[] w fun e w' => e = .returned (.bool true) ∧ Below w.heap.size w w' := by
  obtain ⟨k0, k1, k2, k3, k4, k5, k6, hb, hz⟩ := seven_blks w (#[.int .u64 1]) (#[.int .u64 2]) (#[.slice (some ⟨w.heap.size, 0, none⟩) 1 1, .slice (some ⟨w.heap.size + 1, 0, none⟩) 1 1]) (#[.int .u64 3]) (#[.slice (some ⟨w.heap.size + 1 + 1 + 1, 0, none⟩) 1 1]) (#[.int .u64 0, .int .u64 4, .slice (some ⟨w.heap.size + 1 + 1, 0, none⟩) 2 2, .int .u64 4, .int .u64 4611686018427387904, .slice (some ⟨w.heap.size + 1 + 1 + 1 + 1, 0, none⟩) 1 1]) (#[.int .u64 1, .slice (some ⟨w.heap.size + 1 + 1 + 1 + 1 + 1, 0, none⟩) 2 2]) 22 22 46 22 46 31 25
  have K0 := Lib.hid k0
  have K1 := Lib.hid k1
  have K2 := Lib.hid k2
  have K3 := Lib.hid k3
  have K4 := Lib.hid k4
  have K5 := Lib.hid k5
  have K6 := Lib.hid k6
  have HB := Lib.hid hb
  have HZ := Lib.hid hz
  clear k0 k1 k2 k3 k4 k5 k6 hb hz
  go_enter Try.func26, Try.ntmps26
  go_wp2_with fail
  generalize World.alloc (World.alloc (World.alloc (World.alloc (World.alloc (World.alloc (World.alloc w _) _) _) _) _) _) _ = w0 at *
  have hz := HZ.out
  have hone : ∀ (g x : Nat), x < 18446744073709551616 → w.heap.size ≤ g → g < w0.heap.size → Blk w0 g 22 #[.int .u64 (x : Int)] → rpU64.sl w0 (fun k => w.heap.size ≤ k ∧ k < w0.heap.size) (some ⟨g, 0, none⟩) 1 1 [x] := fun g x hx h1 h2 hb =>
    Rp.sl_block (r := rpU64) rfl hb ⟨h1, h2⟩ rfl (by decide) (fun i y hy => by
      match i, hy with
      | 0, hy => cases hy; exact ⟨_, rfl, u64_ok _ _ _ hx⟩)
  have hA : (rpSlice rpU64).sl w0 (fun k => w.heap.size ≤ k ∧ k < w0.heap.size) (some ⟨w.heap.size + 1 + 1, 0, none⟩) 2 2 [[1], [2]] := by
    refine Rp.sl_block rfl (show Blk _ _ _ _ from K2.out) ⟨by omega, by omega⟩ rfl (by decide) (fun i x hx => ?_)
    match i, hx with
    | 0, hx => cases hx; exact ⟨_, rfl, hone w.heap.size 1 (by decide) (by omega) (by omega) K0.out⟩
    | 1, hx => cases hx; exact ⟨_, rfl, hone (w.heap.size + 1) 2 (by decide) (by omega) (by omega) K1.out⟩
  have hB : (rpSlice rpU64).sl w0 (fun k => w.heap.size ≤ k ∧ k < w0.heap.size) (some ⟨w.heap.size + 1 + 1 + 1 + 1, 0, none⟩) 1 1 [[3]] := by
    refine Rp.sl_block rfl (show Blk _ _ _ _ from K4.out) ⟨by omega, by omega⟩ rfl (by decide) (fun i x hx => ?_)
    match i, hx with
    | 0, hx => cases hx; exact ⟨_, rfl, hone (w.heap.size + 1 + 1 + 1) 3 (by decide) (by omega) (by omega) K3.out⟩
  have hk5 := (show Blk _ _ _ _ from K5.out)
  have hL : rpStp.sl w0 (fun k => w.heap.size ≤ k ∧ k < w0.heap.size) (some ⟨w.heap.size + 1 + 1 + 1 + 1 + 1, 0, none⟩) 2 2 exL := by
    refine ⟨_, _, rfl, by decide, by decide, fun _ => ⟨_, 0, rfl, ⟨by omega, by omega⟩, fun i x hx => ?_⟩⟩
    have e3 : rpStp.size = 3 := by kernel_rfl
    rw [e3]
    match i, hx with
    | 0, hx =>
      cases hx
      refine ⟨[.int .u64 ((0 : Nat) : Int), .int .u64 ((4 : Nat) : Int), .slice (some ⟨w.heap.size + 1 + 1, 0, none⟩) 2 2], ⟨[_], _, rfl, u64_ok _ _ 0 (by decide), [_], _, rfl, u64_ok _ _ 4 (by decide), hA⟩, fun j u hu => ?_⟩
      match j, hu with
      | 0, hu => cases hu; exact hk5.cell 0
      | 1, hu => cases hu; exact hk5.cell 1
      | 2, hu => cases hu; exact hk5.cell 2
    | 1, hx =>
      cases hx
      refine ⟨[.int .u64 ((4 : Nat) : Int), .int .u64 ((4611686018427387904 : Nat) : Int), .slice (some ⟨w.heap.size + 1 + 1 + 1 + 1, 0, none⟩) 1 1], ⟨[_], _, rfl, u64_ok _ _ 4 (by decide), [_], _, rfl, u64_ok _ _ 4611686018427387904 (by decide), hB⟩, fun j u hu => ?_⟩
      match j, hu with
      | 0, hu => cases hu; exact hk5.cell 3
      | 1, hu => cases hu; exact hk5.cell 4
      | 2, hu => cases hu; exact hk5.cell 5
  have hat := at_ok (e := 1) 3 hL (fun k hk => hk.2) (by decide) (by decide) pOk_ex (by show (3 : Nat) < 4611686018427387904; decide)
  have HAT := Lib.hid hat
  have hz0 := HB.out.size
  clear hone hA hB hL hat hz hk5
  refine HAT.out.mono ?_; rintro en w1 ⟨r, K, N, nd, A2, n2, c2, D2, rfl, hpl, hs2, hd2, hb1⟩
  obtain ⟨rfl, rfl, rfl, rfl⟩ := place_ex hpl
  have HS2 := Lib.hid hs2
  have HD2 := Lib.hid hd2
  have HB1 := Lib.hid hb1
  have hn2 := (Rp.sl_len hs2).1
  have hbx : Hid (∀ (cs : Array Value), Below w1.heap.size w1 ((w1.alloc (.cells cs 48)).alloc (.cells #[.int .u64 2] 22))) := fun cs => ((Below.refl _ w1).alloc (Nat.le_refl _) _).alloc (by simp) _
  have hkx : Hid (∀ (cs : Array Value), Blk ((w1.alloc (.cells cs 48)).alloc (.cells #[.int .u64 2] 22)) (w1.heap.size + 1) 22 #[.int .u64 2]) := fun cs => Blk.newAt (size_alloc _ _) _ _
  have hz1 := hb1.size
  clear hs2 hd2 hb1 hpl hn2
  go_wp2_with fail
  have hsm := same05_any (Rp.sl_below HS2.out (hbx.out #[.int .i64 0, .int .i64 1, .int .u64 1, .slice A2 n2 c2]) (fun k hk => (HD2.out k hk).2)) (Rp.sl_block (r := rpU64) (l := [2]) (D := fun k => k = w1.heap.size + 1) rfl (hkx.out #[.int .i64 0, .int .i64 1, .int .u64 1, .slice A2 n2 c2]) rfl rfl (by decide) (fun i y hy => by
      match i, hy with
      | 0, hy => cases hy; exact ⟨_, rfl, u64_ok _ _ 2 (by decide)⟩)) (fun k hk => by have := (HD2.out k hk).2; simp; omega) (fun k hk => by rw [show k = _ from hk]; simp)
  rw [dec_true rfl] at hsm
  have HSM := Lib.hid hsm
  clear hsm
  refine HSM.out.mono ?_; rintro en w2 ⟨rfl, hb2⟩
  go_wp2_with fail
  go_ret
  have h1 := (hbx.out #[.int .i64 0, .int .i64 1, .int .u64 1, .slice A2 n2 c2])
  exact ⟨rfl, HB.out.trans ((HB1.out.trans ((h1.trans (hb2.mono h1.size)).mono hz1)).mono hz0)⟩
end Go.Proofs.Ytmdgmnaaopineaa
