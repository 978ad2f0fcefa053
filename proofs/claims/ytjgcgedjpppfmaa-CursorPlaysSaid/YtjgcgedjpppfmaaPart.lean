/- The reference's Part. -/
import Derived.Test.YtjgcgedjpppfmaaCLive
namespace Go.Proofs.Ytjgcgedjpppfmaa
open Go.ChangeShapes Go.WideShapes Go.ChangeAt Go.RowKit
set_option linter.unusedVariables false
theorem partE_le {len p : Nat} {n : Int} (hp : p ≤ len) : partE len p n ≤ len ∧ p ≤ partE len p n := by unfold partE; omega
theorem rpart_any {D : Dom} {A : Option Addr} {n c : Nat} {l : List UInt8} {p : Nat} {f : Flt} {w : World} (h : rpU8.sl w D A n c l) (hD : ∀ k, D k → k < w.heap.size) (hp : p ≤ n) (hn : n ≤ 1000000000) (k : Int) (k0 : -9223372036854775808 ≤ k) (k1 : k ≤ 9223372036854775807) :
    Calls Try.prog 47 #[.agg (rdV A n c p f), .int .i64 k] w fun e w' => ∃ A2 c2, e = .returned (.agg (rdV A2 (partE n p k) c2 p (0, 0))) ∧ rpU8.sl w' D A2 (partE n p k) c2 (l.take (partE n p k)) ∧ Below w.heap.size w w' := by
  have H : Hid ((Try.prog.info? 68).map (·.size) = some 4) := by unfold Hid; kernel_rfl
  obtain ⟨hlen, hnc, hcm⟩ := Rp.sl_len h
  unfold maxLen at hcm
  obtain ⟨M, hM⟩ : ∃ M, M = max k 0 := ⟨_, rfl⟩
  obtain ⟨m, hm⟩ : ∃ m, m = min M ((n : Int) - p) := ⟨_, rfl⟩
  have q1 : (if k < 0 then (0 : Int) else k) = M := by rw [hM]; split <;> omega
  have q2 : (if (n : Int) - p < M then (n : Int) - p else M) = m := by rw [hm]; split <;> omega
  obtain ⟨E, hE⟩ : ∃ E : Nat, (E : Int) = p + m := ⟨(p + m).toNat, by omega⟩
  have hEl : E ≤ n := by omega
  have hpE : p ≤ E := by omega
  have hm0 : 0 ≤ m := by omega
  have hm1 : m ≤ 1000000000 := by omega
  have q3 : IntKind.i64.wrap (E : Int) = E := IntWalk.i64_in _ (by omega)
  have q4 : (p : Int) + m = E := hE.symm
  have hpe : partE n p k = E := by unfold partE; omega
  rw [hpe]
  obtain ⟨A', hcut, hsl2⟩ := run_cut_h elemU h rfl (E : Int) (by omega) (by omega)
  rw [Int.toNat_natCast] at hcut hsl2
  have HS2 := Lib.hid hsl2
  have HD := Lib.hid hD
  have HK := Lib.hid ((Blk.new w 68 (rdV A n c p f)).alloc (.cells rdZ 68))
  have HR := Lib.hid (cblk_top w (rdV A n c p f) rdZ 68 68)
  have HZ := Lib.hid (cbelow_two w (.cells (rdV A n c p f) 68) (.cells rdZ 68))
  clear hM hm hE hpe h hsl2 hlen hD
  go_enter Try.func47, Try.ntmps47
  go_wp2_with fail
  generalize World.alloc (World.alloc _ _) _ = w0 at *
  have hk := (show Blk _ _ _ _ from HK.out)
  have d0 := hk.cell 0
  have d1 := hk.cell 1
  clear hk
  go_still_tail 10, (by kernel_rfl)
  have HR1 : Hid (Blk w0.drew (w.heap.size + 1) 68 rdZ) := HR.out
  have HZ1 : Hid (Below w.heap.size w w0.drew) := (HZ.out).drew
  change wpList _ _ _ _ _ w0.drew
  generalize w0.drew = w1 at *
  go_wp2_with (refine wpList_put_row rfl 68 (.tmp 4) (.tmp 23) rfl (w.heap.size + 1) (rdV A' E c p (0, 0)) rfl rfl 68 _ HR1.out H.out rfl (by simp [Value.oneCell']) ?_; intro w3 hblk hgr)
  have hbz : Below w.heap.size w w3 := HZ1.out.grown hgr HZ1.out.size (fun k hk => by injection hk with hk; omega)
  exact bodyPost_ret (results_cell_row rfl _ _ (w.heap.size + 1) 68 _ (0, 0) _ rfl hblk Try.underlying68 rfl H.out) rfl ⟨A', c, rfl, Rp.sl_below HS2.out hbz HD.out, hbz⟩
end Go.Proofs.Ytjgcgedjpppfmaa
