/- The walks of chapter 7's table. -/
import Derived.Test.YtcapgkfplaebaaaWalk
namespace Go.Proofs.Ytcapgkfplaebaaa
open Go.ChangeShapes Go.WideShapes Go.ChangeAt Go.RowKit
open Crc

def tabUpto (k : Nat) : Array Value := Array.ofFn (n := 16) fun i => .int .u32 (if i.val < k then ((steps 4 (BitVec.ofNat 32 i.val)).toNat : Int) else 0)
theorem tabUpto_size (k : Nat) : (tabUpto k).size = 16 := by simp [tabUpto]
theorem tabUpto_set (k : Nat) (v : Int) (hv : v = ((steps 4 (BitVec.ofNat 32 k)).toNat : Int)) : (tabUpto k).setIfInBounds k (.int .u32 v) = tabUpto (k + 1) := by
  subst hv
  apply Array.ext
  · simp [tabUpto]
  · intro i h1 h2
    simp [tabUpto] at h1
    have e : (tabUpto (k + 1))[i] = .int .u32 (if i < k + 1 then ((steps 4 (BitVec.ofNat 32 i)).toNat : Int) else 0) := by simp [tabUpto]
    have e' : (tabUpto k)[i]'(by simpa [tabUpto] using h1) = .int .u32 (if i < k then ((steps 4 (BitVec.ofNat 32 i)).toNat : Int) else 0) := by simp [tabUpto]
    refine Eq.trans ?_ e.symm
    rw [Array.getElem_setIfInBounds (by simpa [tabUpto] using h1)]
    by_cases h : k = i
    · subst h; simp
    · have : (i < k + 1) = (i < k) := by apply propext; omega
      rw [if_neg h, e']; simp [this]

theorem blk1 {w W : World} {o : Obj} {t : TypeId} {cs : Array Value} (h : Blk W (w.alloc o).heap.size t cs) : Blk W (w.heap.size + 1) t cs := by
  rwa [World.size_alloc] at h
theorem table_any (w : World) :
    Calls Try.prog 22 #[] w fun e w' => e = .returned (.agg (tabUpto 16)) ∧ Below w.heap.size w w' := by
  go_enter Try.func22, Try.ntmps22
  go_wp2
  go_loopw [2, 3, 4] (fun _ _ i wr => ∃ k : Nat, k ≤ 16 ∧ i = .int .i64 k ∧ Blk wr w.heap.size 42 (tabUpto 0) ∧ Blk wr (w.heap.size + 1) 42 (tabUpto k) ∧ Below w.heap.size w wr) (fun _ _ i _ => 16 - (intOf i).toNat)
  case atStart => exact ⟨0, by omega, rfl, (Blk.new w 42 (tabUpto 0)).alloc _, blk1 (Blk.new (w.alloc (.cells (tabUpto 0) 42)) 42 (tabUpto 0)), ((Below.refl _ _).alloc (Nat.le_refl _) _).alloc (by simp) _⟩
  case round =>
    obtain ⟨k, hk, rfl, hb0, hb1, hbel⟩ := hrel
    by_cases hlt : k < 16
    · have hd : decide ((k : Int) < 16) = true := by simp; omega
      go_wp2
      go_loop [3, 9] (fun s i => ∃ j : Nat, j ≤ 4 ∧ i = .int .i64 j ∧ s = .int .u32 ((steps j (BitVec.ofNat 32 k)).toNat : Int)) (fun _ i => 4 - (intOf i).toNat)
      case atStart => exact ⟨0, by omega, rfl, by simp [steps]; omega⟩
      case round =>
        obtain ⟨j, hj, rfl, rfl⟩ := hrel
        by_cases hjl : j < 4
        · have hs : steps (j + 1) (BitVec.ofNat 32 k) = Crc.step (steps j (BitVec.ofNat 32 k)) := rfl
          have HS := Lib.hid hs
          clear hs
          go_wp2_with (go_at_call 27; refine (step_any _ _).mono ?_; rintro e w' ⟨rfl, rfl⟩)
          go_round
          case rel => exact ⟨j + 1, by omega, by go_num, by rw [HS.out]⟩
          case measure => simp [intOf]; omega
        · obtain rfl : j = 4 := by omega
          have hset := tabUpto_set k _ rfl
          have HS := Lib.hid hset
          have hc : wr.cell? ⟨w.heap.size + 1, k, none⟩ = some (.int .u32 0) := by
            rw [hb1.cell]; simp [tabUpto, hlt]
          have hf := hb1.frozen k
          have H0 := Lib.hid hb0
          have H1 := Lib.hid hb1
          clear hset hb0 hb1
          go_wp2
          go_roundw
          case rel => exact ⟨k + 1, by omega, by go_num, H0.out.far (by simp) _, by rw [← HS.out]; exact H1.out.put k _, hbel.setCell (by simp) _⟩
          case measure => simp [intOf]; omega
    · obtain rfl : k = 16 := by omega
      have i42 : (Try.prog.info? 42).map (·.size) = some (tabUpto 16).size := by rw [tabUpto_size]; kernel_rfl
      have h1 : (tabUpto 16).all (·.oneCell') = true := by kernel_rfl
      have I42 := Lib.hid i42
      have H1 := Lib.hid h1
      clear i42 h1
      go_wp2_with (first
        | (refine wpList_load_row rfl 42 (.tmp 1) rfl (w.heap.size + 1) rfl 42 (tabUpto 16) (0, 0) _ hb1 Try.underlying42 rfl I42.out ?_)
        | (refine wpList_store_row rfl 42 (.tmp 0) (.tmp 18) rfl w.heap.size (tabUpto 16) rfl rfl 42 (tabUpto 0) hb0 I42.out (by rw [tabUpto_size, tabUpto_size]) H1.out ?_))
      refine bodyPost_ret (results_cell_row rfl _ _ w.heap.size 42 (tabUpto 16) (0, 0) _ rfl (hb0.rowSet _) Try.underlying42 rfl I42.out) rfl ⟨rfl, below_setRow hbel (Nat.le_refl _) _⟩
end Go.Proofs.Ytcapgkfplaebaaa
