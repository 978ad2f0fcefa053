/- slices.Concat of sets. -/
import Derived.Test.YtmdgmnaaopineaaSh1
import Derived.Test.YtmdgmnaaopineaaKeep
namespace Go.Proofs.Ytmdgmnaaopineaa
open Go.ChangeShapes Go.WideShapes Go.ChangeAt Go.RowKit
set_option linter.unusedVariables false
theorem own_down {w : World} {base base' : Nat} {e : TypeId} {size : Nat} {v : Value} {n : Nat} {xs : List Value} (h : w.ownsRow base e size v n xs) (hb : base' ≤ base) : w.ownsRow base' e size v n xs := by
  refine ⟨h.1, ?_⟩
  rcases h.2 with h0 | ⟨g, cap, cur, hv, hg, hr⟩
  · exact .inl h0
  · exact .inr ⟨g, cap, cur, hv, Nat.le_trans hb hg, hr⟩
def all (sets : List (List Nat)) (k : Nat) : List Nat := (sets.take k).flatten
theorem all_succ {sets : List (List Nat)} {k : Nat} {x : List Nat} (h : sets[k]? = some x) : all sets (k + 1) = all sets k ++ x := by
  unfold all
  rw [List.take_add_one, h]
  simp
theorem all_le (sets : List (List Nat)) (k : Nat) : (all sets k).length ≤ sets.flatten.length := by
  unfold all
  have h : sets.flatten = (sets.take k).flatten ++ (sets.drop k).flatten := by rw [← List.flatten_append, List.take_append_drop]
  rw [h, List.length_append]
  omega
theorem all_full {sets : List (List Nat)} {n : Nat} (h : sets.length = n) : all sets n = sets.flatten := by
  unfold all
  rw [List.take_of_length_le (by omega)]
def ConcIs (sets : List (List Nat)) (w : World) (e : Ending) (w' : World) : Prop :=
  ∃ (A : Option Addr) (c : Nat), e = .returned (.slice A sets.flatten.length c) ∧ w'.ownsRow w.heap.size 22 1 (.slice A sets.flatten.length c) sets.flatten.length (sets.flatten.map uv) ∧ Below w.heap.size w w'
set_option maxRecDepth 100000 in
set_option maxHeartbeats 4000000 in
theorem concat_any {D : Dom} {A : Option Addr} {n c : Nat} {sets : List (List Nat)} {w : World} (hs : (rpSlice rpU64).sl w D A n c sets) (hD : ∀ k, D k → k < w.heap.size) (hn : n ≤ 100) (hm : sets.flatten.length ≤ 1000) :
    Calls Try.prog 117 #[.slice A n c] w (ConcIs sets w) := by
  have HN := Lib.hid (Rp.sl_len hs).1
  have HS := Lib.hid (show Sl (rpSlice rpU64) w D A n c sets from ⟨hs, hD⟩)
  have HMX : Hid (∀ k, (all sets k).length ≤ 1000) := fun k => Nat.le_trans (all_le sets k) hm
  clear hs hD hm
  go_enter Try.func117, Try.ntmps117
  go_wp2_with fail
  go_loopw [3, 11] (fun vs vi wr => ∃ (k z : Nat), k ≤ n ∧ vi = .int .i64 k ∧ vs = .int .i64 z ∧ Hid (z = (all sets k).length) ∧ Hid (Below w.heap.size w wr)) (fun _ vi _ => n - (intOf vi).toNat)
  case atStart => exact ⟨0, 0, Nat.zero_le _, rfl, rfl, rfl, Below.refl _ _⟩
  case round =>
    obtain ⟨k, z, hkn', rfl, rfl, hz, hb⟩ := hrel
    have hz1000 : z ≤ 1000 := by rw [hz.out]; exact HMX.out k
    by_cases hkn : k < n
    case pos =>
      have hd : decide (k < n) = true := by simpa using hkn
      obtain ⟨b, off, x, A3, c3, rfl, hbD, hx, hcell, hrow⟩ := rows_at (keepS HS.out hb.out).1 hkn
      have HZ : Hid (z + x.length = (all sets (k + 1)).length) := by
        show z + x.length = _
        rw [all_succ hx, List.length_append, hz.out]
      have hzx : z + x.length ≤ 1000 := by rw [HZ.out]; exact HMX.out _
      have hw : IntKind.i64.wrap ((z : Int) + (x.length : Int)) = ((z + x.length : Nat) : Int) := by rw [IntWalk.i64_in _ (by omega)]; omega
      have hneg : decide (((z + x.length : Nat) : Int) < 0) = false := by simp; omega
      clear hrow hx hbD
      go_wp2_with fail
      go_roundw
      case rel => exact ⟨k + 1, z + x.length, hkn, by go_num, by go_num, HZ, hb⟩
      case measure => clear hw hneg; simp [intOf]; omega
    case neg =>
      have hd : decide (k < n) = false := by simpa using hkn
      obtain rfl : k = n := by omega
      have HG := Lib.hid (grow_nil (w := wr) hz1000)
      have HB := hb
      clear hb
      go_wp2_with fail
      refine HG.out.mono ?_; rintro e w1 ⟨A1, c1, rfl, ho, hb1⟩
      have HS1 := Lib.hid (keepS HS.out (stepB HB.out hb1))
      have HB1 := Lib.hid (stepB HB.out hb1)
      have HO1 := Lib.hid (own_down ho HB.out.size)
      clear ho hb1
      go_wp2_with fail
      go_loopw [6, 27] (fun vs vi wq => ∃ (j : Nat) (A2 : Option Addr) (c2 : Nat), j ≤ k ∧ vi = .int .i64 j ∧ vs = .slice A2 (all sets j).length c2 ∧ Hid (wq.ownsRow w.heap.size 22 1 (.slice A2 (all sets j).length c2) (all sets j).length ((all sets j).map uv)) ∧ Hid (Below w.heap.size w wq)) (fun _ vi _ => k - (intOf vi).toNat)
      case atStart => exact ⟨0, A1, c1, Nat.zero_le _, rfl, rfl, HO1.out, HB1.out⟩
      case round =>
        obtain ⟨j, A2, c2, hjn', rfl, rfl, hrow2, hb2⟩ := hrel
        obtain ⟨m, hm⟩ : ∃ m, m = (all sets j).length := ⟨_, rfl⟩
        rw [← hm] at hrow2
        rw [← hm]
        have hm1000 : m ≤ 1000 := by rw [hm]; exact HMX.out j
        have HM := Lib.hid hm
        clear hm
        by_cases hjk : j < k
        case pos =>
          have hd2 : decide (j < k) = true := by simpa using hjk
          obtain ⟨b, off, x, A3, c3, rfl, hbD, hx, hcell, hrow⟩ := rows_at (keepS HS.out hb2.out).1 hjk
          have HSR := Lib.hid (Src.u64 hrow)
          have HX := Lib.hid (all_succ hx)
          have hmx : m + x.length ≤ 1000 := by
            have h1 := HMX.out (j + 1)
            rw [HX.out, List.length_append, ← HM.out] at h1
            exact h1
          have hz2 := hb2.out.size
          clear hrow hx hbD
          go_wp2_with (at_builtin; refine wpList_app rfl (.tmp 31) (.tmp 32) _ rfl elemC8 rfl hrow2.out rfl HSR.out (by unfold maxLen; omega) (by omega) hz2 ?_; intro A4 c4 w4 ho4 hg4 hat4
                       have HO4 := Lib.hid ho4
                       have HG4 := Lib.hid hg4
                       clear ho4 hg4 hat4)
          go_roundw
          case rel =>
            have hl : (all sets (j + 1)).length = m + x.length := by rw [HX.out, List.length_append, HM.out]
            refine ⟨j + 1, A4, c4, hjk, by go_num, by rw [hl], ?_, hb2.out.grown HG4.out hz2 (fun q hq => (hrow2.out.lt q hq).1)⟩
            show w4.ownsRow _ _ _ _ _ _
            rw [hl, HX.out, List.map_append]
            exact HO4.out
          case measure => simp [intOf]; omega
        case neg =>
          have hd2 : decide (j < k) = false := by simpa using hjk
          obtain rfl : j = k := by omega
          have HF : Hid (all sets j = sets.flatten) := all_full HN.out
          go_wp2_with fail
          go_ret
          refine ⟨A2, c2, ?_, ?_, hb2.out⟩
          · rw [← HF.out, ← HM.out]; rfl
          · rw [← HF.out, ← HM.out]; exact hrow2.out
end Go.Proofs.Ytmdgmnaaopineaa
