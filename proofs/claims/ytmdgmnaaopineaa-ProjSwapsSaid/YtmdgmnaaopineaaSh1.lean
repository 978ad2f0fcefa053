/- slices.Grow of the nil slice; slices.Concat of sets. -/
import Derived.Test.YtmdgmnaaopineaaStp3
import Derived.Test.YtmdgmnaaopineaaU64
import Derived.Lib.AppendZeros
import Derived.Lib.SliceRun
namespace Go.Proofs.Ytmdgmnaaopineaa
open Go.ChangeShapes Go.WideShapes Go.ChangeAt Go.RowKit
set_option linter.unusedVariables false
theorem elemC8 : Elem Try.prog 46 22 1 8 := Elem.of (z := .int .u64 0) Try.underlying46 (by kernel_rfl) rfl (by decide)
/-- An empty row with room. -/
def GrownIs (w : World) (e : Ending) (w' : World) : Prop :=
  ∃ (A : Option Addr) (c : Nat), e = .returned (.slice A 0 c) ∧ w'.ownsRow w.heap.size 22 1 (.slice A 0 c) 0 [] ∧ Below w.heap.size w w'
theorem app_make {w : World} {n : Nat} (ty : TypeId) (h0 : 0 < n) (hn : n ≤ 1000) : ∃ G, n ≤ G ∧ (Builtin.append_ #[46, 3] ty #[.slice none 0 0, .int .i64 (n : Int)]).run Try.prog w =
      .ok (.slice (some ⟨w.heap.size, 0, none⟩) n G) (w.drew.alloc (.cells (Builtin.zeroCells #[.int .u64 0] n ++ Builtin.zeroCells #[.int .u64 0] (G - n)) 22)) ∧ G ≤ maxLen := by
  obtain ⟨ht, ⟨i, z, hi, hz, hsize, hby, hzs⟩, hs⟩ := elemC8
  have hz0 : z = .int .u64 0 := by
    have h : (Try.prog.info? 22).map (fun i => i.zero) = some (some (.int .u64 0)) := by kernel_rfl
    rw [hi] at h
    simp only [Option.map_some, Option.some.injEq] at h
    rw [hz] at h
    injection h with h
  subst hz0
  have h := Lib.run_append_nil_zeros w 46 3 ty 22 i _ .i64 .i64 ht Try.underlying3 hi hz n h0 (by omega) (by omega) (by rw [hby]; omega)
  exact ⟨_, grownCap_ge w n 0 22, h, grownCap_le_maxLen w n 0 22 (by unfold maxLen; omega)⟩
set_option maxRecDepth 100000 in
set_option maxHeartbeats 1000000 in
theorem grow_nil {n : Nat} {w : World} (hn : n ≤ 1000) : Calls Try.prog 142 #[.slice none 0 0, .int .i64 (n : Int)] w (GrownIs w) := by
  by_cases h0 : n = 0
  · subst h0
    go_enter Try.func142, Try.ntmps142
    go_wp2_with fail
    go_ret
    exact ⟨none, 0, rfl, World.ownsRow_nil _ _ _ _, Below.refl _ _⟩
  · have HA := Lib.hid (fun ty => app_make (w := w) (n := n) ty (by omega) hn)
    have hd : decide ((n : Int) < 0) = false := by simp
    have hd2 : decide ((0 : Int) < (n : Int)) = true := by simp; omega
    have hw : IntKind.i64.wrap (n : Int) = (n : Int) := IntWalk.i64_in _ (by omega)
    have hnI : ¬ ((n : Int) < 0) := by omega
    go_enter Try.func142, Try.ntmps142
    obtain ⟨G, hG, hr, hm⟩ := HA.out 46
    have HR := Lib.hid hr
    have HM := Lib.hid hm
    have hz : (Builtin.zeroCells #[.int .u64 0] n ++ Builtin.zeroCells #[.int .u64 0] (G - n)).size = G * 1 := by
      rw [Array.size_append, size_zeroCells, size_zeroCells]; show n * 1 + (G - n) * 1 = _; omega
    have HO := Lib.hid (World.ownsRow_made (e := 22) (size := 1) (base := w.heap.size) w.drew _ G (Nat.le_refl _) hm hz)
    have HB := Lib.hid (((Below.refl w.heap.size w).drew).alloc (Nat.le_refl _) (.cells (Builtin.zeroCells #[.int .u64 0] n ++ Builtin.zeroCells #[.int .u64 0] (G - n)) 22))
    have hGI : (0 : Int) ≤ (G : Int) := by omega
    unfold maxLen at hm
    clear hr hz
    go_wp2_with (at_builtin; refine Lib.wpList_append_run _ rfl _ _ _ _ rfl _ _ rfl rfl _ _ HR.out ?_; generalize Builtin.zeroCells #[.int .u64 0] n ++ Builtin.zeroCells #[.int .u64 0] (G - n) = Z at *)
    go_ret
    exact ⟨_, _, rfl, HO.out, HB.out⟩
end Go.Proofs.Ytmdgmnaaopineaa
