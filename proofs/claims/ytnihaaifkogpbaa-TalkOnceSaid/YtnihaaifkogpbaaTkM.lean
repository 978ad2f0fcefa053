/- Messages, links and talks in plain words. No walk. -/
import Derived.Test.YtnihaaifkogpbaaPrj
import Derived.Test.YtnihaaifkogpbaaLkM
import Derived.Test.YtnihaaifkogpbaaTkKM
namespace Go.Proofs.Ytnihaaifkogpbaa
set_option linter.unusedVariables false
structure Ms where
  kd : Int
  ep : Nat
  sq : Nat
  ps : Nat
  ct : Int
  st : Int
  ss : List Nat
  ls : List Lnk
  dt : List UInt8
  se : Nat × Nat × Nat
  pr : Prj
/-! ### Messages -/
def SeOk (s : Nat × Nat × Nat) : Prop := EOk s.1 ∧ s.2.1 ≤ 4294967295 ∧ s.2.2 ≤ 4611686018427387904
def part (k p : Int) (right zero : Prop) : Prop := if Kd.has k p = true then right else zero
def mostS (k : Int) : Int := if k = 9 then 4 else 20
def Blocked (m : Ms) : Prop := m.kd = 2 ∨ (m.kd = 9 ∧ m.st = 1)
def BOk (m : Ms) : Prop :=
  Kd.right m.kd = true ∧ part m.kd 1 (PosOk m.ps) (m.ps = 0) ∧ part m.kd 2 (1 ≤ m.ct ∧ m.ct ≤ 65536) (m.ct = 0) ∧ part m.kd 4 (1 ≤ m.st ∧ m.st ≤ mostS m.kd) (m.st = 0) ∧
  part m.kd 8 (m.ss.length ≤ 16 ∧ Rises m.ss) (m.ss.length = 0) ∧ part m.kd 16 (LOk m.ps m.ls) (m.ls.length = 0) ∧ part m.kd 64 (SeOk m.se) (m.se = (0, 0, 0)) ∧
  part m.kd 128 (POk m.pr) (m.pr.1 = 0 ∧ m.pr.2.length = 0) ∧ (m.dt.length = 0 ∨ (Blocked m ∧ m.dt.length ≤ 1048576))
def MOk (m : Ms) : Prop := BOk m ∧ EOk m.ep
open Classical in
/-- Whether a message is an answer that fits another one, or why not. -/
noncomputable def fitsC (q a : Ms) : Int :=
  if ¬ (MOk q ∧ MOk a) then 3 else if Kd.ans q.kd a.kd = false then 7 else if q.sq ≠ a.sq then 13 else if a.kd ≠ 14 ∧ q.ep ≠ a.ep then 18 else if a.kd = 12 ∧ a.ls.map (·.1) ≠ q.ss then 16 else 0
theorem has32 : ∀ i : Fin 15, Kd.hasI i.val 32 = (i.val == 2 || i.val == 9) := by decide +kernel
end Go.Proofs.Ytnihaaifkogpbaa
