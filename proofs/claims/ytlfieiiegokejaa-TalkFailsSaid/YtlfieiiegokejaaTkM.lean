/- Messages, links and talks in plain words. No walk. -/
import Derived.Test.YtlfieiiegokejaaPrj
import Derived.Test.YtlfieiiegokejaaTkKM
namespace Go.Proofs.Ytlfieiiegokejaa
set_option linter.unusedVariables false
abbrev Lnk := Nat × List Nat
structure Ms where
  kd : Int
  ep : Nat
  sq : Nat
  ps : Nat
  ct : Int
  st : Int
  ss : List Nat
  ls : List Lnk
  dt : List UInt8
  se : Nat × Nat × Nat
  pr : Prj
/-! ### Falling lists -/
def prevOf (below : Nat) (l : List Nat) : Nat → Nat
  | 0 => below
  | i + 1 => l.getD i 0
def FallTo (below : Nat) (l : List Nat) (k : Nat) : Prop := ∀ (i a : Nat), i < k → l[i]? = some a → a < prevOf below l i
def Fall (below : Nat) (l : List Nat) : Prop := FallTo below l l.length
theorem fallTo_zero (below : Nat) (l : List Nat) : FallTo below l 0 := fun i a h => absurd h (Nat.not_lt_zero _)
theorem fallTo_succ {below : Nat} {l : List Nat} {k a : Nat} (ha : l[k]? = some a) : FallTo below l (k + 1) ↔ FallTo below l k ∧ a < prevOf below l k := by
  constructor
  · intro h
    exact ⟨fun i b hi hb => h i b (by omega) hb, h k a (by omega) ha⟩
  · rintro ⟨h1, h2⟩ i b hi hb
    rcases Nat.lt_or_ge i k with h | h
    · exact h1 i b h hb
    · obtain rfl : i = k := by omega
      rw [ha] at hb
      injection hb with hb
      exact hb ▸ h2
theorem fall_of {below : Nat} {l : List Nat} {k : Nat} (h : Fall below l) : FallTo below l k := fun i a _ ha => h i a (List.getElem?_eq_some_iff.1 ha).1 ha
theorem prevOf_succ {below : Nat} {l : List Nat} {k a : Nat} (ha : l[k]? = some a) : prevOf below l (k + 1) = a := by
  show l.getD k 0 = a
  rw [List.getD_eq_getElem?_getD, ha]; rfl
/-! ### Links -/
def UpTo (l : List Lnk) (k : Nat) : Prop := ∀ (i : Nat) (a b : Lnk), i + 1 < k → l[i]? = some a → l[i + 1]? = some b → a.1 < b.1
theorem upTo_one (l : List Lnk) {k : Nat} (hk : k ≤ 1) : UpTo l k := fun i a b h => by omega
theorem upTo_succ {l : List Lnk} {k : Nat} {a b : Lnk} (ha : l[k]? = some a) (hb : l[k + 1]? = some b) : UpTo l (k + 2) ↔ UpTo l (k + 1) ∧ a.1 < b.1 := by
  constructor
  · intro h
    exact ⟨fun i x y hi hx hy => h i x y (by omega) hx hy, h k a b (by omega) ha hb⟩
  · rintro ⟨h1, h2⟩ i x y hi hx hy
    rcases Nat.lt_or_ge i k with h | h
    · exact h1 i x y (by omega) hx hy
    · obtain rfl : i = k := by omega
      rw [ha] at hx
      rw [hb] at hy
      injection hx with hx
      injection hy with hy
      subst hx; subst hy
      exact h2
def LnkGood (pos : Nat) (x : Lnk) : Prop := x.2.length ≤ 4 ∧ Fall pos x.2
def AllTo (P : Lnk → Prop) (l : List Lnk) (k : Nat) : Prop := ∀ (i : Nat) x, i < k → l[i]? = some x → P x
theorem allTo_zero (P : Lnk → Prop) (l : List Lnk) : AllTo P l 0 := fun i x h => absurd h (Nat.not_lt_zero _)
theorem allTo_succ {P : Lnk → Prop} {l : List Lnk} {k : Nat} {x : Lnk} (hx : l[k]? = some x) : AllTo P l (k + 1) ↔ AllTo P l k ∧ P x := by
  constructor
  · intro h
    exact ⟨fun i y hi hy => h i y (by omega) hy, h k x (by omega) hx⟩
  · rintro ⟨h1, h2⟩ i y hi hy
    rcases Nat.lt_or_ge i k with h | h
    · exact h1 i y h hy
    · obtain rfl : i = k := by omega
      rw [hx] at hy
      injection hy with hy
      exact hy ▸ h2
def LOk (pos : Nat) (l : List Lnk) : Prop := l.length ≤ 16 ∧ UpTo l l.length ∧ AllTo (LnkGood pos) l l.length
/-! ### Messages -/
def SeOk (s : Nat × Nat × Nat) : Prop := EOk s.1 ∧ s.2.1 ≤ 4294967295 ∧ s.2.2 ≤ 4611686018427387904
def part (k p : Int) (right zero : Prop) : Prop := if Kd.has k p = true then right else zero
def mostS (k : Int) : Int := if k = 9 then 4 else 20
def Blocked (m : Ms) : Prop := m.kd = 2 ∨ (m.kd = 9 ∧ m.st = 1)
def BOk (m : Ms) : Prop :=
  Kd.right m.kd = true ∧ part m.kd 1 (PosOk m.ps) (m.ps = 0) ∧ part m.kd 2 (1 ≤ m.ct ∧ m.ct ≤ 65536) (m.ct = 0) ∧ part m.kd 4 (1 ≤ m.st ∧ m.st ≤ mostS m.kd) (m.st = 0) ∧
  part m.kd 8 (m.ss.length ≤ 16 ∧ Rises m.ss) (m.ss.length = 0) ∧ part m.kd 16 (LOk m.ps m.ls) (m.ls.length = 0) ∧ part m.kd 64 (SeOk m.se) (m.se = (0, 0, 0)) ∧
  part m.kd 128 (POk m.pr) (m.pr.1 = 0 ∧ m.pr.2.length = 0) ∧ (m.dt.length = 0 ∨ (Blocked m ∧ m.dt.length ≤ 1048576))
def MOk (m : Ms) : Prop := BOk m ∧ EOk m.ep
open Classical in
/-- Whether a message is an answer that fits another one, or why not. -/
noncomputable def fitsC (q a : Ms) : Int :=
  if ¬ (MOk q ∧ MOk a) then 3 else if Kd.ans q.kd a.kd = false then 7 else if q.sq ≠ a.sq then 13 else if a.kd ≠ 14 ∧ q.ep ≠ a.ep then 18 else if a.kd = 12 ∧ a.ls.map (·.1) ≠ q.ss then 16 else 0
theorem has32 : ∀ i : Fin 15, Kd.hasI i.val 32 = (i.val == 2 || i.val == 9) := by decide +kernel
end Go.Proofs.Ytlfieiiegokejaa
