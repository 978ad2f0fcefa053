/- Links in plain words: falling lists, streams that rise. No walk. -/
import Derived.WalkKit
namespace Go.Proofs.Ytnihaaifkogpbaa
set_option linter.unusedVariables false
abbrev Lnk := Nat × List Nat
/-! ### Falling lists -/
def prevOf (below : Nat) (l : List Nat) : Nat → Nat
  | 0 => below
  | i + 1 => l.getD i 0
def FallTo (below : Nat) (l : List Nat) (k : Nat) : Prop := ∀ (i a : Nat), i < k → l[i]? = some a → a < prevOf below l i
def Fall (below : Nat) (l : List Nat) : Prop := FallTo below l l.length
theorem fallTo_zero (below : Nat) (l : List Nat) : FallTo below l 0 := fun i a h => absurd h (Nat.not_lt_zero _)
theorem fallTo_succ {below : Nat} {l : List Nat} {k a : Nat} (ha : l[k]? = some a) : FallTo below l (k + 1) ↔ FallTo below l k ∧ a < prevOf below l k := by
  constructor
  · intro h
    exact ⟨fun i b hi hb => h i b (by omega) hb, h k a (by omega) ha⟩
  · rintro ⟨h1, h2⟩ i b hi hb
    rcases Nat.lt_or_ge i k with h | h
    · exact h1 i b h hb
    · obtain rfl : i = k := by omega
      rw [ha] at hb
      injection hb with hb
      exact hb ▸ h2
theorem fall_of {below : Nat} {l : List Nat} {k : Nat} (h : Fall below l) : FallTo below l k := fun i a _ ha => h i a (List.getElem?_eq_some_iff.1 ha).1 ha
theorem prevOf_succ {below : Nat} {l : List Nat} {k a : Nat} (ha : l[k]? = some a) : prevOf below l (k + 1) = a := by
  show l.getD k 0 = a
  rw [List.getD_eq_getElem?_getD, ha]; rfl
/-! ### Links -/
def UpTo (l : List Lnk) (k : Nat) : Prop := ∀ (i : Nat) (a b : Lnk), i + 1 < k → l[i]? = some a → l[i + 1]? = some b → a.1 < b.1
theorem upTo_one (l : List Lnk) {k : Nat} (hk : k ≤ 1) : UpTo l k := fun i a b h => by omega
theorem upTo_succ {l : List Lnk} {k : Nat} {a b : Lnk} (ha : l[k]? = some a) (hb : l[k + 1]? = some b) : UpTo l (k + 2) ↔ UpTo l (k + 1) ∧ a.1 < b.1 := by
  constructor
  · intro h
    exact ⟨fun i x y hi hx hy => h i x y (by omega) hx hy, h k a b (by omega) ha hb⟩
  · rintro ⟨h1, h2⟩ i x y hi hx hy
    rcases Nat.lt_or_ge i k with h | h
    · exact h1 i x y (by omega) hx hy
    · obtain rfl : i = k := by omega
      rw [ha] at hx
      rw [hb] at hy
      injection hx with hx
      injection hy with hy
      subst hx; subst hy
      exact h2
def LnkGood (pos : Nat) (x : Lnk) : Prop := x.2.length ≤ 4 ∧ Fall pos x.2
def AllTo (P : Lnk → Prop) (l : List Lnk) (k : Nat) : Prop := ∀ (i : Nat) x, i < k → l[i]? = some x → P x
theorem allTo_zero (P : Lnk → Prop) (l : List Lnk) : AllTo P l 0 := fun i x h => absurd h (Nat.not_lt_zero _)
theorem allTo_succ {P : Lnk → Prop} {l : List Lnk} {k : Nat} {x : Lnk} (hx : l[k]? = some x) : AllTo P l (k + 1) ↔ AllTo P l k ∧ P x := by
  constructor
  · intro h
    exact ⟨fun i y hi hy => h i y (by omega) hy, h k x (by omega) hx⟩
  · rintro ⟨h1, h2⟩ i y hi hy
    rcases Nat.lt_or_ge i k with h | h
    · exact h1 i y h hy
    · obtain rfl : i = k := by omega
      rw [hx] at hy
      injection hy with hy
      exact hy ▸ h2
def LOk (pos : Nat) (l : List Lnk) : Prop := l.length ≤ 16 ∧ UpTo l l.length ∧ AllTo (LnkGood pos) l l.length
end Go.Proofs.Ytnihaaifkogpbaa
