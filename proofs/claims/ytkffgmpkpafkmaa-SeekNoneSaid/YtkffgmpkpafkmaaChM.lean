/- Places with the same four bytes. No walk. -/
import Derived.Laws.BitsAllLaws
import Derived.Test.YtkffgmpkpafkmaaCore
namespace Go.Proofs.Ytkffgmpkpafkmaa
set_option linter.unusedVariables false
def byt (l : List UInt8) (i : Nat) : Nat := ((l[i]?).getD 0).toNat
theorem byt_lt (l : List UInt8) (i : Nat) : byt l i < 256 := UInt8.toNat_lt _
def keyAt (l : List UInt8) (i : Nat) : Nat := byt l i + 256 * byt l (i + 1) + 65536 * byt l (i + 2) + 16777216 * byt l (i + 3)
theorem keyAt_lt (l : List UInt8) (i : Nat) : keyAt l i < 4294967296 := by
  have h0 := byt_lt l i
  have h1 := byt_lt l (i + 1)
  have h2 := byt_lt l (i + 2)
  have h3 := byt_lt l (i + 3)
  unfold keyAt
  omega
theorem keyAt_eq (l : List UInt8) (i k : Nat) : keyAt l i = keyAt l k ↔ byt l i = byt l k ∧ byt l (i + 1) = byt l (k + 1) ∧ byt l (i + 2) = byt l (k + 2) ∧ byt l (i + 3) = byt l (k + 3) := by
  have h0 := byt_lt l i
  have h1 := byt_lt l (i + 1)
  have h2 := byt_lt l (i + 2)
  have h3 := byt_lt l (i + 3)
  have g0 := byt_lt l k
  have g1 := byt_lt l (k + 1)
  have g2 := byt_lt l (k + 2)
  have g3 := byt_lt l (k + 3)
  unfold keyAt
  omega
/-- Does a place have the key x? -/
def hit (l : List UInt8) (x p : Nat) : Bool := decide (p + 4 ≤ l.length) && decide (keyAt l p = x)
theorem hit_iff {l : List UInt8} {x p : Nat} : hit l x p = true ↔ p + 4 ≤ l.length ∧ keyAt l p = x := by simp [hit]
/-- One more than the last place below n with the key x; or 0. -/
def lastOf (l : List UInt8) : Nat → Nat → Nat
  | 0, _ => 0
  | n + 1, x => if hit l x n = true then n + 1 else lastOf l n x
/-- The places below n with the key x, falling. -/
def down (l : List UInt8) : Nat → Nat → List Nat
  | 0, _ => []
  | n + 1, x => if hit l x n = true then n :: down l n x else down l n x
theorem lastOf_succ (l : List UInt8) (n x : Nat) : lastOf l (n + 1) x = if hit l x n = true then n + 1 else lastOf l n x := rfl
theorem down_succ (l : List UInt8) (n x : Nat) : down l (n + 1) x = if hit l x n = true then n :: down l n x else down l n x := rfl
theorem lastOf_le (l : List UInt8) (x : Nat) : ∀ n, lastOf l n x ≤ n
  | 0 => Nat.le_refl _
  | n + 1 => by
    rw [lastOf_succ]
    split
    · exact Nat.le_refl _
    · exact Nat.le_succ_of_le (lastOf_le l x n)
theorem down_last (l : List UInt8) (x : Nat) : ∀ n, (lastOf l n x = 0 ∧ down l n x = []) ∨ ∃ p, lastOf l n x = p + 1 ∧ p < n ∧ hit l x p = true ∧ down l n x = p :: down l p x
  | 0 => .inl ⟨rfl, rfl⟩
  | n + 1 => by
    rw [lastOf_succ, down_succ l n x]
    split
    · rename_i h; exact .inr ⟨n, rfl, by omega, h, rfl⟩
    · rcases down_last l x n with h | ⟨p, h1, h2, h3, h4⟩
      · exact .inl h
      · exact .inr ⟨p, h1, by omega, h3, h4⟩
theorem mem_down {l : List UInt8} {x p : Nat} : ∀ {n}, p ∈ down l n x ↔ p < n ∧ hit l x p = true
  | 0 => by simp [down]
  | n + 1 => by
    rw [down_succ]
    split
    · rename_i h
      rw [List.mem_cons, mem_down]
      constructor
      · rintro (rfl | ⟨h1, h2⟩)
        · exact ⟨by omega, h⟩
        · exact ⟨by omega, h2⟩
      · rintro ⟨h1, h2⟩
        by_cases hp : p = n
        · exact .inl hp
        · exact .inr ⟨by omega, h2⟩
    · rename_i h
      rw [mem_down]
      constructor
      · rintro ⟨h1, h2⟩; exact ⟨by omega, h2⟩
      · rintro ⟨h1, h2⟩
        by_cases hp : p = n
        · subst hp; exact absurd h2 h
        · exact ⟨by omega, h2⟩
theorem down_falls (l : List UInt8) (x : Nat) : ∀ n, (down l n x).Pairwise (fun a b => b < a)
  | 0 => List.Pairwise.nil
  | n + 1 => by
    rw [down_succ]
    split
    · exact List.Pairwise.cons (fun a ha => (mem_down.1 ha).1) (down_falls l x n)
    · exact down_falls l x n
theorem down_ahead (l : List UInt8) (x a : Nat) : ∀ n, (down l n x).filter (fun p => decide (p < a)) = down l (min a n) x
  | 0 => by simp [down]
  | n + 1 => by
    have ih := down_ahead l x a n
    by_cases h : n < a
    · rw [show min a (n + 1) = n + 1 by omega]
      rw [show min a n = n by omega] at ih
      rw [down_succ]
      split
      · rw [List.filter_cons, if_pos (by simpa using h), ih]
      · exact ih
    · rw [show min a (n + 1) = min a n by omega]
      rw [← ih]
      rw [down_succ]
      split
      · rw [List.filter_cons, if_neg (by simpa using h)]
      · rfl
theorem length_down (l : List UInt8) (x : Nat) : ∀ n, (down l n x).length ≤ n
  | 0 => Nat.le_refl _
  | n + 1 => by
    have := length_down l x n
    rw [down_succ]
    split
    · simp; omega
    · omega
/-- What stands in 'prev' at a place. -/
def prevOf (l : List UInt8) (i : Nat) : Nat := if i + 4 ≤ l.length then lastOf l i (keyAt l i) else 0
theorem prevOf_le (l : List UInt8) (i : Nat) : prevOf l i ≤ i := by
  unfold prevOf
  split
  · exact lastOf_le _ _ _
  · omega
def prevs (l : List UInt8) (n : Nat) : List Int := (List.range n).map fun i => (prevOf l i : Int)
theorem prevs_succ (l : List UInt8) (n : Nat) : prevs l (n + 1) = prevs l n ++ [(prevOf l n : Int)] := by simp [prevs, List.range_succ]
theorem prevs_length (l : List UInt8) (n : Nat) : (prevs l n).length = n := by simp [prevs]
theorem prevs_at {l : List UInt8} {n i : Nat} (h : i < n) : (prevs l n)[i]? = some (prevOf l i : Int) := by simp [prevs, h]
/-- How many keys there are below n. -/
def fresh (l : List UInt8) : Nat → Nat
  | 0 => 0
  | n + 1 => fresh l n + (if n + 4 ≤ l.length ∧ lastOf l n (keyAt l n) = 0 then 1 else 0)
theorem lastOf_zero {l : List UInt8} {x n : Nat} : lastOf l n x = 0 ↔ ∀ p, p < n → hit l x p = false := by
  rcases down_last l x n with ⟨h1, h2⟩ | ⟨p, h1, h2, h3, h4⟩
  · refine ⟨fun _ p hp => ?_, fun _ => h1⟩
    cases hh : hit l x p
    · rfl
    · have := mem_down.2 ⟨hp, hh⟩
      rw [h2] at this
      simp at this
  · refine ⟨fun h => by omega, fun h => ?_⟩
    rw [h p h2] at h3
    simp at h3
/-- Whether the same four bytes stand at two places. -/
noncomputable def sameAt (l : List UInt8) (i k : Int) : Bool := decide (0 ≤ i) && decide (0 ≤ k) && decide (i + 4 ≤ l.length) && decide (k + 4 ≤ l.length) && decide (keyAt l i.toNat = keyAt l k.toNat)
theorem sameAt_nat (l : List UInt8) (i k : Nat) : sameAt l (i : Int) (k : Int) = (decide (k + 4 ≤ l.length) && hit l (keyAt l k) i) := by
  unfold sameAt hit
  have h1 : decide ((0 : Int) ≤ (i : Int)) = true := by simp
  have h2 : decide ((0 : Int) ≤ (k : Int)) = true := by simp
  rw [h1, h2, Int.toNat_natCast, Int.toNat_natCast]
  by_cases a : i + 4 ≤ l.length <;> by_cases b : k + 4 ≤ l.length <;> simp [a, b] <;> omega
/-- An 'or' of parts that lie apart is their sum. -/
theorem or_apart (x y s : Nat) (hx : x < 2 ^ s) : x ||| (y * 2 ^ s) = x + y * 2 ^ s := by
  rw [Nat.mul_comm, Nat.or_comm, ← Nat.two_pow_add_eq_or_of_lt hx, Nat.add_comm]
end Go.Proofs.Ytkffgmpkpafkmaa
