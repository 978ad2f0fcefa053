/- How long matches are; the best one. No walk. -/
import Derived.Test.YtkffgmpkpafkmaaCore
namespace Go.Proofs.Ytkffgmpkpafkmaa
set_option linter.unusedVariables false
def lcp : List UInt8 → List UInt8 → Nat
  | x :: xs, y :: ys => if x = y then lcp xs ys + 1 else 0
  | _, _ => 0
theorem lcp_le : ∀ X Y : List UInt8, lcp X Y ≤ X.length ∧ lcp X Y ≤ Y.length
  | [], Y => by simp [lcp]
  | x :: xs, [] => by simp [lcp]
  | x :: xs, y :: ys => by
    have := lcp_le xs ys
    unfold lcp
    split <;> simp <;> omega
theorem lcp_eq : ∀ (n : Nat) (X Y : List UInt8), n ≤ X.length → n ≤ Y.length → (∀ k, k < n → X[k]? = Y[k]?) → (n = X.length ∨ n = Y.length ∨ X[n]? ≠ Y[n]?) → lcp X Y = n
  | 0, [], Y, _, _, _, _ => by simp [lcp]
  | 0, x :: xs, [], _, _, _, _ => by simp [lcp]
  | 0, x :: xs, y :: ys, _, _, _, h => by
    rcases h with h | h | h
    · simp at h
    · simp at h
    · unfold lcp
      rw [if_neg (fun e => h (by simp [e]))]
  | n + 1, [], Y, h, _, _, _ => by simp at h
  | n + 1, x :: xs, [], _, h, _, _ => by simp at h
  | n + 1, x :: xs, y :: ys, h1, h2, h3, h4 => by
    have h0 := h3 0 (by omega)
    simp at h0
    unfold lcp
    rw [if_pos h0, lcp_eq n xs ys (by simpa using h1) (by simpa using h2) (fun k hk => by simpa using h3 (k + 1) (by omega)) ?_]
    rcases h4 with h | h | h
    · left; simpa using h
    · right; left; simpa using h
    · right; right; simpa using h
theorem lcp_at : ∀ (X Y : List UInt8) (k : Nat), k < lcp X Y → X[k]? = Y[k]?
  | [], Y, k, h => by simp [lcp] at h
  | x :: xs, [], k, h => by simp [lcp] at h
  | x :: xs, y :: ys, k, h => by
    unfold lcp at h
    split at h
    · rename_i e
      cases k with
      | zero => simp [e]
      | succ k => simpa using lcp_at xs ys k (by omega)
    · omega
theorem lcp_end : ∀ (X Y : List UInt8), lcp X Y < X.length → lcp X Y < Y.length → X[lcp X Y]? ≠ Y[lcp X Y]?
  | [], Y, h, _ => by simp at h
  | x :: xs, [], _, h => by simp at h
  | x :: xs, y :: ys, h1, h2 => by
    unfold lcp at h1 h2 ⊢
    split at h1
    · rename_i e
      rw [if_pos e] at h2
      simp only [if_pos e]
      simpa using lcp_end xs ys (by simpa using h1) (by simpa using h2)
    · rename_i e
      simp only [if_neg e]
      simpa using e
/-- How many bytes match at an offset. -/
def mlen (l : List UInt8) (a o : Nat) : Nat := lcp (l.drop a) (l.drop (a - o))
theorem mlen_le (l : List UInt8) (a o : Nat) : mlen l a o ≤ l.length - a := by
  have := (lcp_le (l.drop a) (l.drop (a - o))).1
  simpa [mlen] using this
theorem mlen_eq {l : List UInt8} {a o n : Nat} (h : a + n ≤ l.length) (hs : ∀ k, k < n → l[a + k]? = l[a + k - o]?) (ho : o ≤ a) (he : a + n = l.length ∨ l[a + n]? ≠ l[a + n - o]?) : mlen l a o = n := by
  unfold mlen
  refine lcp_eq n _ _ (by simp; omega) (by simp; omega) (fun k hk => ?_) ?_
  · rw [List.getElem?_drop, List.getElem?_drop, hs k hk]; congr 1; omega
  · rcases he with h | h
    · left; simp; omega
    · right; right
      rw [List.getElem?_drop, List.getElem?_drop, show a - o + n = a + n - o by omega]; exact h
theorem mlen_at {l : List UInt8} {a o k : Nat} (ho : o ≤ a) (h : k < mlen l a o) : l[a + k]? = l[a + k - o]? := by
  have := lcp_at _ _ k h
  rw [List.getElem?_drop, List.getElem?_drop, show a - o + k = a + k - o by omega] at this
  exact this
theorem mlen_end {l : List UInt8} {a o : Nat} (ho : o ≤ a) (h : a + mlen l a o < l.length) : l[a + mlen l a o]? ≠ l[a + mlen l a o - o]? := by
  have h1 : mlen l a o < (l.drop a).length := by simp; omega
  have h2 : mlen l a o < (l.drop (a - o)).length := by simp; omega
  have := lcp_end _ _ h1 h2
  unfold mlen at *
  rw [List.getElem?_drop, List.getElem?_drop, show a - o + lcp (l.drop a) (l.drop (a - o)) = a + lcp (l.drop a) (l.drop (a - o)) - o by omega] at this
  exact this
/-- A match goes on at the next place, one byte less. -/
theorem mlen_next {l : List UInt8} {a o : Nat} (ho : o ≤ a) (h : 0 < mlen l a o) : mlen l (a + 1) o = mlen l a o - 1 := by
  have hle := mlen_le l a o
  refine mlen_eq (by omega) (fun k hk => ?_) (by omega) ?_
  · have := mlen_at (l := l) (a := a) (o := o) (k := k + 1) ho (by omega)
    rw [show a + 1 + k = a + (k + 1) by omega]; exact this
  · rw [show a + 1 + (mlen l a o - 1) = a + mlen l a o by omega]
    by_cases he : a + mlen l a o = l.length
    · exact .inl he
    · exact .inr (mlen_end ho (by omega))
/-- Match, of any numbers. -/
def mat (l : List UInt8) (a o : Int) : Nat := if 0 ≤ a ∧ a < l.length ∧ 1 ≤ o ∧ o ≤ a then mlen l a.toNat o.toNat else 0
theorem mat_le (l : List UInt8) (a o : Int) : mat l a o ≤ l.length := by
  unfold mat
  split
  · have := mlen_le l a.toNat o.toNat; omega
  · omega
theorem mat_nat {l : List UInt8} {a o : Nat} (ha : a < l.length) (h1 : 1 ≤ o) (h2 : o ≤ a) : mat l (a : Int) (o : Int) = mlen l a o := by
  unfold mat
  rw [if_pos ⟨by omega, by omega, by omega, by omega⟩, Int.toNat_natCast, Int.toNat_natCast]
/-- The best of the offsets up to k: the offset, how long. -/
def bst (l : List UInt8) (a : Nat) : Nat → Nat × Nat
  | 0 => (0, 0)
  | k + 1 => if (bst l a k).2 < mlen l a (k + 1) then (k + 1, mlen l a (k + 1)) else bst l a k
theorem bst_succ (l : List UInt8) (a k : Nat) : bst l a (k + 1) = if (bst l a k).2 < mlen l a (k + 1) then (k + 1, mlen l a (k + 1)) else bst l a k := rfl
theorem bst_fst (l : List UInt8) (a : Nat) : ∀ k, (bst l a k).1 ≤ k
  | 0 => Nat.le_refl _
  | k + 1 => by
    rw [bst_succ]
    split
    · exact Nat.le_refl _
    · exact Nat.le_succ_of_le (bst_fst l a k)
theorem bst_val (l : List UInt8) (a : Nat) : ∀ k, ((bst l a k).2 = 0 ∧ (bst l a k).1 = 0) ∨ (0 < (bst l a k).2 ∧ 1 ≤ (bst l a k).1 ∧ (bst l a k).2 = mlen l a (bst l a k).1)
  | 0 => .inl ⟨rfl, rfl⟩
  | k + 1 => by
    rw [bst_succ]
    split
    · rename_i h; exact .inr ⟨by show 0 < mlen l a (k + 1); omega, by show 1 ≤ k + 1; omega, rfl⟩
    · exact bst_val l a k
theorem bst_le (l : List UInt8) (a : Nat) : ∀ k o, 1 ≤ o → o ≤ k → mlen l a o ≤ (bst l a k).2
  | 0, o, h1, h2 => by omega
  | k + 1, o, h1, h2 => by
    rw [bst_succ]
    by_cases e : o = k + 1
    · subst e
      split
      · exact Nat.le_refl _
      · omega
    · have := bst_le l a k o h1 (by omega)
      split
      · show _ ≤ mlen l a (k + 1); omega
      · exact this
theorem bst_first (l : List UInt8) (a : Nat) : ∀ k o, 1 ≤ o → o < (bst l a k).1 → mlen l a o < (bst l a k).2
  | 0, o, h1, h2 => by simp [bst] at h2
  | k + 1, o, h1, h2 => by
    rw [bst_succ] at h2 ⊢
    split at h2
    · rename_i h
      simp only [if_pos h]
      have := bst_le l a k o h1 (by simp at h2; omega)
      omega
    · rename_i h
      rw [if_neg h]
      exact bst_first l a k o h1 h2
def top (l : List UInt8) (a : Int) : Nat × Nat := if 0 ≤ a ∧ a < l.length then bst l a.toNat (min a.toNat 65536) else (0, 0)
/-- The best match, if it is long enough. -/
def tk (p : Nat × Nat) : Nat × Nat := if p.2 < 4 then (0, 0) else p
theorem tk_snd (p : Nat × Nat) : ((tk p).2 = 0 ∧ (tk p).1 = 0 ∧ p.2 < 4) ∨ (4 ≤ p.2 ∧ tk p = p) := by
  unfold tk
  split
  · exact .inl ⟨rfl, rfl, by assumption⟩
  · exact .inr ⟨by omega, rfl⟩
end Go.Proofs.Ytkffgmpkpafkmaa
