/- Shares, all nodes, and which set has a node: in plain Lean. -/
import Derived.Test.YtmdgmnaaopineaaStpM
namespace Go.Proofs.Ytmdgmnaaopineaa
set_option linter.unusedVariables false
theorem flat_le {sets : List (List Nat)} {m : Nat} (h : ∀ l ∈ sets, l.length ≤ m) : sets.flatten.length ≤ sets.length * m := by
  induction sets with
  | nil => simp
  | cons l ls ih =>
    rw [List.flatten_cons, List.length_append, List.length_cons, Nat.succ_mul]
    have h1 := h l (List.mem_cons_self ..)
    have h2 := ih (fun x hx => h x (List.mem_cons_of_mem _ hx))
    omega
theorem sok_flat {f t : Nat} {sets : List (List Nat)} (h : SOk (f, t, sets)) : sets.flatten.length ≤ 64 := by
  have h1 : ∀ l ∈ sets, l.length ≤ 8 := fun l hl => by
    obtain ⟨i, hi⟩ := List.getElem?_of_mem hl
    exact (h.2.2.2.2 i l hi).2.1
  have h2 := flat_le h1
  have h3 : sets.length ≤ 8 := h.2.2.2.1
  have : sets.length * 8 ≤ 8 * 8 := Nat.mul_le_mul_right _ h3
  omega
theorem rises_lt {l : List Nat} (h : Rises l) : l.Pairwise (· < ·) := by
  rw [List.pairwise_iff_getElem]
  intro i j hi hj hij
  obtain ⟨d, rfl⟩ : ∃ d, j = i + d + 1 := ⟨j - i - 1, by omega⟩
  clear hij
  induction d with
  | zero => exact h i _ _ (List.getElem?_eq_getElem hi) (List.getElem?_eq_getElem hj)
  | succ d ih =>
    have h1 := ih (by omega)
    have h2 := h (i + d + 1) _ _ (List.getElem?_eq_getElem (by omega)) (List.getElem?_eq_getElem (show i + d + 1 + 1 < l.length by omega))
    exact Nat.lt_trans h1 h2
theorem sok_nodup {f t : Nat} {sets : List (List Nat)} (h : SOk (f, t, sets)) : sets.flatten.Nodup := by
  have hs := h.2.2.2.2
  show List.Pairwise (· ≠ ·) _
  rw [List.pairwise_flatten]
  refine ⟨fun l hl => ?_, ?_⟩
  · obtain ⟨i, hi⟩ := List.getElem?_of_mem hl
    exact (rises_lt (hs i l hi).2.2.1).imp (fun h => Nat.ne_of_lt h)
  · rw [List.pairwise_iff_getElem]
    intro i j hi hj hij x hx y hx2 hxy
    subst hxy
    exact (hs j _ (List.getElem?_eq_getElem hj)).2.2.2.2 i _ hij (List.getElem?_eq_getElem hi) x hx2 hx
theorem rises_sorted {l : List Nat} (h : l.Pairwise (· ≤ ·)) (hn : l.Nodup) : Rises l := by
  intro i a b ha hb
  have h1 : i + 1 < l.length := (List.getElem?_eq_some_iff.1 hb).1
  have ea := (List.getElem?_eq_some_iff.1 ha).2
  have eb := (List.getElem?_eq_some_iff.1 hb).2
  have h2 := List.pairwise_iff_getElem.1 h i (i + 1) (by omega) h1 (by omega)
  have h3 := List.pairwise_iff_getElem.1 hn i (i + 1) (by omega) h1 (by omega)
  rw [ea, eb] at h2 h3
  omega
/-- Which of the first k sets has x. -/
def AtSet (sets : List (List Nat)) (x k i : Nat) (q : Bool) : Prop :=
  (q = true → i < k ∧ ∃ l, sets[i]? = some l ∧ x ∈ l) ∧ (q = false → i = 0 ∧ ∀ (j : Nat) (l : List Nat), j < k → sets[j]? = some l → x ∉ l)
theorem atSet_zero (sets : List (List Nat)) (x : Nat) : AtSet sets x 0 0 false := ⟨fun h => (by cases h), fun _ => ⟨rfl, fun j l h => (by omega)⟩⟩
theorem atSet_yes {sets : List (List Nat)} {x k : Nat} {l : List Nat} (hl : sets[k]? = some l) (hx : x ∈ l) : AtSet sets x (k + 1) k true := ⟨fun _ => ⟨by omega, l, hl, hx⟩, fun h => (by cases h)⟩
theorem atSet_no {sets : List (List Nat)} {x k i : Nat} {q : Bool} {l : List Nat} (h : AtSet sets x k i q) (hl : sets[k]? = some l) (hx : x ∉ l) : AtSet sets x (k + 1) i q := by
  refine ⟨fun hq => ?_, fun hq => ?_⟩
  · obtain ⟨h1, h2⟩ := h.1 hq
    exact ⟨by omega, h2⟩
  · obtain ⟨h1, h2⟩ := h.2 hq
    refine ⟨h1, fun j o hj ho => ?_⟩
    rcases Nat.lt_or_ge j k with h3 | h3
    · exact h2 j o h3 ho
    · obtain rfl : j = k := by omega
      rw [hl] at ho
      injection ho with ho
      exact ho ▸ hx
theorem atSet_unique {f t x i j : Nat} {q r : Bool} {sets : List (List Nat)} (h : SOk (f, t, sets)) (h1 : AtSet sets x sets.length i q) (h2 : AtSet sets x sets.length j r) : i = j ∧ q = r := by
  have hs := h.2.2.2.2
  cases q <;> cases r
  · exact ⟨(h1.2 rfl).1.trans (h2.2 rfl).1.symm, rfl⟩
  · obtain ⟨a, l, b, c⟩ := h2.1 rfl
    exact absurd c ((h1.2 rfl).2 j l a b)
  · obtain ⟨a, l, b, c⟩ := h1.1 rfl
    exact absurd c ((h2.2 rfl).2 i l a b)
  · obtain ⟨a, l, b, c⟩ := h1.1 rfl
    obtain ⟨a', l', b', c'⟩ := h2.1 rfl
    refine ⟨?_, rfl⟩
    rcases Nat.lt_trichotomy i j with h3 | h3 | h3
    · exact absurd c ((hs j l' b').2.2.2.2 i l h3 b x c')
    · exact h3
    · exact absurd c' ((hs i l b).2.2.2.2 j l' h3 b' x c)
/-! ### The shares -/
theorem part_eq {m q r j : Nat} (hr : r < m) (hj : j < m) : (q * m + r + m - 1 - j) / m = q + (if j < r then 1 else 0) := by
  have hm : 0 < m := by omega
  split
  · have e : q * m + r + m - 1 - j = (r - 1 - j) + (q + 1) * m := by rw [Nat.succ_mul]; omega
    rw [e, Nat.add_mul_div_right _ _ hm, Nat.div_eq_of_lt (by omega)]; omega
  · have e : q * m + r + m - 1 - j = (r + m - 1 - j) + q * m := by omega
    rw [e, Nat.add_mul_div_right _ _ hm, Nat.div_eq_of_lt (by omega)]; omega
/-- The sum of the first k shares of a over m. -/
def sumTo (a m k : Nat) : Nat := k * (a / m) + min k (a % m)
theorem sumTo_succ {a m k : Nat} (hk : k < m) : sumTo a m (k + 1) = sumTo a m k + (a + m - 1 - k) / m := by
  have hm : 0 < m := by omega
  have e : a = a / m * m + a % m := by rw [Nat.mul_comm]; exact (Nat.div_add_mod a m).symm
  have h := part_eq (q := a / m) (Nat.mod_lt a hm) hk
  rw [← e] at h
  rw [h]
  unfold sumTo
  rw [Nat.succ_mul]
  split <;> omega
theorem sumTo_all {a m : Nat} (hm : 0 < m) : sumTo a m m = a := by
  unfold sumTo
  have := Nat.mod_lt a hm
  rw [Nat.min_eq_right (by omega)]
  exact Nat.div_add_mod a m
theorem sumTo_le {a m k : Nat} (hm : 0 < m) (hk : k ≤ m) : sumTo a m k ≤ a := by
  have h := sumTo_all (a := a) hm
  have h2 : k * (a / m) ≤ m * (a / m) := Nat.mul_le_mul_right _ hk
  unfold sumTo at h ⊢
  omega
theorem part_near {a m j : Nat} (hj : j < m) : a / m ≤ (a + m - 1 - j) / m ∧ (a + m - 1 - j) / m ≤ a / m + 1 := by
  have hm : 0 < m := by omega
  have e : a = a / m * m + a % m := by rw [Nat.mul_comm]; exact (Nat.div_add_mod a m).symm
  have h := part_eq (q := a / m) (Nat.mod_lt a hm) hj
  rw [← e] at h
  rw [h]
  split <;> omega
end Go.Proofs.Ytmdgmnaaopineaa
