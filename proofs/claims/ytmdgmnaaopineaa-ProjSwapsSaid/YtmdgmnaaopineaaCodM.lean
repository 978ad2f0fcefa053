/- What reading a number does to a reader, whatever its fault; the reference's number from the front. No walk. -/
import Derived.Test.YtmdgmnaaopineaaVarM
import Derived.Test.YtmdgmnaaopineaaCur2
namespace Go.Proofs.Ytmdgmnaaopineaa
set_option linter.unusedVariables false
def OkF (f : Flt) : Prop := f = (0, 0) ∨ f.1 ≠ 0
theorem OkF.nil : OkF (0, 0) := .inl rfl
theorem OkF.fail {f : Flt} (h : OkF f) (c a : Int) : OkF (failF f c a) := by
  unfold failF OkF at *
  rcases h with rfl | h
  · rw [if_pos rfl]
    by_cases hc : c = 0
    · rw [if_pos hc]; exact .inl rfl
    · rw [if_neg hc]; exact .inr hc
  · rw [if_neg h]; exact .inr h
theorem OkF.eq {f : Flt} (h : OkF f) (h0 : f.1 = 0) : f = (0, 0) := h.resolve_right (fun e => e h0)
theorem vgo_ok (l : List UInt8) (p : Nat) : ∀ (k n x : Nat), OkF (vgo l p k n x).2.2
  | 0, n, x => .inl rfl
  | k + 1, n, x => by
    unfold vgo
    split
    · exact .inr (by simp)
    · split
      · exact .inr (by simp)
      · split
        · exact .inr (by simp)
        · split
          · exact vgo_ok l p k _ _
          · exact .inl rfl
theorem vgo_fail0 (l : List UInt8) (p : Nat) : ∀ (k n x : Nat), (vgo l p k n x).2.2.1 ≠ 0 → (vgo l p k n x).1 = 0
  | 0, n, x => fun h => absurd rfl h
  | k + 1, n, x => by
    intro h
    unfold vgo at h ⊢
    split
    · rfl
    · rename_i c hc
      rw [hc] at h
      simp only at h
      split
      · rfl
      · rename_i h1
        rw [if_neg h1] at h
        split
        · rfl
        · rename_i h2
          rw [if_neg h2] at h
          split
          · rename_i h3
            rw [if_pos h3] at h
            exact vgo_fail0 l p k _ _ h
          · rename_i h3
            rw [if_neg h3] at h
            exact absurd rfl h
def vrdF (l : List UInt8) (p : Nat) (f : Flt) : Nat × Nat × Flt := if f.1 = 0 then vrd l p else (0, p, f)
theorem vrdF_ok {l : List UInt8} {p : Nat} {f : Flt} (h : OkF f) : OkF (vrdF l p f).2.2 := by
  unfold vrdF
  split
  · exact vgo_ok l p 10 0 0
  · exact h
theorem vrdF_fail0 {l : List UInt8} {p : Nat} {f : Flt} (h : (vrdF l p f).2.2.1 ≠ 0) : (vrdF l p f).1 = 0 := by
  unfold vrdF at *
  split
  · rename_i h0
    rw [if_pos h0] at h
    exact vgo_fail0 l p 10 0 0 h
  · rfl
theorem vrdF_good {l : List UInt8} {p : Nat} {f : Flt} (h : f.1 = 0) : vrdF l p f = vrd l p := if_pos h
theorem vrdF_bad {l : List UInt8} {p : Nat} {f : Flt} (h : f.1 ≠ 0) : vrdF l p f = (0, p, f) := if_neg h
theorem vrd_lt (l : List UInt8) (p : Nat) : (vrd l p).1 < 18446744073709551616 := by
  rcases h : vrd l p with ⟨v, q, c, a⟩
  by_cases hc : c = 0
  · subst hc; exact (vrd_inv h).1
  · have := vgo_fail0 l p 10 0 0 (by show (vrd l p).2.2.1 ≠ 0; rw [h]; exact hc)
    have e : (vrd l p).1 = 0 := this
    rw [h] at e
    simp only at e
    omega
theorem vrdF_lt (l : List UInt8) (p : Nat) (f : Flt) : (vrdF l p f).1 < 18446744073709551616 := by
  unfold vrdF; split
  · exact vrd_lt l p
  · simp
/-- A number that may be so great at most. -/
def mostF (l : List UInt8) (p : Nat) (f : Flt) (m : Nat) : Nat × Nat × Flt := if m < (vrdF l p f).1 then (0, (vrdF l p f).2.1, failF (vrdF l p f).2.2 2 p) else vrdF l p f
/-- A number that must be as told. -/
def mustF (R : Nat → Bool) (l : List UInt8) (p : Nat) (f : Flt) : Nat × Nat × Flt :=
  if (vrdF l p f).2.2.1 = 0 then if R (vrdF l p f).1 then vrdF l p f else (0, (vrdF l p f).2.1, failF (vrdF l p f).2.2 3 p) else vrdF l p f
theorem mostF_ok {l : List UInt8} {p : Nat} {f : Flt} (m : Nat) (h : OkF f) : OkF (mostF l p f m).2.2 := by
  unfold mostF; split
  · exact (vrdF_ok h).fail _ _
  · exact vrdF_ok h
theorem mustF_ok {R : Nat → Bool} {l : List UInt8} {p : Nat} {f : Flt} (h : OkF f) : OkF (mustF R l p f).2.2 := by
  unfold mustF; split
  · split
    · exact vrdF_ok h
    · exact (vrdF_ok h).fail _ _
  · exact vrdF_ok h
/-- A number from the front, read from any place on. -/
theorem vgo_drop (l : List UInt8) (p : Nat) (hp : p ≤ l.length) : ∀ (k n x : Nat), p + n ≤ l.length →
    vgo l p k n x = ((vgo (l.drop p) 0 k n x).1, p + (vgo (l.drop p) 0 k n x).2.1, if (vgo (l.drop p) 0 k n x).2.2.1 = 0 then (0, 0) else if (vgo (l.drop p) 0 k n x).2.2.1 = 1 then (1, (l.length : Int)) else ((vgo (l.drop p) 0 k n x).2.2.1, (p : Int) + (vgo (l.drop p) 0 k n x).2.2.2)) ∧
    ((vgo (l.drop p) 0 k n x).2.2.1 = 1 → p + (vgo (l.drop p) 0 k n x).2.1 = l.length) ∧ ((vgo (l.drop p) 0 k n x).2.2.1 ≠ 0 → (vgo (l.drop p) 0 k n x).2.2.1 ≠ 1 → (vgo (l.drop p) 0 k n x).2.2.2 + 1 = (vgo (l.drop p) 0 k n x).2.1)
  | 0, n, x, h => by
    unfold vgo
    refine ⟨?_, fun h => absurd h (by simp), fun h => absurd rfl h⟩
    simp
  | k + 1, n, x, h => by
    have e : (l.drop p)[0 + n]? = l[p + n]? := by rw [List.getElem?_drop, Nat.zero_add]
    cases hc : l[p + n]? with
    | none =>
      rw [vgo_none hc, vgo_none (e.trans hc)]
      have := List.getElem?_eq_none_iff.1 hc
      refine ⟨by simp, fun _ => by simp only; omega, fun _ h => absurd rfl h⟩
    | some c =>
      have hlt := (List.getElem?_eq_some_iff.1 hc).1
      by_cases h9 : n = 9 ∧ 1 < c.toNat
      · rw [vgo_over hc h9.1 h9.2, vgo_over (e.trans hc) h9.1 h9.2]
        refine ⟨by simp; omega, fun h => absurd h (by simp), fun _ _ => by simp only; omega⟩
      · by_cases hz : c.toNat = 0 ∧ 0 < n
        · rw [vgo_zero hc h9 hz.1 hz.2, vgo_zero (e.trans hc) h9 hz.1 hz.2]
          refine ⟨by simp; omega, fun h => absurd h (by simp), fun _ _ => by simp only; omega⟩
        · by_cases hm : 128 ≤ c.toNat
          · rw [vgo_more hc h9 hm, vgo_more (e.trans hc) h9 hm]
            exact vgo_drop l p hp k (n + 1) _ (by omega)
          · rw [vgo_last hc h9 hz hm, vgo_last (e.trans hc) h9 hz hm]
            refine ⟨by simp; omega, fun h => absurd h (by simp), fun h => absurd rfl h⟩
/-- The number that the digits ahead of a place are. -/
def dsum (l : List UInt8) : Nat → Nat
  | 0 => 0
  | n + 1 => dsum l n + (l.getD n 0).toNat % 128 * 128 ^ n
theorem dsum_lt (l : List UInt8) : ∀ n, dsum l n < 128 ^ n
  | 0 => by simp [dsum]
  | n + 1 => by
    have h := dsum_lt l n
    have : (l.getD n 0).toNat % 128 * 128 ^ n ≤ 127 * 128 ^ n := Nat.mul_le_mul_right _ (by omega)
    rw [Nat.pow_succ]
    unfold dsum
    omega
end Go.Proofs.Ytmdgmnaaopineaa
