/- What the readers of numbers give, forward and back; bytes that stand at a place. No walk. -/
import Derived.Test.YtmdgmnaaopineaaCodM
namespace Go.Proofs.Ytmdgmnaaopineaa
set_option linter.unusedVariables false
/-- The bytes bs stand in l from p on. -/
def Stands (l : List UInt8) (p : Nat) (bs : List UInt8) : Prop := ∀ j u, bs[j]? = some u → l[p + j]? = some u
theorem Stands.nil (l : List UInt8) (p : Nat) : Stands l p [] := fun j u h => by simp at h
theorem stands_append {l a b : List UInt8} {p : Nat} : Stands l p (a ++ b) ↔ Stands l p a ∧ Stands l (p + a.length) b := by
  constructor
  · intro h
    refine ⟨fun j u hu => h j u ?_, fun j u hu => ?_⟩
    · rw [List.getElem?_append_left (List.getElem?_eq_some_iff.1 hu).1]; exact hu
    · have := h (a.length + j) u (by rw [List.getElem?_append_right (by omega)]; simpa using hu)
      rw [Nat.add_assoc]; exact this
  · rintro ⟨h1, h2⟩ j u hu
    by_cases hj : j < a.length
    · exact h1 j u (by rwa [List.getElem?_append_left hj] at hu)
    · rw [List.getElem?_append_right (by omega)] at hu
      have := h2 (j - a.length) u hu
      rw [show p + a.length + (j - a.length) = p + j by omega] at this
      exact this
theorem Stands.front (a b : List UInt8) : Stands (a ++ b) 0 a := fun j u h => by
  rw [Nat.zero_add, List.getElem?_append_left (List.getElem?_eq_some_iff.1 h).1]; exact h
theorem Stands.le {l bs : List UInt8} {p : Nat} (h : Stands l p bs) (hb : 0 < bs.length) : p + bs.length ≤ l.length := by
  have := h (bs.length - 1) (bs[bs.length - 1]'(by omega)) (List.getElem?_eq_getElem (by omega))
  have := (List.getElem?_eq_some_iff.1 this).1
  omega
theorem Stands.eq {l bs : List UInt8} {p q : Nat} (h : Stands l p bs) (hq : q = p + bs.length) (hl : q ≤ l.length) : (l.take q).drop p = bs := by
  apply List.ext_getElem?
  intro j
  rw [List.getElem?_drop, List.getElem?_take]
  by_cases hj : j < bs.length
  · rw [if_pos (by omega), List.getElem?_eq_getElem hj]
    exact h j _ (List.getElem?_eq_getElem hj)
  · rw [if_neg (by omega), List.getElem?_eq_none (by omega)]
theorem Stands.eq0 {l bs : List UInt8} (h : Stands l 0 bs) (hl : bs.length ≤ l.length) : l.take bs.length = bs := by
  have := h.eq (q := bs.length) (by omega) hl
  simpa using this

theorem vrdF_fault {l : List UInt8} {p : Nat} {f : Flt} (h : (vrdF l p f).2.2.1 = 0) : f.1 = 0 := by
  by_cases h0 : f.1 = 0
  · exact h0
  · rw [vrdF_bad h0] at h; exact absurd h h0
theorem failF_bad {f : Flt} {c a : Int} (hc : c ≠ 0) : (failF f c a).1 ≠ 0 := by
  unfold failF
  split
  · exact hc
  · assumption
/-- **A number that was read.** -/
theorem vrdF_inv {l : List UInt8} {p : Nat} {f : Flt} (h : (vrdF l p f).2.2.1 = 0) : f.1 = 0 ∧ (vrdF l p f).1 < 18446744073709551616 ∧ (vrdF l p f).2.1 = p + (vbytes (vrdF l p f).1).length ∧ (vrdF l p f).2.1 ≤ l.length ∧ Stands l p (vbytes (vrdF l p f).1) := by
  have h0 := vrdF_fault h
  refine ⟨h0, ?_⟩
  rw [vrdF_good h0] at h ⊢
  rcases hv : vrd l p with ⟨v, q, c, a⟩
  rw [hv] at h
  simp only at h
  subst h
  exact vrd_inv hv
theorem mostF_inv {l : List UInt8} {p m : Nat} {f : Flt} (h : (mostF l p f m).2.2.1 = 0) : f.1 = 0 ∧ (mostF l p f m).1 ≤ m ∧ (mostF l p f m).1 < 18446744073709551616 ∧ (mostF l p f m).2.1 = p + (vbytes (mostF l p f m).1).length ∧ (mostF l p f m).2.1 ≤ l.length ∧ Stands l p (vbytes (mostF l p f m).1) ∧ mostF l p f m = vrdF l p f := by
  unfold mostF at *
  by_cases hm : m < (vrdF l p f).1
  · rw [if_pos hm] at h
    exact absurd h (failF_bad (by decide))
  · rw [if_neg hm] at h ⊢
    have := vrdF_inv h
    exact ⟨this.1, by omega, this.2.1, this.2.2.1, this.2.2.2.1, this.2.2.2.2, rfl⟩
theorem mustF_inv {R : Nat → Bool} {l : List UInt8} {p : Nat} {f : Flt} (h : (mustF R l p f).2.2.1 = 0) : f.1 = 0 ∧ R (mustF R l p f).1 = true ∧ (mustF R l p f).1 < 18446744073709551616 ∧ (mustF R l p f).2.1 = p + (vbytes (mustF R l p f).1).length ∧ (mustF R l p f).2.1 ≤ l.length ∧ Stands l p (vbytes (mustF R l p f).1) ∧ mustF R l p f = vrdF l p f := by
  unfold mustF at *
  by_cases h0 : (vrdF l p f).2.2.1 = 0
  · rw [if_pos h0] at h ⊢
    cases hR : R (vrdF l p f).1
    · rw [hR] at h
      exact absurd h (failF_bad (by decide))
    · have := vrdF_inv h0
      rw [if_pos rfl]
      exact ⟨this.1, hR, this.2.1, this.2.2.1, this.2.2.2.1, this.2.2.2.2, rfl⟩
  · rw [if_neg h0] at h; exact absurd h h0
theorem vrdF_stands {l : List UInt8} {p x : Nat} (hx : x < 18446744073709551616) (h : Stands l p (vbytes x)) : vrdF l p (0, 0) = (x, p + (vbytes x).length, (0, 0)) := by
  rw [vrdF_good rfl]; exact vrd_bytes hx h
theorem mostF_stands {l : List UInt8} {p x m : Nat} (hx : x < 18446744073709551616) (hm : x ≤ m) (h : Stands l p (vbytes x)) : mostF l p (0, 0) m = (x, p + (vbytes x).length, (0, 0)) := by
  unfold mostF; rw [vrdF_stands hx h, if_neg (by simp only; omega)]
theorem mustF_stands {R : Nat → Bool} {l : List UInt8} {p x : Nat} (hx : x < 18446744073709551616) (hR : R x = true) (h : Stands l p (vbytes x)) : mustF R l p (0, 0) = (x, p + (vbytes x).length, (0, 0)) := by
  unfold mustF; rw [vrdF_stands hx h, if_pos rfl, if_pos hR]
theorem vrdF_le {l : List UInt8} {p : Nat} {f : Flt} (hp : p ≤ l.length) : (vrdF l p f).2.1 ≤ l.length ∧ p ≤ (vrdF l p f).2.1 := by
  unfold vrdF
  split
  · have key : ∀ (k n x : Nat), p + n ≤ l.length → (vgo l p k n x).2.1 ≤ l.length ∧ p ≤ (vgo l p k n x).2.1 := by
      intro k
      induction k with
      | zero => intro n x h; exact ⟨h, by show p ≤ p + n; omega⟩
      | succ k ih =>
        intro n x h
        unfold vgo
        split
        · exact ⟨h, by show p ≤ p + n; omega⟩
        · rename_i c hc
          have := (List.getElem?_eq_some_iff.1 hc).1
          split
          · exact ⟨by show p + n + 1 ≤ _; omega, by show p ≤ p + n + 1; omega⟩
          · split
            · exact ⟨by show p + n + 1 ≤ _; omega, by show p ≤ p + n + 1; omega⟩
            · split
              · exact ih _ _ (by omega)
              · exact ⟨by show p + n + 1 ≤ _; omega, by show p ≤ p + n + 1; omega⟩
    exact key 10 0 0 (by omega)
  · exact ⟨hp, Nat.le_refl _⟩
theorem mostF_q {l : List UInt8} {p m : Nat} {f : Flt} : (mostF l p f m).2.1 = (vrdF l p f).2.1 := by
  unfold mostF; split <;> rfl
theorem mustF_q {R : Nat → Bool} {l : List UInt8} {p : Nat} {f : Flt} : (mustF R l p f).2.1 = (vrdF l p f).2.1 := by
  unfold mustF; split
  · split <;> rfl
  · rfl
theorem mostF_lt (l : List UInt8) (p m : Nat) (f : Flt) : (mostF l p f m).1 < 18446744073709551616 := by
  unfold mostF; split
  · simp
  · exact vrdF_lt l p f
theorem mustF_lt (R : Nat → Bool) (l : List UInt8) (p : Nat) (f : Flt) : (mustF R l p f).1 < 18446744073709551616 := by
  unfold mustF; split
  · split
    · exact vrdF_lt l p f
    · simp
  · exact vrdF_lt l p f
end Go.Proofs.Ytmdgmnaaopineaa
