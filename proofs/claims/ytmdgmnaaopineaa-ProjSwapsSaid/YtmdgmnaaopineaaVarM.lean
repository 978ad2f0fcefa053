/- Numbers in as few bytes as can be. No walk. -/
import Derived.Test.YtmdgmnaaopineaaCore
namespace Go.Proofs.Ytmdgmnaaopineaa
set_option linter.unusedVariables false
def vbytes (x : Nat) : List UInt8 := if h : x < 128 then [UInt8.ofNat x] else UInt8.ofNat (128 + x % 128) :: vbytes (x / 128)
termination_by x
decreasing_by omega
theorem vbytes_lt {x : Nat} (h : x < 128) : vbytes x = [UInt8.ofNat x] := by rw [vbytes, dif_pos h]
theorem vbytes_ge {x : Nat} (h : ¬ x < 128) : vbytes x = UInt8.ofNat (128 + x % 128) :: vbytes (x / 128) := by rw [vbytes, dif_neg h]
theorem vbytes_len : ∀ (k x : Nat), x < 128 ^ (k + 1) → (vbytes x).length ≤ k + 1
  | 0, x, h => by rw [vbytes_lt (by simpa using h)]; simp
  | k + 1, x, h => by
    by_cases hx : x < 128
    · rw [vbytes_lt hx]; simp
    · rw [vbytes_ge hx, List.length_cons]
      have := vbytes_len k (x / 128) (by rw [Nat.div_lt_iff_lt_mul (by decide)]; rw [Nat.pow_succ] at h; exact h)
      omega
theorem vbytes_10 {x : Nat} (h : x < 18446744073709551616) : (vbytes x).length ≤ 10 := vbytes_len 9 x (by have : (128 : Nat) ^ (9 + 1) = 1180591620717411303424 := by decide
                                                                                                          omega)
theorem vbytes_pos (x : Nat) : 1 ≤ (vbytes x).length := by
  by_cases hx : x < 128
  · rw [vbytes_lt hx]; simp
  · rw [vbytes_ge hx]; simp
abbrev VFlt := Int × Int
/-- What reading a number from p on gives, n bytes having given x: the number, the place behind, the fault. -/
def vgo (l : List UInt8) (p : Nat) : Nat → Nat → Nat → Nat × Nat × VFlt
  | 0, n, x => (0, p + n, (0, 0))
  | k + 1, n, x => match l[p + n]? with
    | none => (0, p + n, (1, (l.length : Int)))
    | some c => if n = 9 ∧ 1 < c.toNat then (0, p + n + 1, (5, ((p + n : Nat) : Int))) else if c.toNat = 0 ∧ 0 < n then (0, p + n + 1, (4, ((p + n : Nat) : Int)))
      else if 128 ≤ c.toNat then vgo l p k (n + 1) (x + c.toNat % 128 * 128 ^ n) else (x + c.toNat % 128 * 128 ^ n, p + n + 1, (0, 0))
def vrd (l : List UInt8) (p : Nat) : Nat × Nat × VFlt := vgo l p 10 0 0
theorem vgo_none {l : List UInt8} {p k n x : Nat} (h : l[p + n]? = none) : vgo l p (k + 1) n x = (0, p + n, (1, (l.length : Int))) := by unfold vgo; rw [h]
theorem vgo_over {l : List UInt8} {p k n x : Nat} {c : UInt8} (h : l[p + n]? = some c) (h1 : n = 9) (h2 : 1 < c.toNat) : vgo l p (k + 1) n x = (0, p + n + 1, (5, ((p + n : Nat) : Int))) := by
  unfold vgo; rw [h]; simp only; rw [if_pos ⟨h1, h2⟩]
theorem vgo_zero {l : List UInt8} {p k n x : Nat} {c : UInt8} (h : l[p + n]? = some c) (h1 : ¬ (n = 9 ∧ 1 < c.toNat)) (h2 : c.toNat = 0) (h3 : 0 < n) : vgo l p (k + 1) n x = (0, p + n + 1, (4, ((p + n : Nat) : Int))) := by
  unfold vgo; rw [h]; simp only; rw [if_neg h1, if_pos ⟨h2, h3⟩]
theorem vgo_more {l : List UInt8} {p k n x : Nat} {c : UInt8} (h : l[p + n]? = some c) (h1 : ¬ (n = 9 ∧ 1 < c.toNat)) (h2 : 128 ≤ c.toNat) : vgo l p (k + 1) n x = vgo l p k (n + 1) (x + c.toNat % 128 * 128 ^ n) := by
  rw [vgo]; rw [h]; simp only; rw [if_neg h1, if_neg (by omega), if_pos h2]
theorem vgo_last {l : List UInt8} {p k n x : Nat} {c : UInt8} (h : l[p + n]? = some c) (h1 : ¬ (n = 9 ∧ 1 < c.toNat)) (h2 : ¬ (c.toNat = 0 ∧ 0 < n)) (h3 : ¬ 128 ≤ c.toNat) : vgo l p (k + 1) n x = (x + c.toNat % 128 * 128 ^ n, p + n + 1, (0, 0)) := by
  unfold vgo; rw [h]; simp only; rw [if_neg h1, if_neg h2, if_neg h3]
theorem pow_9 : (128 : Nat) ^ 9 = 9223372036854775808 := by decide
theorem ofNat_small {y : Nat} (h : y < 256) : (UInt8.ofNat y).toNat = y := by rw [UInt8.toNat_ofNat']; exact Nat.mod_eq_of_lt h
/-- **What is written is read so.** -/
theorem vgo_bytes (l : List UInt8) (p : Nat) : ∀ (k n acc x : Nat), n + k = 10 → acc + x * 128 ^ n < 18446744073709551616 → (0 < n → 0 < x) → (∀ j u, (vbytes x)[j]? = some u → l[p + n + j]? = some u) →
    vgo l p k n acc = (acc + x * 128 ^ n, p + n + (vbytes x).length, (0, 0))
  | 0, n, acc, x, hk, hv, hx, hl => by
    obtain rfl : n = 10 := by omega
    have h2 : x * 128 ^ 10 < 18446744073709551616 := by omega
    have h3 : (128 : Nat) ^ 10 = 1180591620717411303424 := by decide
    rw [h3] at h2
    have := hx (by omega)
    omega
  | k + 1, n, acc, x, hk, hv, hx, hl => by
    have hpn : (128 : Nat) ^ n ≤ 128 ^ 9 := Nat.pow_le_pow_right (by decide) (by omega)
    have hpos : 0 < (128 : Nat) ^ n := Nat.pow_pos (by decide)
    by_cases h : x < 128
    · rw [vbytes_lt h] at hl ⊢
      have h0 := hl 0 _ rfl
      rw [Nat.add_zero] at h0
      have hc : (UInt8.ofNat x).toNat = x := ofNat_small (by omega)
      rw [vgo_last h0 (by
        rintro ⟨h9, h1⟩
        rw [hc] at h1
        subst h9
        have : 2 * 128 ^ 9 ≤ x * 128 ^ 9 := Nat.mul_le_mul_right _ (by omega)
        rw [pow_9] at this
        rw [pow_9] at hv
        omega) (by rw [hc]; rintro ⟨h1, h2⟩; have := hx h2; omega) (by rw [hc]; omega), hc, Nat.mod_eq_of_lt h]
      rfl
    · rw [vbytes_ge h] at hl ⊢
      have h0 := hl 0 _ rfl
      rw [Nat.add_zero] at h0
      have hc : (UInt8.ofNat (128 + x % 128)).toNat = 128 + x % 128 := ofNat_small (by omega)
      have h9 : n ≠ 9 := by
        rintro rfl
        have : 128 * 128 ^ 9 ≤ x * 128 ^ 9 := Nat.mul_le_mul_right _ (by omega)
        rw [pow_9] at this
        rw [pow_9] at hv
        omega
      rw [vgo_more h0 (fun q => h9 q.1) (by rw [hc]; omega), hc]
      have e1 : (128 + x % 128) % 128 = x % 128 := by omega
      have e2 : acc + x % 128 * 128 ^ n + x / 128 * 128 ^ (n + 1) = acc + x * 128 ^ n := by
        rw [Nat.pow_succ, Nat.mul_comm (128 ^ n) 128, ← Nat.mul_assoc, Nat.add_assoc, ← Nat.add_mul]
        congr 2
        omega
      rw [e1, vgo_bytes l p k (n + 1) (acc + x % 128 * 128 ^ n) (x / 128) (by omega) (by rw [e2]; exact hv) (fun _ => by omega) (fun j u hu => by
        have := hl (j + 1) u (by simpa using hu)
        rw [show p + (n + 1) + j = p + n + (j + 1) by omega]; exact this), e2]
      rw [List.length_cons]
      congr 2
      omega
theorem vrd_bytes {l : List UInt8} {p x : Nat} (hx : x < 18446744073709551616) (hl : ∀ j u, (vbytes x)[j]? = some u → l[p + j]? = some u) : vrd l p = (x, p + (vbytes x).length, (0, 0)) := by
  have := vgo_bytes l p 10 0 0 x rfl (by simpa using hx) (by omega) (by simpa using hl)
  simpa [vrd] using this
/-- **What is read is written so.** -/
theorem vgo_inv (l : List UInt8) (p : Nat) : ∀ (k n acc v q : Nat) (a : Int), n + k = 10 → vgo l p k n acc = (v, q, (0, a)) → 1 ≤ k →
    ∃ x, v = acc + x * 128 ^ n ∧ (0 < n → 0 < x) ∧ q = p + n + (vbytes x).length ∧ (∀ j u, (vbytes x)[j]? = some u → l[p + n + j]? = some u) ∧ x * 128 ^ n < 18446744073709551616 - 128 ^ n + 1 ∧ q ≤ l.length
  | 0, n, acc, v, q, a, hk, h, h1 => by omega
  | k + 1, n, acc, v, q, a, hk, h, _ => by
    have hpn : (128 : Nat) ^ n ≤ 128 ^ 9 := Nat.pow_le_pow_right (by decide) (by omega)
    rw [pow_9] at hpn
    cases hl : l[p + n]? with
    | none => rw [vgo_none hl] at h; simp at h
    | some c =>
      have hlen := (List.getElem?_eq_some_iff.1 hl).1
      have hcl := c.toNat_lt
      by_cases h9 : n = 9 ∧ 1 < c.toNat
      · rw [vgo_over hl h9.1 h9.2] at h; simp at h
      · by_cases hz : c.toNat = 0 ∧ 0 < n
        · rw [vgo_zero hl h9 hz.1 hz.2] at h; simp at h
        · by_cases hm : 128 ≤ c.toNat
          · rw [vgo_more hl h9 hm] at h
            have hn9 : n ≠ 9 := fun e => h9 ⟨e, by omega⟩
            obtain ⟨y, e1, e2, e3, e4, e5, e6⟩ := vgo_inv l p k (n + 1) _ v q a (by omega) h (by omega)
            have hy := e2 (by omega)
            have hx : ¬ (c.toNat % 128 + 128 * y) < 128 := by omega
            have hmod : (c.toNat % 128 + 128 * y) % 128 = c.toNat % 128 := by omega
            have hdiv : (c.toNat % 128 + 128 * y) / 128 = y := by omega
            have hb : vbytes (c.toNat % 128 + 128 * y) = c :: vbytes y := by
              rw [vbytes_ge hx, hmod, hdiv]
              congr 1
              apply UInt8.toNat_inj.1
              rw [ofNat_small (by omega)]
              omega
            have hmul : (c.toNat % 128 + 128 * y) * 128 ^ n = c.toNat % 128 * 128 ^ n + y * 128 ^ (n + 1) := by
              rw [Nat.add_mul, Nat.pow_succ, Nat.mul_comm (128 ^ n) 128, ← Nat.mul_assoc, Nat.mul_comm 128 y]
            refine ⟨c.toNat % 128 + 128 * y, ?_, fun _ => by omega, ?_, ?_, ?_, e6⟩
            · rw [hmul, e1]; omega
            · rw [hb, List.length_cons, e3]; omega
            · rw [hb]
              intro j u hu
              cases j with
              | zero => simp only [List.getElem?_cons_zero] at hu; rw [Nat.add_zero, hl, hu]
              | succ j =>
                simp only [List.getElem?_cons_succ] at hu
                have := e4 j u hu
                rw [show p + n + (j + 1) = p + (n + 1) + j by omega]; exact this
            · rw [hmul]
              have h1 : c.toNat % 128 * 128 ^ n ≤ 127 * 128 ^ n := Nat.mul_le_mul_right _ (by omega)
              have h2 : (128 : Nat) ^ (n + 1) = 128 * 128 ^ n := by rw [Nat.pow_succ, Nat.mul_comm]
              rw [h2] at e5 ⊢
              have h3 : (128 : Nat) ^ (n + 1) ≤ 128 ^ 9 := Nat.pow_le_pow_right (by decide) (by omega)
              rw [h2, pow_9] at h3
              omega
          · rw [vgo_last hl h9 hz hm] at h
            simp only [Prod.mk.injEq] at h
            obtain ⟨rfl, rfl, _⟩ := h
            have hb : vbytes c.toNat = [c] := by
              rw [vbytes_lt (by omega)]
              congr 1
              apply UInt8.toNat_inj.1
              rw [ofNat_small (by omega)]
            refine ⟨c.toNat, by rw [Nat.mod_eq_of_lt (show c.toNat < 128 by omega)], fun h => by omega, by rw [hb]; rfl, ?_, ?_, by omega⟩
            · rw [hb]
              intro j u hu
              cases j with
              | zero => simp only [List.getElem?_cons_zero] at hu; rw [Nat.add_zero, hl, hu]
              | succ j => simp at hu
            · by_cases hn : n = 9
              · subst hn
                have : c.toNat ≤ 1 := by omega
                have : c.toNat * 128 ^ 9 ≤ 1 * 128 ^ 9 := Nat.mul_le_mul_right _ this
                rw [pow_9] at this ⊢
                omega
              · have h1 : c.toNat * 128 ^ n ≤ 127 * 128 ^ n := Nat.mul_le_mul_right _ (by omega)
                have h3 : (128 : Nat) ^ (n + 1) ≤ 128 ^ 9 := Nat.pow_le_pow_right (by decide) (by omega)
                rw [Nat.pow_succ, pow_9] at h3
                omega
theorem vrd_inv {l : List UInt8} {p v q : Nat} {a : Int} (h : vrd l p = (v, q, (0, a))) : v < 18446744073709551616 ∧ q = p + (vbytes v).length ∧ q ≤ l.length ∧ ∀ j u, (vbytes v)[j]? = some u → l[p + j]? = some u := by
  obtain ⟨x, e1, _, e3, e4, e5, e6⟩ := vgo_inv l p 10 0 0 v q a rfl h (by decide)
  simp only [Nat.pow_zero, Nat.mul_one, Nat.zero_add] at e1 e5
  subst e1
  exact ⟨by omega, by simpa using e3, e6, by simpa using e4⟩
end Go.Proofs.Ytmdgmnaaopineaa
