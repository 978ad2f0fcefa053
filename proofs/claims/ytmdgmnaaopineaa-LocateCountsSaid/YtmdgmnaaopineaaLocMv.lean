/- On which nodes a position is; the first position on other nodes. No walk. -/
import Derived.Test.YtmdgmnaaopineaaLocM
import Derived.Test.YtmdgmnaaopineaaLocP
namespace Go.Proofs.Ytmdgmnaaopineaa
set_option linter.unusedVariables false
/-- The nodes of a position. -/
def nodesAt : List Stp → Nat → List Nat
  | [], _ => []
  | s :: l, x => if s.1 ≤ x ∧ x < s.2.1 then s.2.2.getD ((x - s.1) % s.2.2.length) [] else nodesAt l x
theorem nodesAt_go : ∀ (l : List Stp) (x r : Nat) (s : Stp), InStripe l x r s → (∀ q t, InStripe l x q t → q = r) → nodesAt l x = s.2.2.getD ((x - s.1) % s.2.2.length) []
  | [], x, r, s, h, _ => by have := h.1; simp at this
  | u :: l, x, r, s, h, hu => by
    unfold nodesAt
    by_cases hx : u.1 ≤ x ∧ x < u.2.1
    · rw [if_pos hx]
      obtain rfl : 0 = r := hu 0 u ⟨rfl, hx.1, hx.2⟩
      have := h.1
      simp only [List.getElem?_cons_zero, Option.some.injEq] at this
      rw [this]
    · rw [if_neg hx]
      cases r with
      | zero =>
        have := h.1
        simp only [List.getElem?_cons_zero, Option.some.injEq] at this
        subst this
        exact absurd h.2 hx
      | succ r =>
        refine nodesAt_go l x r s ⟨by simpa using h.1, h.2⟩ (fun q t ht => ?_)
        have := hu (q + 1) t ⟨by simpa using ht.1, ht.2⟩
        omega
theorem nodesAt_eq {e : Nat} {l : List Stp} {x r : Nat} {s : Stp} (h : POk (e, l)) (hin : InStripe l x r s) : nodesAt l x = s.2.2.getD ((x - s.1) % s.2.2.length) [] :=
  nodesAt_go l x r s hin (fun q t ht => (inStripe_unique h ht hin).1)
theorem nodesAt_some {e : Nat} {l : List Stp} {x r : Nat} {s : Stp} {nd : List Nat} (h : POk (e, l)) (hin : InStripe l x r s) (hnd : s.2.2[(x - s.1) % s.2.2.length]? = some nd) : nodesAt l x = nd := by
  rw [nodesAt_eq h hin, List.getD_eq_getElem?_getD, hnd]; rfl
theorem place_nodes {e : Nat} {l : List Stp} {x r K N : Nat} {nd : List Nat} (h : POk (e, l)) (hp : PlaceIs l x r K N nd) : nodesAt l x = nd := by
  obtain ⟨s, hin, _, hK, _, hnd⟩ := hp
  exact nodesAt_some h hin (by rw [← hK]; exact hnd)
theorem inStripe_to {l : List Stp} {x y r : Nat} {s : Stp} (h : InStripe l x r s) (hxy : x ≤ y) (hy : y < s.2.1) : InStripe l y r s := ⟨h.1, Nat.le_trans h.2.1 hxy, hy⟩
theorem inStripe_ok {e : Nat} {l : List Stp} {x r : Nat} {s : Stp} (h : POk (e, l)) (hin : InStripe l x r s) : SOk s := (h.1.2 r s (List.getElem?_eq_some_iff.1 hin.1).1 hin.1).1
/-- Two stripes deal out as at first after as many positions as the product of their sets. -/
theorem moved_period {ea eb : Nat} {la lb : List Stp} {pos i k E : Nat} {s t : Stp} (ha : POk (ea, la)) (hb : POk (eb, lb)) (hia : InStripe la pos i s) (hib : InStripe lb pos k t) (hE1 : E ≤ s.2.1) (hE2 : E ≤ t.2.1)
    (h : ∀ q, pos ≤ q → q < E → q < pos + s.2.2.length * t.2.2.length → nodesAt la q = nodesAt lb q) : ∀ q, pos ≤ q → q < E → nodesAt la q = nodesAt lb q := by
  intro q h1 h2
  have hs := inStripe_ok ha hia
  have ht := inStripe_ok hb hib
  obtain ⟨m, hm⟩ : ∃ m, m = s.2.2.length := ⟨_, rfl⟩
  obtain ⟨n, hn⟩ : ∃ n, n = t.2.2.length := ⟨_, rfl⟩
  have hm1 : 1 ≤ m := by rw [hm]; exact hs.2.2.1
  have hn1 : 1 ≤ n := by rw [hn]; exact ht.2.2.1
  have hP : 0 < m * n := Nat.mul_pos hm1 hn1
  rw [← hm, ← hn] at h
  obtain ⟨d, hd⟩ : ∃ d, d = (q - pos) / (m * n) := ⟨_, rfl⟩
  obtain ⟨r, hr⟩ : ∃ r, r = (q - pos) % (m * n) := ⟨_, rfl⟩
  have hrl : r < m * n := by rw [hr]; exact Nat.mod_lt _ hP
  have hdr : q - pos = m * n * d + r := by rw [hd, hr]; exact (Nat.div_add_mod _ _).symm
  have hq : q = pos + r + m * n * d := by omega
  have hle : pos + r ≤ q := by omega
  have h0 := h (pos + r) (by omega) (by omega) (by omega)
  have hsf := hia.2.1
  have htf := hib.2.1
  rw [nodesAt_eq ha (inStripe_to hia (by omega) (by omega)), nodesAt_eq hb (inStripe_to hib (by omega) (by omega))] at h0
  rw [nodesAt_eq ha (inStripe_to hia h1 (by omega)), nodesAt_eq hb (inStripe_to hib h1 (by omega))]
  rw [← hm, ← hn] at h0 ⊢
  have e1 : (q - s.1) % m = (pos + r - s.1) % m := by
    rw [show q - s.1 = (pos + r - s.1) + m * (n * d) by rw [hq, ← Nat.mul_assoc]; omega, Nat.add_mul_mod_self_left]
  have e2 : (q - t.1) % n = (pos + r - t.1) % n := by
    rw [show q - t.1 = (pos + r - t.1) + n * (m * d) by rw [hq, ← Nat.mul_assoc, Nat.mul_comm n m]; omega, Nat.add_mul_mod_self_left]
  rw [e1, e2]
  exact h0
/-- What First tells of two well-formed projections. -/
def FirstIs (la lb : List Stp) (r : Nat) (ok : Bool) : Prop :=
  (ok = true ∧ r < 4611686018427387904 ∧ nodesAt la r ≠ nodesAt lb r ∧ ∀ q, q < r → nodesAt la q = nodesAt lb q) ∨ (ok = false ∧ r = 0 ∧ ∀ q, q < 4611686018427387904 → nodesAt la q = nodesAt lb q)
end Go.Proofs.Ytmdgmnaaopineaa
