/- Chapter 19 in plain words: what a well-formed stripe is, to which set a position is dealt, and back. No program here. -/
import Derived.Lib.Hide
namespace Go.Proofs.Ytnihaaifkogpbaa
noncomputable def dec (p : Prop) : Bool := @decide p (Classical.propDecidable p)
theorem dec_true {p : Prop} (h : p) : dec p = true := by unfold dec; exact @decide_eq_true p (Classical.propDecidable p) h
theorem dec_false {p : Prop} (h : ¬ p) : dec p = false := by unfold dec; exact @decide_eq_false p (Classical.propDecidable p) h
theorem of_dec {p : Prop} (h : dec p = true) : p := by unfold dec at h; exact @of_decide_eq_true p (Classical.propDecidable p) h
theorem of_not_dec {p : Prop} (h : dec p = false) : ¬ p := by unfold dec at h; exact @of_decide_eq_false p (Classical.propDecidable p) h
theorem dec_congr {p q : Prop} (h : p ↔ q) : dec p = dec q := by rw [propext h]

abbrev Stp := Nat × Nat × List (List Nat)
def Rises (l : List Nat) : Prop := ∀ (i a b : Nat), l[i]? = some a → l[i + 1]? = some b → a < b
def SetOk (sets : List (List Nat)) (i : Nat) (l : List Nat) : Prop :=
  1 ≤ l.length ∧ l.length ≤ 8 ∧ Rises l ∧ (∀ a, l[l.length - 1]? = some a → a < 4294967296) ∧ ∀ (j : Nat) (o : List Nat), j < i → sets[j]? = some o → ∀ x ∈ l, x ∉ o
def SOk (s : Stp) : Prop := s.1 < s.2.1 ∧ s.2.1 ≤ 4611686018427387904 ∧ 1 ≤ s.2.2.length ∧ s.2.2.length ≤ 8 ∧ ∀ (i : Nat) (l : List Nat), s.2.2[i]? = some l → SetOk s.2.2 i l

open Classical in
noncomputable def dealt (s : Stp) (p : Nat) : Nat × Nat × Bool :=
  if SOk s ∧ s.1 ≤ p ∧ p < s.2.1 then ((p - s.1) % s.2.2.length, (p - s.1) / s.2.2.length, true) else (0, 0, false)
open Classical in
noncomputable def share (s : Stp) (set : Int) : Nat :=
  if SOk s ∧ 0 ≤ set ∧ set < s.2.2.length then (s.2.1 - s.1 + s.2.2.length - 1 - set.toNat) / s.2.2.length else 0
open Classical in
noncomputable def back (s : Stp) (set : Int) (loc : Nat) : Nat × Bool :=
  if share s set ≤ loc then (0, false) else (s.1 + loc * s.2.2.length + set.toNat, true)

theorem dealt_in {s : Stp} {p : Nat} (h : SOk s) (h1 : s.1 ≤ p) (h2 : p < s.2.1) : dealt s p = ((p - s.1) % s.2.2.length, (p - s.1) / s.2.2.length, true) := by
  unfold dealt; rw [if_pos ⟨h, h1, h2⟩]
theorem dealt_out {s : Stp} {p : Nat} (h : ¬ (SOk s ∧ s.1 ≤ p ∧ p < s.2.1)) : dealt s p = (0, 0, false) := by
  unfold dealt; rw [if_neg h]
theorem share_in {s : Stp} {set : Nat} (h : SOk s) (h2 : set < s.2.2.length) : share s set = (s.2.1 - s.1 + s.2.2.length - 1 - set) / s.2.2.length := by
  unfold share; rw [if_pos ⟨h, by omega, by omega⟩]; simp
theorem share_out {s : Stp} {set : Int} (h : ¬ (SOk s ∧ 0 ≤ set ∧ set < s.2.2.length)) : share s set = 0 := by
  unfold share; rw [if_neg h]
theorem share_pos {s : Stp} {set : Int} {loc : Nat} (h : loc < share s set) : SOk s ∧ 0 ≤ set ∧ set < s.2.2.length := by
  by_cases hh : SOk s ∧ 0 ≤ set ∧ set < s.2.2.length
  · exact hh
  · rw [share_out hh] at h; omega
/-- A number below a set's share is a position inside. -/
theorem share_lt {n k j loc : Nat} (hk : 0 < k) (hj : j < k) : loc < (n + k - 1 - j) / k ↔ loc * k + j < n := by
  rw [Nat.lt_iff_add_one_le, Nat.le_div_iff_mul_le hk, Nat.add_mul]
  omega
theorem back_in {s : Stp} {set : Nat} {loc : Nat} (h : SOk s) (h2 : set < s.2.2.length) (h3 : loc * s.2.2.length + set < s.2.1 - s.1) : back s set loc = (s.1 + loc * s.2.2.length + set, true) := by
  have hlt : loc < share s set := by
    rw [share_in h h2]
    exact (share_lt (by obtain ⟨_, _, h1, _⟩ := h; omega) h2).2 h3
  unfold back
  rw [if_neg (by omega)]; simp
theorem back_out {s : Stp} {set : Int} {loc : Nat} (h : share s set ≤ loc) : back s set loc = (0, false) := by
  unfold back; rw [if_pos h]
theorem back_iff {s : Stp} {set : Int} {loc : Nat} : (back s set loc).2 = true ↔ loc < share s set := by
  unfold back
  by_cases h : share s set ≤ loc
  · rw [if_pos h]; simp; omega
  · rw [if_neg h]; simp; omega
/-- What is given back lies in the stripe, and is dealt so. -/
theorem back_dealt {s : Stp} {set : Int} {loc : Nat} (h : loc < share s set) : ∃ j : Nat, set = j ∧ j < s.2.2.length ∧ back s set loc = (s.1 + loc * s.2.2.length + j, true) ∧ s.1 + loc * s.2.2.length + j < s.2.1 ∧ dealt s (s.1 + loc * s.2.2.length + j) = (j, loc, true) := by
  obtain ⟨hs, h0, h1⟩ := share_pos h
  obtain ⟨j, rfl⟩ : ∃ j : Nat, set = j := ⟨set.toNat, by omega⟩
  have hj : j < s.2.2.length := by omega
  have hk : 0 < s.2.2.length := by omega
  rw [share_in hs hj] at h
  have hin := (share_lt hk hj).1 h
  have hft : s.1 < s.2.1 := hs.1
  refine ⟨j, rfl, hj, back_in hs hj hin, by omega, ?_⟩
  rw [dealt_in hs (by omega) (by omega)]
  have e : s.1 + loc * s.2.2.length + j - s.1 = j + s.2.2.length * loc := by rw [Nat.mul_comm]; omega
  rw [e, Nat.add_mul_mod_self_left, Nat.mod_eq_of_lt hj, Nat.add_mul_div_left _ _ hk, Nat.div_eq_of_lt hj, Nat.zero_add]
/-- What a position is dealt to, leads back to it. -/
theorem dealt_back {s : Stp} {p : Nat} (h : SOk s) (h1 : s.1 ≤ p) (h2 : p < s.2.1) : back s ((p - s.1) % s.2.2.length : Nat) ((p - s.1) / s.2.2.length) = (p, true) := by
  have hk : 0 < s.2.2.length := h.2.2.1
  have e : (p - s.1) / s.2.2.length * s.2.2.length + (p - s.1) % s.2.2.length = p - s.1 := by rw [Nat.mul_comm]; exact Nat.div_add_mod _ _
  rw [back_in h (Nat.mod_lt _ hk) (by rw [e]; omega)]
  rw [Nat.add_assoc, e, Nat.add_sub_cancel' h1]
end Go.Proofs.Ytnihaaifkogpbaa
