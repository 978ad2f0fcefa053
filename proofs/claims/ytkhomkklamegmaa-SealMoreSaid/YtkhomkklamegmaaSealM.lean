/- Seals: what reading one gives, how one is written. No walk. -/
import Derived.Test.YtkhomkklamegmaaCodN
import Derived.Test.YtkhomkklamegmaaVarP
namespace Go.Proofs.Ytkhomkklamegmaa
set_option linter.unusedVariables false
abbrev Sea := Nat × Nat × Nat
def seaOk (s : Sea) : Bool := isEpoch s.1 && decide (s.2.1 ≤ 4294967295) && isTail s.2.2
def sbytes (s : Sea) : List UInt8 := vbytes s.1 ++ vbytes s.2.1 ++ vbytes s.2.2
def sealR1 (l : List UInt8) (p : Nat) (f : Flt) : Nat × Nat × Flt := mustF isEpoch l p f
def sealR2 (l : List UInt8) (p : Nat) (f : Flt) : Nat × Nat × Flt := mostF l (sealR1 l p f).2.1 (sealR1 l p f).2.2 4294967295
def sealR3 (l : List UInt8) (p : Nat) (f : Flt) : Nat × Nat × Flt := mustF isTail l (sealR2 l p f).2.1 (sealR2 l p f).2.2
/-- What reading a seal gives: the seal, the place behind, the fault. -/
def sealF (l : List UInt8) (p : Nat) (f : Flt) : Sea × Nat × Flt :=
  if (sealR3 l p f).2.2.1 = 0 then (((sealR1 l p f).1, (sealR2 l p f).1, (sealR3 l p f).1), (sealR3 l p f).2) else ((0, 0, 0), (sealR3 l p f).2)
theorem sealF_ok {l : List UInt8} {p : Nat} {f : Flt} (h : OkF f) : OkF (sealF l p f).2.2 := by
  have : OkF (sealR3 l p f).2.2 := mustF_ok (mostF_ok _ (mustF_ok h))
  unfold sealF; split <;> exact this
theorem sbytes_len {s : Sea} (h : seaOk s = true) : (sbytes s).length ≤ 30 := by
  unfold seaOk isEpoch isTail at h
  simp only [Bool.and_eq_true, decide_eq_true_eq] at h
  have h1 := vbytes_10 (x := s.1) (by omega)
  have h2 := vbytes_10 (x := s.2.1) (by omega)
  have h3 := vbytes_10 (x := s.2.2) (by omega)
  unfold sbytes
  rw [List.length_append, List.length_append]
  omega
/-- **What was read is what was written.** -/
theorem sealF_inv {l : List UInt8} {p : Nat} {f : Flt} (h : (sealF l p f).2.2.1 = 0) : seaOk (sealF l p f).1 = true ∧ (sealF l p f).2.1 = p + (sbytes (sealF l p f).1).length ∧ (sealF l p f).2.1 ≤ l.length ∧ Stands l p (sbytes (sealF l p f).1) := by
  have h3 : (sealR3 l p f).2.2.1 = 0 := by
    unfold sealF at h
    split at h
    · assumption
    · exact h
  obtain ⟨g2, r3, _, q3, e3, s3, _⟩ := mustF_inv h3
  obtain ⟨g1, r2, _, q2, e2, s2, _⟩ := mostF_inv g2
  obtain ⟨g0, r1, _, q1, e1, s1, _⟩ := mustF_inv g1
  have e : sealF l p f = (((sealR1 l p f).1, (sealR2 l p f).1, (sealR3 l p f).1), (sealR3 l p f).2) := if_pos h3
  rw [e]
  change (sealR1 l p f).2.1 = p + (vbytes (sealR1 l p f).1).length at q1
  change (sealR2 l p f).2.1 = (sealR1 l p f).2.1 + (vbytes (sealR2 l p f).1).length at q2
  change (sealR3 l p f).2.1 = (sealR2 l p f).2.1 + (vbytes (sealR3 l p f).1).length at q3
  refine ⟨?_, ?_, e3, ?_⟩
  · unfold seaOk
    simp only [Bool.and_eq_true, decide_eq_true_eq]
    exact ⟨⟨r1, r2⟩, r3⟩
  · show (sealR3 l p f).2.1 = _
    rw [q3, q2, q1]
    unfold sbytes
    simp only [List.length_append]
    omega
  · unfold sbytes
    simp only [stands_append, List.length_append]
    refine ⟨⟨s1, ?_⟩, ?_⟩
    · rw [← q1]; exact s2
    · rw [← Nat.add_assoc, ← q1, ← q2]; exact s3
/-- **What was written is read so.** -/
theorem sealF_stands {l : List UInt8} {p : Nat} {s : Sea} (hs : seaOk s = true) (h : Stands l p (sbytes s)) : sealF l p (0, 0) = (s, p + (sbytes s).length, (0, 0)) := by
  unfold seaOk at hs
  simp only [Bool.and_eq_true, decide_eq_true_eq] at hs
  obtain ⟨⟨k1, k2⟩, k3⟩ := hs
  have b1 : s.1 < 18446744073709551616 := by unfold isEpoch at k1; simp at k1; omega
  have b3 : s.2.2 < 18446744073709551616 := by unfold isTail at k3; simp at k3; omega
  unfold sbytes at h ⊢
  simp only [stands_append, List.length_append] at h
  obtain ⟨⟨s1, s2⟩, s3⟩ := h
  have e1 : sealR1 l p (0, 0) = (s.1, p + (vbytes s.1).length, (0, 0)) := mustF_stands b1 k1 s1
  have e2 : sealR2 l p (0, 0) = (s.2.1, p + (vbytes s.1).length + (vbytes s.2.1).length, (0, 0)) := by
    unfold sealR2; rw [e1]; exact mostF_stands (by omega) k2 s2
  have e3 : sealR3 l p (0, 0) = (s.2.2, p + (vbytes s.1).length + (vbytes s.2.1).length + (vbytes s.2.2).length, (0, 0)) := by
    unfold sealR3; rw [e2]; exact mustF_stands b3 k3 (by rw [← Nat.add_assoc] at s3; exact s3)
  unfold sealF
  rw [e3, e2, e1, if_pos rfl]
  simp only [List.length_append, Nat.add_assoc]
end Go.Proofs.Ytkhomkklamegmaa
