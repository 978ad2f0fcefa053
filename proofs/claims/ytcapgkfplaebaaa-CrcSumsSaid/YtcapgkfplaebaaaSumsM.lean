/- Digits turned about one by one, or byte by byte: the plain mathematics. -/
import Derived.Test.YtcapgkfplaebaaaMath
namespace Go.Proofs.Ytcapgkfplaebaaa
namespace Crc
def turnAt (d : W32) (pos : Int) (m : Nat) (l : List UInt8) : List UInt8 :=
  if d.getLsbD m = true ∧ 0 ≤ pos + m then l.modify ((pos + m) / 8).toNat (fun x => x ^^^ UInt8.ofNat (2 ^ ((pos + m) % 8).toNat)) else l
def turnI (d : W32) (pos : Int) : Nat → List UInt8 → List UInt8
  | 0, l => l
  | m + 1, l => turnAt d pos m (turnI d pos m l)
theorem turnAt_length (d : W32) (pos : Int) (m : Nat) (l : List UInt8) : (turnAt d pos m l).length = l.length := by
  unfold turnAt; split <;> simp
theorem turnI_length (d : W32) (pos : Int) (l : List UInt8) : ∀ m, (turnI d pos m l).length = l.length
  | 0 => rfl
  | m + 1 => by rw [turnI, turnAt_length, turnI_length d pos l m]
def bitOf (x : UInt8) (j : Nat) : Bool := x.toBitVec.getLsbD j
theorem bitOf_xor (x y : UInt8) (j : Nat) : bitOf (x ^^^ y) j = (bitOf x j ^^ bitOf y j) := by
  unfold bitOf; rw [UInt8.toBitVec_xor, BitVec.getLsbD_xor]
theorem bitOf_pow (r j : Nat) (hr : r < 8) (hj : j < 8) : bitOf (UInt8.ofNat (2 ^ r)) j = decide (j = r) := by
  have : ∀ r j : Fin 8, bitOf (UInt8.ofNat (2 ^ r.val)) j.val = decide (j.val = r.val) := by decide
  exact this ⟨r, hr⟩ ⟨j, hj⟩
theorem bitOf_ext {x y : UInt8} (h : ∀ j, j < 8 → bitOf x j = bitOf y j) : x = y := by
  apply UInt8.toBitVec_inj.1
  apply BitVec.eq_of_getLsbD_eq
  intro j hj
  exact h j hj
theorem bit_upto (d : W32) (s : Int) (x : UInt8) (j : Nat) (hj : j < 8) : ∀ m : Nat, m ≤ 8 → bitOf (turnUpto d s m x) j = (bitOf x j ^^ (decide (j < m) && hit d (s + j)))
  | 0, _ => by simp [turnUpto]
  | m + 1, hm => by
    have ih := bit_upto d s x j hj m (by omega)
    rw [turnUpto]
    by_cases hjm : j = m
    · subst hjm
      have h1 : ¬ j < j := by omega
      simp only [h1, decide_false, Bool.false_and, Bool.xor_false] at ih
      by_cases hh : hit d (s + j) = true
      · rw [if_pos hh, bitOf_xor, ih, bitOf_pow j j hj hj, hh]; simp
      · rw [if_neg hh, ih]; simp at hh; rw [hh]; simp
    · have h1 : decide (j < m + 1) = decide (j < m) := by apply decide_eq_decide.2; omega
      rw [h1, ← ih]
      split
      · rw [bitOf_xor, bitOf_pow m j (by omega) hj]; simp [hjm]
      · rfl
theorem bit_turnI (d : W32) (pos : Int) (l : List UInt8) (k : Nat) (x : UInt8) (hx : l[k]? = some x) (j : Nat) (hj : j < 8) : ∀ m : Nat, m ≤ 32 → ∃ y, (turnI d pos m l)[k]? = some y ∧
    bitOf y j = (bitOf x j ^^ (decide (8 * (k : Int) + j - pos < m) && hit d (8 * (k : Int) + j - pos)))
  | 0, _ => ⟨x, hx, by
      by_cases h : 8 * (k : Int) + j - pos < (0 : Nat)
      · have : hit d (8 * (k : Int) + j - pos) = false := by
          unfold hit
          rw [show decide (0 ≤ 8 * (k : Int) + j - pos) = false from decide_eq_false (by omega)]; rfl
        rw [this]; simp
      · rw [decide_eq_false h]; simp⟩
  | m + 1, hm => by
    obtain ⟨y, hy, hb⟩ := bit_turnI d pos l k x hx j hj m (by omega)
    have hother : ¬ (8 * (k : Int) + j - pos = m) → decide (8 * (k : Int) + j - pos < ((m + 1 : Nat) : Int)) = decide (8 * (k : Int) + j - pos < (m : Int)) := fun h => by
      apply decide_eq_decide.2; omega
    rw [turnI]
    unfold turnAt
    by_cases hc : d.getLsbD m = true ∧ 0 ≤ pos + m
    · rw [if_pos hc, List.getElem?_modify, hy]
      refine ⟨_, rfl, ?_⟩
      by_cases hq : ((pos + m) / 8).toNat = k
      · simp only [hq, if_true]
        rw [bitOf_xor, bitOf_pow _ j (by omega) hj, hb]
        by_cases he : 8 * (k : Int) + j - pos = m
        · have hjr : j = ((pos + m) % 8).toNat := by omega
          have hh : hit d (8 * (k : Int) + j - pos) = true := by
            unfold hit
            rw [he]
            have : ((m : Int)).toNat = m := by omega
            rw [this, hc.1, decide_eq_true (by omega), decide_eq_true (by omega)]; rfl
          rw [hh, decide_eq_true hjr, he, decide_eq_false (by omega), decide_eq_true (by omega)]
          simp
        · have hjr : ¬ j = ((pos + m) % 8).toNat := by omega
          rw [hother he, decide_eq_false hjr, Bool.xor_false]
      · simp only [hq, if_false]
        show bitOf y j = _
        rw [hother (by omega), hb]
    · rw [if_neg hc]
      refine ⟨y, hy, ?_⟩
      by_cases he : 8 * (k : Int) + j - pos = m
      · have hf : hit d (8 * (k : Int) + j - pos) = false := by
          unfold hit
          rw [he]
          have e1 : ((m : Int)).toNat = m := by omega
          rw [e1]
          have : d.getLsbD m = false := by
            cases hd : d.getLsbD m with
            | false => rfl
            | true => exact absurd ⟨hd, by omega⟩ hc
          rw [this]; simp
        rw [hb, hf]; simp
      · rw [hother he, hb]
theorem turnL_get (d : W32) (pos : Int) : ∀ (l : List UInt8) (s : Int) (k : Nat), (turnL d pos s l)[k]? = (l[k]?).map (turnUpto d (s + 8 * k - pos) 8)
  | [], _, k => by simp [turnL]
  | x :: l, s, 0 => by simp [turnL]
  | x :: l, s, k + 1 => by
    simp only [turnL, List.getElem?_cons_succ]
    rw [turnL_get d pos l (s + 8) k]
    congr 2
    omega
theorem turn_same (d : W32) (pos : Int) (l : List UInt8) : turnI d pos 32 l = turnL d pos 0 l := by
  apply List.ext_getElem?
  intro k
  cases hk : l[k]? with
  | none =>
    have : l.length ≤ k := List.getElem?_eq_none_iff.1 hk
    rw [List.getElem?_eq_none (by rw [turnI_length]; exact this), List.getElem?_eq_none (by rw [turnL_length]; exact this)]
  | some x =>
    rw [turnL_get, hk]
    obtain ⟨y, hy, _⟩ := bit_turnI d pos l k x hk 0 (by omega) 32 (Nat.le_refl _)
    rw [hy, Option.map_some]
    congr 1
    apply bitOf_ext
    intro j hj
    obtain ⟨y', hy', hb⟩ := bit_turnI d pos l k x hk j hj 32 (Nat.le_refl _)
    rw [hy] at hy'
    injection hy' with hy'
    subst hy'
    rw [hb, bit_upto d _ x j hj 8 (Nat.le_refl _), decide_eq_true (show j < 8 from hj), Bool.true_and]
    have e : 0 + 8 * (k : Int) - pos + j = 8 * (k : Int) + j - pos := by omega
    rw [e]
    congr 1
    by_cases hh : hit d (8 * (k : Int) + j - pos) = true
    · have : 8 * (k : Int) + j - pos < 32 := by
        unfold hit at hh
        simp at hh
        omega
      rw [decide_eq_true (by omega), Bool.true_and]
    · have : hit d (8 * (k : Int) + j - pos) = false := by simpa using hh
      rw [this, Bool.and_false]
theorem turn_far (d : W32) (pos : Int) (l : List UInt8) (h : 8 * (l.length : Int) ≤ pos) : turnL d pos 0 l = l := by
  apply List.ext_getElem?
  intro k
  rw [turnL_get]
  cases hk : l[k]? with
  | none => rfl
  | some x =>
    have hlt : k < l.length := (List.getElem?_eq_some_iff.1 hk).1
    rw [Option.map_some]
    congr 1
    apply bitOf_ext
    intro j hj
    rw [bit_upto d _ x j hj 8 (Nat.le_refl _)]
    have : hit d (0 + 8 * (k : Int) - pos + j) = false := by
      unfold hit
      rw [decide_eq_false (by omega)]; rfl
    rw [this]; simp
end Crc
end Go.Proofs.Ytcapgkfplaebaaa
