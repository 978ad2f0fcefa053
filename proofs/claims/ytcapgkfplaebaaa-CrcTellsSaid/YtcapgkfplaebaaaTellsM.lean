/- A burst is told: the plain mathematics. -/
import Derived.Test.YtcapgkfplaebaaaMath
namespace Go.Proofs.Ytcapgkfplaebaaa
namespace Crc

/-- The lowest t digits. -/
def low (t : Nat) (d : W32) : W32 := (d.setWidth t).setWidth 32
theorem low_bit (t : Nat) (d : W32) (i : Nat) : (low t d).getLsbD i = (decide (i < t) && d.getLsbD i) := by
  unfold low
  rw [BitVec.getLsbD_setWidth, BitVec.getLsbD_setWidth]
  by_cases h : i < 32
  · simp [h]
  · rw [BitVec.getLsbD_of_ge d i (by omega)]; simp
def bit (b : Bool) : W32 := if b then 1#32 else 0#32
theorem bit_get (b : Bool) (i : Nat) : (bit b).getLsbD i = (b && decide (i = 0)) := by
  cases b with
  | false => simp [bit]
  | true =>
    simp only [bit, if_true, Bool.true_and]
    by_cases h : i < 32
    · have : ∀ i : Fin 32, (1#32).getLsbD i.val = decide (i.val = 0) := by decide
      exact this ⟨i, h⟩
    · rw [BitVec.getLsbD_of_ge _ _ (by omega)]; simp; omega
theorem low_succ (t : Nat) (ht : t < 32) (d : W32) : low (t + 1) d = low t d ^^^ (bit (d.getLsbD t) <<< t) := by
  apply BitVec.eq_of_getLsbD_eq
  intro i hi
  rw [BitVec.getLsbD_xor, BitVec.getLsbD_shiftLeft, low_bit, low_bit, bit_get]
  by_cases h1 : i < t
  · simp [h1]; omega
  · by_cases h2 : i = t
    · subst h2; simp [hi]
    · have h3 : ¬ i < t + 1 := by omega
      have h4 : ¬ i - t = 0 := by omega
      simp [h1, h3, h4]
theorem low_ge (t : Nat) (ht : 32 ≤ t) (d : W32) : low t d = d := by
  apply BitVec.eq_of_getLsbD_eq
  intro i hi
  rw [low_bit]
  simp; omega
/-- The state behind the digits below t, digit by digit. -/
def F (d : W32) (t : Int) : W32 := steps t.toNat (low t.toNat d)
theorem F_nonpos {d : W32} {t : Int} (h : t ≤ 0) : F d t = 0#32 := by
  unfold F
  have : t.toNat = 0 := by omega
  rw [this]
  apply BitVec.eq_of_getLsbD_eq
  intro i hi
  rw [steps, low_bit]; simp
theorem F_succ (d : W32) (t : Int) : F d (t + 1) = step (F d t ^^^ bit (hit d t)) := by
  by_cases h0 : 0 ≤ t
  · obtain ⟨n, rfl⟩ := Int.eq_ofNat_of_zero_le h0
    have e1 : ((n : Int) + 1).toNat = n + 1 := by omega
    have e2 : ((n : Int)).toNat = n := by omega
    unfold F
    rw [e1, e2]
    by_cases h32 : n < 32
    · have hh : hit d n = d.getLsbD n := by unfold hit; simp; omega
      rw [hh, low_succ n h32, steps, steps_xor, steps_shl _ n (by omega)]
      intro i hi
      rw [bit_get]; simp; omega
    · have hh : hit d n = false := by unfold hit; simp; omega
      rw [hh, low_ge _ (by omega), low_ge _ (by omega)]
      simp [bit, steps]
  · have hh : hit d t = false := by unfold hit; simp; omega
    rw [F_nonpos (by omega), F_nonpos (by omega), hh]
    simp [bit]; rfl

def wide (x : UInt8) : W32 := x.toBitVec.zeroExtend 32
theorem wide_xor (x y : UInt8) : wide (x ^^^ y) = wide x ^^^ wide y := by
  unfold wide
  rw [UInt8.toBitVec_xor]; simp [BitVec.truncate_eq_setWidth]
theorem wide_pow (j : Nat) (hj : j < 8) : wide (UInt8.ofNat (2 ^ j)) = 1#32 <<< j := by
  have : ∀ j : Fin 8, wide (UInt8.ofNat (2 ^ j.val)) = 1#32 <<< j.val := by decide
  exact this ⟨j, hj⟩
theorem turn_part (d : W32) (t : Int) : ∀ j : Nat, j ≤ 8 → steps j (F d t ^^^ wide (turnUpto d t j 0)) = F d (t + j)
  | 0, _ => by simp [turnUpto, wide, steps]
  | j + 1, hj => by
    have ih := turn_part d t j (by omega)
    have e : t + ((j + 1 : Nat) : Int) = (t + j) + 1 := by omega
    rw [e, F_succ, ← ih, steps, turnUpto]
    by_cases hh : hit d (t + j) = true
    · rw [if_pos hh, hh, wide_xor, wide_pow j (by omega), ← BitVec.xor_assoc, steps_xor]
      congr 2
      rw [steps_shl _ j (by omega)]
      · rfl
      · intro i hi
        have := bit_get true i
        simp only [bit, if_true] at this
        rw [this]; simp; omega
    · rw [if_neg hh]
      have : hit d (t + j) = false := by simpa using hh
      rw [this]
      simp [bit]
theorem into_mask (d : W32) (t : Int) : into (F d t) (turnUpto d t 8 0) = F d (t + 8) := turn_part d t 8 (Nat.le_refl _)
theorem turn_split (d : W32) (t : Int) (x : UInt8) : ∀ j : Nat, turnUpto d t j x = x ^^^ turnUpto d t j 0
  | 0 => by simp [turnUpto]
  | j + 1 => by
    rw [turnUpto, turnUpto, turn_split d t x j]
    split
    · rw [UInt8.xor_assoc]
    · rfl
def maskL (d : W32) (pos : Int) : Int → Nat → List UInt8
  | _, 0 => []
  | s, n + 1 => turnUpto d (s - pos) 8 0 :: maskL d pos (s + 8) n
theorem maskL_length (d : W32) (pos : Int) : ∀ (n : Nat) (s : Int), (maskL d pos s n).length = n
  | 0, _ => rfl
  | n + 1, s => by simp [maskL, maskL_length d pos n]
theorem turnL_mask (d : W32) (pos : Int) : ∀ (l : List UInt8) (s : Int), turnL d pos s l = xors l (maskL d pos s l.length)
  | [], _ => rfl
  | x :: l, s => by
    simp only [turnL, List.length_cons, maskL]
    rw [turnL_mask d pos l, turn_split]
    rfl
theorem add_mask (d : W32) (pos : Int) : ∀ (n : Nat) (s : Int), add (F d (s - pos)) (maskL d pos s n) = F d (s + 8 * n - pos)
  | 0, s => by simp [maskL, add]
  | n + 1, s => by
    show add (into (F d (s - pos)) (turnUpto d (s - pos) 8 0)) (maskL d pos (s + 8) n) = _
    rw [into_mask]
    have e : s - pos + 8 = (s + 8) - pos := by omega
    rw [e, add_mask d pos n (s + 8)]
    congr 1
    omega
theorem turnUpto_none {d : W32} {t : Int} (x : UInt8) : ∀ j : Nat, (∀ m : Nat, m < j → hit d (t + m) = false) → turnUpto d t j x = x
  | 0, _ => rfl
  | j + 1, h => by
    rw [turnUpto, if_neg (by rw [h j (by omega)]; simp)]
    exact turnUpto_none x j (fun m hm => h m (by omega))
theorem turnL_none {d : W32} {pos : Int} : ∀ (l : List UInt8) (s : Int), (∀ p : Int, s ≤ p → p < s + 8 * l.length → hit d (p - pos) = false) → turnL d pos s l = l
  | [], _, _ => rfl
  | x :: l, s, h => by
    simp only [List.length_cons] at h
    rw [turnL, turnUpto_none x 8 (fun m hm => by
      have := h (s + m) (by omega) (by omega)
      rwa [show s + (m : Int) - pos = s - pos + m by omega] at this), turnL_none l (s + 8) (fun p h1 h2 => h p (by omega) (by omega))]
/-- Digits that fall ahead of the first place do not count. -/
theorem turnUpto_congr {d d' : W32} {t : Int} (x : UInt8) : ∀ j : Nat, (∀ m : Nat, m < j → hit d (t + m) = hit d' (t + m)) → turnUpto d t j x = turnUpto d' t j x
  | 0, _ => rfl
  | j + 1, h => by rw [turnUpto, turnUpto, h j (by omega), turnUpto_congr x j (fun m hm => h m (by omega))]
theorem turnL_congr {d d' : W32} {pos : Int} : ∀ (l : List UInt8) (s : Int), (∀ p : Int, s ≤ p → hit d (p - pos) = hit d' (p - pos)) → turnL d pos s l = turnL d' pos s l
  | [], _, _ => rfl
  | x :: l, s, h => by
    have h1 : turnUpto d (s - pos) 8 x = turnUpto d' (s - pos) 8 x := turnUpto_congr x 8 (fun m hm => by
      have := h (s + m) (by omega)
      rwa [show s + (m : Int) - pos = s - pos + m by omega] at this)
    have h2 : turnL d pos (s + 8) l = turnL d' pos (s + 8) l := turnL_congr l (s + 8) (fun p h1 => h p (by omega))
    rw [turnL, turnL, h1, h2]
theorem xor_cancel {a b : W32} (h : ~~~(a ^^^ b) = ~~~a) : b = 0#32 := by
  apply BitVec.eq_of_getLsbD_eq
  intro i hi
  have := congrArg (fun x : W32 => x.getLsbD i) h
  simp only [BitVec.getLsbD_not, BitVec.getLsbD_xor, hi, decide_true, Bool.true_and] at this
  revert this
  cases a.getLsbD i <;> cases b.getLsbD i <;> simp
theorem tells (d : W32) (pos : Int) (l : List UInt8) (h : sum (turnL d pos 0 l) = sum l) : turnL d pos 0 l = l := by
  let a : Nat := (-pos).toNat
  let d' : W32 := (d >>> a) <<< a
  have hd' : ∀ i, d'.getLsbD i = (decide (a ≤ i) && d.getLsbD i) := by
    intro i
    show ((d >>> a) <<< a).getLsbD i = _
    rw [BitVec.getLsbD_shiftLeft, BitVec.getLsbD_ushiftRight]
    by_cases h1 : a ≤ i
    · have : a + (i - a) = i := by omega
      by_cases h2 : i < 32
      · simp [h1, h2, this]
      · rw [BitVec.getLsbD_of_ge d i (by omega)]; simp [h2]
    · simp [h1]
  have hc : turnL d pos 0 l = turnL d' pos 0 l := turnL_congr l 0 (fun p hp => by
    unfold hit
    by_cases h0 : 0 ≤ p - pos
    · rw [hd']
      have : a ≤ (p - pos).toNat := by show (-pos).toNat ≤ _; omega
      simp [this]
    · rw [show decide (0 ≤ p - pos) = false by simp; omega]; simp)
  rw [hc] at h ⊢
  rw [turnL_mask] at h
  unfold sum at h
  have e0 : full = full ^^^ F d' (0 - pos) := by
    have : F d' (0 - pos) = 0#32 := by
      unfold F
      have hl0 : low (0 - pos).toNat d' = 0#32 := by
        apply BitVec.eq_of_getLsbD_eq
        intro i hi
        rw [low_bit, hd']
        by_cases h1 : i < (0 - pos).toNat
        · have : ¬ a ≤ i := by show ¬ (-pos).toNat ≤ i; omega
          simp [this]
        · rw [show decide (i < (0 - pos).toNat) = false from decide_eq_false h1]; simp
      rw [hl0, steps_zero]
    rw [this, BitVec.xor_zero]
  have e1 : add full (xors l (maskL d' pos 0 l.length)) = add full l ^^^ F d' (0 + 8 * l.length - pos) := by
    conv => lhs; rw [e0]
    rw [add_xor _ _ _ _ (maskL_length _ _ _ _).symm, add_mask]
  rw [e1] at h
  have hz := xor_cancel h
  unfold F at hz
  have hz' := steps_eq_zero hz
  apply turnL_none
  intro p h0 h1
  unfold hit
  by_cases hi : 0 ≤ p - pos
  · have := congrArg (fun x : W32 => x.getLsbD (p - pos).toNat) hz'
    simp only [low_bit] at this
    have hlt : (p - pos).toNat < (0 + 8 * (l.length : Int) - pos).toNat := by omega
    rw [show decide ((p - pos).toNat < (0 + 8 * (l.length : Int) - pos).toNat) = true from decide_eq_true hlt, Bool.true_and] at this
    rw [this]; simp
  · rw [show decide (0 ≤ p - pos) = false from decide_eq_false hi]; simp
end Crc
end Go.Proofs.Ytcapgkfplaebaaa
