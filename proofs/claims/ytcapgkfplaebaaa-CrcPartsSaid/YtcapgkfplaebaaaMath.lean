/-
  The plain mathematics of the sums of chapter 7: what a step makes of a state, that it is linear, that it loses nothing, and what follows of sums. No program in sight.
-/
import Derived.WalkKit
namespace Go.Proofs.Ytcapgkfplaebaaa
namespace Crc
abbrev W32 := BitVec 32
def poly : W32 := 0x82f63b78#32
def step (c : W32) : W32 := if c.getLsbD 0 then (c >>> 1) ^^^ poly else c >>> 1
def steps : Nat → W32 → W32
  | 0, c => c
  | n + 1, c => step (steps n c)
def into (c : W32) (x : UInt8) : W32 := steps 8 (c ^^^ x.toBitVec.zeroExtend 32)
def add (c : W32) (l : List UInt8) : W32 := l.foldl into c
def full : W32 := 4294967295#32
def sum (l : List UInt8) : W32 := ~~~ add full l
def zero1 (c : W32) : W32 := steps 8 c
def zeros : Nat → W32 → W32
  | 0, c => c
  | n + 1, c => zeros n (zero1 c)

theorem step_xor (a b : W32) : step (a ^^^ b) = step a ^^^ step b := by
  unfold step
  rw [BitVec.getLsbD_xor, BitVec.ushiftRight_xor_distrib]
  cases a.getLsbD 0 <;> cases b.getLsbD 0 <;> simp
  · rw [BitVec.xor_assoc]
  · rw [BitVec.xor_assoc, BitVec.xor_assoc, BitVec.xor_comm poly (b >>> 1)]
  · rw [BitVec.xor_assoc, ← BitVec.xor_assoc poly, BitVec.xor_comm poly (b >>> 1), BitVec.xor_assoc, BitVec.xor_self, BitVec.xor_zero]
theorem step_zero : step 0#32 = 0#32 := by decide
theorem step_eq_zero {c : W32} (h : step c = 0#32) : c = 0#32 := by
  unfold step at h
  by_cases hb : c.getLsbD 0
  · rw [if_pos hb] at h
    have h31 := congrArg (fun x : W32 => x.getLsbD 31) h
    simp [poly] at h31
  · rw [if_neg hb] at h
    apply BitVec.eq_of_getLsbD_eq
    intro i hi
    cases i with
    | zero => simpa using hb
    | succ i =>
      have hj := congrArg (fun x : W32 => x.getLsbD i) h
      simp at hj
      simpa [Nat.add_comm] using hj
theorem steps_xor (n : Nat) (a b : W32) : steps n (a ^^^ b) = steps n a ^^^ steps n b := by
  induction n with
  | zero => rfl
  | succ n ih => rw [steps, ih, step_xor]; rfl
theorem steps_zero (n : Nat) : steps n 0#32 = 0#32 := by
  induction n with
  | zero => rfl
  | succ n ih => rw [steps, ih, step_zero]
theorem steps_eq_zero {n : Nat} {c : W32} (h : steps n c = 0#32) : c = 0#32 := by
  induction n with
  | zero => exact h
  | succ n ih => exact ih (step_eq_zero h)
theorem steps_add (m n : Nat) (c : W32) : steps (m + n) c = steps m (steps n c) := by
  induction m with
  | zero => rw [Nat.zero_add]; rfl
  | succ m ih => rw [Nat.succ_add, steps, ih]; rfl

/-- Shifted in from above, digits come out as they were as long as nothing of them falls out. -/
theorem step_shl (y : W32) (j : Nat) (hj : j < 32) (hy : ∀ i, 31 - j ≤ i → y.getLsbD i = false) : step (y <<< (j + 1)) = y <<< j := by
  unfold step
  rw [if_neg (by simp)]
  apply BitVec.eq_of_getLsbD_eq
  intro i hi
  simp only [BitVec.getLsbD_ushiftRight, BitVec.getLsbD_shiftLeft]
  by_cases h1 : 1 + i < 32
  · have e1 : decide (1 + i < j + 1) = decide (i < j) := by apply decide_eq_decide.2; omega
    have e2 : 1 + i - (j + 1) = i - j := by omega
    simp [h1, hi, e1, e2]
  · have : i = 31 := by omega
    subst this
    by_cases hji : 31 < j
    · omega
    · have := hy (31 - j) (Nat.le_refl _)
      simp [this]
theorem steps_shl (y : W32) (j : Nat) (hj : j ≤ 32) (hy : ∀ i, 32 - j ≤ i → y.getLsbD i = false) : steps j (y <<< j) = y := by
  induction j with
  | zero => simp [steps]
  | succ j ih =>
    have e : steps (j + 1) (y <<< (j + 1)) = steps j (step (y <<< (j + 1))) := steps_add j 1 _
    rw [e, step_shl y j (by omega) (fun i hi => hy i (by omega)), ih (by omega) (fun i hi => hy i (by omega))]

theorem split4 (c : W32) : c = ((c >>> 4) <<< 4) ^^^ (c &&& 15#32) := by
  apply BitVec.eq_of_getLsbD_eq
  intro i hi
  have h15 : (15#32).getLsbD i = decide (i < 4) := by
    have : ∀ i : Fin 32, (15#32).getLsbD i = decide (i.val < 4) := by decide
    exact this ⟨i, hi⟩
  simp only [BitVec.getLsbD_xor, BitVec.getLsbD_shiftLeft, BitVec.getLsbD_ushiftRight, BitVec.getLsbD_and, h15]
  by_cases h : i < 4
  · simp [h]
  · have : 4 + (i - 4) = i := by omega
    simp [h, hi, this]
/-- Half a byte at once by a table is four steps. -/
theorem half (c : W32) : (c >>> 4) ^^^ steps 4 (c &&& 15#32) = steps 4 c := by
  conv => rhs; rw [split4 c]
  rw [steps_xor, steps_shl (c >>> 4) 4 (by omega)]
  intro i hi
  simp only [BitVec.getLsbD_ushiftRight]
  exact BitVec.getLsbD_of_ge _ _ (by omega)

theorem into_xor (a b : W32) (x y : UInt8) : into (a ^^^ b) (x ^^^ y) = into a x ^^^ into b y := by
  unfold into
  rw [← steps_xor]
  congr 1
  have : (x ^^^ y).toBitVec.zeroExtend 32 = x.toBitVec.zeroExtend 32 ^^^ y.toBitVec.zeroExtend 32 := by
    rw [UInt8.toBitVec_xor]; simp [BitVec.truncate_eq_setWidth]
  rw [this]
  rw [BitVec.xor_assoc, BitVec.xor_assoc, ← BitVec.xor_assoc b, BitVec.xor_comm b, BitVec.xor_assoc]

/-- The exclusive or of two rows, place by place (of the shorter one's length). -/
def xors (a b : List UInt8) : List UInt8 := List.zipWith (· ^^^ ·) a b
theorem add_xor : ∀ (a b : List UInt8) (s t : W32), a.length = b.length → add (s ^^^ t) (xors a b) = add s a ^^^ add t b
  | [], [], _, _, _ => rfl
  | x :: a, y :: b, s, t, h => by
    show add (into (s ^^^ t) (x ^^^ y)) (xors a b) = add (into s x) a ^^^ add (into t y) b
    rw [into_xor]
    exact add_xor a b _ _ (by simpa using h)
theorem add_append (c : W32) (a b : List UInt8) : add c (a ++ b) = add (add c a) b := by simp [add]
theorem zeros_xor (n : Nat) (a b : W32) : zeros n (a ^^^ b) = zeros n a ^^^ zeros n b := by
  induction n generalizing a b with
  | zero => rfl
  | succ n ih => rw [zeros, zero1, steps_xor, ih]; rfl
theorem zeros_add (m n : Nat) (c : W32) : zeros (m + n) c = zeros n (zeros m c) := by
  induction m generalizing c with
  | zero => rw [Nat.zero_add]; rfl
  | succ m ih => rw [Nat.succ_add, zeros, ih]; rfl
theorem zeros_succ (n : Nat) (c : W32) : zeros (n + 1) c = zero1 (zeros n c) := by rw [zeros_add]; rfl
theorem into_zero (c : W32) : into c 0 = zero1 c := by simp [into, zero1]
/-- What stood in the state ahead goes on as through noughts. -/
theorem add_state (l : List UInt8) : ∀ s t : W32, add (s ^^^ t) l = add s l ^^^ zeros l.length t := by
  induction l with
  | nil => intro s t; rfl
  | cons x l ih =>
    intro s t
    show add (into (s ^^^ t) x) l = add (into s x) l ^^^ zeros l.length (zero1 t)
    rw [← ih, ← into_zero, ← into_xor]
    simp

theorem not_xor3 (a b c : W32) : ~~~(a ^^^ b ^^^ c) = ~~~a ^^^ ~~~b ^^^ ~~~c := by
  apply BitVec.eq_of_getLsbD_eq
  intro i hi
  simp only [BitVec.getLsbD_not, BitVec.getLsbD_xor, hi, decide_true, Bool.true_and]
  cases a.getLsbD i <;> cases b.getLsbD i <;> cases c.getLsbD i <;> rfl
theorem sum_xor3 (a b c : List UInt8) (hb : a.length = b.length) (hc : b.length = c.length) : sum (xors (xors a b) c) = sum a ^^^ sum b ^^^ sum c := by
  unfold sum
  rw [← not_xor3]
  have e : full = full ^^^ full ^^^ full := by decide
  conv => lhs; rw [e]
  rw [add_xor _ _ _ _ (by simp [xors, List.length_zipWith]; omega), add_xor _ _ _ _ hb]
theorem sum_append (a b : List UInt8) : sum (a ++ b) = zeros b.length (sum a) ^^^ sum b := by
  unfold sum
  rw [add_append]
  have e : add full a = full ^^^ ~~~ add full a := by
    apply BitVec.eq_of_getLsbD_eq
    intro i hi
    have hf : full.getLsbD i = true := by
      have : ∀ i : Fin 32, full.getLsbD i = true := by decide
      exact this ⟨i, hi⟩
    simp only [BitVec.getLsbD_not, BitVec.getLsbD_xor, hi, hf, decide_true, Bool.true_and]
    cases (add full a).getLsbD i <;> rfl
  conv => lhs; rw [e, add_state]
  rw [BitVec.xor_comm]
  apply BitVec.eq_of_getLsbD_eq
  intro i hi
  simp only [BitVec.getLsbD_not, BitVec.getLsbD_xor, hi, decide_true, Bool.true_and]
  cases BitVec.getLsbD (zeros b.length (~~~ add full a)) i <;> cases (add full b).getLsbD i <;> rfl

/-! Digits turned about. -/
def hit (d : W32) (i : Int) : Bool := decide (0 ≤ i) && (decide (i < 32) && d.getLsbD i.toNat)
def turnUpto (d : W32) (s : Int) : Nat → UInt8 → UInt8
  | 0, x => x
  | j + 1, x => if hit d (s + j) then turnUpto d s j x ^^^ UInt8.ofNat (2 ^ j) else turnUpto d s j x
def turnL (d : W32) (pos : Int) : Int → List UInt8 → List UInt8
  | _, [] => []
  | s, x :: l => turnUpto d (s - pos) 8 x :: turnL d pos (s + 8) l
theorem turnL_length (d : W32) (pos : Int) : ∀ (l : List UInt8) (s : Int), (turnL d pos s l).length = l.length
  | [], _ => rfl
  | x :: l, s => by simp [turnL, turnL_length d pos l]
theorem turnL_snoc (d : W32) (pos : Int) (x : UInt8) : ∀ (l : List UInt8) (s : Int), turnL d pos s (l ++ [x]) = turnL d pos s l ++ [turnUpto d (s + 8 * l.length - pos) 8 x]
  | [], s => by simp [turnL]
  | y :: l, s => by
    simp only [List.cons_append, turnL, turnL_snoc d pos x l (s + 8), List.length_cons, List.cons.injEq, true_and]
    congr 4
    omega

/-! Linear functions by what they make of each digit. -/
def Lin (f : W32 → W32) : Prop := ∀ a b, f (a ^^^ b) = f a ^^^ f b
theorem Lin.zero {f : W32 → W32} (h : Lin f) : f 0#32 = 0#32 := by
  have := h 0#32 0#32
  rw [BitVec.xor_self] at this
  rw [this, BitVec.xor_self]
theorem lin_zeros (n : Nat) : Lin (zeros n) := fun a b => zeros_xor n a b
theorem shift_part (c : W32) (i : Nat) (hi : i < 32) : (c >>> i) <<< i = (if c.getLsbD i then 1#32 <<< i else 0#32) ^^^ ((c >>> (i + 1)) <<< (i + 1)) := by
  apply BitVec.eq_of_getLsbD_eq
  intro j hj
  have hone : (1#32 <<< i).getLsbD j = decide (j = i) := by
    rw [BitVec.getLsbD_shiftLeft]
    have h1 : ∀ k : Fin 32, (1#32).getLsbD k.val = decide (k.val = 0) := by decide
    by_cases h : j < i
    · simp [h]; omega
    · have := h1 ⟨j - i, by omega⟩
      simp only at this
      rw [this]
      by_cases e : j = i
      · subst e; simp [hj]
      · have : ¬ j - i = 0 := by omega
        simp [this, e]
  rw [BitVec.getLsbD_xor, BitVec.getLsbD_shiftLeft, BitVec.getLsbD_shiftLeft, BitVec.getLsbD_ushiftRight, BitVec.getLsbD_ushiftRight]
  have hif : (if c.getLsbD i = true then 1#32 <<< i else 0#32).getLsbD j = (c.getLsbD i && decide (j = i)) := by
    split
    · rename_i h; rw [hone, h]; simp
    · rename_i h; simp at h; rw [h]; simp
  rw [hif]
  by_cases h1 : j < i
  · have : ¬ j = i := by omega
    simp [h1, this]; omega
  · by_cases h2 : j = i
    · subst h2; simp [hj]
    · have e1 : i + (j - i) = j := by omega
      have e2 : i + 1 + (j - (i + 1)) = j := by omega
      have h3 : ¬ j < i + 1 := by omega
      simp [h1, h2, h3, hj, e1, e2]
theorem shift_none {c : W32} {i : Nat} (h : 32 ≤ i) : c >>> i = 0#32 := by
  apply BitVec.eq_of_getLsbD_eq
  intro j hj
  rw [BitVec.getLsbD_ushiftRight, BitVec.getLsbD_of_ge _ _ (by omega)]; simp
theorem zeros_mul (p : Nat) (n : Nat) (s : W32) : zeros (p * (n + 1)) s = zeros (p * n) (zeros p s) := by
  rw [Nat.mul_succ, Nat.add_comm, zeros_add]
end Crc
end Go.Proofs.Ytcapgkfplaebaaa
