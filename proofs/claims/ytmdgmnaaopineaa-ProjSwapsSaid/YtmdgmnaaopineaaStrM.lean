/- The bytes of a stripe in plain words: what reading one gives, how one is written. No walk. -/
import Derived.Test.YtmdgmnaaopineaaCodN
import Derived.Test.YtmdgmnaaopineaaStp2
namespace Go.Proofs.Ytmdgmnaaopineaa
set_option linter.unusedVariables false
/-- Numbers, written one behind the other. -/
def flat (ns : List Nat) : List UInt8 := (ns.map vbytes).flatten
theorem flat_nil : flat [] = [] := rfl
theorem flat_cons (x : Nat) (ns : List Nat) : flat (x :: ns) = vbytes x ++ flat ns := by simp [flat]
theorem flat_append (a b : List Nat) : flat (a ++ b) = flat a ++ flat b := by simp [flat]
def nx (o : Option Nat) (x : Nat) : Nat := match o with | none => x | some a => a + x + 1
/-- The steps of a list that goes on behind a number. -/
def stepsFrom : Option Nat → List Nat → List Nat
  | _, [] => []
  | none, x :: xs => x :: stepsFrom (some x) xs
  | some a, x :: xs => (x - a - 1) :: stepsFrom (some x) xs
def RisesFrom : Option Nat → List Nat → Prop
  | _, [] => True
  | none, x :: xs => RisesFrom (some x) xs
  | some a, x :: xs => a < x ∧ RisesFrom (some x) xs
theorem stepsFrom_nx (o : Option Nat) (x : Nat) (xs : List Nat) : stepsFrom o (nx o x :: xs) = x :: stepsFrom (some (nx o x)) xs := by
  cases o with
  | none => rfl
  | some a =>
    show (a + x + 1 - a - 1) :: _ = _
    congr 1
    omega
theorem risesFrom_nx (o : Option Nat) (x : Nat) (xs : List Nat) : RisesFrom o (nx o x :: xs) ↔ RisesFrom (some (nx o x)) xs := by
  cases o with
  | none => exact Iff.rfl
  | some a => exact ⟨fun h => h.2, fun h => ⟨by show a < a + x + 1; omega, h⟩⟩
theorem risesFrom_cons {o : Option Nat} {y : Nat} {xs : List Nat} (h : RisesFrom o (y :: xs)) : ∃ x, y = nx o x ∧ x ≤ y ∧ RisesFrom (some y) xs := by
  cases o with
  | none => exact ⟨y, rfl, Nat.le_refl _, h⟩
  | some a => exact ⟨y - a - 1, by have := h.1; show y = a + (y - a - 1) + 1; omega, by omega, h.2⟩
theorem risesFrom_iff : ∀ (l : List Nat) (o : Option Nat), RisesFrom o l ↔ (∀ a x, o = some a → l[0]? = some x → a < x) ∧ Rises l
  | [], o => by
    refine ⟨fun _ => ⟨fun a x _ h => by simp at h, fun i a b h => by simp at h⟩, fun _ => by cases o <;> trivial⟩
  | x :: xs, o => by
    have ih := risesFrom_iff xs (some x)
    have key : (∀ a y, some x = some a → xs[0]? = some y → a < y) ∧ Rises xs ↔ Rises (x :: xs) := by
      constructor
      · rintro ⟨h1, h2⟩ i a b ha hb
        cases i with
        | zero =>
          simp only [List.getElem?_cons_zero, Option.some.injEq] at ha
          subst ha
          exact h1 _ _ rfl (by simpa using hb)
        | succ i => exact h2 i a b (by simpa using ha) (by simpa using hb)
      · intro h
        exact ⟨fun a y ha hy => by
          injection ha with ha
          subst ha
          exact h 0 _ _ rfl (by simpa using hy), fun i a b ha hb => h (i + 1) a b (by simpa using ha) (by simpa using hb)⟩
    cases o with
    | none =>
      show RisesFrom (some x) xs ↔ _
      rw [ih, key]
      exact ⟨fun h => ⟨(fun a y ha => by cases ha), h⟩, fun h => h.2⟩
    | some a =>
      show a < x ∧ RisesFrom (some x) xs ↔ _
      rw [ih, key]
      refine ⟨fun h => ⟨fun a' y ha hy => ?_, h.2⟩, fun h => ⟨h.1 a x rfl rfl, h.2⟩⟩
      injection ha with ha
      simp only [List.getElem?_cons_zero, Option.some.injEq] at hy
      subst ha; subst hy
      exact h.1
theorem rises_iff (l : List Nat) : RisesFrom none l ↔ Rises l := by
  rw [risesFrom_iff]
  exact ⟨fun h => h.2, fun h => ⟨(fun a x ha => by cases ha), h⟩⟩

/-- How many there are, one at least. -/
def manyF (l : List UInt8) (p : Nat) (f : Flt) (m : Nat) : Nat × Nat × Flt := if (mostF l p f m).1 = 0 then (0, (mostF l p f m).2.1, failF (mostF l p f m).2.2 3 p) else mostF l p f m
/-- A rising list of so many more numbers, behind those that were read. -/
def risF (l : List UInt8) : Nat → Nat → Flt → List Nat → List Nat × Nat × Flt
  | 0, p, f, acc => (acc, p, f)
  | k + 1, p, f, acc =>
    if (vrdF l p f).2.2.1 = 0 then
      if 18446744073709551616 ≤ nx acc[acc.length - 1]? (vrdF l p f).1 then ([], (vrdF l p f).2.1, failF (vrdF l p f).2.2 13 p)
      else risF l k (vrdF l p f).2.1 (vrdF l p f).2.2 (acc ++ [nx acc[acc.length - 1]? (vrdF l p f).1])
    else ([], (vrdF l p f).2)
open Classical in
/-- A set behind others. -/
noncomputable def setF (l : List UInt8) (p : Nat) (f : Flt) (others : List (List Nat)) : List Nat × Nat × Flt :=
  let m := manyF l p f 8
  let r := risF l m.1 m.2.1 m.2.2 []
  if r.2.2.1 = 0 then
    if 4294967295 < r.1.getD (r.1.length - 1) 0 then (r.1, r.2.1, failF r.2.2 3 m.2.1)
    else if Apart r.1 others then r else (r.1, r.2.1, failF r.2.2 13 m.2.1)
  else ([], r.2)
noncomputable def setsF (l : List UInt8) : Nat → Nat → Flt → List (List Nat) → List (List Nat) × Nat × Flt
  | 0, p, f, sets => (sets, p, f)
  | k + 1, p, f, sets => if (setF l p f sets).2.2.1 = 0 then setsF l k (setF l p f sets).2.1 (setF l p f sets).2.2 (sets ++ [(setF l p f sets).1]) else (sets ++ [(setF l p f sets).1], (setF l p f sets).2)
noncomputable def strF (l : List UInt8) (p : Nat) (f : Flt) (fr : Nat) : Stp × Nat × Flt :=
  if 4611686018427387904 < fr then ((0, 0, []), p, failF f 3 p)
  else if (vrdF l p f).2.2.1 = 0 ∧ 4611686018427387904 - fr ≤ (vrdF l p f).1 then ((0, 0, []), (vrdF l p f).2.1, failF (vrdF l p f).2.2 3 p)
  else
    let m := manyF l (vrdF l p f).2.1 (vrdF l p f).2.2 8
    let s := setsF l m.1 m.2.1 m.2.2 []
    if s.2.2.1 = 0 then ((fr, fr + (vrdF l p f).1 + 1, s.1), s.2) else ((0, 0, []), s.2)

theorem manyF_ok {l : List UInt8} {p m : Nat} {f : Flt} (h : OkF f) : OkF (manyF l p f m).2.2 := by
  unfold manyF; split
  · exact (mostF_ok m h).fail _ _
  · exact mostF_ok m h
theorem manyF_q {l : List UInt8} {p m : Nat} {f : Flt} : (manyF l p f m).2.1 = (vrdF l p f).2.1 := by
  unfold manyF; split <;> exact mostF_q
theorem mostF_fail0 {l : List UInt8} {p m : Nat} {f : Flt} (h : (mostF l p f m).2.2.1 ≠ 0) : (mostF l p f m).1 = 0 := by
  unfold mostF at *
  split
  · rfl
  · rename_i h0
    rw [if_neg h0] at h
    exact vrdF_fail0 h
theorem manyF_fail0 {l : List UInt8} {p m : Nat} {f : Flt} (h : (manyF l p f m).2.2.1 ≠ 0) : (manyF l p f m).1 = 0 := by
  unfold manyF at *
  split
  · rfl
  · rename_i h0
    rw [if_neg h0] at h
    exact absurd (mostF_fail0 h) h0
theorem mostF_le {l : List UInt8} {p m : Nat} {f : Flt} : (mostF l p f m).1 ≤ m := by
  unfold mostF
  split
  · exact Nat.zero_le _
  · rename_i h; exact Nat.not_lt.1 h
theorem manyF_le {l : List UInt8} {p m : Nat} {f : Flt} : (manyF l p f m).1 ≤ m := by
  unfold manyF
  split
  · exact Nat.zero_le _
  · exact mostF_le
theorem manyF_inv {l : List UInt8} {p m : Nat} {f : Flt} (h : (manyF l p f m).2.2.1 = 0) : f.1 = 0 ∧ 1 ≤ (manyF l p f m).1 ∧ (manyF l p f m).1 ≤ m ∧ (manyF l p f m).2.1 = p + (vbytes (manyF l p f m).1).length ∧ (manyF l p f m).2.1 ≤ l.length ∧ Stands l p (vbytes (manyF l p f m).1) := by
  unfold manyF at *
  by_cases h0 : (mostF l p f m).1 = 0
  · rw [if_pos h0] at h
    exact absurd h (failF_bad (by decide))
  · rw [if_neg h0] at h ⊢
    obtain ⟨a, b, c, d, e, g, _⟩ := mostF_inv h
    exact ⟨a, by omega, b, d, e, g⟩
theorem manyF_stands {l : List UInt8} {p x m : Nat} (h1 : 1 ≤ x) (hm : x ≤ m) (hm64 : m < 18446744073709551616) (h : Stands l p (vbytes x)) : manyF l p (0, 0) m = (x, p + (vbytes x).length, (0, 0)) := by
  unfold manyF
  rw [mostF_stands (by omega) hm h]
  exact if_neg (by simp only; omega)

theorem risF_ok {l : List UInt8} : ∀ {k p : Nat} {f : Flt} {acc : List Nat}, OkF f → OkF (risF l k p f acc).2.2
  | 0, p, f, acc, h => h
  | k + 1, p, f, acc, h => by
    unfold risF
    split
    · split
      · exact (vrdF_ok h).fail _ _
      · exact risF_ok (vrdF_ok h)
    · exact vrdF_ok h
theorem risF_q {l : List UInt8} : ∀ {k p : Nat} {f : Flt} {acc : List Nat}, p ≤ l.length → (risF l k p f acc).2.1 ≤ l.length
  | 0, p, f, acc, h => h
  | k + 1, p, f, acc, h => by
    unfold risF
    split
    · split
      · exact (vrdF_le h).1
      · exact risF_q (vrdF_le h).1
    · exact (vrdF_le h).1
theorem risF_step {l : List UInt8} {k p : Nat} {f : Flt} {acc : List Nat} (h0 : (vrdF l p f).2.2.1 = 0) (h1 : ¬ 18446744073709551616 ≤ nx acc[acc.length - 1]? (vrdF l p f).1) :
    risF l (k + 1) p f acc = risF l k (vrdF l p f).2.1 (vrdF l p f).2.2 (acc ++ [nx acc[acc.length - 1]? (vrdF l p f).1]) := by
  rw [risF, if_pos h0, if_neg h1]
theorem last_snoc (acc : List Nat) (y : Nat) : (acc ++ [y])[(acc ++ [y]).length - 1]? = some y := by simp
/-- **A rising list that was read.** -/
theorem risF_inv {l : List UInt8} : ∀ {k p : Nat} {f : Flt} {acc : List Nat}, (risF l k p f acc).2.2.1 = 0 →
    ∃ new, (risF l k p f acc).1 = acc ++ new ∧ new.length = k ∧ RisesFrom acc[acc.length - 1]? new ∧ (∀ x ∈ new, x < 18446744073709551616) ∧ (risF l k p f acc).2.1 = p + (flat (stepsFrom acc[acc.length - 1]? new)).length ∧ Stands l p (flat (stepsFrom acc[acc.length - 1]? new)) ∧ (p ≤ l.length → (risF l k p f acc).2.1 ≤ l.length) ∧ f.1 = 0
  | 0, p, f, acc, h => by
    refine ⟨[], by simp [risF], rfl, ?_, by simp, ?_, ?_, fun h => h, h⟩
    · cases acc[acc.length - 1]? <;> trivial
    · cases acc[acc.length - 1]? <;> simp [risF, stepsFrom, flat]
    · cases acc[acc.length - 1]? <;> exact Stands.nil _ _
  | k + 1, p, f, acc, h => by
    unfold risF at h ⊢
    by_cases h0 : (vrdF l p f).2.2.1 = 0
    · rw [if_pos h0] at h ⊢
      by_cases h1 : 18446744073709551616 ≤ nx acc[acc.length - 1]? (vrdF l p f).1
      · rw [if_pos h1] at h
        exact absurd h (failF_bad (by decide))
      · rw [if_neg h1] at h ⊢
        obtain ⟨new, e1, e2, e3, e4, e5, e6, e7, e8⟩ := risF_inv h
        obtain ⟨v0, v1, v2, v3, v4⟩ := vrdF_inv h0
        rw [last_snoc] at e3 e5 e6
        refine ⟨nx acc[acc.length - 1]? (vrdF l p f).1 :: new, by rw [e1]; simp, by rw [List.length_cons, e2], (risesFrom_nx _ _ _).2 e3, ?_, ?_, ?_, fun _ => e7 v3, v0⟩
        · intro x hx
          rcases List.mem_cons.1 hx with rfl | hx
          · omega
          · exact e4 x hx
        · rw [stepsFrom_nx, flat_cons, List.length_append, e5, v2]; omega
        · rw [stepsFrom_nx, flat_cons, stands_append]
          refine ⟨v4, ?_⟩
          rw [← v2]; exact e6
    · rw [if_neg h0] at h
      exact absurd h h0
/-- **A rising list is read so.** -/
theorem risF_stands {l : List UInt8} : ∀ {new : List Nat} {p : Nat} {acc : List Nat}, RisesFrom acc[acc.length - 1]? new → (∀ x ∈ new, x < 18446744073709551616) → Stands l p (flat (stepsFrom acc[acc.length - 1]? new)) →
    risF l new.length p (0, 0) acc = (acc ++ new, p + (flat (stepsFrom acc[acc.length - 1]? new)).length, (0, 0))
  | [], p, acc, _, _, _ => by
    have e : stepsFrom acc[acc.length - 1]? [] = [] := by cases acc[acc.length - 1]? <;> rfl
    rw [e]
    simp [risF, flat]
  | y :: new, p, acc, hr, hx, hs => by
    obtain ⟨x, hy, hxy, hr'⟩ := risesFrom_cons hr
    have hy64 : y < 18446744073709551616 := hx y (by simp)
    rw [hy, stepsFrom_nx, ← hy] at hs ⊢
    rw [flat_cons] at hs ⊢
    rw [stands_append] at hs
    have hv : vrdF l p (0, 0) = (x, p + (vbytes x).length, (0, 0)) := vrdF_stands (by omega) hs.1
    rw [List.length_cons, risF_step (by rw [hv]) (by rw [hv]; show ¬ 18446744073709551616 ≤ nx acc[acc.length - 1]? x; rw [← hy]; omega), hv]
    simp only
    rw [← hy]
    have := risF_stands (l := l) (new := new) (p := p + (vbytes x).length) (acc := acc ++ [y]) (by rw [last_snoc]; exact hr') (fun z hz => hx z (by simp [hz])) (by rw [last_snoc]; exact hs.2)
    rw [this, last_snoc]
    simp only [List.append_assoc, List.singleton_append, List.length_append, Nat.add_assoc]

/-- The numbers by which a set, and a stripe, is written. -/
def setn (x : List Nat) : List Nat := x.length :: stepsFrom none x
def stn (s : Stp) : List Nat := (s.2.1 - s.1 - 1) :: s.2.2.length :: (s.2.2.map setn).flatten
def stb (s : Stp) : List UInt8 := flat (stn s)
theorem setF_ok {l : List UInt8} {p : Nat} {f : Flt} {others : List (List Nat)} (h : OkF f) : OkF (setF l p f others).2.2 := by
  have hr : OkF (risF l (manyF l p f 8).1 (manyF l p f 8).2.1 (manyF l p f 8).2.2 []).2.2 := risF_ok (manyF_ok h)
  unfold setF
  simp only
  split
  · split
    · exact hr.fail _ _
    · split
      · exact hr
      · exact hr.fail _ _
  · exact hr
theorem setF_q {l : List UInt8} {p : Nat} {f : Flt} {others : List (List Nat)} (h : p ≤ l.length) : (setF l p f others).2.1 ≤ l.length := by
  have hr : (risF l (manyF l p f 8).1 (manyF l p f 8).2.1 (manyF l p f 8).2.2 []).2.1 ≤ l.length := risF_q (by rw [manyF_q]; exact (vrdF_le h).1)
  unfold setF
  simp only
  split
  · split
    · exact hr
    · split <;> exact hr
  · exact hr
theorem nodesOk_lt {x : List Nat} (h : NodesOk x) : ∀ y ∈ x, y < 4294967296 := by
  obtain ⟨h1, _, h3, h4⟩ := h
  have mono : ∀ (d i a b : Nat), x[i]? = some a → x[i + d]? = some b → a ≤ b := by
    intro d
    induction d with
    | zero => intro i a b ha hb; rw [Nat.add_zero, ha] at hb; injection hb with hb; omega
    | succ d ih =>
      intro i a b ha hb
      have hlt := (List.getElem?_eq_some_iff.1 hb).1
      have hc := List.getElem?_eq_getElem (l := x) (show i + d < x.length by omega)
      have h5 := ih i a _ ha hc
      have h6 := h3 (i + d) _ _ hc hb
      omega
  intro y hy
  obtain ⟨i, hi⟩ := List.getElem?_of_mem hy
  have hil := (List.getElem?_eq_some_iff.1 hi).1
  have hl := List.getElem?_eq_getElem (l := x) (show x.length - 1 < x.length by omega)
  have h5 := mono (x.length - 1 - i) i y _ hi (by rw [show i + (x.length - 1 - i) = x.length - 1 by omega]; exact hl)
  have h6 := h4 _ hl
  omega
theorem setF_inv {l : List UInt8} {p : Nat} {f : Flt} {others : List (List Nat)} (h : (setF l p f others).2.2.1 = 0) :
    NodesOk (setF l p f others).1 ∧ Apart (setF l p f others).1 others ∧ (setF l p f others).2.1 = p + (flat (setn (setF l p f others).1)).length ∧ (setF l p f others).2.1 ≤ l.length ∧ Stands l p (flat (setn (setF l p f others).1)) := by
  unfold setF at h ⊢
  simp only at h ⊢
  by_cases h0 : (risF l (manyF l p f 8).1 (manyF l p f 8).2.1 (manyF l p f 8).2.2 []).2.2.1 = 0
  · rw [if_pos h0] at h ⊢
    obtain ⟨new, e1, e2, e3, e4, e5, e6, e7, e8⟩ := risF_inv h0
    obtain ⟨_, m1, m2, m3, m4, m5⟩ := manyF_inv e8
    have e9 := e7 m4
    generalize risF l (manyF l p f 8).1 (manyF l p f 8).2.1 (manyF l p f 8).2.2 [] = r at *
    obtain ⟨x, q, F⟩ := r
    simp only [List.nil_append] at e1
    subst e1
    simp only [List.length_nil, Nat.zero_sub, List.getElem?_nil] at e3 e5 e6 h0 e9 h ⊢
    by_cases hl : 4294967295 < x.getD (x.length - 1) 0
    · rw [if_pos hl] at h
      exact absurd h (failF_bad (by decide))
    · rw [if_neg hl] at h ⊢
      by_cases ha : Apart x others
      · rw [if_pos ha]
        show NodesOk x ∧ Apart x others ∧ q = p + (flat (setn x)).length ∧ q ≤ l.length ∧ Stands l p (flat (setn x))
        refine ⟨⟨by omega, by omega, (rises_iff x).1 e3, fun a h => ?_⟩, ha, ?_, e9, ?_⟩
        · rw [List.getD_eq_getElem?_getD, h] at hl
          simp only [Option.getD_some] at hl
          omega
        · simp only [setn, flat_cons, List.length_append]
          rw [e5, m3, e2]; omega
        · simp only [setn, flat_cons, stands_append]
          rw [e2, ← m3]
          exact ⟨m5, e6⟩
      · rw [if_neg ha] at h
        exact absurd h (failF_bad (by decide))
  · rw [if_neg h0] at h
    exact absurd h h0
theorem setF_stands {l : List UInt8} {p : Nat} {x : List Nat} {others : List (List Nat)} (h1 : NodesOk x) (h2 : Apart x others) (h : Stands l p (flat (setn x))) : setF l p (0, 0) others = (x, p + (flat (setn x)).length, (0, 0)) := by
  have hlt := nodesOk_lt h1
  simp only [setn, flat_cons, stands_append] at h
  have hm : manyF l p (0, 0) 8 = (x.length, p + (vbytes x.length).length, (0, 0)) := manyF_stands h1.1 h1.2.1 (by decide) h.1
  have hr := risF_stands (l := l) (new := x) (p := p + (vbytes x.length).length) (acc := []) (by simpa using (rises_iff x).2 h1.2.2.1) (fun y hy => by have := hlt y hy; omega) (by simpa using h.2)
  simp only [List.nil_append, List.length_nil, Nat.zero_sub, List.getElem?_nil] at hr
  unfold setF
  rw [hm]
  simp only
  rw [hr]
  simp only
  rw [if_pos trivial, if_neg (by
    rw [List.getD_eq_getElem?_getD, List.getElem?_eq_getElem (by have := h1.1; omega), Option.getD_some]
    have := hlt _ (List.getElem_mem (l := x) (n := x.length - 1) (by have := h1.1; omega))
    omega), if_pos h2]
  simp only [setn, flat_cons, List.length_append, Nat.add_assoc]
theorem setsF_ok {l : List UInt8} : ∀ {k p : Nat} {f : Flt} {sets : List (List Nat)}, OkF f → OkF (setsF l k p f sets).2.2
  | 0, p, f, sets, h => h
  | k + 1, p, f, sets, h => by
    unfold setsF
    split
    · exact setsF_ok (setF_ok h)
    · exact setF_ok h
theorem setsF_q {l : List UInt8} : ∀ {k p : Nat} {f : Flt} {sets : List (List Nat)}, p ≤ l.length → (setsF l k p f sets).2.1 ≤ l.length
  | 0, p, f, sets, h => h
  | k + 1, p, f, sets, h => by
    unfold setsF
    split
    · exact setsF_q (setF_q h)
    · exact setF_q h
theorem setsF_inv {l : List UInt8} : ∀ {k p : Nat} {f : Flt} {sets : List (List Nat)}, (setsF l k p f sets).2.2.1 = 0 → p ≤ l.length →
    ∃ new, (setsF l k p f sets).1 = sets ++ new ∧ new.length = k ∧ (∀ (i : Nat) x, new[i]? = some x → NodesOk x ∧ Apart x (sets ++ new.take i)) ∧ (setsF l k p f sets).2.1 = p + (flat (new.map setn).flatten).length ∧ (setsF l k p f sets).2.1 ≤ l.length ∧ Stands l p (flat (new.map setn).flatten)
  | 0, p, f, sets, h, hp => ⟨[], by simp [setsF], rfl, by simp, by simp [setsF, flat], hp, Stands.nil _ _⟩
  | k + 1, p, f, sets, h, hp => by
    unfold setsF at h ⊢
    by_cases h0 : (setF l p f sets).2.2.1 = 0
    · rw [if_pos h0] at h ⊢
      obtain ⟨n1, n2, n3, n4, n5⟩ := setF_inv h0
      obtain ⟨new, e1, e2, e3, e4, e5, e6⟩ := setsF_inv h n4
      refine ⟨(setF l p f sets).1 :: new, by rw [e1]; simp, by rw [List.length_cons, e2], ?_, ?_, e5, ?_⟩
      · intro i x hi
        cases i with
        | zero =>
          simp only [List.getElem?_cons_zero, Option.some.injEq] at hi
          subst hi
          exact ⟨n1, by simpa using n2⟩
        | succ i =>
          have := e3 i x (by simpa using hi)
          rw [List.append_assoc] at this
          exact this
      · rw [List.map_cons, List.flatten_cons, flat_append, List.length_append, e4, n3]; omega
      · rw [List.map_cons, List.flatten_cons, flat_append, stands_append]
        refine ⟨n5, ?_⟩
        rw [← n3]; exact e6
    · rw [if_neg h0] at h
      exact absurd h h0
theorem setsF_step {l : List UInt8} {k p : Nat} {f : Flt} {sets : List (List Nat)} (h : (setF l p f sets).2.2.1 = 0) :
    setsF l (k + 1) p f sets = setsF l k (setF l p f sets).2.1 (setF l p f sets).2.2 (sets ++ [(setF l p f sets).1]) := by
  rw [setsF, if_pos h]
theorem setsF_stands {l : List UInt8} : ∀ {new : List (List Nat)} {p : Nat} {sets : List (List Nat)}, (∀ (i : Nat) x, new[i]? = some x → NodesOk x ∧ Apart x (sets ++ new.take i)) → Stands l p (flat (new.map setn).flatten) →
    setsF l new.length p (0, 0) sets = (sets ++ new, p + (flat (new.map setn).flatten).length, (0, 0))
  | [], p, sets, _, _ => by simp [setsF, flat]
  | x :: new, p, sets, hn, hs => by
    rw [List.map_cons, List.flatten_cons, flat_append] at hs ⊢
    rw [stands_append] at hs
    have h0 := hn 0 x rfl
    have hx := setF_stands h0.1 (by simpa using h0.2) hs.1
    rw [List.length_cons, setsF_step (by rw [hx]), hx]
    simp only
    rw [setsF_stands (fun i y hi => by
      have := hn (i + 1) y (by simpa using hi)
      rw [List.append_assoc]
      exact this) hs.2]
    simp only [List.append_assoc, List.singleton_append, List.length_append, Nat.add_assoc]
theorem strF_ok {l : List UInt8} {p fr : Nat} {f : Flt} (h : OkF f) : OkF (strF l p f fr).2.2 := by
  unfold strF
  split
  · exact h.fail _ _
  · split
    · exact (vrdF_ok h).fail _ _
    · simp only
      split <;> exact setsF_ok (manyF_ok (vrdF_ok h))
theorem strF_q {l : List UInt8} {p fr : Nat} {f : Flt} (h : p ≤ l.length) : (strF l p f fr).2.1 ≤ l.length := by
  have h2 := (vrdF_le (f := f) h).1
  unfold strF
  split
  · exact h
  · split
    · exact h2
    · simp only
      split <;> exact setsF_q (by rw [manyF_q]; exact (vrdF_le h2).1)
theorem strF_fail0 {l : List UInt8} {p fr : Nat} {f : Flt} (h : (strF l p f fr).2.2.1 ≠ 0) : (strF l p f fr).1 = (0, 0, []) := by
  unfold strF at h ⊢
  split
  · rfl
  · rename_i h1
    rw [if_neg h1] at h
    split
    · rfl
    · rename_i h2
      rw [if_neg h2] at h
      simp only at h ⊢
      split
      · rename_i h3
        rw [if_pos h3] at h
        exact absurd h3 h
      · rfl
/-- **The stripe that was read is what was written.** -/
theorem strF_inv {l : List UInt8} {p fr : Nat} {f : Flt} (hp : p ≤ l.length) (h : (strF l p f fr).2.2.1 = 0) :
    (strF l p f fr).1.1 = fr ∧ SOk (strF l p f fr).1 ∧ (strF l p f fr).2.1 = p + (stb (strF l p f fr).1).length ∧ (strF l p f fr).2.1 ≤ l.length ∧ Stands l p (stb (strF l p f fr).1) := by
  unfold strF at h ⊢
  by_cases h1 : 4611686018427387904 < fr
  · rw [if_pos h1] at h
    exact absurd h (failF_bad (by decide))
  rw [if_neg h1] at h ⊢
  by_cases h2 : (vrdF l p f).2.2.1 = 0 ∧ 4611686018427387904 - fr ≤ (vrdF l p f).1
  · rw [if_pos h2] at h
    exact absurd h (failF_bad (by decide))
  rw [if_neg h2] at h ⊢
  simp only at h ⊢
  by_cases h3 : (setsF l (manyF l (vrdF l p f).2.1 (vrdF l p f).2.2 8).1 (manyF l (vrdF l p f).2.1 (vrdF l p f).2.2 8).2.1 (manyF l (vrdF l p f).2.1 (vrdF l p f).2.2 8).2.2 []).2.2.1 = 0
  · rw [if_pos h3] at h ⊢
    have hq := (vrdF_le (f := f) hp).1
    have hmq : (manyF l (vrdF l p f).2.1 (vrdF l p f).2.2 8).2.1 ≤ l.length := by rw [manyF_q]; exact (vrdF_le hq).1
    have hmf : (manyF l (vrdF l p f).2.1 (vrdF l p f).2.2 8).2.2.1 = 0 := by
      by_cases hm : (manyF l (vrdF l p f).2.1 (vrdF l p f).2.2 8).2.2.1 = 0
      · exact hm
      · have h0 := manyF_fail0 hm
        rw [h0] at h3
        exact h3
    obtain ⟨new, e1, e2, e3, e4, e5, e6⟩ := setsF_inv h3 hmq
    obtain ⟨m0, m1, m2, m3, m4, m5⟩ := manyF_inv hmf
    obtain ⟨v0, v1, v2, v3, v4⟩ := vrdF_inv m0
    have hv : ¬ 4611686018427387904 - fr ≤ (vrdF l p f).1 := fun hh => h2 ⟨m0, hh⟩
    simp only [List.nil_append] at e1 e3
    rw [e1]
    refine ⟨rfl, ⟨by show fr < fr + (vrdF l p f).1 + 1; omega, by show fr + (vrdF l p f).1 + 1 ≤ _; omega, by show 1 ≤ new.length; omega, by show new.length ≤ 8; omega, fun i x hi => ?_⟩, ?_, e5, ?_⟩
    · obtain ⟨a, b⟩ := e3 i x hi
      exact setOk_iff.2 ⟨a, b⟩
    · have e7 : fr + (vrdF l p f).1 + 1 - fr - 1 = (vrdF l p f).1 := by omega
      simp only [stb, stn, flat_cons, List.length_append]
      rw [e7, e2]; omega
    · have e7 : fr + (vrdF l p f).1 + 1 - fr - 1 = (vrdF l p f).1 := by omega
      simp only [stb, stn, flat_cons, stands_append]
      rw [e7, ← v2, e2, ← m3]
      exact ⟨v4, m5, e6⟩
  · rw [if_neg h3] at h
    exact absurd h h3
/-- **What is written is read so.** -/
theorem strF_stands {l : List UInt8} {p : Nat} {s : Stp} (hs : SOk s) (h : Stands l p (stb s)) : strF l p (0, 0) s.1 = (s, p + (stb s).length, (0, 0)) := by
  obtain ⟨f, t, sets⟩ := s
  obtain ⟨h1, h2, h3, h4, h5⟩ := hs
  simp only at h1 h2 h3 h4
  simp only [stb, stn, flat_cons, stands_append] at h
  obtain ⟨s1, s2, s3⟩ := h
  have hv : vrdF l p (0, 0) = (t - f - 1, p + (vbytes (t - f - 1)).length, (0, 0)) := vrdF_stands (by omega) s1
  have hm : manyF l (p + (vbytes (t - f - 1)).length) (0, 0) 8 = (sets.length, p + (vbytes (t - f - 1)).length + (vbytes sets.length).length, (0, 0)) := manyF_stands h3 h4 (by decide) s2
  have hr := setsF_stands (l := l) (new := sets) (p := p + (vbytes (t - f - 1)).length + (vbytes sets.length).length) (sets := []) (fun i x hi => by
    have := setOk_iff.1 (h5 i x hi)
    simpa using this) s3
  rw [List.nil_append] at hr
  unfold strF
  rw [if_neg (by simp only; omega), hv]
  simp only
  rw [if_neg (by rintro ⟨_, hh⟩; omega), hm]
  simp only
  rw [hr]
  simp only
  rw [if_pos trivial]
  have e7 : f + (t - f - 1) + 1 = t := by omega
  simp only [stb, stn, flat_cons, List.length_append, e7, Nat.add_assoc]
end Go.Proofs.Ytmdgmnaaopineaa
