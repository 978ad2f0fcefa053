/- What a unit takes, in plain words. -/
import Derived.Test.YtnihaaifkogpbaaLkD
namespace Go.Proofs.Ytnihaaifkogpbaa
set_option linter.unusedVariables false
/-- The Backs of a stream's tail. -/
def bk (T : List Lnk) (s : Nat) : List Nat := (fnd T s).2.2
/-- One position for streams. -/
def tkF (p : Nat) (T : List Lnk) (ss : List Nat) : List Lnk := ss.foldl (fun T s => withL T (extL (s, bk T s) p)) T
/-- j positions from p on. -/
def tkK (p : Nat) (T : List Lnk) (ss : List Nat) : Nat → List Lnk
  | 0 => T
  | j + 1 => tkF (p + j) (tkK p T ss j) ss
/-- The positions p + j - 1 down to p. -/
def dsc (p : Nat) : Nat → List Nat
  | 0 => []
  | j + 1 => (p + j) :: dsc p j
theorem tu_find (l : List Lnk) (s : Nat) : l[idxOf l s]? = l.find? (fun x => x.1 == s) := by
  unfold idxOf
  induction l with
  | nil => rfl
  | cons x l ih =>
    rw [List.findIdx_cons, List.find?_cons]
    cases h : (x.1 == s) with
    | true => simp
    | false => simpa using ih
theorem tu_with (l : List Lnk) (x : Lnk) (s : Nat) : (withL l x).find? (fun y => y.1 == s) = if x.1 == s then some x else l.find? (fun y => y.1 == s) := by
  unfold withL
  by_cases hi : idxOf l x.1 < l.length
  · rw [if_pos hi]
    have h1 : l = l.take (idxOf l x.1) ++ l[idxOf l x.1] :: l.drop (idxOf l x.1 + 1) := by
      rw [← List.drop_eq_getElem_cons hi, List.take_append_drop]
    have h2 : (l[idxOf l x.1]).1 = x.1 := by
      have := List.findIdx_getElem (p := fun y : Lnk => y.1 == x.1) (xs := l) (w := hi)
      exact beq_iff_eq.1 this
    have h3 : l.set (idxOf l x.1) x = l.take (idxOf l x.1) ++ x :: l.drop (idxOf l x.1 + 1) := by
      rw [List.set_eq_take_append_cons_drop, if_pos hi]
    have h4 : (l.take (idxOf l x.1)).find? (fun y => y.1 == x.1) = none := by
      rw [List.find?_eq_none]
      intro y hy
      obtain ⟨j, hj, rfl⟩ := List.mem_iff_getElem.1 hy
      rw [List.length_take] at hj
      rw [List.getElem_take]
      have := List.not_of_lt_findIdx (p := fun y : Lnk => y.1 == x.1) (xs := l) (i := j) (by unfold idxOf at hj; omega)
      simpa using this
    rw [h3]
    conv => rhs; rw [h1]
    rw [List.find?_append, List.find?_append, List.find?_cons, List.find?_cons]
    by_cases hs : x.1 = s
    · subst hs
      rw [h4, h2]; simp
    · have e1 : (x.1 == s) = false := by simpa using hs
      have e2 : ((l[idxOf l x.1]).1 == s) = false := by rw [h2]; exact e1
      rw [e1, e2]; simp
  · rw [if_neg hi]
    have hno : l.find? (fun y => y.1 == x.1) = none := by
      rw [← tu_find]; exact List.getElem?_eq_none (by omega)
    have h1 : l = l.take (gtOf l x.1) ++ l.drop (gtOf l x.1) := (List.take_append_drop _ _).symm
    rw [List.append_assoc, List.find?_append, List.find?_append, List.find?_cons]
    by_cases hs : x.1 = s
    · subst hs
      have h4 : (l.take (gtOf l x.1)).find? (fun y => y.1 == x.1) = none := by
        rw [List.find?_eq_none] at hno ⊢
        exact fun y hy => hno y (List.mem_of_mem_take hy)
      rw [h4]; simp
    · have e1 : (x.1 == s) = false := by simpa using hs
      rw [e1]
      conv => rhs; rw [h1]
      rw [List.find?_append]; simp
theorem bk_find (T : List Lnk) (s : Nat) : bk T s = ((T.find? (fun x => x.1 == s)).map (·.2)).getD [] := by
  unfold bk fnd
  rw [tu_find]
  cases T.find? (fun x => x.1 == s) <;> rfl
theorem bk_with (T : List Lnk) (s s' p : Nat) (l : List Nat) : bk (withL T (extL (s, l) p)) s' = if s = s' then (p :: l).take 4 else bk T s' := by
  rw [bk_find, bk_find, tu_with]
  show Option.getD (Option.map _ (if s == s' then _ else _)) _ = _
  by_cases h : s = s'
  · rw [if_pos h]; simp [h, extL]
  · rw [if_neg h]; simp [h]
theorem bk_round {p : Nat} : ∀ (ss : List Nat) (T : List Lnk) (s : Nat), ss.Nodup → bk (tkF p T ss) s = if s ∈ ss then (p :: bk T s).take 4 else bk T s
  | [], T, s, _ => by simp [tkF]
  | x :: ss, T, s, h => by
    obtain ⟨h1, h2⟩ := List.nodup_cons.1 h
    have ih := bk_round (p := p) ss (withL T (extL (x, bk T x) p)) s h2
    show bk (tkF p (withL T (extL (x, bk T x) p)) ss) s = _
    rw [ih, bk_with]
    by_cases hx : x = s
    · subst hx
      rw [if_neg h1, if_pos rfl, if_pos (List.mem_cons_self ..)]
    · rw [if_neg hx]
      by_cases hs : s ∈ ss
      · rw [if_pos hs, if_pos (List.mem_cons_of_mem _ hs)]
      · rw [if_neg hs, if_neg (by rw [List.mem_cons]; exact fun h => h.elim (fun e => hx e.symm) hs)]
theorem bk_rounds {p : Nat} {ss : List Nat} {T : List Lnk} (h : ss.Nodup) (hT : ∀ s, (bk T s).length ≤ 4) (s : Nat) : ∀ j, bk (tkK p T ss j) s = if s ∈ ss then (dsc p j ++ bk T s).take 4 else bk T s
  | 0 => by
    rw [tkK, dsc, List.nil_append, List.take_of_length_le (hT s)]
    split <;> rfl
  | j + 1 => by
    rw [tkK, bk_round ss _ s h, bk_rounds h hT s j]
    by_cases hs : s ∈ ss
    · rw [if_pos hs, if_pos hs, if_pos hs, dsc, List.cons_append, List.take_succ_cons, List.take_succ_cons, List.take_take]
      rfl
    · rw [if_neg hs, if_neg hs, if_neg hs]
theorem bk_len {p : Nat} {ss : List Nat} {T : List Lnk} (h : ss.Nodup) (hT : ∀ s, (bk T s).length ≤ 4) (s j : Nat) : (bk (tkK p T ss j) s).length ≤ 4 := by
  rw [bk_rounds h hT]
  split
  · rw [List.length_take]; omega
  · exact hT s
end Go.Proofs.Ytnihaaifkogpbaa
