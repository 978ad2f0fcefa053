/- A position is in one stripe alone; what a place that there is not means. No walk. -/
import Derived.Test.YtmdgmnaaopineaaLcLive
namespace Go.Proofs.Ytmdgmnaaopineaa
set_option linter.unusedVariables false
theorem stripe_le {e : Nat} {l : List Stp} (h : POk (e, l)) : ∀ (j i : Nat) (s t : Stp), l[i]? = some s → l[j]? = some t → i < j → s.2.1 ≤ t.1 := by
  intro j
  induction j with
  | zero => intro i s t _ _ hij; omega
  | succ j ih =>
    intro i s t hs ht hij
    have hj : j < l.length := by have := (List.getElem?_eq_some_iff.1 ht).1; omega
    have hu : l[j]? = some l[j] := List.getElem?_eq_getElem hj
    have h1 := (h.1.2 (j + 1) t (List.getElem?_eq_some_iff.1 ht).1 ht).2
    rw [startOf_succ hu] at h1
    have h2 : l[j].1 < l[j].2.1 := (h.1.2 j l[j] hj hu).1.1
    rcases Nat.lt_or_ge i j with hlt | hge
    · have := ih i s l[j] hs hu hlt
      omega
    · obtain rfl : i = j := by omega
      rw [hu] at hs
      injection hs with hs
      rw [← hs]; omega
theorem inStripe_unique {e : Nat} {l : List Stp} {x r q : Nat} {s t : Stp} (h : POk (e, l)) (h1 : InStripe l x r s) (h2 : InStripe l x q t) : r = q ∧ s = t := by
  obtain ⟨a1, a2, a3⟩ := h1
  obtain ⟨b1, b2, b3⟩ := h2
  have hrq : r = q := by
    rcases Nat.lt_trichotomy r q with hlt | heq | hgt
    · have := stripe_le h q r s t a1 b1 hlt; omega
    · exact heq
    · have := stripe_le h r q t s b1 a1 hgt; omega
  subst hrq
  rw [a1] at b1
  injection b1 with b1
  exact ⟨rfl, b1⟩
/-- The place of the position that is at a place. -/
theorem place_back {e : Nat} {l : List Stp} {r K N loc : Nat} {q : Nat} {set : Int} {nd : List Nat} {s : Stp} (h : POk (e, l)) (hs : l[q]? = some s) (hlt : loc < share s set) {P : Nat} (hP : P = (back s set loc).1) (hp : PlaceIs l P r K N nd) : r = q ∧ (K : Int) = set ∧ N = loc := by
  obtain ⟨j, rfl, hj, hbk, hin, hdl⟩ := back_dealt hlt
  rw [hbk] at hP
  dsimp only at hP
  rw [← hP] at hin hdl
  obtain ⟨t, ht, htok, hK, hN, _⟩ := hp
  have hsP : InStripe l P q s := ⟨hs, by omega, hin⟩
  obtain ⟨rfl, rfl⟩ := inStripe_unique h ht hsP
  rw [dealt_in htok (by omega) hin] at hdl
  simp only [Prod.mk.injEq, and_true] at hdl
  exact ⟨rfl, by rw [hK, hdl.1], by rw [hN, hdl.2]⟩
/-- Where there is no such number, it lies behind the stripe's end. -/
theorem back_none {s : Stp} {j loc : Nat} (hok : SOk s) (hj : j < s.2.2.length) (h : (back s (j : Int) loc).2 = false) : s.2.1 - s.1 ≤ loc * s.2.2.length + j := by
  rcases Nat.lt_or_ge (loc * s.2.2.length + j) (s.2.1 - s.1) with hlt | hge
  · rw [back_in hok hj hlt] at h
    simp at h
  · exact hge
end Go.Proofs.Ytmdgmnaaopineaa
