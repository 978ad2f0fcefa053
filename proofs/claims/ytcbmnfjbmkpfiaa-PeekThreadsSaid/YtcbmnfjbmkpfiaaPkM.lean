/- Batches in plain words: bare ones, threaded ones. No walk. -/
import Derived.Test.YtcbmnfjbmkpfiaaLkD
import Derived.Test.YtcbmnfjbmkpfiaaEp
namespace Go.Proofs.Ytcbmnfjbmkpfiaa
set_option linter.unusedVariables false
abbrev Ent := List Lnk × List UInt8
def bareE (e : Ent) : Ent := (e.1.map fun x => (x.1, []), e.2)
def bareL (es : List Ent) : List Ent := es.map bareE
/-- What stands behind k links of an entry: these links, threaded, and the tails. -/
def thS (p : Nat) (L t : List Lnk) : Nat → List Lnk × List Lnk
  | 0 => ([], t)
  | k + 1 => match L[k]? with
    | some x => ((thS p L t k).1 ++ [(x.1, (fnd (thS p L t k).2 x.1).2.2)], withL (thS p L t k).2 (extL (x.1, (fnd (thS p L t k).2 x.1).2.2) p))
    | none => thS p L t k
theorem thS_succ {p : Nat} {L t : List Lnk} {k : Nat} {x : Lnk} (h : L[k]? = some x) :
    thS p L t (k + 1) = ((thS p L t k).1 ++ [(x.1, (fnd (thS p L t k).2 x.1).2.2)], withL (thS p L t k).2 (extL (x.1, (fnd (thS p L t k).2 x.1).2.2) p)) := by rw [thS, h]
def thE (b : Nat) (es : List Ent) (t : List Lnk) : Nat → List Ent × List Lnk
  | 0 => ([], t)
  | i + 1 => match es[i]? with
    | some e => ((thE b es t i).1 ++ [((thS (b + i) e.1 (thE b es t i).2 e.1.length).1, e.2)], (thS (b + i) e.1 (thE b es t i).2 e.1.length).2)
    | none => thE b es t i
theorem thE_succ {b : Nat} {es : List Ent} {t : List Lnk} {i : Nat} {e : Ent} (h : es[i]? = some e) :
    thE b es t (i + 1) = ((thE b es t i).1 ++ [((thS (b + i) e.1 (thE b es t i).2 e.1.length).1, e.2)], (thS (b + i) e.1 (thE b es t i).2 e.1.length).2) := by rw [thE, h]
def totL (es : List Ent) : Nat := (es.map fun e => e.2.length).sum
/-- A well-formed batch (of so few bytes that their number is no matter). -/
def BatOk (e b : Nat) (es : List Ent) : Prop := EOk e ∧ (1 ≤ es.length ∧ es.length ≤ 16 ∧ PosOk b ∧ b + es.length ≤ 4611686018427387904) ∧ ∀ (i : Nat) x, es[i]? = some x → LOk (b + i) x.1
def StrUp (t : List Lnk) : Prop := UpTo t t.length
/-! ### How long what is threaded is -/
def TOk (m : Nat) (t : List Lnk) : Prop := t.length ≤ m ∧ ∀ x ∈ t, x.2.length ≤ 1000
theorem withL_len (l : List Lnk) (x : Lnk) : (withL l x).length ≤ l.length + 1 := by
  unfold withL
  split
  · rw [List.length_set]; omega
  · simp only [List.length_append, List.length_take, List.length_drop, List.length_cons, List.length_nil]
    have := gt_le l x.1
    omega
theorem withL_mem {l : List Lnk} {x y : Lnk} (h : y ∈ withL l x) : y = x ∨ y ∈ l := by
  unfold withL at h
  split at h
  · rcases List.mem_or_eq_of_mem_set h with h | h
    · exact .inr h
    · exact .inl h
  · rw [List.mem_append, List.mem_append] at h
    rcases h with (h | h) | h
    · exact .inr (List.mem_of_mem_take h)
    · exact .inl (List.mem_singleton.1 h)
    · exact .inr (List.mem_of_mem_drop h)
theorem extL_len (x : Lnk) (p : Nat) : (extL x p).2.length ≤ 4 := by unfold extL; rw [List.length_take]; omega
theorem fnd_mem {l : List Lnk} {s : Nat} : (fnd l s).1 = true ∧ (fnd l s).2 ∈ l ∨ (fnd l s).1 = false ∧ (fnd l s).2 = (0, []) := by
  unfold fnd
  cases h : l[idxOf l s]? with
  | none => exact .inr ⟨rfl, rfl⟩
  | some x => exact .inl ⟨rfl, List.mem_of_getElem? h⟩
theorem TOk.fnd {m : Nat} {t : List Lnk} (h : TOk m t) (s : Nat) : (fnd t s).2.2.length ≤ 1000 := by
  rcases fnd_mem (l := t) (s := s) with ⟨_, h1⟩ | ⟨_, h1⟩
  · exact h.2 _ h1
  · rw [h1]; exact Nat.zero_le _
theorem TOk.with {m p s : Nat} {t : List Lnk} {l : List Nat} (h : TOk m t) : TOk (m + 1) (withL t (extL (s, l) p)) := by
  refine ⟨Nat.le_trans (withL_len _ _) (by have := h.1; omega), fun x hx => ?_⟩
  rcases withL_mem hx with rfl | hx
  · have := extL_len (s, l) p; omega
  · exact h.2 x hx
theorem thS_ok {m p : Nat} {L t : List Lnk} (h : TOk m t) : ∀ k, TOk (m + k) (thS p L t k).2
  | 0 => h
  | k + 1 => by
    have ih := thS_ok (p := p) (L := L) h k
    rw [thS]
    cases L[k]? with
    | none => show TOk _ (thS p L t k).2; exact ⟨by have := ih.1; omega, ih.2⟩
    | some x => exact TOk.with ih
theorem thS_len {p : Nat} {L t : List Lnk} : ∀ k, k ≤ L.length → (thS p L t k).1.length = k
  | 0, _ => rfl
  | k + 1, hk => by
    obtain ⟨x, hx⟩ : ∃ x, L[k]? = some x := ⟨_, List.getElem?_eq_getElem (by omega)⟩
    rw [thS_succ hx, List.length_append, thS_len k (by omega)]; rfl
theorem thE_len {b : Nat} {es : List Ent} {t : List Lnk} : ∀ i, i ≤ es.length → (thE b es t i).1.length = i
  | 0, _ => rfl
  | i + 1, hi => by
    obtain ⟨x, hx⟩ : ∃ x, es[i]? = some x := ⟨_, List.getElem?_eq_getElem (by omega)⟩
    rw [thE_succ hx, List.length_append, thE_len i (by omega)]; rfl
theorem thE_ok {m b M : Nat} {es : List Ent} {t : List Lnk} (h : TOk m t) (hM : ∀ e ∈ es, e.1.length ≤ M) : ∀ i, TOk (m + i * M) (thE b es t i).2
  | 0 => by rw [Nat.zero_mul]; exact h
  | i + 1 => by
    have ih := thE_ok (b := b) h hM i
    rw [thE]
    cases hx : es[i]? with
    | none => show TOk _ (thE b es t i).2; exact ⟨by have := ih.1; rw [Nat.succ_mul]; omega, ih.2⟩
    | some e =>
      have h1 := thS_ok (p := b + i) (L := e.1) ih e.1.length
      have h2 := hM e (List.mem_of_getElem? hx)
      exact ⟨by have := h1.1; rw [Nat.succ_mul]; dsimp only; omega, h1.2⟩
end Go.Proofs.Ytcbmnfjbmkpfiaa
