/- Threading, in plain words: what was threaded is chained, and threaded again it is the same. -/
import Derived.Test.YtcbmnfjbmkpfiaaPkCm
import Derived.Test.YtcbmnfjbmkpfiaaPkJ
namespace Go.Proofs.Ytcbmnfjbmkpfiaa
set_option linter.unusedVariables false
/-- All that was threaded goes on from what lies ahead. -/
def ThInv (tl : List Lnk) (L : List (Nat × Lnk)) (T : List Lnk) : Prop := ChOk L ∧ ∀ s, T.find? (fun x => x.1 == s) = ((lastL L s).map (fun z => extL z.2 z.1)).or (tl.find? (fun x => x.1 == s))
theorem thInv_step {tl T : List Lnk} {L : List (Nat × Lnk)} (h : ThInv tl L T) (p s : Nat) : ThInv tl (L ++ [(p, (s, (fnd T s).2.2))]) (withL T (extL (s, (fnd T s).2.2) p)) := by
  obtain ⟨h1, h2⟩ := h
  refine ⟨chOk_snoc.2 ⟨h1, fun z hz => ?_⟩, fun s' => ?_⟩
  · simp only at hz ⊢
    have h3 := h2 s
    rw [hz, ← fnd_find] at h3
    unfold fnd
    rw [h3]
    rfl
  · rw [with_find, lastL_app, lastL_one, h2]
    show (if s == s' then _ else _) = _
    simp only
    cases (s == s') <;> simp
theorem thS_inv {tl : List Lnk} {p : Nat} {L T : List Lnk} {M : List (Nat × Lnk)} (h : ThInv tl M T) : ∀ k, ThInv tl (M ++ (thS p L T k).1.map (fun x => (p, x))) (thS p L T k).2
  | 0 => by simpa [thS] using h
  | k + 1 => by
    have ih := thS_inv (p := p) (L := L) h k
    cases hx : L[k]? with
    | none => rw [thS, hx]; exact ih
    | some x =>
      rw [thS_succ hx]
      simp only
      rw [List.map_append, ← List.append_assoc]
      exact thInv_step ih p x.1
theorem thE_inv {tl : List Lnk} {b : Nat} {es : List Ent} (hb : b + es.length ≤ 18446744073709551616) : ∀ i, i ≤ es.length → ThInv tl (lkB b 0 (thE b es tl i).1) (thE b es tl i).2
  | 0, _ => ⟨chOk_nil, fun s => by simp [thE, lkB, lastL]⟩
  | i + 1, hi => by
    obtain ⟨e, he⟩ : ∃ e, es[i]? = some e := ⟨_, List.getElem?_eq_getElem (by omega)⟩
    have ih := thE_inv (tl := tl) (b := b) hb i (by omega)
    rw [thE_succ he]
    simp only
    rw [lkB_app, thE_len i (by omega), Nat.zero_add]
    have e1 : posN b i = b + i := Nat.mod_eq_of_lt (by omega)
    have h := thS_inv (p := b + i) (L := e.1) ih e.1.length
    have e2 : lkB b i [((thS (b + i) e.1 (thE b es tl i).2 e.1.length).1, e.2)] = (thS (b + i) e.1 (thE b es tl i).2 e.1.length).1.map (fun x => (b + i, x)) := by
      rw [lkB, lkB, e1, List.append_nil]
    rw [e2]
    exact h
theorem thS_bare {p : Nat} {L T : List Lnk} : ∀ k, ((thS p L T k).1).map (fun x => (x.1, ([] : List Nat))) = (L.take k).map (fun x => (x.1, ([] : List Nat)))
  | 0 => by simp [thS]
  | k + 1 => by
    have ih := thS_bare (p := p) (L := L) (T := T) k
    rw [List.take_add_one]
    cases hx : L[k]? with
    | none => rw [thS, hx]; simpa using ih
    | some x => rw [thS_succ hx, List.map_append, List.map_append, ih]; rfl
theorem thE_bare {b : Nat} {es : List Ent} {tl : List Lnk} : ∀ i, bareL (thE b es tl i).1 = bareL (es.take i)
  | 0 => by simp [thE, bareL]
  | i + 1 => by
    have ih := thE_bare (b := b) (es := es) (tl := tl) i
    rw [List.take_add_one]
    cases hx : es[i]? with
    | none => rw [thE, hx]; simpa using ih
    | some e =>
      rw [thE_succ hx]
      unfold bareL at ih ⊢
      rw [List.map_append, List.map_append, ih]
      congr 1
      show [bareE _] = [bareE e]
      unfold bareE
      rw [thS_bare, List.take_of_length_le (Nat.le_refl _)]
theorem bare_bare (es : List Ent) : bareL (bareL es) = bareL es := by
  unfold bareL
  rw [List.map_map]
  refine List.map_congr_left fun e _ => ?_
  show bareE (bareE e) = bareE e
  unfold bareE
  rw [List.map_map]
  rfl
/-- Threaded again: the same. -/
theorem th_again {b : Nat} {es : List Ent} {tl : List Lnk} : bareL (thE b (bareL es) tl es.length).1 = bareL es := by
  rw [thE_bare, List.take_of_length_le (by rw [bare_len]; exact Nat.le_refl _), bare_bare]
theorem th_chained {ep b : Nat} {es : List Ent} {tl : List Lnk} (h : ThOk ep b es tl) : chG ep b (thE b (bareL es) tl es.length).1 = true := by
  refine chG_iff.2 ⟨h.2.2, ?_⟩
  have hb : b + (bareL es).length ≤ 18446744073709551616 := by have := h.1.2.1.2.2.2; omega
  have h1 := (thE_inv (tl := tl) (b := b) (es := bareL es) hb es.length (by rw [bare_len]; exact Nat.le_refl _)).1
  exact h1
theorem th_ok_again {ep b : Nat} {es : List Ent} {tl : List Lnk} (h : ThOk ep b es tl) : ThOk ep b (thE b (bareL es) tl es.length).1 tl ∧ thE b (bareL (thE b (bareL es) tl es.length).1) tl (thE b (bareL es) tl es.length).1.length = thE b (bareL es) tl es.length := by
  have hl : (thE b (bareL es) tl es.length).1.length = es.length := thE_len es.length (by rw [bare_len]; exact Nat.le_refl _)
  rw [hl, th_again]
  refine ⟨⟨?_, h.2.1, ?_⟩, rfl⟩
  · rw [th_again]; exact h.1
  · rw [hl, th_again]; exact h.2.2
end Go.Proofs.Ytcbmnfjbmkpfiaa
