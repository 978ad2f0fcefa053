/- The nodes that were sealed in an epoch, and the greatest tail. No walk. -/
import Derived.Test.YtkhomkklamegmaaSealM
namespace Go.Proofs.Ytkhomkklamegmaa
set_option linter.unusedVariables false
/-- A well-formed seal of an epoch. -/
def sok (e : Nat) (s : Sea) : Bool := seaOk s && decide (s.1 = e)
def oks (l : List Sea) (e : Nat) : List Sea := l.filter (sok e)
def nodesOf (l : List Sea) (e : Nat) : List Nat := (oks l e).map (fun s => s.2.1)
def maxs (l : List Sea) : Nat := l.foldl (fun a s => max a s.2.2) 0
def tailOf (l : List Sea) (e : Nat) : Nat := maxs (oks l e)
theorem oks_snoc (l : List Sea) (s : Sea) (e : Nat) : oks (l ++ [s]) e = if sok e s = true then oks l e ++ [s] else oks l e := by
  unfold oks
  rw [List.filter_append]
  cases h : sok e s <;> simp [h]
theorem maxs_snoc (l : List Sea) (s : Sea) : maxs (l ++ [s]) = max (maxs l) s.2.2 := by
  unfold maxs
  rw [List.foldl_append]; rfl
/-- Those that were not there ahead. -/
def fresh (l : List Sea) (e : Nat) : List Nat := l.foldl (fun a s => if sok e s = true ∧ s.2.1 ∉ a then a ++ [s.2.1] else a) []
theorem fresh_snoc (l : List Sea) (s : Sea) (e : Nat) : fresh (l ++ [s]) e = if sok e s = true ∧ s.2.1 ∉ fresh l e then fresh l e ++ [s.2.1] else fresh l e := by
  unfold fresh
  rw [List.foldl_append]; rfl
theorem snoc_ind {α : Type} {P : List α → Prop} (h0 : P []) (h1 : ∀ l x, P l → P (l ++ [x])) (l : List α) : P l := by
  have : ∀ (n : Nat) (l : List α), l.length = n → P l := by
    intro n
    induction n with
    | zero => intro l hl; rw [List.eq_nil_of_length_eq_zero hl]; exact h0
    | succ n ih =>
      intro l hl
      have hne : l ≠ [] := fun e => by rw [e] at hl; simp at hl
      rw [← List.dropLast_concat_getLast hne]
      exact h1 _ _ (ih _ (by rw [List.length_dropLast]; omega))
  exact this _ l rfl
theorem fresh_mem (e : Nat) (l : List Sea) : (fresh l e).Nodup ∧ ∀ x, x ∈ fresh l e ↔ x ∈ nodesOf l e := by
  refine snoc_ind (P := fun l => (fresh l e).Nodup ∧ ∀ x, x ∈ fresh l e ↔ x ∈ nodesOf l e) ⟨List.nodup_nil, fun x => by simp [fresh, nodesOf, oks]⟩ ?_ l
  rintro l s ⟨h1, h2⟩
  have hn : nodesOf (l ++ [s]) e = if sok e s = true then nodesOf l e ++ [s.2.1] else nodesOf l e := by
    unfold nodesOf
    rw [oks_snoc]
    split <;> simp
  rw [fresh_snoc, hn]
  by_cases hs : sok e s = true
  · rw [if_pos hs]
    by_cases hm : s.2.1 ∈ fresh l e
    · rw [if_neg (fun h => h.2 hm)]
      refine ⟨h1, fun x => ?_⟩
      rw [h2, List.mem_append, List.mem_singleton]
      exact ⟨.inl, fun h => h.elim id (fun e' => by rw [e', ← h2]; exact hm)⟩
    · rw [if_pos ⟨hs, hm⟩]
      refine ⟨List.nodup_append.2 ⟨h1, by simp, fun x hx y hy => ?_⟩, fun x => by rw [List.mem_append, List.mem_append, h2]⟩
      simp only [List.mem_singleton] at hy
      subst hy
      exact fun e' => hm (e' ▸ hx)
  · rw [if_neg hs, if_neg (fun h => hs h.1)]
    exact ⟨h1, h2⟩
/-- A rising list of all nodes is as long as there are nodes. -/
theorem rising_len {r : List Nat} {l : List Sea} {e : Nat} (h : r.Pairwise (· < ·)) (hm : ∀ x, x ∈ r ↔ x ∈ nodesOf l e) : r.length = (fresh l e).length := by
  obtain ⟨h1, h2⟩ := fresh_mem e l
  have hn : r.Nodup := h.imp (fun hab => Nat.ne_of_lt hab)
  exact ((List.perm_ext_iff_of_nodup hn h1).2 (fun x => by rw [hm, h2])).length_eq
theorem fresh_le (l : List Sea) (e : Nat) : (fresh l e).length ≤ l.length := by
  refine snoc_ind (P := fun l => (fresh l e).length ≤ l.length) (Nat.le_refl _) ?_ l
  intro l s h
  rw [fresh_snoc, List.length_append]
  split <;> simp <;> omega
/-- Whether the tail is known, and which it is. -/
def known (l : List Sea) (e : Nat) (q : Int) : Bool := decide (1 ≤ q ∧ q ≤ ((fresh l e).length : Int))
def tailQ (l : List Sea) (e : Nat) (q : Int) : Nat × Bool := if known l e q = true then (tailOf l e, true) else (0, false)
/-! ### With more seals; in whatever order -/
theorem maxs_mem {l : List Sea} : (∀ s ∈ l, s.2.2 ≤ maxs l) ∧ (maxs l = 0 ∨ ∃ s ∈ l, maxs l = s.2.2) := by
  refine snoc_ind (P := fun l => (∀ s ∈ l, s.2.2 ≤ maxs l) ∧ (maxs l = 0 ∨ ∃ s ∈ l, maxs l = s.2.2)) ⟨fun _ h => absurd h (by simp), .inl rfl⟩ ?_ l
  rintro l s ⟨h1, h2⟩
  rw [maxs_snoc]
  refine ⟨fun t ht => ?_, ?_⟩
  · rcases List.mem_append.1 ht with ht | ht
    · have := h1 t ht; omega
    · simp only [List.mem_singleton] at ht; subst ht; omega
  · rcases Nat.le_total s.2.2 (maxs l) with h | h
    · rw [Nat.max_eq_left h]
      exact h2.imp id (fun ⟨t, ht, he⟩ => ⟨t, List.mem_append_left _ ht, he⟩)
    · rw [Nat.max_eq_right h]
      exact .inr ⟨s, by simp, rfl⟩
theorem maxs_congr {l l' : List Sea} (h : ∀ s, s ∈ l ↔ s ∈ l') : maxs l = maxs l' := by
  obtain ⟨a1, a2⟩ := @maxs_mem l
  obtain ⟨b1, b2⟩ := @maxs_mem l'
  have h1 : maxs l ≤ maxs l' := by
    rcases a2 with a2 | ⟨s, hs, he⟩
    · omega
    · rw [he]; exact b1 s ((h s).1 hs)
  have h2 : maxs l' ≤ maxs l := by
    rcases b2 with b2 | ⟨s, hs, he⟩
    · omega
    · rw [he]; exact a1 s ((h s).2 hs)
  omega
theorem fresh_congr {l l' : List Sea} {e : Nat} (h : ∀ s, s ∈ l ↔ s ∈ l') : (fresh l e).length = (fresh l' e).length := by
  obtain ⟨h1, h2⟩ := fresh_mem e l
  obtain ⟨g1, g2⟩ := fresh_mem e l'
  refine ((List.perm_ext_iff_of_nodup h1 g1).2 (fun x => ?_)).length_eq
  rw [h2, g2]
  unfold nodesOf oks
  simp only [List.mem_map, List.mem_filter]
  exact ⟨fun ⟨s, ⟨hs, ho⟩, hx⟩ => ⟨s, ⟨(h s).1 hs, ho⟩, hx⟩, fun ⟨s, ⟨hs, ho⟩, hx⟩ => ⟨s, ⟨(h s).2 hs, ho⟩, hx⟩⟩
theorem tailQ_congr {l l' : List Sea} {e : Nat} {q : Int} (h : ∀ s, s ∈ l ↔ s ∈ l') : tailQ l e q = tailQ l' e q := by
  have h1 : known l e q = known l' e q := by unfold known; rw [fresh_congr h]
  have h2 : tailOf l e = tailOf l' e := by
    refine maxs_congr (fun s => ?_)
    unfold oks
    rw [List.mem_filter, List.mem_filter, h]
  unfold tailQ
  rw [h1, h2]
theorem tailQ_more (l : List Sea) (s : Sea) (e : Nat) (q : Int) : (tailQ l e q).2 = true → (tailQ (l ++ [s]) e q).2 = true ∧ (tailQ l e q).1 ≤ (tailQ (l ++ [s]) e q).1 := by
  intro h
  have hk : known l e q = true := by
    unfold tailQ at h
    split at h
    · assumption
    · cases h
  have hf : (fresh l e).length ≤ (fresh (l ++ [s]) e).length := by
    rw [fresh_snoc]; split <;> simp
  have hk2 : known (l ++ [s]) e q = true := by
    unfold known at hk ⊢
    simp only [decide_eq_true_eq] at hk ⊢
    omega
  unfold tailQ
  rw [if_pos hk, if_pos hk2]
  refine ⟨rfl, ?_⟩
  show tailOf l e ≤ tailOf (l ++ [s]) e
  unfold tailOf
  rw [oks_snoc]
  split
  · rw [maxs_snoc]; omega
  · exact Nat.le_refl _
end Go.Proofs.Ytkhomkklamegmaa
