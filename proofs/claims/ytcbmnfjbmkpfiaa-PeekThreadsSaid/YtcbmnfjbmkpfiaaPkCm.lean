/- Chained, in plain words: each link goes on from the last one of its stream ahead of it. -/
import Derived.Test.YtcbmnfjbmkpfiaaPkCi
namespace Go.Proofs.Ytcbmnfjbmkpfiaa
set_option linter.unusedVariables false
theorem dec_iff26 {p : Prop} : dec p = true ↔ p := ⟨of_dec, dec_true⟩
theorem fnd_find (l : List Lnk) (s : Nat) : l[idxOf l s]? = l.find? (fun x => x.1 == s) := by
  unfold idxOf
  induction l with
  | nil => rfl
  | cons x l ih =>
    rw [List.findIdx_cons, List.find?_cons]
    cases h : (x.1 == s) with
    | true => simp
    | false => simpa using ih
/-- A link in the place of the one of its stream, or put in: what is found behind it. -/
theorem with_find (l : List Lnk) (x : Lnk) (s : Nat) : (withL l x).find? (fun y => y.1 == s) = if x.1 == s then some x else l.find? (fun y => y.1 == s) := by
  unfold withL
  by_cases hi : idxOf l x.1 < l.length
  · rw [if_pos hi]
    have h1 : l = l.take (idxOf l x.1) ++ l[idxOf l x.1] :: l.drop (idxOf l x.1 + 1) := by
      rw [← List.drop_eq_getElem_cons hi, List.take_append_drop]
    have h2 : (l[idxOf l x.1]).1 = x.1 := by
      have := List.findIdx_getElem (p := fun y : Lnk => y.1 == x.1) (xs := l) (w := hi)
      exact beq_iff_eq.1 this
    have h3 : l.set (idxOf l x.1) x = l.take (idxOf l x.1) ++ x :: l.drop (idxOf l x.1 + 1) := by
      rw [List.set_eq_take_append_cons_drop, if_pos hi]
    have h4 : (l.take (idxOf l x.1)).find? (fun y => y.1 == x.1) = none := by
      rw [List.find?_eq_none]
      intro y hy
      obtain ⟨j, hj, rfl⟩ := List.mem_iff_getElem.1 hy
      rw [List.length_take] at hj
      rw [List.getElem_take]
      have := List.not_of_lt_findIdx (p := fun y : Lnk => y.1 == x.1) (xs := l) (i := j) (by unfold idxOf at hj; omega)
      simpa using this
    rw [h3]
    conv => rhs; rw [h1]
    rw [List.find?_append, List.find?_append, List.find?_cons, List.find?_cons]
    by_cases hs : x.1 = s
    · subst hs
      rw [h4, h2]; simp
    · have e1 : (x.1 == s) = false := by simpa using hs
      have e2 : ((l[idxOf l x.1]).1 == s) = false := by rw [h2]; exact e1
      rw [e1, e2]; simp
  · rw [if_neg hi]
    have hno : l.find? (fun y => y.1 == x.1) = none := by
      rw [← fnd_find]; exact List.getElem?_eq_none (by omega)
    have h1 : l = l.take (gtOf l x.1) ++ l.drop (gtOf l x.1) := (List.take_append_drop _ _).symm
    rw [List.append_assoc, List.find?_append, List.find?_append, List.find?_cons]
    by_cases hs : x.1 = s
    · subst hs
      have h4 : (l.take (gtOf l x.1)).find? (fun y => y.1 == x.1) = none := by
        rw [List.find?_eq_none] at hno ⊢
        exact fun y hy => hno y (List.mem_of_mem_take hy)
      rw [h4]; simp
    · have e1 : (x.1 == s) = false := by simpa using hs
      rw [e1]
      conv => rhs; rw [h1]
      rw [List.find?_append]; simp
/-- The last link of a stream. -/
def lastL (L : List (Nat × Lnk)) (s : Nat) : Option (Nat × Lnk) := L.reverse.find? (fun y => y.2.1 == s)
theorem lastL_app (L M : List (Nat × Lnk)) (s : Nat) : lastL (L ++ M) s = (lastL M s).or (lastL L s) := by unfold lastL; rw [List.reverse_append, List.find?_append]
theorem lastL_one (y : Nat × Lnk) (s : Nat) : lastL [y] s = if y.2.1 == s then some y else none := by
  unfold lastL
  rw [List.reverse_singleton, List.find?_cons]
  cases (y.2.1 == s) <;> rfl
/-- Each link goes on from the last one of its stream. -/
def ChOk (M : List (Nat × Lnk)) : Prop := ∀ L y R, M = L ++ y :: R → ∀ z, lastL L y.2.1 = some z → (extL z.2 z.1).2 = y.2.2
theorem chOk_nil : ChOk [] := fun L y R h => by
  have := congrArg List.length h
  simp at this
theorem ChOk.pre {A B : List (Nat × Lnk)} (h : ChOk (A ++ B)) : ChOk A := fun L y R e => h L y (R ++ B) (by rw [e, List.append_assoc]; rfl)
theorem ChOk.inf {A B C : List (Nat × Lnk)} (h : ChOk (A ++ B ++ C)) : ChOk B := fun L y R e z hz => h (A ++ L) y (R ++ C) (by rw [e]; simp [List.append_assoc]) z (by rw [lastL_app, hz]; rfl)
theorem chOk_snoc {L : List (Nat × Lnk)} {y : Nat × Lnk} : ChOk (L ++ [y]) ↔ ChOk L ∧ ∀ z, lastL L y.2.1 = some z → (extL z.2 z.1).2 = y.2.2 := by
  refine ⟨fun h => ⟨h.pre, h L y [] rfl⟩, fun ⟨h1, h2⟩ L' y' R' e => ?_⟩
  rcases List.eq_nil_or_concat R' with rfl | ⟨R2, r, rfl⟩
  · obtain ⟨e1, e2⟩ := List.append_inj' e rfl
    injection e2 with e2
    subst e1; subst e2
    exact h2
  · rw [List.concat_eq_append, show L' ++ y' :: (R2 ++ [r]) = (L' ++ y' :: R2) ++ [r] by simp] at e
    obtain ⟨e1, _⟩ := List.append_inj' e rfl
    exact h1 L' y' R2 e1
/-- What stands behind the links that were looked at. -/
theorem chF_fold (q : Bool) : ∀ (M L : List (Nat × Lnk)) (g : Bool × List Lnk), (g.1 = true ↔ q = true ∧ ChOk L) → (∀ s, g.2.find? (fun x => x.1 == s) = (lastL L s).map (fun z => extL z.2 z.1)) →
    ((M.foldl chF g).1 = true ↔ q = true ∧ ChOk (L ++ M)) ∧ ∀ s, (M.foldl chF g).2.find? (fun x => x.1 == s) = (lastL (L ++ M) s).map (fun z => extL z.2 z.1)
  | [], L, g, h1, h2 => by rw [List.append_nil]; exact ⟨h1, h2⟩
  | y :: M, L, g, h1, h2 => by
    have hf := h2 y.2.1
    rw [← fnd_find] at hf
    have h3 : (chF g y).1 = true ↔ q = true ∧ ChOk (L ++ [y]) := by
      rw [chOk_snoc, ← and_assoc, ← h1]
      unfold chF fnd
      simp only
      rw [hf]
      cases hz : lastL L y.2.1 with
      | none => simp
      | some z =>
        simp only [Option.map_some]
        rw [if_pos trivial]
        simp only [Bool.and_eq_true]
        refine and_congr_right fun _ => ⟨fun hd z' hz' => ?_, fun hd => ?_⟩
        · injection hz' with hz'
          subst hz'
          exact (dec_iff26).1 hd
        · exact (dec_iff26).2 (hd z rfl)
    have h4 : ∀ s, (chF g y).2.find? (fun x => x.1 == s) = (lastL (L ++ [y]) s).map (fun z => extL z.2 z.1) := fun s => by
      show (withL g.2 (extL y.2 y.1)).find? _ = _
      rw [with_find, lastL_app, lastL_one, h2]
      show (if y.2.1 == s then _ else _) = _
      cases (y.2.1 == s) <;> simp
    have := chF_fold q M (L ++ [y]) (chF g y) h3 h4
    rw [List.append_assoc] at this
    exact this
theorem chG_iff {ep b : Nat} {es : List Ent} : chG ep b es = true ↔ BatOk ep b es ∧ ChOk (lkB b 0 es) := by
  have h := (chF_fold (dec (BatOk ep b es)) (lkB b 0 es) [] (dec (BatOk ep b es), []) (by simp [chOk_nil]) (fun s => by simp [lastL])).1
  rw [List.nil_append, dec_iff26] at h
  exact h
/-! ### A right batch -/
theorem up_pair {l : List Lnk} (h : UpTo l l.length) : ∀ (i j : Nat) (a b : Lnk), i < j → l[i]? = some a → l[j]? = some b → a.1 < b.1 := by
  intro i j
  induction j with
  | zero => intro a b h1; omega
  | succ j ih =>
    intro a b h1 ha hb
    have hj : j + 1 < l.length := (List.getElem?_eq_some_iff.1 hb).1
    obtain ⟨c, hc⟩ : ∃ c, l[j]? = some c := ⟨_, List.getElem?_eq_getElem (by omega)⟩
    have h2 := h j c b hj hc hb
    rcases Nat.lt_or_ge i j with h3 | h3
    · exact Nat.lt_trans (ih a c h3 ha hc) h2
    · obtain rfl : i = j := by omega
      rw [ha] at hc
      injection hc with hc
      subst hc
      exact h2
theorem up_rev : ∀ (l : List Lnk) (s : Nat), (∀ (i j : Nat) (a b : Lnk), i < j → l[i]? = some a → l[j]? = some b → a.1 < b.1) → l.reverse.find? (fun x => x.1 == s) = l.find? (fun x => x.1 == s)
  | [], _, _ => rfl
  | x :: l, s, h => by
    rw [List.reverse_cons, List.find?_append, up_rev l s (fun i j a b hij ha hb => h (i + 1) (j + 1) a b (by omega) (by simpa using ha) (by simpa using hb)), List.find?_cons, List.find?_cons]
    cases hx : (x.1 == s) with
    | false => simp
    | true =>
      have : l.find? (fun x => x.1 == s) = none := by
        rw [List.find?_eq_none]
        intro y hy hys
        obtain ⟨j, hj, rfl⟩ := List.mem_iff_getElem.1 hy
        have := h 0 (j + 1) x l[j] (by omega) rfl (by simp [List.getElem?_eq_getElem hj])
        have e1 : x.1 = s := beq_iff_eq.1 hx
        have e2 : (l[j]).1 = s := beq_iff_eq.1 hys
        omega
      rw [this]; rfl
theorem last_map (p : Nat) (l : List Lnk) (s : Nat) : lastL (l.map fun x => (p, x)) s = (l.reverse.find? (fun x => x.1 == s)).map (fun x => (p, x)) := by
  unfold lastL
  rw [← List.map_reverse, List.find?_map]
  rfl
/-- The link of a stream that is nearest ahead of entry i: what follows from it. -/
def nearE (b : Nat) (es : List Ent) (s : Nat) : Nat → Option (List Nat)
  | 0 => none
  | j + 1 => match es[j]? with
    | none => nearE b es s j
    | some e => match e.1.find? (fun x => x.1 == s) with
      | some y => some (extL y (posN b j)).2
      | none => nearE b es s j
theorem near_last {b : Nat} {es : List Ent} (h : ∀ e ∈ es, UpTo e.1 e.1.length) (s : Nat) : ∀ i, i ≤ es.length → nearE b es s i = (lastL (lkB b 0 (es.take i)) s).map (fun z => (extL z.2 z.1).2)
  | 0, _ => by simp [nearE, lkB, lastL]
  | i + 1, hi => by
    obtain ⟨e, he⟩ : ∃ e, es[i]? = some e := ⟨_, List.getElem?_eq_getElem (by omega)⟩
    have hup := up_rev e.1 s (up_pair (h e (List.mem_of_getElem? he)))
    rw [nearE, he, lkB_take he, lastL_app, last_map, hup, near_last h s i (by omega)]
    simp only
    generalize e.1.find? (fun x => x.1 == s) = o
    cases o <;> rfl
/-- One link more in the walk of the document's answer. -/
theorem ch_step {b i k : Nat} {es : List Ent} {e : Ent} {x : Lnk} (h : ∀ e ∈ es, UpTo e.1 e.1.length) (he : es[i]? = some e) (hx : e.1[k]? = some x) :
    ChOk (lkB b 0 (es.take i) ++ (e.1.take (k + 1)).map (fun x => (posN b i, x))) ↔ ChOk (lkB b 0 (es.take i) ++ (e.1.take k).map (fun x => (posN b i, x))) ∧ ∀ l, nearE b es x.1 i = some l → l = x.2 := by
  have hi : i < es.length := (List.getElem?_eq_some_iff.1 he).1
  have hnone : (e.1.take k).reverse.find? (fun y => y.1 == x.1) = none := by
    rw [List.find?_eq_none]
    intro y hy hys
    rw [List.mem_reverse] at hy
    obtain ⟨j, hj, rfl⟩ := List.mem_iff_getElem.1 hy
    rw [List.length_take] at hj
    rw [List.getElem_take] at hys
    have := up_pair (h e (List.mem_of_getElem? he)) j k _ x (by omega) (List.getElem?_eq_getElem (by omega)) hx
    have e2 : (e.1[j]).1 = x.1 := beq_iff_eq.1 hys
    omega
  rw [List.take_add_one, hx, Option.toList_some, List.map_append, ← List.append_assoc, List.map_cons, List.map_nil, chOk_snoc, near_last h x.1 i (by omega)]
  refine and_congr_right fun _ => ?_
  simp only
  rw [lastL_app, last_map, hnone]
  cases lastL (lkB b 0 (es.take i)) x.1 <;> simp
end Go.Proofs.Ytcbmnfjbmkpfiaa
