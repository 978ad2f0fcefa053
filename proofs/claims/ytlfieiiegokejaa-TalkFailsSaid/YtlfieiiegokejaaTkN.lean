/- A talk in plain words: what is wrong with a message behind others, and what a log of the talk holds. No walk. -/
import Derived.Test.YtlfieiiegokejaaTkM
namespace Go.Proofs.Ytlfieiiegokejaa
set_option linter.unusedVariables false
abbrev rq (m : Ms) : Bool := Kd.an m.kd != 0
def optI : Option Nat → Int
  | none => -1
  | some k => (k : Int)
theorem optI_neg {o : Option Nat} : optI o = -1 ↔ o = none := by
  cases o with
  | none => simp [optI]
  | some k => simp [optI]
theorem optI_some {o : Option Nat} {k : Nat} : optI o = (k : Int) ↔ o = some k := by
  cases o with
  | none => simp [optI]
  | some j => simp [optI]; omega
def firstTo (P : Nat → Bool) : Nat → Option Nat
  | 0 => none
  | n + 1 => match firstTo P n with
    | some k => some k
    | none => if P n = true then some n else none
theorem firstTo_none {P : Nat → Bool} {n : Nat} : firstTo P n = none ↔ ∀ i, i < n → P i = false := by
  induction n with
  | zero => exact ⟨fun _ i h => absurd h (Nat.not_lt_zero _), fun _ => rfl⟩
  | succ n ih =>
    rw [firstTo]
    cases h : firstTo P n with
    | some k =>
      refine ⟨fun h' => (by cases h'), fun h' => ?_⟩
      have := ih.2 (fun i hi => h' i (by omega))
      rw [h] at this; cases this
    | none =>
      have h0 := ih.1 h
      dsimp only
      by_cases hp : P n = true
      · rw [if_pos hp]
        exact ⟨fun h' => (by cases h'), fun h' => by rw [h' n (by omega)] at hp; cases hp⟩
      · rw [if_neg hp]
        refine ⟨fun _ i hi => ?_, fun _ => rfl⟩
        rcases Nat.lt_or_ge i n with h1 | h1
        · exact h0 i h1
        · obtain rfl : i = n := by omega
          simpa using hp
theorem firstTo_some {P : Nat → Bool} {n k : Nat} : firstTo P n = some k ↔ k < n ∧ P k = true ∧ ∀ j, j < k → P j = false := by
  induction n with
  | zero => exact ⟨fun h => (by cases h), fun h => absurd h.1 (Nat.not_lt_zero _)⟩
  | succ n ih =>
    rw [firstTo]
    cases h : firstTo P n with
    | some k' =>
      dsimp only
      constructor
      · intro e
        injection e with e
        subst e
        obtain ⟨a, b, c⟩ := ih.1 h
        exact ⟨by omega, b, c⟩
      · rintro ⟨a, b, c⟩
        rcases Nat.lt_or_ge k n with h1 | h1
        · rw [← h]; exact ih.2 ⟨h1, b, c⟩
        · obtain rfl : k = n := by omega
          have := (firstTo_none (P := P)).2 c
          rw [h] at this; cases this
    | none =>
      dsimp only
      have h0 := firstTo_none.1 h
      by_cases hp : P n = true
      · rw [if_pos hp]
        constructor
        · intro e
          injection e with e
          subst e
          exact ⟨by omega, hp, h0⟩
        · rintro ⟨a, b, c⟩
          rcases Nat.lt_or_ge k n with h1 | h1
          · rw [h0 k h1] at b; cases b
          · obtain rfl : k = n := by omega
            rfl
      · rw [if_neg hp]
        constructor
        · intro e; cases e
        · rintro ⟨a, b, c⟩
          rcases Nat.lt_or_ge k n with h1 | h1
          · rw [h0 k h1] at b; cases b
          · obtain rfl : k = n := by omega
            exact absurd b hp
theorem firstTo_succ_some {P : Nat → Bool} {n k : Nat} (h : firstTo P n = some k) : firstTo P (n + 1) = some k := by rw [firstTo, h]
theorem firstTo_succ_no {P : Nat → Bool} {n : Nat} (h : P n = false) : firstTo P (n + 1) = firstTo P n := by
  rw [firstTo]
  cases firstTo P n with
  | some k => rfl
  | none => dsimp only; rw [if_neg (by rw [h]; decide)]
theorem firstTo_succ_yes {P : Nat → Bool} {n : Nat} (h0 : firstTo P n = none) (h : P n = true) : firstTo P (n + 1) = some n := by rw [firstTo, h0]; dsimp only; rw [if_pos h]
theorem firstTo_congr {P Q : Nat → Bool} {n : Nat} (h : ∀ i, i < n → P i = Q i) : firstTo P n = firstTo Q n := by
  induction n with
  | zero => rfl
  | succ n ih => rw [firstTo, firstTo, ih (fun i hi => h i (by omega)), h n (by omega)]
def isReq (l : List Ms) (s i : Nat) : Bool := match l[i]? with | some m => rq m && m.sq == s | none => false
def isAns (l : List Ms) (s i : Nat) : Bool := match l[i]? with | some m => !rq m && m.sq == s | none => false
def isRq (l : List Ms) (i : Nat) : Bool := match l[i]? with | some m => rq m | none => false
theorem isReq_at {l : List Ms} {s i : Nat} {m : Ms} (h : l[i]? = some m) : isReq l s i = (rq m && m.sq == s) := by unfold isReq; rw [h]
theorem isAns_at {l : List Ms} {s i : Nat} {m : Ms} (h : l[i]? = some m) : isAns l s i = (!rq m && m.sq == s) := by unfold isAns; rw [h]
theorem isRq_at {l : List Ms} {i : Nat} {m : Ms} (h : l[i]? = some m) : isRq l i = rq m := by unfold isRq; rw [h]
theorem isReq_inv {l : List Ms} {s i : Nat} (h : isReq l s i = true) : ∃ m, l[i]? = some m ∧ rq m = true ∧ m.sq = s := by
  unfold isReq at h
  split at h
  · next m hm =>
    rw [Bool.and_eq_true, beq_iff_eq] at h
    exact ⟨m, hm, h.1, h.2⟩
  · cases h
theorem isAns_inv {l : List Ms} {s i : Nat} (h : isAns l s i = true) : ∃ m, l[i]? = some m ∧ rq m = false ∧ m.sq = s := by
  unfold isAns at h
  split at h
  · next m hm =>
    rw [Bool.and_eq_true, beq_iff_eq, Bool.not_eq_true'] at h
    exact ⟨m, hm, h.1, h.2⟩
  · cases h
def askedTo (l : List Ms) (s n : Nat) : Option Nat := firstTo (isReq l s) n
def answdTo (l : List Ms) (s n : Nat) : Option Nat := firstTo (isAns l s) n
def Late (l : List Ms) (i s : Nat) : Prop := ∃ k m, k < i ∧ l[k]? = some m ∧ rq m = true ∧ s ≤ m.sq
noncomputable def ansC (l : List Ms) (i : Nat) (m : Ms) : Int :=
  match askedTo l m.sq i with
  | none => 16
  | some k => if (answdTo l m.sq i).isSome = true then 18 else match l[k]? with | some q => fitsC q m | none => 0
open Classical in
noncomputable def atM (l : List Ms) (i : Nat) (m : Ms) : Int :=
  if ¬ MOk m then 3 else if rq m = true then (if Late l i m.sq then 13 else 0) else ansC l i m
noncomputable def atC (l : List Ms) (i : Nat) : Int := match l[i]? with | some m => atM l i m | none => 0
theorem atC_at {l : List Ms} {i : Nat} {m : Ms} (h : l[i]? = some m) : atC l i = atM l i m := by unfold atC; rw [h]
def Good (l : List Ms) (i : Nat) : Prop := ∀ j, j < i → atC l j = 0
theorem good_zero (l : List Ms) : Good l 0 := fun j h => absurd h (Nat.not_lt_zero _)
theorem good_succ {l : List Ms} {i : Nat} (h : Good l i) (h0 : atC l i = 0) : Good l (i + 1) := fun j hj => by
  rcases Nat.lt_or_ge j i with h1 | h1
  · exact h j h1
  · obtain rfl : j = i := by omega
    exact h0
theorem good_less {l : List Ms} {i j : Nat} (h : Good l i) (hj : j ≤ i) : Good l j := fun k hk => h k (by omega)
noncomputable def res (l : List Ms) : Nat × Int := match firstTo (fun i => decide (atC l i ≠ 0)) l.length with | none => (l.length, 0) | some i => (i, atC l i)
theorem res_good {l : List Ms} (h : Good l l.length) : res l = (l.length, 0) := by
  have : firstTo (fun i => decide (atC l i ≠ 0)) l.length = none := firstTo_none.2 fun i hi => by
    have := h i hi
    simp [this]
  unfold res; rw [this]
theorem res_bad {l : List Ms} {i : Nat} {c : Int} (h : Good l i) (hi : i < l.length) (hc : atC l i = c) (h0 : c ≠ 0) : res l = (i, c) := by
  have : firstTo (fun i => decide (atC l i ≠ 0)) l.length = some i := firstTo_some.2 ⟨hi, by rw [decide_eq_true_iff, hc]; exact h0, fun j hj => by
    have := h j hj
    simp [this]⟩
  unfold res; rw [this]; dsimp only; rw [hc]
theorem res_cases (l : List Ms) : (Good l l.length ∧ res l = (l.length, 0)) ∨ ∃ i, i < l.length ∧ Good l i ∧ atC l i ≠ 0 ∧ res l = (i, atC l i) := by
  cases h : firstTo (fun i => decide (atC l i ≠ 0)) l.length with
  | none =>
    have hg : Good l l.length := fun i hi => by
      have := firstTo_none.1 h i hi
      simpa using this
    exact .inl ⟨hg, res_good hg⟩
  | some i =>
    obtain ⟨a, b, c⟩ := firstTo_some.1 h
    have hg : Good l i := fun j hj => by
      have := c j hj
      simpa using this
    have hb : atC l i ≠ 0 := by simpa using b
    exact .inr ⟨i, a, hg, hb, res_bad hg a rfl hb⟩
/-! ### A beginning of a talk -/
theorem take_at {l : List Ms} {n i : Nat} (h : i < n) : (l.take n)[i]? = l[i]? := by rw [List.getElem?_take, if_pos h]
theorem asked_take {l : List Ms} {n i s : Nat} (h : i ≤ n) : askedTo (l.take n) s i = askedTo l s i :=
  firstTo_congr fun j hj => by unfold isReq; rw [take_at (by omega)]
theorem answd_take {l : List Ms} {n i s : Nat} (h : i ≤ n) : answdTo (l.take n) s i = answdTo l s i :=
  firstTo_congr fun j hj => by unfold isAns; rw [take_at (by omega)]
theorem late_take {l : List Ms} {n i s : Nat} (h : i ≤ n) : Late (l.take n) i s ↔ Late l i s :=
  ⟨fun ⟨k, m, a, b, c⟩ => ⟨k, m, a, by rw [take_at (by omega)] at b; exact b, c⟩, fun ⟨k, m, a, b, c⟩ => ⟨k, m, a, by rw [take_at (by omega)]; exact b, c⟩⟩
theorem asked_lt {l : List Ms} {s i k : Nat} (h : askedTo l s i = some k) : k < i ∧ ∃ m, l[k]? = some m ∧ rq m = true ∧ m.sq = s := by
  obtain ⟨a, b, _⟩ := firstTo_some.1 h
  exact ⟨a, isReq_inv b⟩
theorem answd_lt {l : List Ms} {s i k : Nat} (h : answdTo l s i = some k) : k < i ∧ ∃ m, l[k]? = some m ∧ rq m = false ∧ m.sq = s := by
  obtain ⟨a, b, _⟩ := firstTo_some.1 h
  exact ⟨a, isAns_inv b⟩
theorem ansC_take {l : List Ms} {n i : Nat} {m : Ms} (h : i ≤ n) : ansC (l.take n) i m = ansC l i m := by
  unfold ansC
  rw [asked_take h, answd_take h]
  cases hk : askedTo l m.sq i with
  | none => rfl
  | some k => dsimp only; rw [take_at (by have := (asked_lt hk).1; omega)]
open Classical in
theorem atC_take {l : List Ms} {n i : Nat} (h : i < n) : atC (l.take n) i = atC l i := by
  unfold atC
  rw [take_at h]
  cases l[i]? with
  | none => rfl
  | some m =>
    dsimp only
    unfold atM
    rw [ansC_take (by omega)]
    have e : (if Late (l.take n) i m.sq then (13 : Int) else 0) = if Late l i m.sq then 13 else 0 := by
      by_cases hl : Late l i m.sq
      · rw [if_pos hl, if_pos ((late_take (by omega)).2 hl)]
      · rw [if_neg hl, if_neg (fun hc => hl ((late_take (by omega)).1 hc))]
    rw [e]
theorem res_take {l : List Ms} {n : Nat} (hn : n ≤ l.length) : res (l.take n) = if n ≤ (res l).1 then (n, 0) else res l := by
  have hlen : (l.take n).length = n := by rw [List.length_take]; omega
  have hg : ∀ i, i ≤ n → Good l i → Good (l.take n) i := fun i hi h j hj => by rw [atC_take (by omega)]; exact h j hj
  rcases res_cases l with ⟨h1, h2⟩ | ⟨i, h1, h2, h3, h4⟩
  · rw [h2, if_pos hn]
    have h := hg n (Nat.le_refl _) (good_less h1 hn)
    have := res_good (l := l.take n) (by rw [hlen]; exact h)
    rw [this, hlen]
  · rw [h4]
    dsimp only
    by_cases hin : n ≤ i
    · rw [if_pos hin]
      have h := hg n (Nat.le_refl _) (good_less h2 hin)
      have := res_good (l := l.take n) (by rw [hlen]; exact h)
      rw [this, hlen]
    · rw [if_neg hin]
      exact res_bad (hg i (by omega) h2) (by rw [hlen]; omega) (atC_take (by omega)) h3
/-! ### What follows of a good beginning -/
open Classical in
theorem fits_ok {q a : Ms} (h : fitsC q a = 0) : MOk q ∧ MOk a := by
  unfold fitsC at h
  by_cases hc : ¬ (MOk q ∧ MOk a)
  · rw [if_pos hc] at h; cases h
  · exact Decidable.byContradiction hc
theorem atM_req {l : List Ms} {i : Nat} {m : Ms} (h : atM l i m = 0) (hr : rq m = true) : ¬ Late l i m.sq := fun hl => by
  unfold atM at h
  by_cases hc : ¬ MOk m
  · rw [if_pos hc] at h; cases h
  · rw [if_neg hc, if_pos hr, if_pos hl] at h; cases h
theorem atM_ans {l : List Ms} {i : Nat} {m : Ms} (h : atM l i m = 0) (hr : rq m = false) : ∃ k q, askedTo l m.sq i = some k ∧ l[k]? = some q ∧ answdTo l m.sq i = none ∧ fitsC q m = 0 := by
  unfold atM at h
  by_cases hc : ¬ MOk m
  · rw [if_pos hc] at h; cases h
  · rw [if_neg hc, if_neg (by rw [hr]; decide)] at h
    unfold ansC at h
    cases hk : askedTo l m.sq i with
    | none => rw [hk] at h; cases h
    | some k =>
      rw [hk] at h
      dsimp only at h
      cases ha : answdTo l m.sq i with
      | some j => rw [ha] at h; cases h
      | none =>
        rw [ha] at h
        obtain ⟨_, q, hq, _⟩ := asked_lt hk
        rw [hq] at h
        exact ⟨k, q, rfl, hq, rfl, h⟩
theorem good_rise {l : List Ms} {i j k : Nat} {a b : Ms} (h : Good l i) (hjk : j < k) (hk : k < i) (ha : l[j]? = some a) (hb : l[k]? = some b) (ra : rq a = true) (rb : rq b = true) : a.sq < b.sq := by
  have h0 := h k hk
  rw [atC_at hb] at h0
  exact Nat.lt_of_not_le fun hle => atM_req h0 rb ⟨j, a, hjk, ha, ra, hle⟩
theorem good_one {l : List Ms} {i j k : Nat} {a b : Ms} (h : Good l i) (hj : j < i) (hk : k < i) (ha : l[j]? = some a) (hb : l[k]? = some b) (ra : rq a = true) (rb : rq b = true) (e : a.sq = b.sq) : j = k := by
  rcases Nat.lt_trichotomy j k with h1 | h1 | h1
  · have := good_rise h h1 hk ha hb ra rb; omega
  · exact h1
  · have := good_rise h h1 hj hb ha rb ra; omega
theorem good_ans {l : List Ms} {i j : Nat} {a : Ms} (h : Good l i) (hj : j < i) (ha : l[j]? = some a) (ra : rq a = false) : ∃ k q, k < j ∧ l[k]? = some q ∧ rq q = true ∧ q.sq = a.sq ∧ fitsC q a = 0 := by
  have h0 := h j hj
  rw [atC_at ha] at h0
  obtain ⟨k, q, hk, hq, _, hf⟩ := atM_ans h0 ra
  obtain ⟨h1, q', hq', h2, h3⟩ := asked_lt hk
  rw [hq] at hq'
  injection hq' with hq'
  subst hq'
  exact ⟨k, q, h1, hq, h2, h3, hf⟩
/-! ### What the log holds -/
def rqs (l : List Ms) : Nat → List Nat
  | 0 => []
  | i + 1 => if isRq l i = true then rqs l i ++ [i] else rqs l i
def ansI (l : List Ms) (n k : Nat) : Int := match l[k]? with | some m => optI (answdTo l m.sq n) | none => -1
def prsOf (l : List Ms) (n i : Nat) : List (Nat × Int) := (rqs l i).map fun k => (k, ansI l n k)
def lastTo (l : List Ms) : Nat → Option Nat
  | 0 => none
  | i + 1 => match l[i]? with | some m => if rq m = true then some m.sq else lastTo l i | none => lastTo l i
theorem rqs_mem {l : List Ms} {i k : Nat} : k ∈ rqs l i ↔ k < i ∧ ∃ m, l[k]? = some m ∧ rq m = true := by
  induction i with
  | zero => exact ⟨fun h => absurd h (List.not_mem_nil), fun h => absurd h.1 (Nat.not_lt_zero _)⟩
  | succ i ih =>
    rw [rqs]
    by_cases h : isRq l i = true
    · rw [if_pos h, List.mem_append, ih]
      have hm : ∃ m, l[i]? = some m ∧ rq m = true := by
        unfold isRq at h
        split at h
        · next m hm => exact ⟨m, hm, h⟩
        · cases h
      constructor
      · rintro (⟨a, b⟩ | a)
        · exact ⟨by omega, b⟩
        · obtain rfl : k = i := by simpa using a
          exact ⟨by omega, hm⟩
      · rintro ⟨a, b⟩
        rcases Nat.lt_or_ge k i with h1 | h1
        · exact .inl ⟨h1, b⟩
        · obtain rfl : k = i := by omega
          exact .inr (by simp)
    · rw [if_neg h, ih]
      constructor
      · rintro ⟨a, b⟩; exact ⟨by omega, b⟩
      · rintro ⟨a, m, b, c⟩
        rcases Nat.lt_or_ge k i with h1 | h1
        · exact ⟨h1, m, b, c⟩
        · obtain rfl : k = i := by omega
          rw [isRq_at b] at h; exact absurd c h
theorem rqs_len (l : List Ms) (i : Nat) : (rqs l i).length ≤ i := by
  induction i with
  | zero => exact Nat.le_refl _
  | succ i ih =>
    rw [rqs]; split
    · rw [List.length_append]; simp; omega
    · omega
theorem rqs_nodup (l : List Ms) (i : Nat) : (rqs l i).Nodup := by
  induction i with
  | zero => exact List.nodup_nil
  | succ i ih =>
    rw [rqs]; split
    · rw [List.nodup_append]
      exact ⟨ih, by simp, fun a ha b hb => by
        have := (rqs_mem.1 ha).1
        obtain rfl : b = i := by simpa using hb
        omega⟩
    · exact ih
theorem rqs_inj {l : List Ms} {i p p' k : Nat} (h : (rqs l i)[p]? = some k) (h' : (rqs l i)[p']? = some k) : p = p' := by
  obtain ⟨hp, hpe⟩ := List.getElem?_eq_some_iff.1 h
  obtain ⟨hp', hpe'⟩ := List.getElem?_eq_some_iff.1 h'
  have hn := List.pairwise_iff_getElem.1 (rqs_nodup l i)
  rcases Nat.lt_trichotomy p p' with h1 | h1 | h1
  · exact absurd (hpe.trans hpe'.symm) (hn p p' hp hp' h1)
  · exact h1
  · exact absurd (hpe'.trans hpe.symm) (hn p' p hp' hp h1)
theorem prs_len (l : List Ms) (n i : Nat) : (prsOf l n i).length = (rqs l i).length := List.length_map ..
theorem prs_at {l : List Ms} {n i p k : Nat} {a : Int} : (prsOf l n i)[p]? = some (k, a) ↔ (rqs l i)[p]? = some k ∧ ansI l n k = a := by
  unfold prsOf
  rw [List.getElem?_map]
  cases h : (rqs l i)[p]? with
  | none => simp
  | some k' =>
    simp only [Option.map_some, Option.some.injEq, Prod.mk.injEq]
    constructor
    · rintro ⟨rfl, h⟩; exact ⟨rfl, h⟩
    · rintro ⟨rfl, h⟩; exact ⟨rfl, h⟩
structure LogIs (l : List Ms) (i : Nat) (ps : List (Nat × Int)) (f : Nat → Option Nat) (last : Nat) (begun : Bool) : Prop where
  eqn : ps = prsOf l i i
  opn : ∀ s p, f s = some p ↔ ∃ k m, ps[p]? = some (k, -1) ∧ l[k]? = some m ∧ m.sq = s
  lst : lastTo l i = if begun = true then some last else none
theorem log_zero (l : List Ms) : LogIs l 0 [] (fun _ => none) 0 false :=
  ⟨rfl, fun s p => ⟨fun h => (by cases h), fun ⟨k, m, h, _⟩ => (by simp at h)⟩, rfl⟩
theorem last_some {l : List Ms} {i x : Nat} (hg : Good l i) (h : lastTo l i = some x) : (∃ k m, k < i ∧ l[k]? = some m ∧ rq m = true ∧ m.sq = x) ∧ ∀ k m, k < i → l[k]? = some m → rq m = true → m.sq ≤ x := by
  induction i generalizing x with
  | zero => cases h
  | succ i ih =>
    rw [lastTo] at h
    have old : lastTo l i = some x → (∀ m, l[i]? = some m → rq m = false) → (∃ k m, k < i + 1 ∧ l[k]? = some m ∧ rq m = true ∧ m.sq = x) ∧ ∀ k m, k < i + 1 → l[k]? = some m → rq m = true → m.sq ≤ x := by
      intro h1 h2
      obtain ⟨⟨k, m, a, b⟩, c⟩ := ih (good_less hg (by omega)) h1
      refine ⟨⟨k, m, by omega, b⟩, fun k m hk hm hr => ?_⟩
      rcases Nat.lt_or_ge k i with h3 | h3
      · exact c k m h3 hm hr
      · obtain rfl : k = i := by omega
        rw [h2 m hm] at hr; cases hr
    cases hm : l[i]? with
    | none => rw [hm] at h; exact old h (fun m hm' => by rw [hm] at hm'; cases hm')
    | some m =>
      rw [hm] at h
      dsimp only at h
      by_cases hr : rq m = true
      · rw [if_pos hr] at h
        injection h with h
        subst h
        refine ⟨⟨i, m, by omega, hm, hr, rfl⟩, fun k m' hk hm' hr' => ?_⟩
        rcases Nat.lt_or_ge k i with h3 | h3
        · exact Nat.le_of_lt (good_rise hg h3 (by omega) hm' hm hr' hr)
        · obtain rfl : k = i := by omega
          rw [hm] at hm'
          injection hm' with hm'
          subst hm'; exact Nat.le_refl _
      · rw [if_neg hr] at h
        exact old h (fun m' hm' => by rw [hm] at hm'; injection hm' with hm'; subst hm'; simpa using hr)
theorem last_none {l : List Ms} {i : Nat} (h : lastTo l i = none) : ∀ k m, k < i → l[k]? = some m → rq m = false := by
  induction i with
  | zero => exact fun k m h => absurd h (Nat.not_lt_zero _)
  | succ i ih =>
    rw [lastTo] at h
    intro k m hk hm
    rcases Nat.lt_or_ge k i with h3 | h3
    · refine ih ?_ k m h3 hm
      cases hi : l[i]? with
      | none => rw [hi] at h; exact h
      | some m' =>
        rw [hi] at h
        dsimp only at h
        split at h
        · cases h
        · exact h
    · obtain rfl : k = i := by omega
      rw [hm] at h
      dsimp only at h
      split at h
      · cases h
      · next hr => simpa using hr
section
variable {l : List Ms} {i : Nat} {ps : List (Nat × Int)} {f : Nat → Option Nat} {last : Nat} {begun : Bool} {m : Ms}
theorem LogIs.late (h : LogIs l i ps f last begun) (hg : Good l i) (s : Nat) : Late l i s ↔ begun = true ∧ s ≤ last := by
  have hl := h.lst
  cases begun with
  | true =>
    obtain ⟨⟨k, m, a, b, c, d⟩, e⟩ := last_some hg hl
    exact ⟨fun ⟨k', m', a', b', c', d'⟩ => ⟨rfl, Nat.le_trans d' (e k' m' a' b' c')⟩, fun ⟨_, h1⟩ => ⟨k, m, a, b, c, by omega⟩⟩
  | false =>
    have e := last_none hl
    exact ⟨fun ⟨k, m, a, b, c, d⟩ => (by rw [e k m a b] at c; cases c), fun ⟨h1, _⟩ => (by cases h1)⟩
theorem LogIs.ps_lt (h : LogIs l i ps f last begun) {p k : Nat} {a : Int} (hp : ps[p]? = some (k, a)) : k < i ∧ ∃ m, l[k]? = some m ∧ rq m = true := by
  rw [h.eqn] at hp
  exact rqs_mem.1 (List.mem_of_getElem? (prs_at.1 hp).1)
theorem LogIs.len (h : LogIs l i ps f last begun) : ps.length ≤ i := by rw [h.eqn, prs_len]; exact rqs_len _ _
theorem LogIs.has (h : LogIs l i ps f last begun) {k : Nat} {m : Ms} (hk : k < i) (hm : l[k]? = some m) (hr : rq m = true) : ∃ p : Nat, ps[p]? = some (k, ansI l i k) := by
  obtain ⟨p, hp⟩ := List.getElem?_of_mem (rqs_mem.2 ⟨hk, m, hm, hr⟩)
  exact ⟨p, by rw [h.eqn]; exact prs_at.2 ⟨hp, rfl⟩⟩
theorem lastTo_req (hm : l[i]? = some m) (hr : rq m = true) : lastTo l (i + 1) = some m.sq := by rw [lastTo, hm]; dsimp only; rw [if_pos hr]
theorem lastTo_ans (hm : l[i]? = some m) (hr : rq m = false) : lastTo l (i + 1) = lastTo l i := by rw [lastTo, hm]; dsimp only; rw [if_neg (by rw [hr]; decide)]
/-- A request goes in. -/
theorem LogIs.req (h : LogIs l i ps f last begun) (hg : Good l i) (hm : l[i]? = some m) (hr : rq m = true) (hl : ¬ Late l i m.sq) :
    LogIs l (i + 1) (ps ++ [(i, -1)]) (fun y => if y = m.sq then some ps.length else f y) m.sq true := by
  have hno : ∀ s, answdTo l s (i + 1) = answdTo l s i := fun s => firstTo_succ_no (by rw [isAns_at hm, hr]; rfl)
  have hnew : answdTo l m.sq i = none := firstTo_none.2 fun j hj => Bool.eq_false_iff.2 fun ha => by
    obtain ⟨a, h1, h2, h3⟩ := isAns_inv ha
    obtain ⟨k, q, h4, h5, h6, h7, _⟩ := good_ans hg hj h1 h2
    exact hl ⟨k, q, by omega, h5, h6, by omega⟩
  refine ⟨?_, fun s p => ?_, ?_⟩
  · rw [h.eqn]
    unfold prsOf
    rw [rqs, if_pos (by rw [isRq_at hm]; exact hr), List.map_append]
    congr 1
    · refine List.map_congr_left fun k hk => ?_
      unfold ansI
      cases l[k]? with
      | none => rfl
      | some q => dsimp only; rw [hno]
    · simp only [List.map_cons, List.map_nil]
      unfold ansI
      rw [hm]
      dsimp only
      rw [hno, hnew]; rfl
  · by_cases hs : s = m.sq
    · subst hs
      rw [if_pos rfl]
      constructor
      · intro e
        injection e with e
        subst e
        exact ⟨i, m, by simp, hm, rfl⟩
      · rintro ⟨k, m', h1, h2, h3⟩
        rcases Nat.lt_or_ge p ps.length with h4 | h4
        · rw [List.getElem?_append_left h4] at h1
          obtain ⟨h5, m'', h6, h7⟩ := h.ps_lt h1
          rw [h2] at h6
          injection h6 with h6
          subst h6
          exact absurd ⟨k, m', h5, h2, h7, by omega⟩ hl
        · have h5 := (List.getElem?_eq_some_iff.1 h1).1
          rw [List.length_append, List.length_singleton] at h5
          rw [show p = ps.length by omega]
    · rw [if_neg hs, h.opn]
      constructor
      · rintro ⟨k, m', h1, h2, h3⟩
        exact ⟨k, m', by rw [List.getElem?_append_left (List.getElem?_eq_some_iff.1 h1).1]; exact h1, h2, h3⟩
      · rintro ⟨k, m', h1, h2, h3⟩
        rcases Nat.lt_or_ge p ps.length with h4 | h4
        · rw [List.getElem?_append_left h4] at h1
          exact ⟨k, m', h1, h2, h3⟩
        · have h5 := (List.getElem?_eq_some_iff.1 h1).1
          rw [List.length_append, List.length_singleton] at h5
          obtain rfl : p = ps.length := by omega
          rw [List.getElem?_append_right (Nat.le_refl _), Nat.sub_self] at h1
          simp only [List.getElem?_cons_zero, Option.some.injEq, Prod.mk.injEq] at h1
          obtain ⟨rfl, _⟩ := h1
          rw [hm] at h2
          injection h2 with h2
          subst h2
          exact absurd h3.symm hs
  · rw [lastTo_req hm hr]; rfl
open Classical in
/-- Nothing is open under an answer's number. -/
theorem LogIs.none_open (h : LogIs l i ps f last begun) (hg : Good l i) (hf : f m.sq = none) (hm : MOk m) (hr : rq m = false) :
    atM l i m = if (∃ (p k : Nat) (a : Int) (q : Ms), ps[p]? = some (k, a) ∧ l[k]? = some q ∧ q.sq = m.sq) then 18 else 16 := by
  unfold atM
  rw [if_neg (fun hc => hc hm), if_neg (by rw [hr]; decide)]
  unfold ansC
  cases hk : askedTo l m.sq i with
  | none =>
    rw [if_neg]
    rintro ⟨p, k, a, q, h1, h2, h3⟩
    obtain ⟨h4, q', h5, h6⟩ := h.ps_lt h1
    rw [h2] at h5
    injection h5 with h5
    subst h5
    have := firstTo_none.1 hk k h4
    rw [isReq_at h2, h6, h3] at this
    simp at this
  | some k =>
    dsimp only
    obtain ⟨h1, q, h2, h3, h4⟩ := asked_lt hk
    obtain ⟨p, hp⟩ := h.has h1 h2 h3
    have hs : (answdTo l m.sq i).isSome = true := by
      cases ha : answdTo l m.sq i with
      | some j => rfl
      | none =>
        have : ansI l i k = -1 := by unfold ansI; rw [h2]; dsimp only; rw [h4, ha]; rfl
        rw [this] at hp
        rw [(h.opn m.sq p).2 ⟨k, q, hp, h2, h4⟩] at hf
        cases hf
    rw [if_pos hs, if_pos ⟨p, k, _, q, hp, h2, h4⟩]
/-- Something is open under an answer's number. -/
theorem LogIs.is_open (h : LogIs l i ps f last begun) (hg : Good l i) {p : Nat} (hf : f m.sq = some p) (hm : MOk m) (hr : rq m = false) :
    ∃ k q, ps[p]? = some (k, -1) ∧ k < i ∧ l[k]? = some q ∧ q.sq = m.sq ∧ atM l i m = fitsC q m := by
  obtain ⟨k, q, h1, h2, h3⟩ := (h.opn _ _).1 hf
  obtain ⟨h4, q', h5, h6⟩ := h.ps_lt h1
  rw [h2] at h5
  injection h5 with h5
  subst h5
  have h7 : ansI l i k = -1 := by rw [h.eqn] at h1; exact (prs_at.1 h1).2
  unfold ansI at h7
  rw [h2] at h7
  dsimp only at h7
  rw [h3] at h7
  have h8 := optI_neg.1 h7
  have h9 : askedTo l m.sq i = some k := firstTo_some.2 ⟨h4, by rw [isReq_at h2, h6, h3]; simp, fun j hj => Bool.eq_false_iff.2 fun hc => by
    obtain ⟨a, ha, ra, sa⟩ := isReq_inv hc
    have := good_one hg (show j < i by omega) h4 ha h2 ra h6 (by omega)
    omega⟩
  refine ⟨k, q, h1, h4, h2, h3, ?_⟩
  unfold atM
  rw [if_neg (fun hc => hc hm), if_neg (by rw [hr]; decide)]
  unfold ansC
  rw [h9, h8]
  dsimp only
  rw [h2, if_neg (by decide)]
/-- An answer goes in. -/
theorem LogIs.ans (h : LogIs l i ps f last begun) (hg : Good l i) (hm : l[i]? = some m) (hr : rq m = false) {p k : Nat} {q : Ms} (hf : f m.sq = some p) (hp : ps[p]? = some (k, -1)) (hq : l[k]? = some q) (hs : q.sq = m.sq) :
    LogIs l (i + 1) (ps.set p (k, (i : Int))) (fun y => if y = m.sq then none else f y) last begun := by
  obtain ⟨hki, q', hq', hrq⟩ := h.ps_lt hp
  rw [hq] at hq'
  injection hq' with hq'
  subst hq'
  have hrp : (rqs l i)[p]? = some k := by rw [h.eqn] at hp; exact (prs_at.1 hp).1
  have hn1 : answdTo l m.sq i = none := by
    rw [h.eqn] at hp
    have h7 := (prs_at.1 hp).2
    unfold ansI at h7
    rw [hq] at h7
    dsimp only at h7
    rw [hs] at h7
    exact optI_neg.1 h7
  have hn2 : answdTo l m.sq (i + 1) = some i := firstTo_succ_yes hn1 (by rw [isAns_at hm, hr]; simp)
  have hn3 : ∀ s, s ≠ m.sq → answdTo l s (i + 1) = answdTo l s i := fun s hs => firstTo_succ_no (by rw [isAns_at hm, hr]; simp; exact fun e => hs e.symm)
  have hlen : p < ps.length := (List.getElem?_eq_some_iff.1 hp).1
  have hps : ps.set p (k, (i : Int)) = prsOf l (i + 1) (i + 1) := by
    apply List.ext_getElem?
    intro j
    unfold prsOf
    rw [rqs, if_neg (by rw [isRq_at hm, hr]; decide), List.getElem?_map]
    by_cases hj : j = p
    · subst hj
      rw [List.getElem?_set_self hlen, hrp]
      simp only [Option.map_some, Option.some.injEq, Prod.mk.injEq, true_and]
      unfold ansI
      rw [hq]
      dsimp only
      rw [hs, hn2]; rfl
    · rw [List.getElem?_set_ne (fun e => hj e.symm), h.eqn]
      unfold prsOf
      rw [List.getElem?_map]
      cases hk' : (rqs l i)[j]? with
      | none => rfl
      | some k' =>
        simp only [Option.map_some, Option.some.injEq, Prod.mk.injEq, true_and]
        obtain ⟨h1, q', h2, h3⟩ := rqs_mem.1 (List.mem_of_getElem? hk')
        unfold ansI
        rw [h2]
        dsimp only
        rw [hn3]
        intro e
        have := good_one hg h1 hki h2 hq h3 hrq (by omega)
        subst this
        exact hj (rqs_inj hk' hrp)
  refine ⟨hps, fun s j => ?_, by rw [lastTo_ans hm hr]; exact h.lst⟩
  by_cases hsm : s = m.sq
  · subst hsm
    rw [if_pos rfl]
    refine ⟨fun e => (by cases e), ?_⟩
    rintro ⟨k', m', h1, h2, h3⟩
    by_cases hj : j = p
    · subst hj
      rw [List.getElem?_set_self hlen] at h1
      simp only [Option.some.injEq, Prod.mk.injEq] at h1
      omega
    · rw [List.getElem?_set_ne (fun e => hj e.symm)] at h1
      have := (h.opn m.sq j).2 ⟨k', m', h1, h2, h3⟩
      rw [hf] at this
      injection this with this
      exact absurd this.symm hj
  · rw [if_neg hsm, h.opn]
    constructor
    · rintro ⟨k', m', h1, h2, h3⟩
      have hj : j ≠ p := fun e => by
        subst e
        rw [hp] at h1
        simp only [Option.some.injEq, Prod.mk.injEq, and_true] at h1
        subst h1
        rw [hq] at h2
        injection h2 with h2
        subst h2
        exact hsm (h3.symm.trans hs)
      exact ⟨k', m', by rw [List.getElem?_set_ne (fun e => hj e.symm)]; exact h1, h2, h3⟩
    · rintro ⟨k', m', h1, h2, h3⟩
      have hj : j ≠ p := fun e => by
        subst e
        rw [List.getElem?_set_self hlen] at h1
        simp only [Option.some.injEq, Prod.mk.injEq] at h1
        omega
      rw [List.getElem?_set_ne (fun e => hj e.symm)] at h1
      exact ⟨k', m', h1, h2, h3⟩
end
end Go.Proofs.Ytlfieiiegokejaa
