/- How many positions a node has below one; all counts together. No walk. -/
import Derived.Test.YtmdgmnaaopineaaLocMv
import Derived.Test.YtmdgmnaaopineaaShM
namespace Go.Proofs.Ytmdgmnaaopineaa
set_option linter.unusedVariables false
def sumUp (f : Nat → Nat) : Nat → Nat
  | 0 => 0
  | n + 1 => sumUp f n + f n
theorem sumUp_congr {f g : Nat → Nat} : ∀ n, (∀ i, i < n → f i = g i) → sumUp f n = sumUp g n
  | 0, _ => rfl
  | n + 1, h => by rw [sumUp, sumUp, sumUp_congr n (fun i hi => h i (by omega)), h n (by omega)]
theorem sumUp_zero : ∀ n, sumUp (fun _ => 0) n = 0
  | 0 => rfl
  | n + 1 => by rw [sumUp, sumUp_zero n]
theorem sumUp_add (f g : Nat → Nat) : ∀ n, sumUp (fun i => f i + g i) n = sumUp f n + sumUp g n
  | 0 => rfl
  | n + 1 => by rw [sumUp, sumUp, sumUp, sumUp_add f g n]; omega
theorem sumUp_comm (f : Nat → Nat → Nat) (m : Nat) : ∀ n, sumUp (fun i => sumUp (fun j => f i j) m) n = sumUp (fun j => sumUp (fun i => f i j) n) m
  | 0 => (sumUp_zero m).symm
  | n + 1 => by
    show sumUp (fun i => sumUp (fun j => f i j) m) n + sumUp (fun j => f n j) m = sumUp (fun j => sumUp (fun i => f i j) n + f n j) m
    rw [sumUp_add, sumUp_comm f m n]
theorem sumUp_mono (f : Nat → Nat) {a : Nat} : ∀ b, a ≤ b → sumUp f a ≤ sumUp f b
  | 0, h => by obtain rfl : a = 0 := by omega
               exact Nat.le_refl _
  | b + 1, h => by
    rcases Nat.lt_or_ge a (b + 1) with hl | hg
    · have := sumUp_mono f b (by omega : a ≤ b)
      rw [sumUp]; omega
    · obtain rfl : a = b + 1 := by omega
      exact Nat.le_refl _
theorem sumUp_le {f : Nat → Nat} {c : Nat} : ∀ n, (∀ i, i < n → f i ≤ c) → sumUp f n ≤ n * c
  | 0, _ => by rw [Nat.zero_mul]; exact Nat.le_refl _
  | n + 1, h => by
    have h1 := sumUp_le n (fun i hi => h i (by omega))
    have h2 := h n (by omega)
    rw [sumUp, Nat.succ_mul]; omega
theorem sumUp_one (j : Nat) : ∀ n, sumUp (fun i => if i = j then 1 else 0) n = if j < n then 1 else 0
  | 0 => rfl
  | n + 1 => by
    rw [sumUp, sumUp_one j n]
    by_cases h1 : j < n
    · rw [if_pos h1, if_neg (by omega), if_pos (by omega)]
    · by_cases h2 : n = j
      · rw [if_neg h1, if_pos h2, if_pos (by omega)]
      · rw [if_neg h1, if_neg h2, if_neg (by omega)]
/-- How many positions below B have x. -/
def cnt (l : List Stp) (x B : Nat) : Nat := sumUp (fun p => if x ∈ nodesAt l p then 1 else 0) B
theorem cnt_le (l : List Stp) (x B : Nat) : cnt l x B ≤ B := by
  have := sumUp_le (f := fun p => if x ∈ nodesAt l p then 1 else 0) (c := 1) B (fun i _ => by show (if _ then 1 else 0) ≤ 1; split <;> omega)
  unfold cnt; omega
theorem cnt_succ (l : List Stp) (x B : Nat) : cnt l x (B + 1) = cnt l x B + if x ∈ nodesAt l B then 1 else 0 := rfl
theorem part_succ {a m k : Nat} (hk : k < m) : (a + 1 + m - 1 - k) / m = (a + m - 1 - k) / m + if a % m = k then 1 else 0 := by
  have hm : 0 < m := by omega
  obtain ⟨q, hq⟩ : ∃ q, q = a / m := ⟨_, rfl⟩
  obtain ⟨r, hr⟩ : ∃ r, r = a % m := ⟨_, rfl⟩
  have hrm : r < m := by rw [hr]; exact Nat.mod_lt _ hm
  have e : a = q * m + r := by rw [hq, hr, Nat.mul_comm]; exact (Nat.div_add_mod a m).symm
  rw [← hr]
  have h1 := part_eq (q := q) hrm hk
  rw [← e] at h1
  rw [h1]
  by_cases h2 : r + 1 < m
  · have h3 := part_eq (q := q) h2 hk
    rw [show q * m + (r + 1) = a + 1 by omega] at h3
    rw [h3]
    by_cases h4 : k < r
    · rw [if_pos h4, if_pos (by omega), if_neg (by omega)]
    · by_cases h5 : r = k
      · rw [if_neg h4, if_pos (by omega), if_pos h5]
      · rw [if_neg h4, if_neg (by omega), if_neg h5]
  · have h3 := part_eq (q := q + 1) hm hk
    rw [show (q + 1) * m + 0 = a + 1 by rw [Nat.succ_mul]; omega] at h3
    rw [h3, if_neg (by omega)]
    by_cases h4 : k < r
    · rw [if_pos h4, if_neg (by omega)]
    · rw [if_neg h4, if_pos (by omega)]
section
variable {e k : Nat} {l : List Stp} {s : Stp} {x : Nat}
theorem atSet_hit {f t i r : Nat} {sets : List (List Nat)} {nd : List Nat} (h : SOk (f, t, sets)) (ha : AtSet sets x sets.length i true) (hn : sets[r]? = some nd) : x ∈ nd ↔ r = i := by
  obtain ⟨a, l, b, c⟩ := ha.1 rfl
  have hs := h.2.2.2.2
  constructor
  · intro hx
    rcases Nat.lt_trichotomy i r with h3 | h3 | h3
    · exact absurd c ((hs r nd hn).2.2.2.2 i l h3 b x hx)
    · exact h3.symm
    · exact absurd hx ((hs i l b).2.2.2.2 r nd h3 hn x c)
  · rintro rfl
    have hn' : sets[r]? = some nd := hn
    rw [b] at hn'
    injection hn' with hn'
    exact hn' ▸ c
/-- The set of a position of a stripe. -/
theorem nodes_at {p : Nat} (h : POk (e, l)) (hs : l[k]? = some s) (h1 : s.1 ≤ p) (h2 : p < s.2.1) : s.2.2[(p - s.1) % s.2.2.length]? = some (nodesAt l p) := by
  have hso : SOk s := (h.1.2 k s (List.getElem?_eq_some_iff.1 hs).1 hs).1
  have hlt : (p - s.1) % s.2.2.length < s.2.2.length := Nat.mod_lt _ hso.2.2.1
  rw [nodesAt_some (nd := s.2.2[(p - s.1) % s.2.2.length]) h ⟨hs, h1, h2⟩ (List.getElem?_eq_getElem hlt)]
  exact List.getElem?_eq_getElem hlt
theorem cnt_part {i : Nat} (h : POk (e, l)) (hs : l[k]? = some s) (ha : AtSet s.2.2 x s.2.2.length i true) : ∀ a, s.1 + a ≤ s.2.1 → cnt l x (s.1 + a) = cnt l x s.1 + (a + s.2.2.length - 1 - i) / s.2.2.length
  | 0, _ => by
    have hi : i < s.2.2.length := (ha.1 rfl).1
    rw [Nat.div_eq_of_lt (by omega)]; rfl
  | a + 1, hle => by
    have hso : SOk s := (h.1.2 k s (List.getElem?_eq_some_iff.1 hs).1 hs).1
    have hi : i < s.2.2.length := (ha.1 rfl).1
    have hnd := nodes_at (p := s.1 + a) h hs (by omega) (by omega)
    rw [show s.1 + a - s.1 = a by omega] at hnd
    rw [← Nat.add_assoc, cnt_succ, cnt_part h hs ha a (by omega), part_succ hi, Nat.add_assoc]
    congr 1
    congr 1
    have hh := atSet_hit (f := s.1) (t := s.2.1) hso ha hnd
    by_cases hx : x ∈ nodesAt l (s.1 + a)
    · rw [if_pos hx, if_pos (hh.1 hx)]
    · rw [if_neg hx, if_neg (fun q => hx (hh.2 q))]
theorem cnt_none {i : Nat} (h : POk (e, l)) (hs : l[k]? = some s) (ha : AtSet s.2.2 x s.2.2.length i false) : ∀ a, s.1 + a ≤ s.2.1 → cnt l x (s.1 + a) = cnt l x s.1
  | 0, _ => rfl
  | a + 1, hle => by
    have hnd := nodes_at (p := s.1 + a) h hs (by omega) (by omega)
    rw [← Nat.add_assoc, cnt_succ, cnt_none h hs ha a (by omega)]
    rw [if_neg ((ha.2 rfl).2 _ _ (List.getElem?_eq_some_iff.1 hnd).1 hnd)]
    rfl
/-- The loop over the stripes: how many below B, of those ahead of stripe k. -/
def cntTo (l : List Stp) (x B k : Nat) : Nat := cnt l x (min B (startOf l k))
theorem cntTo_zero (B : Nat) : cntTo l x B 0 = 0 := by
  unfold cntTo startOf
  rw [Nat.min_zero]; rfl
theorem cntTo_end (B : Nat) (h : POk (e, l)) : cntTo l x B l.length = cnt l x (min B 4611686018427387904) := by
  unfold cntTo
  rw [show startOf l l.length = 4611686018427387904 from h.2]
theorem cntTo_none {B i : Nat} {q : Bool} (h : POk (e, l)) (hs : l[k]? = some s) (ha : AtSet s.2.2 x s.2.2.length i q) (hno : q = false ∨ B ≤ s.1) : cntTo l x B (k + 1) = cntTo l x B k := by
  obtain ⟨hso, hst⟩ := h.1.2 k s (List.getElem?_eq_some_iff.1 hs).1 hs
  dsimp only at hst
  have hft : s.1 < s.2.1 := hso.1
  unfold cntTo
  rw [startOf_succ hs, ← hst]
  by_cases hb : B ≤ s.1
  · rw [Nat.min_eq_left (by omega), Nat.min_eq_left hb]
  · obtain rfl : q = false := hno.resolve_right hb
    rw [Nat.min_eq_right (by omega : s.1 ≤ B)]
    obtain ⟨a, ha'⟩ : ∃ a, min B s.2.1 = s.1 + a := ⟨min B s.2.1 - s.1, by omega⟩
    rw [ha']
    exact cnt_none h hs ha a (by omega)
theorem sok_cut {T : Nat} (h : SOk s) (h1 : s.1 < T) (h2 : T ≤ s.2.1) : SOk (s.1, T, s.2.2) := ⟨h1, Nat.le_trans h2 h.2.1, h.2.2⟩
theorem cntTo_some {B i T : Nat} (h : POk (e, l)) (hs : l[k]? = some s) (ha : AtSet s.2.2 x s.2.2.length i true) (hb : s.1 < B) (hT : T = min s.2.1 B) : cntTo l x B (k + 1) = cntTo l x B k + share (s.1, T, s.2.2) (i : Int) := by
  obtain ⟨hso, hst⟩ := h.1.2 k s (List.getElem?_eq_some_iff.1 hs).1 hs
  dsimp only at hst
  have hft : s.1 < s.2.1 := hso.1
  have hok := sok_cut (T := T) hso (by omega) (by omega)
  rw [share_in hok (ha.1 rfl).1]
  unfold cntTo
  rw [startOf_succ hs, ← hst, Nat.min_eq_right (by omega : s.1 ≤ B), Nat.min_comm, ← hT]
  obtain ⟨a, ha'⟩ : ∃ a, T = s.1 + a := ⟨T - s.1, by omega⟩
  rw [ha', cnt_part h hs ha a (by omega)]
  dsimp only
  rw [show s.1 + a - s.1 = a by omega]
theorem setOk_lt {sets : List (List Nat)} {i : Nat} {l : List Nat} (h : SetOk sets i l) : ∀ y ∈ l, y < 4294967296 := fun y hy => by
  obtain ⟨j, hj, rfl⟩ := List.mem_iff_getElem.1 hy
  have hl := h.2.2.2.1 l[l.length - 1] (List.getElem?_eq_getElem (by omega))
  rcases Nat.lt_or_ge j (l.length - 1) with h1 | h1
  · have := List.pairwise_iff_getElem.1 (rises_lt h.2.2.1) j (l.length - 1) hj (by omega) h1
    omega
  · obtain rfl : j = l.length - 1 := by omega
    exact hl
theorem sok_lt (h : SOk s) : ∀ y ∈ s.2.2.flatten, y < 18446744073709551616 := fun y hy => by
  obtain ⟨o, ho, hyo⟩ := List.mem_flatten.1 hy
  obtain ⟨j, hj⟩ := List.getElem?_of_mem ho
  have := setOk_lt (h.2.2.2.2 j o hj) y hyo
  omega
/-- The nodes of the first k stripes. -/
def Gath (l : List Stp) (k : Nat) (L : List Nat) : Prop := L.length ≤ 64 * k ∧ ∀ x, x ∈ L ↔ ∃ (i : Nat) (s : Stp), i < k ∧ l[i]? = some s ∧ x ∈ s.2.2.flatten
theorem gath_zero (l : List Stp) : Gath l 0 [] := ⟨by simp, fun x => ⟨fun h => absurd h (by simp), fun ⟨i, _, h, _⟩ => absurd h (Nat.not_lt_zero _)⟩⟩
theorem gath_succ {L r : List Nat} (h : Gath l k L) (hs : l[k]? = some s) (hso : SOk s) (hr : r.Perm s.2.2.flatten) : Gath l (k + 1) (L ++ r) := by
  have h64 : s.2.2.flatten.length ≤ 64 := sok_flat (f := s.1) (t := s.2.1) hso
  refine ⟨by rw [List.length_append, hr.length_eq]; have := h.1; omega, fun x => ?_⟩
  rw [List.mem_append, h.2 x, hr.mem_iff]
  constructor
  · rintro (⟨i, u, hi, hu, hx⟩ | hx)
    · exact ⟨i, u, by omega, hu, hx⟩
    · exact ⟨k, s, by omega, hs, hx⟩
  · rintro ⟨i, u, hi, hu, hx⟩
    rcases Nat.lt_or_ge i k with h1 | h1
    · exact .inl ⟨i, u, h1, hu, hx⟩
    · obtain rfl : i = k := by omega
      rw [hs] at hu
      injection hu with hu
      exact .inr (hu ▸ hx)
/-- All nodes of a projection. -/
def NodesIs (l : List Stp) (nd : List Nat) : Prop := nd.Pairwise (· < ·) ∧ ∀ x, x ∈ nd ↔ ∃ (i : Nat) (s : Stp), l[i]? = some s ∧ x ∈ s.2.2.flatten
theorem nodesIs_of {L r nd : List Nat} {n : Nat} (hn : l.length = n) (h : Gath l n L) (hr : r.Perm L) (hp : nd.Pairwise (· < ·)) (hm : ∀ x, x ∈ nd ↔ x ∈ r) : NodesIs l nd := ⟨hp, fun x => by
  rw [hm x, hr.mem_iff, h.2 x]
  constructor
  · rintro ⟨i, u, _, hu, hx⟩
    exact ⟨i, u, hu, hx⟩
  · rintro ⟨i, u, hu, hx⟩
    exact ⟨i, u, by have := (List.getElem?_eq_some_iff.1 hu).1; omega, hu, hx⟩⟩
theorem nodesIs_lt {nd : List Nat} (h : POk (e, l)) (hn : NodesIs l nd) : ∀ y ∈ nd, y < 18446744073709551616 := fun y hy => by
  obtain ⟨i, u, hu, hx⟩ := (hn.2 y).1 hy
  exact sok_lt (h.1.2 i u (List.getElem?_eq_some_iff.1 hu).1 hu).1 y hx
theorem nodesIs_at {p : Nat} {nd : List Nat} (h : POk (e, l)) (hn : NodesIs l nd) (hp : p < 4611686018427387904) : ∀ y ∈ nodesAt l p, y ∈ nd := fun y hy => by
  obtain ⟨r, s, hin⟩ := inStripe_some h hp
  have h1 := nodes_at h hin.1 hin.2.1 hin.2.2
  exact (hn.2 y).2 ⟨r, s, hin.1, List.mem_flatten.2 ⟨_, List.mem_of_getElem? h1, hy⟩⟩
theorem nodesAt_set {p : Nat} (h : POk (e, l)) (hp : p < 4611686018427387904) : (nodesAt l p).Pairwise (· < ·) ∧ (nodesAt l p).length ≤ 8 := by
  obtain ⟨r, s, hin⟩ := inStripe_some h hp
  have h1 := nodes_at h hin.1 hin.2.1 hin.2.2
  have hso : SOk s := (h.1.2 r s (List.getElem?_eq_some_iff.1 hin.1).1 hin.1).1
  have h2 := hso.2.2.2.2 _ _ h1
  exact ⟨rises_lt h2.2.2.1, h2.2.1⟩
theorem cnt_out {B : Nat} {nd : List Nat} (h : POk (e, l)) (hn : NodesIs l nd) (hB : B ≤ 4611686018427387904) (hx : x ∉ nd) : cnt l x B = 0 := by
  unfold cnt
  rw [sumUp_congr (g := fun _ => 0) B (fun i hi => if_neg fun hm => hx (nodesIs_at h hn (by omega) x hm)), sumUp_zero]
end
theorem hit_one {nodes : List Nat} (hn : nodes.Pairwise (· < ·)) {y : Nat} (hy : y ∈ nodes) : sumUp (fun i => if nodes.getD i 0 = y then 1 else 0) nodes.length = 1 := by
  obtain ⟨j, hj, hje⟩ := List.mem_iff_getElem.1 hy
  rw [sumUp_congr (g := fun i => if i = j then 1 else 0) nodes.length (fun i hi => ?_), sumUp_one, if_pos hj]
  have e : nodes.getD i 0 = nodes[i] := by rw [List.getD_eq_getElem?_getD, List.getElem?_eq_getElem hi]; rfl
  rw [e]
  by_cases hij : i = j
  · subst hij
    rw [if_pos hje, if_pos rfl]
  · rw [if_neg hij, if_neg]
    intro h
    rcases Nat.lt_or_gt_of_ne hij with h1 | h1
    · have := List.pairwise_iff_getElem.1 hn i j hi hj h1; omega
    · have := List.pairwise_iff_getElem.1 hn j i hj hi h1; omega
theorem hits {nodes : List Nat} (hn : nodes.Pairwise (· < ·)) : ∀ nd : List Nat, nd.Pairwise (· < ·) → (∀ x ∈ nd, x ∈ nodes) → sumUp (fun i => if nodes.getD i 0 ∈ nd then 1 else 0) nodes.length = nd.length
  | [], _, _ => by
    rw [sumUp_congr (g := fun _ => 0) _ (fun i hi => if_neg (by simp)), sumUp_zero]; rfl
  | y :: t, hp, hm => by
    have hp1 := List.pairwise_cons.1 hp
    rw [sumUp_congr (g := fun i => (if nodes.getD i 0 = y then 1 else 0) + (if nodes.getD i 0 ∈ t then 1 else 0)) _ (fun i hi => ?_), sumUp_add, hit_one hn (hm y (List.mem_cons_self)), hits hn t hp1.2 (fun x hx => hm x (List.mem_cons_of_mem _ hx)), List.length_cons, Nat.add_comm]
    by_cases h1 : nodes.getD i 0 = y
    · rw [h1, if_pos List.mem_cons_self, if_pos rfl, if_neg (fun hy => absurd (hp1.1 y hy) (Nat.lt_irrefl _))]
    · by_cases h2 : nodes.getD i 0 ∈ t
      · rw [if_pos (List.mem_cons_of_mem _ h2), if_neg h1, if_pos h2]
      · rw [if_neg (fun hy => (List.mem_cons.1 hy).elim h1 h2), if_neg h1, if_neg h2]
/-- All counts together are each position, as often as its set has nodes. -/
theorem sum_all {e B : Nat} {l : List Stp} {nd : List Nat} (h : POk (e, l)) (hn : NodesIs l nd) (hB : B ≤ 4611686018427387904) : sumUp (fun i => cnt l (nd.getD i 0) B) nd.length = sumUp (fun p => (nodesAt l p).length) B := by
  show sumUp (fun i => sumUp (fun p => if nd.getD i 0 ∈ nodesAt l p then 1 else 0) B) nd.length = _
  rw [sumUp_comm]
  exact sumUp_congr B (fun p hp => hits hn.1 _ (nodesAt_set h (by omega)).1 (nodesIs_at h hn (by omega)))
theorem want_le {e B : Nat} {l : List Stp} (h : POk (e, l)) (hB : B ≤ 4611686018427387904) : sumUp (fun p => (nodesAt l p).length) B ≤ B * 8 := sumUp_le B (fun p hp => (nodesAt_set h (by omega)).2)
end Go.Proofs.Ytmdgmnaaopineaa
