/- Entries that are appended as they stand (their rows shared); cutting and joining in plain words; results in one form. -/
import Derived.Test.YtcbmnfjbmkpfiaaPkV
namespace Go.Proofs.Ytcbmnfjbmkpfiaa
open Go.ChangeShapes Go.WideShapes Go.ChangeAt Go.RowKit
set_option linter.unusedVariables false
/-- The cells of entries that read. -/
def EV (w : World) (D : Dom) (vals : List Value) (es : List Ent) : Prop := vals.length = es.length * 2 ∧
  ∀ (i : Nat) e, es[i]? = some e → ∃ A' c' B d, vals[i * 2]? = some (.slice A' e.1.length c') ∧ vals[i * 2 + 1]? = some (.slice B e.2.length d) ∧ rpLnk.sl w D A' e.1.length c' e.1 ∧ rpU8.sl w D B e.2.length d e.2
section
variable {w w' : World} {D D' : Dom} {A : Option Addr} {n c base : Nat} {es es2 : List Ent} {vals vals2 : List Value}
theorem EV.below (h : EV w D vals es) (hD : ∀ k, D k → k < w.heap.size) (hb : Below w.heap.size w w') : EV w' D vals es :=
  ⟨h.1, fun i e he => by
    obtain ⟨A', c', B, d, h1, h2, h3, h4⟩ := h.2 i e he
    exact ⟨A', c', B, d, h1, h2, Rp.sl_below h3 hb hD, Rp.sl_below h4 hb hD⟩⟩
theorem EV.more (h : EV w D vals es) (hD : ∀ k, D k → D' k) : EV w D' vals es :=
  ⟨h.1, fun i e he => by
    obtain ⟨A', c', B, d, h1, h2, h3, h4⟩ := h.2 i e he
    exact ⟨A', c', B, d, h1, h2, Rp.sl_more h3 hD, Rp.sl_more h4 hD⟩⟩
theorem EV.app (h : EV w D vals es) (h2 : EV w D vals2 es2) : EV w D (vals ++ vals2) (es ++ es2) := by
  have hl := h.1
  refine ⟨by rw [List.length_append, List.length_append, h.1, h2.1, Nat.add_mul], fun i e he => ?_⟩
  by_cases hi : i < es.length
  · rw [List.getElem?_append_left hi] at he
    obtain ⟨A', c', B, d, g1, g2, g3, g4⟩ := h.2 i e he
    exact ⟨A', c', B, d, by rw [List.getElem?_append_left (by omega)]; exact g1, by rw [List.getElem?_append_left (by omega)]; exact g2, g3, g4⟩
  · rw [List.getElem?_append_right (by omega)] at he
    obtain ⟨A', c', B, d, g1, g2, g3, g4⟩ := h2.2 _ e he
    exact ⟨A', c', B, d, by rw [List.getElem?_append_right (by omega), hl, ← Nat.sub_mul]; exact g1, by rw [List.getElem?_append_right (by omega), hl, show i * 2 + 1 - es.length * 2 = (i - es.length) * 2 + 1 by omega]; exact g2, g3, g4⟩
theorem EV.of (h : rpEnt.sl w D A n c es) : ∃ vals, EV w D vals es ∧ Src w A n 2 vals := by
  obtain ⟨hlen, _, _⟩ := Rp.sl_len h
  have hch : ∀ k, k ≤ n → ∃ vals : List Value, vals.length = k * 2 ∧ ∀ (i : Nat) e, i < k → es[i]? = some e → ∃ b off A' c' B d, A = some ⟨b, off, none⟩ ∧ vals[i * 2]? = some (.slice A' e.1.length c') ∧ vals[i * 2 + 1]? = some (.slice B e.2.length d) ∧ rpLnk.sl w D A' e.1.length c' e.1 ∧ rpU8.sl w D B e.2.length d e.2 ∧ w.cell? ⟨b, off + i * 2, none⟩ = some (.slice A' e.1.length c') ∧ w.cell? ⟨b, off + i * 2 + 1, none⟩ = some (.slice B e.2.length d) := by
    intro k
    induction k with
    | zero => exact fun _ => ⟨[], rfl, fun i e h => absurd h (Nat.not_lt_zero _)⟩
    | succ k ih =>
      intro hk
      obtain ⟨vals, hl, hg⟩ := ih (by omega)
      obtain ⟨b, off, x, A', c', B, d, hA, _, hx, g0, g1, h1, h2⟩ := ent_at h (k := k) (by omega)
      refine ⟨vals ++ [.slice A' x.1.length c', .slice B x.2.length d], by simp [hl, Nat.succ_mul], fun i e hi he => ?_⟩
      rcases Nat.lt_or_ge i k with hik | hik
      · obtain ⟨b', off', A2, c2, B2, d2, q1, q2, q3, q4⟩ := hg i e hik he
        exact ⟨b', off', A2, c2, B2, d2, q1, by rw [List.getElem?_append_left (by omega)]; exact q2, by rw [List.getElem?_append_left (by omega)]; exact q3, q4⟩
      · obtain rfl : i = k := by omega
        rw [hx] at he
        injection he with he
        subst he
        exact ⟨b, off, A', c', B, d, hA, by rw [List.getElem?_append_right (by omega), hl, Nat.sub_self]; rfl, by rw [List.getElem?_append_right (by omega), hl, Nat.add_sub_cancel_left]; rfl, h1, h2, g0, g1⟩
  obtain ⟨vals, hl, hg⟩ := hch n (Nat.le_refl _)
  refine ⟨vals, ⟨by rw [hl, hlen], fun i e he => ?_⟩, hl, fun u hu => ?_, fun hp => ?_⟩
  · obtain ⟨_, _, A', c', B, d, _, q1, q2, q3, q4, _⟩ := hg i e (by rw [← hlen]; exact (List.getElem?_eq_some_iff.1 he).1) he
    exact ⟨A', c', B, d, q1, q2, q3, q4⟩
  · obtain ⟨j, hj⟩ := List.getElem?_of_mem hu
    have hjl := (List.getElem?_eq_some_iff.1 hj).1
    obtain ⟨_, _, A', c', B, d, _, h1, h2, _⟩ := hg (j / 2) es[j / 2] (by omega) (List.getElem?_eq_getElem (by omega))
    rcases Nat.mod_two_eq_zero_or_one j with h | h
    · rw [show j / 2 * 2 = j by omega, hj] at h1
      injection h1 with h1; subst h1; rfl
    · rw [show j / 2 * 2 + 1 = j by omega, hj] at h2
      injection h2 with h2; subst h2; rfl
  · obtain ⟨b, off, _, _, _, _, hA, _⟩ := hg 0 es[0] (by omega) (List.getElem?_eq_getElem (by omega))
    refine ⟨⟨b, off, none⟩, hA, fun j u hu => ?_⟩
    have hjl := (List.getElem?_eq_some_iff.1 hu).1
    obtain ⟨b', off', A', c', B, d, hA', h1, h2, _, _, g0, g1⟩ := hg (j / 2) es[j / 2] (by omega) (List.getElem?_eq_getElem (by omega))
    rw [hA] at hA'
    injection hA' with hA'
    injection hA' with e1 e2
    subst e1; subst e2
    rw [add_plain]
    rcases Nat.mod_two_eq_zero_or_one j with h | h
    · have e : j / 2 * 2 = j := by omega
      rw [e, hu] at h1
      rw [e] at g0
      injection h1 with h1; subst h1; exact g0
    · have e : j / 2 * 2 + 1 = j := by omega
      rw [e, hu] at h2
      rw [Nat.add_assoc, e] at g1
      injection h2 with h2; subst h2; exact g1
theorem EV.sl (h : EV w (fun k => k < w.heap.size) vals es) (ho : w.ownsRow base 45 2 (.slice A n c) n vals) : rpEnt.sl w (fun k => k < w.heap.size) A n c es := by
  have hn : es.length = n := by have h1 := ho.1; have h2 := h.1; omega
  rcases ho.2 with ⟨hv, h0⟩ | ⟨g, cap, cur, hv, hg, hh, hnc, hcm, hcs, htake⟩
  · injection hv with h1 h2 h3
    subst h1; subst h3
    have hs0 : es = [] := List.eq_nil_of_length_eq_zero (by omega)
    subst hs0
    have hn0 : n = 0 := by simpa using hn.symm
    subst hn0
    exact Rp.sl_nil _ _ _ _ _ (by decide)
  · injection hv with h1 h2 h3
    subst h1; subst h3
    subst hn
    refine ⟨_, _, rfl, hnc, hcm, fun _ => ⟨g, 0, rfl, (Array.getElem?_eq_some_iff.1 hh).1, fun i e he => ?_⟩⟩
    obtain ⟨A', c', B, d, h1, h2, h3, h4⟩ := h.2 i e he
    refine ⟨[.slice A' e.1.length c', .slice B e.2.length d], ⟨[.slice A' e.1.length c'], [.slice B e.2.length d], rfl, h3, h4⟩, fun j u hu => ?_⟩
    have hj : j < 2 := (List.getElem?_eq_some_iff.1 hu).1
    have hvi : vals[i * 2 + j]? = some u := by
      match j, hj with
      | 0, _ => rw [Nat.add_zero, h1, ← hu]; rfl
      | 1, _ => rw [h2, ← hu]; rfl
    rw [ent_size, cell_of_row w g (0 + i * 2 + j) cur _ (0, 0) hh, Nat.zero_add]
    rw [← htake, List.getElem?_take] at hvi
    split at hvi
    · simpa using hvi
    · cases hvi
end
/-! ### Results in one form -/
def Xs (w : World) (xe xb : Nat) (A : Option Addr) (n c : Nat) (xs : List Ent) : Prop := rpEnt.sl w (fun k => k < w.heap.size) A n c xs
theorem join_form {w w' : World} {ep b ep2 b2 : Nat} {es es2 : List Ent} {e : Ending} (h : JoinIs w ep b es ep2 b2 es2 e w') :
    ∃ xe xb A n c xs, e = .returned (.tuple #[.agg (batV xe xb A n c), .int .i64 (joinC ep b es ep2 b2 es2)]) ∧ rpEnt.sl w' (fun k => k < w'.heap.size) A n c xs ∧ Below w.heap.size w w' ∧
      (joinC ep b es ep2 b2 es2 = 0 → xe = ep ∧ xb = b ∧ xs = es ++ es2) ∧ (joinC ep b es ep2 b2 es2 ≠ 0 → xe = 0 ∧ xb = 0 ∧ xs = []) := by
  obtain ⟨hb, ⟨h0, A', c', he, hs⟩ | ⟨h0, he⟩⟩ := h
  · exact ⟨ep, b, A', _, c', _, by rw [h0]; exact he, hs, hb, fun _ => ⟨rfl, rfl, rfl⟩, fun h => absurd h0 h⟩
  · exact ⟨0, 0, none, 0, 0, [], he, Rp.sl_nil _ _ _ _ _ (by decide), hb, fun h => absurd h h0, fun _ => ⟨rfl, rfl, rfl⟩⟩
theorem cut_form {w w' : World} {ep b fr tt : Nat} {es : List Ent} {e : Ending} (h : CutIs w ep b es fr tt e w') :
    ∃ xe xb A n c xs ok, e = .returned (.tuple #[.agg (batV xe xb A n c), .bool ok]) ∧ rpEnt.sl w' (fun k => k < w'.heap.size) A n c xs ∧ Below w.heap.size w w' ∧ (ok = true → CutOk ep b es fr tt ∧ xe = ep ∧ xb = fr ∧ n = tt - fr ∧ xs = (es.take (tt - b)).drop (fr - b)) := by
  obtain ⟨hb, ⟨h0, A', c', he, hs⟩ | ⟨h0, he⟩⟩ := h
  · exact ⟨ep, fr, A', _, c', _, true, he, hs, hb, fun _ => ⟨h0, rfl, rfl, rfl, rfl⟩⟩
  · exact ⟨0, 0, none, 0, 0, [], false, he, Rp.sl_nil _ _ _ _ _ (by decide), hb, fun h => by cases h⟩
/-! ### Cutting and joining -/
theorem bat_take {ep b k : Nat} {es : List Ent} (h : BatOk ep b es) (h1 : 1 ≤ k) (h2 : k ≤ es.length) : BatOk ep b (es.take k) := by
  obtain ⟨h3, ⟨h4, h5, h6, h7⟩, h8⟩ := h
  have hl : (es.take k).length = k := by rw [List.length_take]; omega
  refine ⟨h3, ⟨by omega, by omega, h6, by omega⟩, fun i x hx => ?_⟩
  rw [List.getElem?_take] at hx
  split at hx
  · exact h8 i x hx
  · cases hx
theorem bat_drop {ep b k : Nat} {es : List Ent} (h : BatOk ep b es) (h2 : k < es.length) : BatOk ep (b + k) (es.drop k) := by
  obtain ⟨h3, ⟨h4, h5, h6, h7⟩, h8⟩ := h
  have hl : (es.drop k).length = es.length - k := List.length_drop
  refine ⟨h3, ⟨by omega, by omega, by unfold PosOk; omega, by omega⟩, fun i x hx => ?_⟩
  rw [List.getElem?_drop] at hx
  have := h8 _ x hx
  rwa [show b + k + i = b + (k + i) by omega]
theorem cut_join {ep b k : Nat} {es : List Ent} (h : BatOk ep b es) (h1 : 1 ≤ k) (h2 : k < es.length) : joinC ep b (es.take k) ep (b + k) (es.drop k) = 0 := by
  have h7 := h.2.1.2.2.2
  have hl : (es.take k).length = k := by rw [List.length_take]; omega
  unfold joinC
  rw [dec_true (bat_take h h1 (by omega)), dec_true (bat_drop h h2), dec_true (show endN b (es.take k).length = b + k ∧ ep = ep by rw [hl]; unfold endN; exact ⟨Nat.mod_eq_of_lt (by omega), rfl⟩), List.take_append_drop, dec_true h]
  rfl
theorem ebd_sub {es es2 : List Ent} (h : EBd es) (hl : es2.length ≤ 1000) (hs : ∀ e ∈ es2, e ∈ es) : EBd es2 := ⟨hl, fun e he => h.2 e (hs e he)⟩
theorem tot_drop {es : List Ent} (k : Nat) : totL (es.drop k) ≤ totL es := by
  have h := tot_app (es.take k) (es.drop k)
  rw [List.take_append_drop] at h
  omega
end Go.Proofs.Ytcbmnfjbmkpfiaa
