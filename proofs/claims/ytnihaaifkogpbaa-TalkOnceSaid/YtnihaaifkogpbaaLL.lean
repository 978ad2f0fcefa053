/- A list of lists of numbers that the call has made itself. -/
import Derived.Test.YtnihaaifkogpbaaOL
import Derived.Test.YtnihaaifkogpbaaLkC
import Derived.Test.YtnihaaifkogpbaaStp3
import Derived.RegionTactic
namespace Go.Proofs.Ytnihaaifkogpbaa
open Go.ChangeShapes Go.WideShapes Go.ChangeAt Go.RowKit
set_option linter.unusedVariables false
theorem Pen.ne {w : World} {g : Nat} {e t : TypeId} {cs : Array Value} {base size n : Nat} {v : Value} {xs : List Value} (hb : Blk w g t cs) (ho : w.ownsRow base e size v n xs) (hne : e ≠ t) : some g ≠ v.ownBlock := by
  intro h
  rcases ho.2 with ⟨rfl, _⟩ | ⟨q, cap, cur, rfl, _, hh, _⟩
  · cases h
  · simp only [Value.ownBlock, Option.some.injEq] at h
    subst h
    unfold Blk at hb
    rw [hh] at hb
    injection hb with hb
    injection hb with _ he
    exact hne he
theorem Pen.ne' {w : World} {g : Nat} {e t : TypeId} {cs : Array Value} {base size n : Nat} {v : Value} {xs : List Value} (hb : Blk w g t cs) (ho : w.ownsRow base e size v n xs) (hne : e ≠ t) : some g ≠ v.ownBlock := by
  intro h
  rcases ho.2 with ⟨rfl, _⟩ | ⟨q, cap, cur, rfl, _, hh, _⟩
  · cases h
  · simp only [Value.ownBlock, Option.some.injEq] at h
    subst h
    unfold Blk at hb
    rw [hh] at hb
    injection hb with hb
    injection hb with _ he
    exact hne he
def LL (w : World) (base : Nat) (A : Option Addr) (n c : Nat) (sets : List (List Nat)) : Prop :=
  ∃ vals : List Value, w.ownsRow base 23 1 (.slice A n c) n vals ∧ sets.length = n ∧ ∀ (i : Nat) x, sets[i]? = some x → (∃ A' c', vals[i]? = some (.slice A' x.length c') ∧ w.ownsRow base 29 1 (.slice A' x.length c') x.length (x.map uv)) ∧ ∀ y ∈ x, y < 18446744073709551616
section
variable {w w' : World} {base n c g : Nat} {A : Option Addr} {sets : List (List Nat)}
theorem LL.nil (w : World) (base : Nat) : LL w base none 0 0 [] := ⟨[], World.ownsRow_nil _ _ _ _, rfl, fun i x h => by simp at h⟩
/-- It stays where the blocks of its two types stay. -/
theorem LL.same (h : LL w base A n c sets) (hs : ∀ k cs t, w.heap[k]? = some (.cells cs t (0, 0)) → (t = 29 ∨ t = 23) → base ≤ k → w'.heap[k]? = w.heap[k]?) : LL w' base A n c sets := by
  have key : ∀ {e : TypeId} {v : Value} {m : Nat} {xs : List Value}, (e = 29 ∨ e = 23) → w.ownsRow base e 1 v m xs → w'.ownsRow base e 1 v m xs := by
    intro e v m xs he ho
    refine ⟨ho.1, ?_⟩
    rcases ho.2 with h0 | ⟨g, cap, cur, hv, hg, hh, hr⟩
    · exact .inl h0
    · exact .inr ⟨g, cap, cur, hv, hg, (hs g cur e hh he hg).trans hh, hr⟩
  obtain ⟨vals, ho, hn, hi⟩ := h
  refine ⟨vals, key (.inr rfl) ho, hn, fun i x hx => ?_⟩
  obtain ⟨⟨A', c', hv, hw⟩, hy⟩ := hi i x hx
  exact ⟨⟨A', c', hv, key (.inl rfl) hw⟩, hy⟩
theorem LL.below (h : LL w base A n c sets) (hb : Below w.heap.size w w') : LL w' base A n c sets :=
  h.same (fun k cs t hk _ _ => hb.block k (Blk.lt (w := w) hk))
theorem LL.chg {F : Dom} (h : LL w base A n c sets) (hc : Chg F w w') (hF : ∀ k, F k → k < base) : LL w' base A n c sets :=
  h.same (fun k cs t hk _ hb => hc.block k (Blk.lt (w := w) hk) (fun hf => by have := hF k hf; omega))
/-- A store into a block of another type. -/
theorem LL.put {t : TypeId} {cs : Array Value} (h : LL w base A n c sets) (hb : Blk w g t cs) (ht : t ≠ 29) (ht2 : t ≠ 23) {a : Addr} (ha : a.block = g) (u : Value) : LL (w.setCell a u) base A n c sets :=
  h.same (fun k cs' t' hk ht' _ => Below.heap_setCell w a u k (by
    rintro rfl
    rw [ha] at hk
    have : some (Obj.cells cs' t' (0, 0)) = some (Obj.cells cs t (0, 0)) := hk.symm.trans hb
    injection this with this
    injection this with _ h2 _
    rcases ht' with rfl | rfl
    · exact ht h2.symm
    · exact ht2 h2.symm))
theorem LL.len (h : LL w base A n c sets) : sets.length = n := by obtain ⟨_, _, hn, _⟩ := h; exact hn
/-- One list more. -/
theorem LL.push (h : LL w base A n c sets) {vals : List Value} (ho : w.ownsRow base 23 1 (.slice A n c) n vals) (hvals : ∀ (i : Nat) x, sets[i]? = some x → (∃ A' c', vals[i]? = some (.slice A' x.length c') ∧ w.ownsRow base 29 1 (.slice A' x.length c') x.length (x.map uv)) ∧ ∀ y ∈ x, y < 18446744073709551616)
    {w3 : World} {A3 A' : Option Addr} {c3 c' : Nat} {x : List Nat} (ho3 : w3.ownsRow base 23 1 (.slice A3 (n + 1) c3) (n + 1) (vals ++ [.slice A' x.length c'])) (hg : w.grownBy w3 (Value.slice A n c).ownBlock)
    (hx : w.ownsRow base 29 1 (.slice A' x.length c') x.length (x.map uv)) (hx64 : ∀ y ∈ x, y < 18446744073709551616) : LL w3 base A3 (n + 1) c3 (sets ++ [x]) := by
  have hlen := h.len
  have hvl : vals.length = n := by have := ho.1; simpa using this
  have key : ∀ {v : Value} {m : Nat} {xs : List Value}, w.ownsRow base 29 1 v m xs → w3.ownsRow base 29 1 v m xs := by
    intro v m xs hw
    refine ⟨hw.1, ?_⟩
    rcases hw.2 with h0 | ⟨g, cap, cur, hv, hg2, hh, hr⟩
    · exact .inl h0
    · refine .inr ⟨g, cap, cur, hv, hg2, (hg.block g (Blk.lt (w := w) hh) (fun e => ?_)).trans hh, hr⟩
      exact absurd e (Pen.ne' (t := 29) (cs := cur) hh ho (by decide))
  refine ⟨_, ho3, by rw [List.length_append, hlen]; rfl, fun i y hy => ?_⟩
  by_cases hi : i < n
  · rw [List.getElem?_append_left (by omega)] at hy
    obtain ⟨⟨A2, c2, hv, hw⟩, h64⟩ := hvals i y hy
    exact ⟨⟨A2, c2, by rw [List.getElem?_append_left (by omega)]; exact hv, key hw⟩, h64⟩
  · rw [List.getElem?_append_right (by omega)] at hy
    have hi2 : i - sets.length = 0 := by
      rcases Nat.eq_zero_or_pos (i - sets.length) with h0 | h0
      · exact h0
      · rw [List.getElem?_eq_none (by simp; omega)] at hy; cases hy
    rw [hi2] at hy
    simp only [List.getElem?_cons_zero, Option.some.injEq] at hy
    subst hy
    refine ⟨⟨A', c', ?_, key hx⟩, hx64⟩
    rw [List.getElem?_append_right (by omega), show i - vals.length = 0 by omega]; rfl
/-- It reads as its lists. -/
theorem LL.sl (h : LL w base A n c sets) : Sl (rpSlice rpU64) w (fun k => base ≤ k ∧ k < w.heap.size) A n c sets := by
  obtain ⟨vals, ho, hn, hi⟩ := h
  refine ⟨?_, fun k hk => hk.2⟩
  have hrow : ∀ (i : Nat) x, sets[i]? = some x → ∃ v, vals[i]? = some v ∧ (rpSlice rpU64).ok w (fun k => base ≤ k ∧ k < w.heap.size) x [v] := by
    intro i x hx
    obtain ⟨⟨A', c', hv, hw⟩, h64⟩ := hi i x hx
    exact ⟨_, hv, Rp.sl_more (own_u64 hw h64) (fun k hk => ⟨(hw.lt k hk.symm).1, (hw.lt k hk.symm).2⟩)⟩
  have hvl : vals.length = n := by have := ho.1; simpa using this
  rcases ho.2 with ⟨hv, h0⟩ | ⟨g, cap, cur, hv, hg, hh, hnc, hcm, hcs, htake⟩
  · injection hv with h1 h2 h3
    subst h1; subst h3
    have hs0 : sets = [] := List.eq_nil_of_length_eq_zero (by omega)
    subst hs0
    have hn0 : n = 0 := by simpa using hn.symm
    subst hn0
    exact Rp.sl_nil _ _ _ _ _ (by decide)
  · injection hv with h1 h2 h3
    subst h1; subst h3
    subst hn
    refine ⟨_, _, rfl, hnc, hcm, fun _ => ⟨g, 0, rfl, ⟨hg, Blk.lt (w := w) hh⟩, fun i x hx => ?_⟩⟩
    obtain ⟨v, hvi, hok⟩ := hrow i x hx
    refine ⟨[v], hok, fun j u hu => ?_⟩
    have hj : j = 0 := by
      rcases Nat.eq_zero_or_pos j with h0 | h0
      · exact h0
      · rw [List.getElem?_eq_none (by simp; omega)] at hu; cases hu
    subst hj
    simp only [List.getElem?_cons_zero, Option.some.injEq] at hu
    subst hu
    have hcell := cell_of_row w g (0 + i * (rpSlice rpU64).size + 0) cur 23 (0, 0) hh
    rw [hcell]
    have e1 : 0 + i * (rpSlice rpU64).size + 0 = i := by show 0 + i * 1 + 0 = i; omega
    rw [e1]
    rw [← htake, List.getElem?_take] at hvi
    split at hvi
    · simpa using hvi
    · cases hvi
end
end Go.Proofs.Ytnihaaifkogpbaa
