/- Seals in a row of the call's own. -/
import Derived.Test.YtkhomkklamegmaaSnX
namespace Go.Proofs.Ytkhomkklamegmaa
open Go.ChangeShapes Go.WideShapes Go.ChangeAt Go.RowKit
set_option linter.unusedVariables false
def sl3 (s : Sea) : List Value := [.int .u64 (s.1 : Int), .int .u64 (s.2.1 : Int), .int .u64 (s.2.2 : Int)]
def Sea64 (l : List Sea) : Prop := ∀ s ∈ l, s.1 < 18446744073709551616 ∧ s.2.1 < 18446744073709551616 ∧ s.2.2 < 18446744073709551616
theorem elemSeal : Elem Try.prog 54 24 3 24 := Elem.of (z := .agg #[.int .u64 0, .int .u64 0, .int .u64 0]) Try.underlying54 (by kernel_rfl) rfl (by decide)
theorem flat3_len (l : List Sea) : (l.flatMap sl3).length = l.length * 3 := by
  induction l with
  | nil => rfl
  | cons s l ih => rw [List.flatMap_cons, List.length_append, ih, List.length_cons, show (sl3 s).length = 3 from rfl]; omega
theorem flat3_get (l : List Sea) : ∀ (i j : Nat), j < 3 → (l.flatMap sl3)[i * 3 + j]? = (l[i]?).bind (fun s => (sl3 s)[j]?) := by
  induction l with
  | nil => intro i j hj; simp
  | cons s l ih =>
    intro i j hj
    rw [List.flatMap_cons]
    cases i with
    | zero =>
      rw [List.getElem?_append_left (by show _ < 3; omega)]
      simp
    | succ i =>
      rw [List.getElem?_append_right (by show 3 ≤ _; omega), show (i + 1) * 3 + j - (sl3 s).length = i * 3 + j by show (i + 1) * 3 + j - 3 = _; omega, ih i j hj]
      simp
theorem Src.sea {w : World} {D : Dom} {A : Option Addr} {n c : Nat} {l : List Sea} (h : rpSeaN.sl w D A n c l) : Src w A n 3 (l.flatMap sl3) := by
  obtain ⟨hlen, _, _⟩ := Rp.sl_len h
  refine ⟨by rw [flat3_len, hlen], fun u hu => ?_, fun hp => ?_⟩
  · obtain ⟨x, _, hx⟩ := List.mem_flatMap.1 hu
    simp only [sl3, List.mem_cons, List.not_mem_nil, or_false] at hx
    rcases hx with rfl | rfl | rfl <;> rfl
  · rw [flat3_len] at hp
    obtain ⟨b, off, x, hA, _⟩ := sea_at (k := 0) h (by omega)
    refine ⟨_, hA, fun j u hu => ?_⟩
    have hj : j < l.length * 3 := by rw [← flat3_len]; exact (List.getElem?_eq_some_iff.1 hu).1
    obtain ⟨b', off', x', hA', _, hx', g0, g1, g2, _⟩ := sea_at (k := j / 3) h (by omega)
    rw [hA] at hA'
    injection hA' with hA'
    injection hA' with h1 h2
    subst h1; subst h2
    rw [show j = (j / 3) * 3 + j % 3 by omega, flat3_get l _ _ (by omega), hx'] at hu
    rw [add_plain]
    have h3 : j % 3 < 3 := by omega
    rw [show off + j = off + (j / 3) * 3 + j % 3 by omega]
    generalize j % 3 = q at *
    match q, h3 with
    | 0, _ => rw [Nat.add_zero, g0, ← hu]; rfl
    | 1, _ => rw [g1, ← hu]; rfl
    | 2, _ => rw [g2, ← hu]; rfl
theorem own_sea {w : World} {base : Nat} {e : TypeId} {A : Option Addr} {n c : Nat} {l : List Sea} (h : w.ownsRow base e 3 (.slice A n c) n (l.flatMap sl3)) (hl : Sea64 l) : rpSeaN.sl w (fun k => some k = (Value.slice A n c).ownBlock) A n c l := by
  have hlen : l.length = n := by have := h.1; rw [flat3_len] at this; omega
  subst hlen
  rcases h.2 with ⟨hv, h0⟩ | ⟨g, cap, cur, hv, hg, hh, hnc, hcm, hcs, htake⟩
  · injection hv with h1 _ h3
    subst h1; subst h3
    rw [h0]
    obtain rfl := List.eq_nil_of_length_eq_zero h0
    exact Rp.sl_nil _ _ _ _ _ (by decide)
  · injection hv with h1 _ h3
    subst h1; subst h3
    refine ⟨_, _, rfl, hnc, hcm, fun _ => ⟨g, 0, rfl, rfl, fun i x hx => ⟨sl3 x, ?_, fun j u hu => ?_⟩⟩⟩
    · obtain ⟨q1, q2, q3⟩ := hl x (List.mem_of_getElem? hx)
      exact ⟨_, _, rfl, ⟨rfl, q1⟩, _, _, rfl, ⟨rfl, q2⟩, ⟨rfl, q3⟩⟩
    · have hj : j < 3 := (List.getElem?_eq_some_iff.1 hu).1
      have hi : (l.flatMap sl3)[i * 3 + j]? = some u := by rw [flat3_get l i j hj, hx]; exact hu
      rw [← htake, List.getElem?_take] at hi
      split at hi
      · have := cell_of_row w g (0 + i * rpSeaN.size + j) cur e (0, 0) hh
        rw [this]
        have e1 : 0 + i * rpSeaN.size + j = i * 3 + j := by show 0 + i * 3 + j = _; omega
        rw [e1]
        simpa using hi
      · cases hi
theorem Src.sea1 {w : World} {g : Nat} {t : TypeId} {s : Sea} (hb : Blk w g t (sV s)) : Src w (some ⟨g, 0, none⟩) 1 3 ([s].flatMap sl3) := by
  refine ⟨rfl, fun u hu => ?_, fun _ => ⟨_, rfl, fun j u hu => ?_⟩⟩
  · have hx : u ∈ sl3 s := by simpa using hu
    simp only [sl3, List.mem_cons, List.not_mem_nil, or_false] at hx
    rcases hx with rfl | rfl | rfl <;> rfl
  · rw [add_plain, hb.cell, Nat.zero_add]
    have hx : (sl3 s)[j]? = some u := by simpa using hu
    rw [← hx]; show (sV s)[j]? = _
    rw [← Array.getElem?_toList]; rfl
end Go.Proofs.Ytkhomkklamegmaa
