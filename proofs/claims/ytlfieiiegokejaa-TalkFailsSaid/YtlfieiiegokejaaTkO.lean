/- The log of a talk, as it lies: pairs in a row of the call's own, a map, and two words. -/
import Derived.Test.YtlfieiiegokejaaTkMp
import Derived.Test.YtlfieiiegokejaaTkN
namespace Go.Proofs.Ytlfieiiegokejaa
open Go.ChangeShapes Go.WideShapes Go.ChangeAt Go.RowKit
set_option linter.unusedVariables false
abbrev Pr2 := Nat × Int
def pr2 (x : Pr2) : List Value := [.int .i64 (x.1 : Int), .int .i64 x.2]
set_option maxRecDepth 100000 in
theorem elemPr : Elem Try.prog 48 54 2 16 := Elem.of (z := .agg #[.int .i64 0, .int .i64 0]) Try.underlying48 (by kernel_rfl) rfl (by decide)
theorem flat2_len (l : List Pr2) : (l.flatMap pr2).length = l.length * 2 := by
  induction l with
  | nil => rfl
  | cons s l ih => rw [List.flatMap_cons, List.length_append, ih, List.length_cons, show (pr2 s).length = 2 from rfl]; omega
theorem flat2_get (l : List Pr2) : ∀ (i j : Nat), j < 2 → (l.flatMap pr2)[i * 2 + j]? = (l[i]?).bind (fun s => (pr2 s)[j]?) := by
  induction l with
  | nil => intro i j hj; simp
  | cons s l ih =>
    intro i j hj
    rw [List.flatMap_cons]
    cases i with
    | zero =>
      rw [List.getElem?_append_left (by show _ < 2; omega)]
      simp
    | succ i =>
      rw [List.getElem?_append_right (by show 2 ≤ _; omega), show (i + 1) * 2 + j - (pr2 s).length = i * 2 + j by show (i + 1) * 2 + j - 2 = _; omega, ih i j hj]
      simp
theorem flat2_set (l : List Pr2) : ∀ (i : Nat) (k : Nat) (a b : Int), l[i]? = some (k, a) → (l.flatMap pr2).set (i * 2 + 1) (.int .i64 b) = (l.set i (k, b)).flatMap pr2 := by
  induction l with
  | nil => intro i k a b h; simp at h
  | cons s l ih =>
    intro i k a b h
    cases i with
    | zero =>
      have h1 : s = (k, a) := by simpa using h
      subst h1
      rfl
    | succ i =>
      have h1 : l[i]? = some (k, a) := by simpa using h
      rw [List.flatMap_cons, List.set_cons_succ, List.flatMap_cons, ← ih i k a b h1]
      rw [List.set_append_right _ _ (by show 2 ≤ _; omega), show (i + 1) * 2 + 1 - (pr2 s).length = i * 2 + 1 by show (i + 1) * 2 + 1 - 2 = _; omega]
section
variable {w w' : World} {base n c g b bm : Nat} {A : Option Addr} {ps : List Pr2} {f : Nat → Option Nat} {last : Nat} {begun : Bool}
theorem row_cell {e : TypeId} {size : Nat} {vals : List Value} (h : w.ownsRow base e size (.slice A n c) n vals) {j : Nat} {u : Value} (hj : vals[j]? = some u) :
    ∃ g cur, A = some ⟨g, 0, none⟩ ∧ base ≤ g ∧ Blk w g e cur ∧ w.cell? ⟨g, j, none⟩ = some u ∧ (Value.slice A n c).ownBlock = some g := by
  rcases h.2 with ⟨hv, h0⟩ | ⟨g, cap, cur, hv, hg, hh, hnc, hcm, hcs, htake⟩
  · have h1 := h.1
    rw [h0, Nat.zero_mul] at h1
    have := (List.getElem?_eq_some_iff.1 hj).1
    omega
  · injection hv with h1 h2 h3
    subst h1; subst h3
    have hb : Blk w g e cur := hh
    refine ⟨g, cur, rfl, hg, hb, ?_, rfl⟩
    rw [hb.cell]
    rw [← htake, List.getElem?_take] at hj
    split at hj
    · simpa using hj
    · cases hj
theorem row_put {e : TypeId} {size : Nat} {xs : List Value} (h : w.ownsRow base e size (.slice (some ⟨g, 0, none⟩) n c) n xs) (j : Nat) (u : Value) : (w.setCell ⟨g, j, none⟩ u).ownsRow base e size (.slice (some ⟨g, 0, none⟩) n c) n (xs.set j u) := by
  refine ⟨by rw [List.length_set]; exact h.1, ?_⟩
  rcases h.2 with ⟨hv, _⟩ | ⟨q, cap, cur, hv, hg, hh, hnc, hcm, hcs, htake⟩
  · cases hv
  · injection hv with h1 _ h3
    injection h1 with h1
    injection h1 with h1
    subst h1; subst h3
    have hb : Blk w g e cur := hh
    exact .inr ⟨g, c, cur.setIfInBounds j u, rfl, hg, hb.put _ u, hnc, hcm, by simpa using hcs, by rw [Array.toList_setIfInBounds, List.take_set, htake]⟩
theorem row_ne {e t : TypeId} {cs : Array Value} {size : Nat} {v : Value} {xs : List Value} (hb : Blk w g t cs) (ho : w.ownsRow base e size v n xs) (hne : e ≠ t) : some g ≠ v.ownBlock := by
  rcases ho.2 with ⟨hv, _⟩ | ⟨q, cap, cur, hv, _, hh, _⟩
  · rw [hv]; intro e; cases e
  · rw [hv]
    intro e
    injection e with e
    subst e
    have h1 : w.heap[g]? = some (.cells cs t) := hb
    have h2 : w.heap[g]? = some (.cells cur _) := hh
    rw [h1] at h2
    injection h2 with h2
    injection h2 with _ h2
    exact hne h2.symm
theorem map_ne {t : TypeId} {cs : Array Value} (hb : Blk w g t cs) (hm : MapOf w bm n f) : g ≠ bm := fun e => by
  subst e
  obtain ⟨D, ⟨es, clock, h2, _⟩, _⟩ := hm
  have h1 : w.heap[g]? = some (.cells cs t) := hb
  rw [h1] at h2
  cases h2
theorem map_ne_row {e : TypeId} {size m : Nat} {v : Value} {xs : List Value} (hm : MapOf w bm n f) (ho : w.ownsRow base e size v m xs) : some bm ≠ v.ownBlock := by
  rcases ho.2 with ⟨hv, _⟩ | ⟨q, cap, cur, hv, _, hh, _⟩
  · rw [hv]; intro e; cases e
  · rw [hv]
    intro e
    injection e with e
    have hb : Blk w q _ cur := hh
    exact map_ne hb hm e.symm
abbrev logV (A : Option Addr) (n c bm last : Nat) (begun : Bool) : Array Value := #[.slice A n c, .map (some bm), .int .u64 (last : Int), .bool begun]
structure LogIn (w : World) (base b : Nat) (A : Option Addr) (c bm : Nat) (ps : List Pr2) (f : Nat → Option Nat) (last : Nat) (begun : Bool) : Prop where
  b0 : base ≤ b
  bm0 : base ≤ bm
  blk : Blk w b 75 (logV A ps.length c bm last begun)
  own : w.ownsRow base 54 2 (.slice A ps.length c) ps.length (ps.flatMap pr2)
  map : MapOf w bm ps.length f
  l64 : last ≤ 18446744073709551615
theorem LogIn.below {c : Nat} (h : LogIn w base b A c bm ps f last begun) (hb : Below w.heap.size w w') : LogIn w' base b A c bm ps f last begun := by
  refine ⟨h.b0, h.bm0, (hb.block b h.blk.lt).trans h.blk, ⟨h.own.1, ?_⟩, h.map.below hb h.map.lt, h.l64⟩
  rcases h.own.2 with h0 | ⟨g, cap, cur, hv, hg, hh, hr⟩
  · exact .inl h0
  · exact .inr ⟨g, cap, cur, hv, hg, (hb.block g (Blk.lt (w := w) hh)).trans hh, hr⟩
theorem LogIn.size {c : Nat} (h : LogIn w base b A c bm ps f last begun) : base ≤ w.heap.size := Nat.le_of_lt (Nat.lt_of_le_of_lt h.b0 h.blk.lt)
theorem Src.pr (w : World) (x : Pr2) (t : TypeId) : Src (w.alloc (.cells #[.int .i64 (x.1 : Int), .int .i64 x.2] t)) (some ⟨w.heap.size, 0, none⟩) 1 2 ([x].flatMap pr2) := by
  have hb : Blk (w.alloc (.cells #[.int .i64 (x.1 : Int), .int .i64 x.2] t)) w.heap.size t #[.int .i64 (x.1 : Int), .int .i64 x.2] := Blk.new w t _
  refine ⟨rfl, fun u hu => ?_, fun _ => ⟨_, rfl, fun j u hu => ?_⟩⟩
  · have hx : u ∈ pr2 x := by simpa using hu
    simp only [pr2, List.mem_cons, List.not_mem_nil, or_false] at hx
    rcases hx with rfl | rfl <;> rfl
  · rw [add_plain, hb.cell, Nat.zero_add]
    have hx : (pr2 x)[j]? = some u := by simpa using hu
    rw [← hx, ← Array.getElem?_toList]; rfl
end
end Go.Proofs.Ytlfieiiegokejaa
