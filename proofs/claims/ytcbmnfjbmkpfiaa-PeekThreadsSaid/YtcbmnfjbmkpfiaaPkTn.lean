/- Tails, while a link of another list is turned; what is found in them. -/
import Derived.Test.YtcbmnfjbmkpfiaaPkTb
import Derived.Test.YtcbmnfjbmkpfiaaPkTm
namespace Go.Proofs.Ytcbmnfjbmkpfiaa
open Go.ChangeShapes Go.WideShapes Go.ChangeAt Go.RowKit
set_option linter.unusedVariables false
section
variable {D0 : Dom} {hi n c g j : Nat} {A : Option Addr} {l : List Lnk} {xl : List Nat} {w : World} {cur : Array Value} {v : Value}
theorem tb_far (hb : Blk w g 57 cur) (hn : ¬ D0 g) (v : Value) : ∀ k, Tb T64 D0 w k → (w.setCell ⟨g, j, none⟩ v).heap[k]? = w.heap[k]? := fun k hk =>
  Below.heap_setCell w ⟨g, j, none⟩ v k (fun e => by
    have e' : k = g := e
    subst e'
    rcases hk.2 with h | ⟨cs, t, h, ht⟩
    · exact hn h
    · obtain rfl := blk_type hb h
      exact t64_link ht)
theorem size_set (w : World) (a : Addr) (v : Value) : w.heap.size ≤ (w.setCell a v).heap.size := by simp [World.setCell]
theorem tb_turn (h : rpU64.sl w (Tb T64 D0 w) A n c xl) (hb : Blk w g 57 cur) (hn : ¬ D0 g) (v : Value) : rpU64.sl (w.setCell ⟨g, j, none⟩ v) (Tb T64 D0 (w.setCell ⟨g, j, none⟩ v)) A n c xl :=
  Rp.sl_more (Rp.sl_keep h (fun k hk => tb_far hb hn v k hk)) (fun k hk => Tb.keep (fun k hk => tb_far hb hn v k hk) (size_set _ _ _) hk)
theorem TLs.turn (h : TLs D0 hi w A n c l) (h0 : ∀ k, D0 k → k < w.heap.size) (hb : Blk w g 57 cur) (hn : ¬ D0 g) (hg : g < hi) (v : Value) : TLs D0 hi (w.setCell ⟨g, j, none⟩ v) A n c l := by
  rcases h with h | h
  · exact .inl (Rp.sl_keep h (fun k hk => tb_far hb hn v k ⟨h0 k hk, .inl hk⟩))
  · exact .inr (OL.same h (fun k hk => tb_far hb hn v k hk) (fun k cs' hk hh => Below.heap_setCell w ⟨g, j, none⟩ v k (fun e => by
      have e' : k = g := e
      omega)) (size_set _ _ _))
theorem TLs.other {w' : World} {t : TypeId} {cs : Array Value} (h : TLs D0 hi w A n c l) (h0 : ∀ k, D0 k → k < w.heap.size) (hb : Blk w g t cs) (hn : ¬ D0 g) (ht : t ≠ 57) (ht2 : t ≠ 22) (hg : w.grownBy w' (some g)) : TLs D0 hi w' A n c l := by
  rcases h with h | h
  · exact .inl (Rp.sl_keep h (fun k hk => hg.block k (h0 k hk) (fun e => by
      have e' : k = g := Option.some.inj e
      subst e'
      exact hn hk)))
  · exact .inr (OL.grown h hb hn ht2 ht hg)
theorem fnd_found {T : List Lnk} {s : Nat} {x : Lnk} (h : T[idxOf T s]? = some x) : fnd T s = (true, x) := by unfold fnd; rw [h]
theorem fnd_none {T : List Lnk} {s : Nat} (h : ¬ idxOf T s < T.length) : fnd T s = (false, (0, [])) := by unfold fnd; rw [List.getElem?_eq_none (by omega)]
theorem turn_nil {base gE i k s m n9 c' c9 g : Nat} {A9 : Option Addr} {es : List Ent} {L : List Lnk} {d : List UInt8} (h : TB D0 w base (some ⟨gE, 0, none⟩) n c es) (hes : es[i]? = some (L, d)) (hk : L[k]? = some (s, [])) (q0 : w.cell? ⟨gE, i * 2, none⟩ = some (.slice (some ⟨g, 0, none⟩) m c'))
    (r1 : w.cell? ⟨g, k * 2 + 1, none⟩ = some (.slice A9 n9 c9)) : n9 = 0 ∧ c9 ≤ maxLen := by
  have hin : i < n := by rw [← h.len]; exact (List.getElem?_eq_some_iff.1 hes).1
  obtain ⟨b, off, x, A', c2, B, dd, hA, _, hx, g0, _, hrow, _⟩ := ent_at (TB.sl h) hin
  rw [hes] at hx
  injection hx with hx
  subst hx
  injection hA with hA
  injection hA with e1 e2 _
  subst e1; subst e2
  rw [Nat.zero_add, q0] at g0
  injection g0 with g0
  injection g0 with e1 e2 e3
  subst e1
  have hkn : k < L.length := (List.getElem?_eq_some_iff.1 hk).1
  obtain ⟨b2, off2, y, A4, c4, hA2, _, hy, _, p1, hyr, _⟩ := lnk_at hrow hkn
  rw [hk] at hy
  injection hy with hy
  subst hy
  injection hA2 with hA2
  injection hA2 with e1 e2 _
  subst e1; subst e2
  rw [Nat.zero_add, r1] at p1
  injection p1 with p1
  injection p1 with e1 e2 e3
  subst e2; subst e3
  obtain ⟨_, h1, h2⟩ := Rp.sl_len hyr
  exact ⟨rfl, h2⟩
theorem set_same {α : Type} {l : List α} {k : Nat} {x : α} (h : l[k]? = some x) : l.set k x = l := by
  obtain ⟨h1, h2⟩ := List.getElem?_eq_some_iff.1 h
  rw [← h2, List.set_getElem_self]
theorem bare_nil {es : List Ent} {i k : Nat} {e : Ent} {y : Lnk} (h : (bareL es)[i]? = some e) (hy : e.1[k]? = some y) : y.2 = [] := by
  obtain ⟨e0, _, rfl⟩ := bare_at h
  unfold bareE at hy
  simp only [List.getElem?_map] at hy
  cases hz : e0.1[k]? with
  | none => rw [hz] at hy; cases hy
  | some z => rw [hz] at hy; injection hy with hy; subst hy; rfl
end
end Go.Proofs.Ytcbmnfjbmkpfiaa
