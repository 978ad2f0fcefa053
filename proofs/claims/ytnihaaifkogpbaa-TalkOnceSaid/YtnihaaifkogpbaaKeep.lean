/- What stays behind a call (for seats without cursors and writers). -/
import Derived.Test.YtnihaaifkogpbaaCore
namespace Go.Proofs.Ytnihaaifkogpbaa
open Go.RowKit
set_option linter.unusedVariables false
/-- A slice that reads as a list, in blocks that lie. -/
def Sl {α : Type} (r : Rp α) (w : World) (D : Dom) (A : Option Addr) (n c : Nat) (l : List α) : Prop := r.sl w D A n c l ∧ ∀ k, D k → k < w.heap.size
section
variable {α : Type} {r : Rp α} {w w' : World} {D F : Dom} {g : Nat} {t : TypeId} {cs : Array Value} {A : Option Addr} {n c : Nat} {l : List α}
theorem keepB (h : Blk w g t cs) (hb : Below w.heap.size w w') : Blk w' g t cs := h.below hb h.lt
theorem keepS (h : Sl r w D A n c l) (hb : Below w.heap.size w w') : Sl r w' D A n c l := ⟨Rp.sl_below h.1 hb h.2, fun k hk => Nat.lt_of_lt_of_le (h.2 k hk) hb.size⟩
theorem keepO {base : Nat} {e : TypeId} {size m : Nat} {v : Value} {xs : List Value} (h : w.ownsRow base e size v m xs) (hb : Below w.heap.size w w') : w'.ownsRow base e size v m xs := by
  refine ⟨h.1, ?_⟩
  rcases h.2 with h0 | ⟨g, cap, cur, hv, hg, hh, hr⟩
  · exact .inl h0
  · exact .inr ⟨g, cap, cur, hv, hg, (hb.block g (Blk.lt (w := w) hh)).trans hh, hr⟩
theorem stepB {a b c : World} (h : Below a.heap.size a b) (hb : Below b.heap.size b c) : Below a.heap.size a c := h.trans (hb.mono h.size)
theorem chB (h : Blk w g t cs) (hc : Chg F w w') (hF : ¬ F g) : Blk w' g t cs := (hc.block g h.lt hF).trans h
theorem chS (h : Sl r w D A n c l) (hc : Chg F w w') (hF : ∀ k, D k → ¬ F k) : Sl r w' D A n c l :=
  ⟨Rp.sl_keep h.1 (hc.same h.2 hF), fun k hk => Nat.lt_of_lt_of_le (h.2 k hk) hc.size⟩
theorem chO {base : Nat} {e : TypeId} {size m : Nat} {v : Value} {xs : List Value} (h : w.ownsRow base e size v m xs) (hc : Chg F w w') (hF : ∀ k, v.ownBlock = some k → ¬ F k) : w'.ownsRow base e size v m xs := by
  refine ⟨h.1, ?_⟩
  rcases h.2 with h0 | ⟨g, cap, cur, hv, hg, hh, hr⟩
  · exact .inl h0
  · exact .inr ⟨g, cap, cur, hv, hg, (hc.block g (Blk.lt (w := w) hh) (hF g (by rw [hv]; rfl))).trans hh, hr⟩
theorem chBase {a b c : World} (h : Below a.heap.size a b) (hc : Chg F b c) (hF : ∀ k, F k → a.heap.size ≤ k) : Below a.heap.size a c := h.trans (hc.below h.size hF)
theorem chGrown {a : World} {row : Option Nat} (h : Chg F a w) (hg : w.grownBy w' row) (hk : ∀ k, row = some k → a.heap.size ≤ k) : Chg F a w' :=
  ⟨hg.os.trans h.os, hg.tape.trans h.tape, hg.output.trans h.output, Nat.le_trans h.size hg.size, fun i hi hn => (hg.block i (Nat.lt_of_lt_of_le hi h.size) (fun e => by have := hk i e.symm; omega)).trans (h.block i hi hn)⟩
theorem below1 (w : World) (o : Obj) : Below w.heap.size w (w.alloc o) := (Below.refl _ _).alloc (Nat.le_refl _) _
theorem below2 (w : World) (o o' : Obj) : Below w.heap.size w ((w.alloc o).alloc o') := ((Below.refl _ _).alloc (Nat.le_refl _) _).alloc (by simp) _
theorem below3 (w : World) (o o' o'' : Obj) : Below w.heap.size w (((w.alloc o).alloc o').alloc o'') :=
  ((((Below.refl _ _).alloc (Nat.le_refl _) _).alloc (by simp) _).alloc (by simp; omega) _)
theorem blk11 (w : World) (t : TypeId) (cs : Array Value) : Blk (w.alloc (.cells cs t)) w.heap.size t cs := Blk.new w t cs
theorem blk21 (w : World) (t t' : TypeId) (cs cs' : Array Value) : Blk ((w.alloc (.cells cs t)).alloc (.cells cs' t')) w.heap.size t cs := (Blk.new w t cs).alloc _
theorem blk22 (w : World) (t t' : TypeId) (cs cs' : Array Value) : Blk ((w.alloc (.cells cs t)).alloc (.cells cs' t')) (w.heap.size + 1) t' cs' := by
  have h := Blk.new (w.alloc (.cells cs t)) t' cs'
  have e : (w.alloc (.cells cs t)).heap.size = w.heap.size + 1 := by simp
  rw [e] at h
  exact h
end
end Go.Proofs.Ytnihaaifkogpbaa
