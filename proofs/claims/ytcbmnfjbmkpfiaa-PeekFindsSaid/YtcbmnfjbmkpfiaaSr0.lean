/- Rows of numbers that are sorted in place: what a row holds, and what turns. -/
import Derived.Test.YtcbmnfjbmkpfiaaStep
import Derived.Test.YtcbmnfjbmkpfiaaRows
import Derived.Sort.Row
import Derived.Sort.AssemblyPlain
namespace Go.Proofs.Ytcbmnfjbmkpfiaa
open Go.ChangeShapes Go.WideShapes Go.ChangeAt Go.RowKit
set_option linter.unusedVariables false
abbrev eu : Int → Value := Value.int .u64
abbrev lti : Int → Int → Bool := Sort.ltInt
/-- The row at 'off' of block 'blk' held d0 in w0 and holds d in w; no other block that was there has turned. -/
structure SW (w0 w : World) (blk off : Nat) (d0 d : Array Int) : Prop where
  h0 : Sort.Holds eu w0 blk off d0
  lt : blk < w0.heap.size
  sz : d.size = d0.size
  ch : Chg (fun k => k = blk) w0 w
  row : w.heap[blk]? = (Sort.putRow eu w0 blk off d).heap[blk]?
theorem frozen_of_block {w w' : World} {a : Addr} (h : w'.heap[a.block]? = w.heap[a.block]?) : w'.frozen? a = w.frozen? a := by
  unfold World.frozen?
  rw [h]
theorem putRow_at {w w' : World} {blk : Nat} (h : w'.heap[blk]? = w.heap[blk]?) (off : Nat) (d : Array Int) : (Sort.putRow eu w' blk off d).heap[blk]? = (Sort.putRow eu w blk off d).heap[blk]? := by
  unfold Sort.putRow Sort.mapBlock
  simp only [Array.getElem?_modify, if_true, h]
theorem setCell_at {w w' : World} {a : Addr} (h : w'.heap[a.block]? = w.heap[a.block]?) (u : Value) : (w'.setCell a u).heap[a.block]? = (w.setCell a u).heap[a.block]? := by
  unfold World.setCell
  simp only [Array.getElem?_modify, if_true, h]
section
variable {w0 w w1 w2 : World} {blk off : Nat} {d0 d d1 d2 : Array Int}
theorem SW.refl (h : Sort.Holds eu w blk off d) (hl : blk < w.heap.size) : SW w w blk off d d :=
  ⟨h, hl, rfl, Chg.refl _ _, by rw [Sort.putRow_self _ _ _ _ _ h]⟩
theorem SW.cell (h : SW w0 w blk off d0 d) {t : Nat} (ht : t < d.size) : w.cell? ⟨blk, off + t, none⟩ = some (.int .u64 d[t]!) :=
  (World.cell?_of_block (w := Sort.putRow eu w0 blk off d) (a := ⟨blk, off + t, none⟩) h.row).trans (Sort.cell?_putRow eu w0 blk off d0 d h.h0 h.sz t ht)
theorem SW.frozen (h : SW w0 w blk off d0 d) {t : Nat} (ht : t < d.size) : w.frozen? ⟨blk, off + t, none⟩ = false := by
  rw [frozen_of_block (w := Sort.putRow eu w0 blk off d) (a := ⟨blk, off + t, none⟩) h.row, Sort.frozen?_putRow]
  exact (h.h0 t (by have := h.sz; omega)).2
theorem SW.holds (h : SW w0 w blk off d0 d) : Sort.Holds eu w blk off d := fun t ht => ⟨h.cell ht, h.frozen ht⟩
theorem SW.size (h : SW w0 w blk off d0 d) : w0.heap.size ≤ w.heap.size := h.ch.size
theorem SW.lt' (h : SW w0 w blk off d0 d) : blk < w.heap.size := Nat.lt_of_lt_of_le h.lt h.ch.size
theorem SW.trans (h : SW w0 w1 blk off d0 d1) (k : SW w1 w2 blk off d1 d2) : SW w0 w2 blk off d0 d2 :=
  ⟨h.h0, h.lt, k.sz.trans h.sz, h.ch.trans k.ch, by
    rw [k.row, putRow_at h.row, Sort.putRow_putRow _ _ _ _ _ _ k.sz]⟩
/-- What turns other blocks alone. -/
theorem SW.far {F : Dom} (h : SW w0 w1 blk off d0 d1) (k : Chg F w1 w2) (hF : ¬ F blk) (hn : ∀ i, F i → w0.heap.size ≤ i) : SW w0 w2 blk off d0 d1 :=
  ⟨h.h0, h.lt, h.sz, ⟨k.os.trans h.ch.os, k.tape.trans h.ch.tape, k.output.trans h.ch.output, Nat.le_trans h.ch.size k.size, fun i hi hne => (k.block i (Nat.lt_of_lt_of_le hi h.ch.size) (fun e => by have := hn i e; omega)).trans (h.ch.block i hi hne)⟩, (k.block blk h.lt' hF).trans h.row⟩
theorem SW.below (h : SW w0 w1 blk off d0 d1) (k : Below w1.heap.size w1 w2) : SW w0 w2 blk off d0 d1 := h.far (F := fun _ => False) (Chg.of_pure k _) id (fun _ e => e.elim)
/-- Two places change their numbers. -/
theorem SW.swp (h : SW w0 w1 blk off d0 d1) {i j : Nat} (hi : i < d1.size) (hj : j < d1.size) {w : World} (hw : w.heap = w1.heap) (ho : w.os = w1.os) (ht : w.tape = w1.tape) (hu : w.output = w1.output) :
    SW w0 ((w.setCell ⟨blk, off + i, none⟩ (.int .u64 d1[j]!)).setCell ⟨blk, off + j, none⟩ (.int .u64 d1[i]!)) blk off d0 (Sort.swp d1 i j) := by
  have hc : Chg (fun k => k = blk) w1 w := ⟨ho, ht, hu, by rw [hw]; exact Nat.le_refl _, fun k _ _ => by rw [hw]⟩
  refine ⟨h.h0, h.lt, by rw [Sort.size_swp]; exact h.sz, ((h.ch.trans hc).setCell (.inl rfl) _).setCell (.inl rfl) _, ?_⟩
  have e := Sort.putRow_swp eu w0 blk off d1 i j hi hj
  rw [← e]
  exact setCell_at (a := ⟨blk, off + j, none⟩) (setCell_at (a := ⟨blk, off + i, none⟩) (by rw [hw]; exact h.row) _) _
theorem SW.swpv (h : SW w0 w1 blk off d0 d1) {i j : Nat} (hi : i < d1.size) (hj : j < d1.size) {X Y : Int} (hX : X = d1[i]!) (hY : Y = d1[j]!) {w : World} (hw : w.heap = w1.heap) (ho : w.os = w1.os) (ht : w.tape = w1.tape) (hu : w.output = w1.output) :
    SW w0 ((w.setCell ⟨blk, off + i, none⟩ (.int .u64 Y)).setCell ⟨blk, off + j, none⟩ (.int .u64 X)) blk off d0 (Sort.swp d1 i j) := by
  rw [hX, hY]; exact h.swp hi hj hw ho ht hu
theorem SW.same (h : SW w0 w1 blk off d0 d1) {w : World} (hw : w.heap = w1.heap) (ho : w.os = w1.os) (ht : w.tape = w1.tape) (hu : w.output = w1.output) : SW w0 w blk off d0 d1 :=
  ⟨h.h0, h.lt, h.sz, h.ch.trans ⟨ho, ht, hu, by rw [hw]; exact Nat.le_refl _, fun k _ _ => by rw [hw]⟩, by rw [hw]; exact h.row⟩
end
/-- A function of the sort's ends: nothing returned, the row sorted between two places. -/
def SortsIn (w : World) (blk off a b : Nat) (d : Array Int) (e : Ending) (w' : World) : Prop :=
  ∃ d', e = .returned (.tuple #[]) ∧ SW w w' blk off d d' ∧ Sort.PermIn a b d d' ∧ Sort.SortedIn lti a b d'
theorem isnan_any (x : Int) (w : World) : Calls Try.prog 102 #[.int .u64 x] w fun e w' => e = .returned (.bool false) ∧ w' = w := by
  go_enter Try.func102, Try.ntmps102
  go_wp2
  go_ret
  exact ⟨by simp, rfl⟩
theorem less_any (x y : Int) (w : World) : Calls Try.prog 87 #[.int .u64 x, .int .u64 y] w fun e w' => e = .returned (.bool (lti x y)) ∧ w' = w := by
  go_enter Try.func87, Try.ntmps87
  go_wp2_with (go_at_call 102; refine (isnan_any _ _).mono ?_; rintro e w' ⟨rfl, rfl⟩)
  go_ret
  exact ⟨rfl, rfl⟩
theorem less_is {x y : Int} {q : Bool} (h : lti x y = q) (w : World) : Calls Try.prog 87 #[.int .u64 x, .int .u64 y] w fun e w' => e = .returned (.bool q) ∧ w' = w := by
  rw [← h]; exact less_any x y w
end Go.Proofs.Ytcbmnfjbmkpfiaa
