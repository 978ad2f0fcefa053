/- The pivot of a sort: one of the row's places. -/
import Derived.Test.YtcbmnfjbmkpfiaaSr0
namespace Go.Proofs.Ytcbmnfjbmkpfiaa
open Go.ChangeShapes Go.WideShapes Go.ChangeAt Go.RowKit
set_option linter.unusedVariables false
/-- A row of numbers that is read. -/
def Rw (w : World) (blk off n : Nat) : Prop := ∀ t, t < n → ∃ x : Int, w.cell? ⟨blk, off + t, none⟩ = some (.int .u64 x)
theorem Rw.keep {w w' : World} {blk off n : Nat} {F : Dom} (h : Rw w blk off n) (hl : blk < w.heap.size) (hc : Chg F w w') (hF : ¬ F blk) : Rw w' blk off n := fun t ht => by
  obtain ⟨x, hx⟩ := h t ht
  exact ⟨x, (World.cell?_of_block (w := w) (a := ⟨blk, off + t, none⟩) (hc.block blk hl hF)).trans hx⟩
theorem rw_holds {w : World} {blk off : Nat} {d : Array Int} (h : Sort.Holds eu w blk off d) : Rw w blk off d.size := fun t ht => ⟨d[t]!, (h t ht).1⟩
/-- The count of swaps stands in block g; nothing else turns. -/
structure Cnt (w0 w : World) (g : Nat) : Prop where
  ch : Chg (fun k => k = g) w0 w
  blk : ∃ s : Int, Blk w g 3 #[.int .i64 s]
theorem Cnt.trans {a b c : World} {g : Nat} (h : Cnt a b g) (k : Cnt b c g) : Cnt a c g := ⟨h.ch.trans k.ch, k.blk⟩
def Ord2 (w : World) (g : Nat) (p q : Nat) (e : Ending) (w' : World) : Prop := ∃ u v : Nat, e = .returned (.tuple #[.int .i64 (u : Int), .int .i64 (v : Int)]) ∧ ((u = p ∧ v = q) ∨ (u = q ∧ v = p)) ∧ Cnt w w' g
def Med (w : World) (g : Nat) (p q r : Nat) (e : Ending) (w' : World) : Prop := ∃ u : Nat, e = .returned (.int .i64 (u : Int)) ∧ (u = p ∨ u = q ∨ u = r) ∧ Cnt w w' g
theorem below1' (w : World) (o : Obj) : Below w.heap.size w (w.alloc o) := (Below.refl _ _).alloc (Nat.le_refl _) _
section
variable {blk off cap n g : Nat} {w : World}
set_option maxHeartbeats 1000000 in
theorem order2_any {p q : Nat} (hr : Rw w blk off n) (hl : blk < w.heap.size) (hn : n < 1152921504606846976) (hg : g ≠ blk) (hb : ∃ s : Int, Blk w g 3 #[.int .i64 s]) (hp : p < n) (hq : q < n) :
    Calls Try.prog 105 #[.slice (some ⟨blk, off, none⟩) n cap, .int .i64 p, .int .i64 q, .pointer (some ⟨g, 0, none⟩)] w (Ord2 w g p q) := by
  obtain ⟨s, hs⟩ := hb
  obtain ⟨x, hx⟩ := hr p hp
  obtain ⟨y, hy⟩ := hr q hq
  have HS := Lib.hid hs
  have g0 := hs.cell 0
  have g1 := hs.frozen 0
  clear hr hl hs
  cases hq2 : lti y x
  · have HL : Hid (∀ w, Calls Try.prog 87 #[.int .u64 y, .int .u64 x] w fun e w' => e = .returned (.bool false) ∧ w' = w) := fun w => less_is hq2 w
    clear hq2
    go_enter Try.func105, Try.ntmps105
    go_wp2_with fail
    go_quiet ((go_at_call 87; exact Calls.quiet_of_same (HL.out _)))
    go_wp2_with fail
    go_ret2
    exact ⟨p, q, rfl, .inl ⟨rfl, rfl⟩, ⟨rfl, rfl, rfl, Nat.le_refl _, fun _ _ _ => rfl⟩, s, HS.out⟩
  · have HL : Hid (∀ w, Calls Try.prog 87 #[.int .u64 y, .int .u64 x] w fun e w' => e = .returned (.bool true) ∧ w' = w) := fun w => less_is hq2 w
    clear hq2
    go_enter Try.func105, Try.ntmps105
    go_wp2_with fail
    go_quiet ((go_at_call 87; exact Calls.quiet_of_same (HL.out _)))
    go_wp2_with fail
    go_ret2
    refine ⟨q, p, rfl, .inr ⟨rfl, rfl⟩, ?_, _, Blk.put (show Blk (World.drewN w _) g _ _ from HS.out) 0 _⟩
    exact Chg.setCell (F := fun k => k = g) (a := w) (w := World.drewN w _) ⟨rfl, rfl, rfl, Nat.le_refl _, fun _ _ _ => rfl⟩ (.inl rfl) _
set_option maxHeartbeats 1000000 in
theorem median_any {p q r : Nat} (hr : Rw w blk off n) (hl : blk < w.heap.size) (hn : n < 1152921504606846976) (hg : g ≠ blk) (hb : ∃ s : Int, Blk w g 3 #[.int .i64 s]) (hp : p < n) (hq : q < n) (hr' : r < n) :
    Calls Try.prog 101 #[.slice (some ⟨blk, off, none⟩) n cap, .int .i64 p, .int .i64 q, .int .i64 r, .pointer (some ⟨g, 0, none⟩)] w (Med w g p q r) := by
  have HR := Lib.hid hr
  have HB := Lib.hid hb
  clear hr hb
  go_enter Try.func101, Try.ntmps101
  go_wp2_with fail
  refine (order2_any HR.out hl hn hg HB.out hp hq).mono ?_; rintro e w1 ⟨u1, v1, rfl, h1, hc1⟩
  have HC1 := Lib.hid hc1
  have H1 := Lib.hid h1
  have HR1 := Lib.hid (HR.out.keep hl hc1.ch (fun e => hg e.symm))
  have hl1 : blk < w1.heap.size := Nat.lt_of_lt_of_le hl hc1.ch.size
  have hu1 : u1 < n := by rcases h1 with ⟨rfl, rfl⟩ | ⟨rfl, rfl⟩ <;> assumption
  have hv1 : v1 < n := by rcases h1 with ⟨rfl, rfl⟩ | ⟨rfl, rfl⟩ <;> assumption
  clear hc1 h1
  go_wp2_with fail
  refine (order2_any HR1.out hl1 hn hg HC1.out.blk hv1 hr').mono ?_; rintro e w2 ⟨u2, v2, rfl, h2, hc2⟩
  have HC2 := Lib.hid hc2
  have H2 := Lib.hid h2
  have HR2 := Lib.hid (HR1.out.keep hl1 hc2.ch (fun e => hg e.symm))
  have hl2 : blk < w2.heap.size := Nat.lt_of_lt_of_le hl1 hc2.ch.size
  have hu2 : u2 < n := by rcases h2 with ⟨rfl, rfl⟩ | ⟨rfl, rfl⟩ <;> assumption
  clear hc2 h2
  go_wp2_with fail
  refine (order2_any HR2.out hl2 hn hg HC2.out.blk hu1 hu2).mono ?_; rintro e w3 ⟨u3, v3, rfl, h3, hc3⟩
  have HC3 := Lib.hid hc3
  have H3 := Lib.hid h3
  clear hc3 h3
  go_wp2_with fail
  go_ret
  refine ⟨v3, rfl, ?_, (HC1.out.trans HC2.out).trans HC3.out⟩
  rcases H1.out with ⟨rfl, rfl⟩ | ⟨rfl, rfl⟩ <;> rcases H2.out with ⟨rfl, rfl⟩ | ⟨rfl, rfl⟩ <;> rcases H3.out with ⟨rfl, rfl⟩ | ⟨rfl, rfl⟩ <;> simp
set_option maxHeartbeats 1000000 in
theorem medadj_any {p : Nat} (hr : Rw w blk off n) (hl : blk < w.heap.size) (hn : n < 1152921504606846976) (hg : g ≠ blk) (hb : ∃ s : Int, Blk w g 3 #[.int .i64 s]) (hp0 : 1 ≤ p) (hp : p + 1 < n) :
    Calls Try.prog 100 #[.slice (some ⟨blk, off, none⟩) n cap, .int .i64 p, .pointer (some ⟨g, 0, none⟩)] w (Med w g (p - 1) p (p + 1)) := by
  have HR := Lib.hid hr
  have HB := Lib.hid hb
  obtain ⟨a, ha⟩ : ∃ a, a = p - 1 := ⟨_, rfl⟩
  obtain ⟨b, hb'⟩ : ∃ b, b = p + 1 := ⟨_, rfl⟩
  rw [← ha, ← hb']
  have y1 : (p : Int) - 1 = (a : Int) := by omega
  have y2 : (p : Int) + 1 = (b : Int) := by omega
  have hm := median_any (w := w) (cap := cap) hr hl hn hg hb (p := a) (q := p) (r := b) (by omega) (by omega) (by omega)
  have HM := Lib.hid hm
  clear hr hb hm ha hb'
  go_enter Try.func100, Try.ntmps100
  go_wp2_with fail
  refine HM.out.mono ?_; rintro e w1 ⟨u1, rfl, h1, hc1⟩
  have H1 := Lib.hid h1
  have HC1 := Lib.hid hc1
  clear h1 hc1
  go_wp2_with fail
  go_ret
  exact ⟨u1, rfl, H1.out, HC1.out⟩
/-- A pivot: a place of the row between two, and a hint. -/
def Piv (w : World) (a b : Nat) (e : Ending) (w' : World) : Prop := ∃ (u : Nat) (h : Int), e = .returned (.tuple #[.int .i64 (u : Int), .int .i64 h]) ∧ a ≤ u ∧ u < b ∧ Below w.heap.size w w'
theorem Cnt.below {w w1 w2 : World} (h : Below w.heap.size w w1) (hg : w.heap.size ≤ g) (k : Cnt w1 w2 g) : Below w.heap.size w w2 := h.trans (k.ch.below h.size (fun i hi => by have : i = g := hi; omega))
end
end Go.Proofs.Ytcbmnfjbmkpfiaa
