/- What a step of the law CursorPlays keeps. -/
import Derived.Test.YtjgcgedjpppfmaaKeep
import Derived.Test.YtjgcgedjpppfmaaCLive
import Derived.Test.YtjgcgedjpppfmaaPart
import Derived.Deep.DeepCutAuto
import Derived.Deep.CutBlock
namespace Go.Proofs.Ytjgcgedjpppfmaa
open Go.ChangeShapes Go.WideShapes Go.ChangeAt Go.RowKit
set_option linter.unusedVariables false
/-- What stands in a world of a step: the reader, the reference's one, the call, the result's place. -/
structure StF (w0 w : World) (D : Dom) (A : Option Addr) (c g b0 : Nat) (l : List UInt8) (p : Nat) (f : Flt) (p0 : Nat) (f0 : Flt) (kd m x : Int) : Prop where
  r : Rd w D g l p f
  kc : Blk w b0 68 (rdV A l.length c p0 f0)
  kdo : Blk w (b0 + 1) 63 #[.int .i64 kd, .int .i64 m, .int .i64 x]
  kr : Blk w (b0 + 1 + 1) 68 rdZ
  sl : Sl rpU8 w D A l.length c l
  ch : Chg (one g) w0 w
  lt : g < b0
  eq : b0 = w0.heap.size
  dlt : ∀ k, D k → k < b0
section
variable {w0 w w' : World} {D : Dom} {A : Option Addr} {c g b0 : Nat} {l : List UInt8} {p p' : Nat} {f f' : Flt} {p0 : Nat} {f0 : Flt} {kd m x : Int}
theorem StF.below (h : StF w0 w D A c g b0 l p f p0 f0 kd m x) (hb : Below w.heap.size w w') : StF w0 w' D A c g b0 l p f p0 f0 kd m x :=
  ⟨keepR h.r hb, keepB h.kc hb, keepB h.kdo hb, keepB h.kr hb, keepS h.sl hb, h.ch.trans (Chg.of_pure hb _), h.lt, h.eq, h.dlt⟩
theorem StF.chg (h : StF w0 w D A c g b0 l p f p0 f0 kd m x) (hr : Rd w' D g l p' f') (hc : Chg (one g) w w') : StF w0 w' D A c g b0 l p' f' p0 f0 kd m x :=
  ⟨hr, chB h.kc hc (fun e => by have e' : b0 = g := e; have := h.lt; omega), chB h.kdo hc (fun e => by have e' : b0 + 1 = g := e; have := h.lt; omega), chB h.kr hc (fun e => by have e' : b0 + 1 + 1 = g := e; have := h.lt; omega), chS h.sl hc (fun k hk e => by
    obtain ⟨_, _, _, _, hg, _⟩ := h.r
    exact hg (show D g from (show k = g from e) ▸ hk)), h.ch.trans hc, h.lt, h.eq, h.dlt⟩
theorem three_new (w : World) (c1 c2 c3 : Array Value) (t1 t2 t3 : TypeId) :
    Blk (((w.alloc (.cells c1 t1)).alloc (.cells c2 t2)).alloc (.cells c3 t3)) w.heap.size t1 c1 ∧ Blk (((w.alloc (.cells c1 t1)).alloc (.cells c2 t2)).alloc (.cells c3 t3)) (w.heap.size + 1) t2 c2 ∧ Blk (((w.alloc (.cells c1 t1)).alloc (.cells c2 t2)).alloc (.cells c3 t3)) (w.heap.size + 1 + 1) t3 c3 := by
  refine ⟨((Blk.new w t1 c1).alloc _).alloc _, ?_, ?_⟩
  · have h := (Blk.new (w.alloc (.cells c1 t1)) t2 c2).alloc (.cells c3 t3)
    have e : (w.alloc (.cells c1 t1)).heap.size = w.heap.size + 1 := by simp
    rw [e] at h; exact h
  · have h := Blk.new ((w.alloc (.cells c1 t1)).alloc (.cells c2 t2)) t3 c3
    have e : ((w.alloc (.cells c1 t1)).alloc (.cells c2 t2)).heap.size = w.heap.size + 1 + 1 := by simp
    rw [e] at h; exact h
theorem StF.start (hr : Rd w D g l p f) (hs : Sl rpU8 w D A l.length c l) :
    StF w (((w.alloc (.cells (rdV A l.length c p f) 68)).alloc (.cells #[.int .i64 kd, .int .i64 m, .int .i64 x] 63)).alloc (.cells rdZ 68)) D A c g w.heap.size l p f p f kd m x := by
  obtain ⟨k1, k2, k3⟩ := three_new w (rdV A l.length c p f) #[.int .i64 kd, .int .i64 m, .int .i64 x] rdZ 68 63 68
  have hb := below3 w (.cells (rdV A l.length c p f) 68) (.cells #[.int .i64 kd, .int .i64 m, .int .i64 x] 63) (.cells rdZ 68)
  exact ⟨keepR hr hb, k1, k2, k3, keepS hs hb, Chg.of_pure hb _, hr.lt, rfl, hs.2⟩
/-- What a step ends in. -/
def StepIs (w0 : World) (D : Dom) (A : Option Addr) (c g : Nat) (l : List UInt8) (e : Ending) (w' : World) : Prop :=
  ∃ (p' : Nat) (f' : Flt), e = .returned (.tuple #[.agg (rdV A l.length c p' f'), .bool true]) ∧ Rd w' D g l p' f' ∧ Chg (one g) w0 w'
theorem StF.done (h : StF w0 w D A c g b0 l p f p0 f0 kd m x) : StepIs w0 D A c g l (.returned (.tuple #[.agg (rdV A l.length c p f), .bool true])) w := ⟨p, f, rfl, h.r, h.ch⟩
/-- The result laid, the reader is as it was. -/
theorem StF.fin (h : StF w0 w D A c g b0 l p f p0 f0 kd m x) (hc : Chg (one (b0 + 1 + 1)) w w') : Rd w' D g l p f ∧ Chg (one g) w0 w' := by
  refine ⟨h.r.keep (fun k hk => hc.block k (by
    rcases hk with rfl | hk
    · exact h.r.lt
    · exact h.r.dom k hk) (fun e => by
    have e' : k = b0 + 1 + 1 := e
    rcases hk with rfl | hk
    · have := h.lt; omega
    · have := h.dlt k hk; omega)) hc.size, ?_⟩
  refine ⟨hc.os.trans h.ch.os, hc.tape.trans h.ch.tape, hc.output.trans h.ch.output, Nat.le_trans h.ch.size hc.size, fun i hi hn => (hc.block i (Nat.lt_of_lt_of_le hi h.ch.size) (fun e => ?_)).trans (h.ch.block i hi hn)⟩
  have e' : i = b0 + 1 + 1 := e
  have := h.eq
  omega
/-- Another block of one's own turns. -/
theorem StF.chgNew {q : Nat} (h : StF w0 w D A c g b0 l p f p0 f0 kd m x) (hc : Chg (one q) w w') (hq : b0 + 1 + 1 < q) : StF w0 w' D A c g b0 l p f p0 f0 kd m x := by
  have hlt := h.lt
  refine ⟨h.r.keep (fun k hk => hc.block k (by
    rcases hk with rfl | hk
    · exact h.r.lt
    · exact h.r.dom k hk) (fun e => by
    have e' : k = q := e
    rcases hk with rfl | hk
    · omega
    · have := h.dlt k hk; omega)) hc.size, chB h.kc hc (fun e => by have e' : b0 = q := e; omega), chB h.kdo hc (fun e => by have e' : b0 + 1 = q := e; omega), chB h.kr hc (fun e => by have e' : b0 + 1 + 1 = q := e; omega),
    chS h.sl hc (fun k hk e => by have e' : k = q := e; have := h.dlt k hk; omega), ?_, h.lt, h.eq, h.dlt⟩
  refine ⟨hc.os.trans h.ch.os, hc.tape.trans h.ch.tape, hc.output.trans h.ch.output, Nat.le_trans h.ch.size hc.size, fun i hi hn => (hc.block i (Nat.lt_of_lt_of_le hi h.ch.size) (fun e => ?_)).trans (h.ch.block i hi hn)⟩
  have e' : i = q := e
  have := h.eq
  omega
theorem far4 {w : World} {g' b : Nat} {t : TypeId} {cs : Array Value} (h : Blk w g' t cs) (hne : g' ≠ b) (v0 v1 v2 v3 : Value) :
    Blk ((((w.setCell ⟨b, 0, none⟩ v0).setCell ⟨b, 1, none⟩ v1).setCell ⟨b, 2, none⟩ v2).setCell ⟨b, 3, none⟩ v3) g' t cs :=
  (((h.far (p := ⟨b, 0, none⟩) hne v0).far (p := ⟨b, 1, none⟩) hne v1).far (p := ⟨b, 2, none⟩) hne v2).far (p := ⟨b, 3, none⟩) hne v3
theorem ch4 (w : World) (q : Nat) (A2 : Option Addr) (E c2 p2 : Nat) (f2 : Flt) : Chg (one q) w ((((w.setCell ⟨q, 0, none⟩ (.slice A2 E c2)).setCell ⟨q, 1, none⟩ (.int .i64 (p2 : Int))).setCell ⟨q, 2, none⟩ (.int .i64 f2.1)).setCell ⟨q, 3, none⟩ (.int .i64 f2.2)) :=
  ((((Chg.refl (one q) w).setCell (p := ⟨q, 0, none⟩) (.inl rfl) _).setCell (p := ⟨q, 1, none⟩) (.inl rfl) _).setCell (p := ⟨q, 2, none⟩) (.inl rfl) _).setCell (p := ⟨q, 3, none⟩) (.inl rfl) _
/-- The four cells of the result laid. -/
theorem StF.out4 (h : StF w0 w D A c g b0 l p f p0 f0 kd m x) (v0 v1 v2 v3 : Value) :
    Blk ((((w.setCell ⟨b0 + 1 + 1, 0, none⟩ v0).setCell ⟨b0 + 1 + 1, 1, none⟩ v1).setCell ⟨b0 + 1 + 1, 2, none⟩ v2).setCell ⟨b0 + 1 + 1, 3, none⟩ v3) (b0 + 1 + 1) 68 #[v0, v1, v2, v3] ∧
    Rd ((((w.setCell ⟨b0 + 1 + 1, 0, none⟩ v0).setCell ⟨b0 + 1 + 1, 1, none⟩ v1).setCell ⟨b0 + 1 + 1, 2, none⟩ v2).setCell ⟨b0 + 1 + 1, 3, none⟩ v3) D g l p f ∧
    Chg (one g) w0 ((((w.setCell ⟨b0 + 1 + 1, 0, none⟩ v0).setCell ⟨b0 + 1 + 1, 1, none⟩ v1).setCell ⟨b0 + 1 + 1, 2, none⟩ v2).setCell ⟨b0 + 1 + 1, 3, none⟩ v3) := by
  have hc : Chg (one (b0 + 1 + 1)) w ((((w.setCell ⟨b0 + 1 + 1, 0, none⟩ v0).setCell ⟨b0 + 1 + 1, 1, none⟩ v1).setCell ⟨b0 + 1 + 1, 2, none⟩ v2).setCell ⟨b0 + 1 + 1, 3, none⟩ v3) :=
    ((((Chg.refl (one (b0 + 1 + 1)) w).setCell (p := ⟨b0 + 1 + 1, 0, none⟩) (.inl rfl) v0).setCell (p := ⟨b0 + 1 + 1, 1, none⟩) (.inl rfl) v1).setCell (p := ⟨b0 + 1 + 1, 2, none⟩) (.inl rfl) v2).setCell (p := ⟨b0 + 1 + 1, 3, none⟩) (.inl rfl) v3
  exact ⟨(((h.kr.put 0 v0).put 1 v1).put 2 v2).put 3 v3, h.fin hc⟩
/-- The cells that a step of kind 6 reads, in one piece. -/
theorem StF.c6 (h : StF w0 w D A c g b0 l p f p0 f0 kd m x) : w.cell? ⟨b0, 0, none⟩ = some (.slice A l.length c) ∧ w.cell? ⟨b0, 1, none⟩ = some (.int .i64 (p0 : Int)) ∧ w.cell? ⟨b0, 2, none⟩ = some (.int .i64 f0.1) ∧ w.cell? ⟨b0, 3, none⟩ = some (.int .i64 f0.2) ∧
    w.cell? ⟨b0 + 1, 1, none⟩ = some (.int .i64 m) ∧ w.cell? ⟨b0 + 1, 2, none⟩ = some (.int .i64 x) :=
  ⟨h.kc.cell 0, h.kc.cell 1, h.kc.cell 2, h.kc.cell 3, h.kdo.cell 1, h.kdo.cell 2⟩
theorem StF.c9 {gx E c2 p2 : Nat} {A2 : Option Addr} {f2 : Flt} (h : StF w0 w D A c g b0 l p f p0 f0 kd m x) (hx : Blk w gx 68 (rdV A2 E c2 p2 f2)) :
    w.cell? ⟨b0, 0, none⟩ = some (.slice A l.length c) ∧ w.cell? ⟨b0, 1, none⟩ = some (.int .i64 (p0 : Int)) ∧ w.cell? ⟨b0, 2, none⟩ = some (.int .i64 f0.1) ∧ w.cell? ⟨b0, 3, none⟩ = some (.int .i64 f0.2) ∧ w.cell? ⟨b0 + 1, 1, none⟩ = some (.int .i64 m) ∧
    w.cell? ⟨gx, 0, none⟩ = some (.slice A2 E c2) ∧ w.cell? ⟨gx, 1, none⟩ = some (.int .i64 (p2 : Int)) ∧ w.cell? ⟨gx, 2, none⟩ = some (.int .i64 f2.1) ∧ w.cell? ⟨gx, 3, none⟩ = some (.int .i64 f2.2) :=
  ⟨h.kc.cell 0, h.kc.cell 1, h.kc.cell 2, h.kc.cell 3, h.kdo.cell 1, hx.cell 0, hx.cell 1, hx.cell 2, hx.cell 3⟩
/-- The same behind the result's stores. -/
theorem StF.c9p {gx E c2 p2 : Nat} {A2 : Option Addr} {f2 : Flt} (h : StF w0 w D A c g b0 l p f p0 f0 kd m x) (hx : Blk w gx 68 (rdV A2 E c2 p2 f2)) (hg : b0 + 1 + 1 < gx) (v0 v1 v2 v3 : Value) :
    ((((w.setCell ⟨b0 + 1 + 1, 0, none⟩ v0).setCell ⟨b0 + 1 + 1, 1, none⟩ v1).setCell ⟨b0 + 1 + 1, 2, none⟩ v2).setCell ⟨b0 + 1 + 1, 3, none⟩ v3).cell? ⟨b0, 0, none⟩ = some (.slice A l.length c) ∧ ((((w.setCell ⟨b0 + 1 + 1, 0, none⟩ v0).setCell ⟨b0 + 1 + 1, 1, none⟩ v1).setCell ⟨b0 + 1 + 1, 2, none⟩ v2).setCell ⟨b0 + 1 + 1, 3, none⟩ v3).cell? ⟨b0, 1, none⟩ = some (.int .i64 (p0 : Int)) ∧
    ((((w.setCell ⟨b0 + 1 + 1, 0, none⟩ v0).setCell ⟨b0 + 1 + 1, 1, none⟩ v1).setCell ⟨b0 + 1 + 1, 2, none⟩ v2).setCell ⟨b0 + 1 + 1, 3, none⟩ v3).cell? ⟨b0, 2, none⟩ = some (.int .i64 f0.1) ∧ ((((w.setCell ⟨b0 + 1 + 1, 0, none⟩ v0).setCell ⟨b0 + 1 + 1, 1, none⟩ v1).setCell ⟨b0 + 1 + 1, 2, none⟩ v2).setCell ⟨b0 + 1 + 1, 3, none⟩ v3).cell? ⟨b0, 3, none⟩ = some (.int .i64 f0.2) ∧
    ((((w.setCell ⟨b0 + 1 + 1, 0, none⟩ v0).setCell ⟨b0 + 1 + 1, 1, none⟩ v1).setCell ⟨b0 + 1 + 1, 2, none⟩ v2).setCell ⟨b0 + 1 + 1, 3, none⟩ v3).cell? ⟨b0 + 1, 1, none⟩ = some (.int .i64 m) ∧
    ((((w.setCell ⟨b0 + 1 + 1, 0, none⟩ v0).setCell ⟨b0 + 1 + 1, 1, none⟩ v1).setCell ⟨b0 + 1 + 1, 2, none⟩ v2).setCell ⟨b0 + 1 + 1, 3, none⟩ v3).cell? ⟨gx, 0, none⟩ = some (.slice A2 E c2) ∧ ((((w.setCell ⟨b0 + 1 + 1, 0, none⟩ v0).setCell ⟨b0 + 1 + 1, 1, none⟩ v1).setCell ⟨b0 + 1 + 1, 2, none⟩ v2).setCell ⟨b0 + 1 + 1, 3, none⟩ v3).cell? ⟨gx, 1, none⟩ = some (.int .i64 (p2 : Int)) ∧
    ((((w.setCell ⟨b0 + 1 + 1, 0, none⟩ v0).setCell ⟨b0 + 1 + 1, 1, none⟩ v1).setCell ⟨b0 + 1 + 1, 2, none⟩ v2).setCell ⟨b0 + 1 + 1, 3, none⟩ v3).cell? ⟨gx, 2, none⟩ = some (.int .i64 f2.1) ∧ ((((w.setCell ⟨b0 + 1 + 1, 0, none⟩ v0).setCell ⟨b0 + 1 + 1, 1, none⟩ v1).setCell ⟨b0 + 1 + 1, 2, none⟩ v2).setCell ⟨b0 + 1 + 1, 3, none⟩ v3).cell? ⟨gx, 3, none⟩ = some (.int .i64 f2.2) := by
  have h1 := far4 h.kc (show b0 ≠ b0 + 1 + 1 by omega) v0 v1 v2 v3
  have h2 := far4 h.kdo (show b0 + 1 ≠ b0 + 1 + 1 by omega) v0 v1 v2 v3
  have h3 := far4 hx (show gx ≠ b0 + 1 + 1 by omega) v0 v1 v2 v3
  exact ⟨h1.cell 0, h1.cell 1, h1.cell 2, h1.cell 3, h2.cell 1, h3.cell 0, h3.cell 1, h3.cell 2, h3.cell 3⟩
/-- Behind the reference's Part and Take: the part's reader, its bytes, what was taken. -/
structure Q0 (w0 w : World) (D : Dom) (A : Option Addr) (c g b0 : Nat) (l : List UInt8) (p : Nat) (f : Flt) (kd m x : Int) (g' E : Nat) (l' : List UInt8) (A2 : Option Addr) (c2 : Nat) (A3 : Option Addr) (n3 c3 : Nat) (t : List UInt8) : Prop where
  f : StF w0 w D A c g b0 l p f p f kd m x
  r : Rd w D g' l' p (0, 0)
  s : Sl rpU8 w D A2 E c2 l'
  o : ∃ base, g' < base ∧ w.ownsRow base 5 1 (.slice A3 n3 c3) n3 (t.map bv)
  hg : b0 + 1 + 1 < g'
section
variable {g' E : Nat} {l' t : List UInt8} {A2 A3 : Option Addr} {c2 n3 c3 : Nat}
theorem Q0.below (h : Q0 w0 w D A c g b0 l p f kd m x g' E l' A2 c2 A3 n3 c3 t) (hb : Below w.heap.size w w') : Q0 w0 w' D A c g b0 l p f kd m x g' E l' A2 c2 A3 n3 c3 t :=
  ⟨h.f.below hb, keepR h.r hb, keepS h.s hb, by obtain ⟨b, h1, h2⟩ := h.o; exact ⟨b, h1, keepO h2 hb⟩, h.hg⟩
theorem Q0.chg {q : Nat} {e : TypeId} {cs : Array Value} (h : Q0 w0 w D A c g b0 l p f kd m x g' E l' A2 c2 A3 n3 c3 t) (hc : Chg (one q) w w') (hq : b0 + 1 + 1 < q) (hne : q ≠ g') (hx : Blk w q e cs) (ht : 5 ≠ e) : Q0 w0 w' D A c g b0 l p f kd m x g' E l' A2 c2 A3 n3 c3 t := by
  refine ⟨h.f.chgNew hc hq, h.r.keep (fun k hk => hc.block k (by
    rcases hk with rfl | hk
    · exact h.r.lt
    · exact h.r.dom k hk) (fun e => by
    have e' : k = q := e
    rcases hk with rfl | hk
    · exact hne e'.symm
    · have := h.f.dlt k hk; omega)) hc.size, chS h.s hc (fun k hk e => by have e' : k = q := e; have := h.f.dlt k hk; omega), ?_, h.hg⟩
  obtain ⟨b, h1, h2⟩ := h.o
  exact ⟨b, h1, chO h2 hc (fun k hk e => by
    have e' : k = q := e
    subst e'
    exact Pen.ne' hx h2 ht hk.symm)⟩
theorem Q0.chgR {p' : Nat} {f' : Flt} (h : Q0 w0 w D A c g b0 l p f kd m x g' E l' A2 c2 A3 n3 c3 t) (hr : Rd w' D g' l' p' f') (hc : Chg (one g') w w') : StF w0 w' D A c g b0 l p f p f kd m x ∧ Sl rpU8 w' D A2 E c2 l' ∧ Sl rpU8 w' (fun k => some k = (Value.slice A3 n3 c3).ownBlock) A3 n3 c3 t := by
  refine ⟨h.f.chgNew hc h.hg, chS h.s hc (fun k hk e => by have e' : k = g' := e; have := h.f.dlt k hk; have := h.hg; omega), ?_⟩
  obtain ⟨b, h1, h2⟩ := h.o
  exact chS (ownS h2) hc (fun k hk e => by have e' : k = g' := e; have := (h2.lt k hk.symm).1; omega)
end
theorem skip_code {len p : Nat} {f : Flt} {n : Int} : (skipF len p f n).2.2 = ((skipF len p f n).2.1.1 == 0) := by
  by_cases h0 : f.1 = 0
  · by_cases h1 : n < 0
    · rw [skipF_bad2 h0 h1]; rfl
    · by_cases h2 : (len : Int) - p < n
      · rw [skipF_bad3 h0 h1 h2]; rfl
      · rw [skipF_ok h0 h1 h2]; simpa using h0
  · rw [skipF_bad1 h0]; simpa using h0
end
end Go.Proofs.Ytjgcgedjpppfmaa
