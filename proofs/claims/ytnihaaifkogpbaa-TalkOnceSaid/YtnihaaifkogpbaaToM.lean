/- A unit's slots: a map from positions to slots; a unit's invariant. -/
import Derived.Test.YtnihaaifkogpbaaTuN
import Derived.Test.YtnihaaifkogpbaaTkMp
import Derived.Test.YtnihaaifkogpbaaPrC
namespace Go.Proofs.Ytnihaaifkogpbaa
open Go.ChangeShapes Go.WideShapes Go.ChangeAt Go.RowKit
open Go.Maps (Keyed int_keyed keyOf_int_mk)
set_option linter.unusedVariables false
/-- A slot, in cells. -/
abbrev slV (st : Int) (A : Option Addr) (n c : Nat) : Value := .agg #[.int .i64 st, .slice A n c]
/-- How a slot reads: as itself. -/
def sElem (v : Value) : Option (DataW Value × List MemPlace) := some (.held v, [])
def heldV : DataW Value → Value | .held v => v | _ => undef
theorem zeroSl (w : World) : (zeroValue 69).run Try.prog w = .ok (slV 0 none 0 0) w := by kernel_rfl
def fset (f : Nat → Option Value) (x : Nat) (v : Value) : Nat → Option Value := fun y => if y = x then some v else f y
/-- The block b is a map of at most n entries that gives f. -/
def SMap (w : World) (b n : Nat) (f : Nat → Option Value) : Prop :=
  ∃ D : DataW Value, w.ownsMap Try.prog 29 sElem b n D ∧ Maps.IsMap D ∧ ∀ x, x ≤ 18446744073709551615 → Maps.has D (ky x) = (f x).isSome ∧ ∀ d, D.atKey (ky x) (.held d) = .held ((f x).getD d)
theorem sMap_made (w : World) : SMap (w.alloc (.map #[] 0)) w.heap.size 0 (fun _ => none) :=
  ⟨.map [], World.ownsMap_made _ _ _ _, Maps.isMap_empty, fun x hx => ⟨rfl, fun d => rfl⟩⟩
section
variable {w w' : World} {b n : Nat} {f : Nat → Option Value}
theorem SMap.lt (h : SMap w b n f) : b < w.heap.size := by obtain ⟨D, h, _⟩ := h; exact h.lt
theorem SMap.mono {m : Nat} (h : SMap w b n f) (hm : n ≤ m) : SMap w b m f := by obtain ⟨D, h, h2⟩ := h; exact ⟨D, h.mono hm, h2⟩
theorem SMap.no (h : SMap w b n f) {cs : Array Value} {t : TypeId} : ¬ w.heap[b]? = some (.cells cs t (0, 0)) := fun e => by
  obtain ⟨D, ⟨es, clock, hb, _⟩, _⟩ := h
  rw [hb] at e
  injection e with e
  cases e
theorem SMap.same (h : SMap w b n f) (hs : w'.heap[b]? = w.heap[b]?) : SMap w' b n f := by
  obtain ⟨D, ⟨es, clock, hb, hr⟩, h2⟩ := h
  exact ⟨D, ⟨es, clock, hs.trans hb, hr⟩, h2⟩
theorem SMap.below {B : Nat} (h : SMap w b n f) (hb : Below B w w') (hB : b < B) : SMap w' b n f := h.same (hb.block b hB)
theorem SMap.chg {F : Dom} (h : SMap w b n f) (hc : Chg F w w') (hF : ¬ F b) : SMap w' b n f := h.same (hc.block b h.lt hF)
set_option maxRecDepth 10000 in
theorem SMap.look (h : SMap w b n f) {x : Nat} (hx : x ≤ 18446744073709551615) {u : World} (hu : u.heap[b]? = w.heap[b]?) :
    (Instr.lookup 57 (.map (some b)) (.int .u64 (x : Int)) true).run Try.prog u = .ok (.tuple #[(f x).getD (slV 0 none 0 0), .bool (f x).isSome]) u := by
  obtain ⟨D, ho, hm, hf⟩ := h
  have hk : keyOf Try.prog 29 (.int .u64 (x : Int)) = some (ky x) := keyOf_int_mk Try.underlying29 (ky_wf hx)
  have hou : u.ownsMap Try.prog 29 sElem b n D := by
    obtain ⟨es, clock, hb, hr⟩ := ho
    exact ⟨es, clock, hu.trans hb, hr⟩
  obtain ⟨v, ps, hrun, hv⟩ := hou.look_ok keyed64 Try.underlying57 (zeroSl u) (show sElem (slV 0 none 0 0) = some (.held (slV 0 none 0 0), []) from rfl) hk
  rw [(hf x hx).2] at hv
  have e : v = (f x).getD (slV 0 none 0 0) := by
    injection hv with hv
    injection hv with hv _
    exact congrArg heldV hv
  rw [(hf x hx).1, e] at hrun
  exact hrun
set_option maxRecDepth 10000 in
theorem SMap.look1 (h : SMap w b n f) {x : Nat} (hx : x ≤ 18446744073709551615) {u : World} (hu : u.heap[b]? = w.heap[b]?) :
    (Instr.lookup 57 (.map (some b)) (.int .u64 (x : Int)) false).run Try.prog u = .ok ((f x).getD (slV 0 none 0 0)) u := by
  obtain ⟨D, ho, hm, hf⟩ := h
  have hk : keyOf Try.prog 29 (.int .u64 (x : Int)) = some (ky x) := keyOf_int_mk Try.underlying29 (ky_wf hx)
  have hou : u.ownsMap Try.prog 29 sElem b n D := by
    obtain ⟨es, clock, hb, hr⟩ := ho
    exact ⟨es, clock, hu.trans hb, hr⟩
  obtain ⟨v, ps, hrun, hv⟩ := hou.lookup keyed64 Try.underlying57 (zeroSl u) (show sElem (slV 0 none 0 0) = some (.held (slV 0 none 0 0), []) from rfl) hk
  rw [(hf x hx).2] at hv
  have e : v = (f x).getD (slV 0 none 0 0) := by
    injection hv with hv
    injection hv with hv _
    exact congrArg heldV hv
  rw [e] at hrun
  exact hrun
theorem SMap.put_run (h : SMap w b n f) {y : Nat} {v : Value} (hy : y ≤ 18446744073709551615) (hn : n < maxLen) :
    ∃ w', (Instr.mapUpdate 57 (.map (some b)) (.int .u64 (y : Int)) v).run Try.prog w = .ok () w' ∧ SMap w' b (n + 1) (fset f y v) ∧ w.grownBy w' (some b) := by
  obtain ⟨D, ho, hm, hf⟩ := h
  have hk : keyOf Try.prog 29 (.int .u64 (y : Int)) = some (ky y) := keyOf_int_mk Try.underlying29 (ky_wf hy)
  obtain ⟨w', h1, h2, h3⟩ := ho.update keyed64 Try.underlying57 hn hk (show sElem v = some (.held v, []) from rfl)
  refine ⟨w', h1, ⟨_, h2, hm.put _ _, fun x hx => ?_⟩, h3⟩
  have hkl : WideAt.IsKeyLit (ky y) := by simp [WideAt.IsKeyLit]
  unfold fset
  by_cases e : x = y
  · subst e
    rw [if_pos rfl]
    exact ⟨Maps.has_put_same hm hkl _, fun d => Maps.atKey_put_same hm hkl _ _⟩
  · rw [if_neg e]
    rw [Maps.has_put_other (ky_ne e)]
    exact ⟨(hf x hx).1, fun d => by rw [Maps.atKey_put_other (ky_ne e)]; exact (hf x hx).2 d⟩
end
/-- Blocks that may turn: units and messages (and maps). -/
def Safe (F : Dom) (w : World) : Prop := ∀ k, F k → k < w.heap.size → ∀ cs t, w.heap[k]? = some (.cells cs t (0, 0)) → t = 60 ∨ t = 40
abbrev Tn (TS : TypeId → Prop) (w : World) : Dom := Tb TS (fun _ => False) w
theorem Safe.keep {F : Dom} {TS : TypeId → Prop} {w w' : World} (hs : Safe F w) (hc : Chg F w w') (h1 : ¬ TS 60) (h2 : ¬ TS 40) : ∀ k, Tn TS w k → w'.heap[k]? = w.heap[k]? := fun k hk => hc.block k hk.1 (fun hf => by
  rcases hk.2 with h | ⟨cs, t, h, ht⟩
  · exact h
  · rcases hs k hf hk.1 cs t h with rfl | rfl
    · exact h1 ht
    · exact h2 ht)
theorem Safe.blk {F : Dom} {w w' : World} {g : Nat} {t : TypeId} {cs : Array Value} (hs : Safe F w) (hc : Chg F w w') (hb : Blk w g t cs) (h1 : t ≠ 60) (h2 : t ≠ 40) : Blk w' g t cs :=
  chB hb hc (fun hf => by rcases hs g hf hb.lt cs t hb with h | h; exact h1 h; exact h2 h)
theorem Safe.olk {F : Dom} {w w' : World} {base n c : Nat} {A : Option Addr} {l : List Lnk} (hs : Safe F w) (hc : Chg F w w') (h : OLk w base A n c l) : OLk w' base A n c l :=
  OL.chg h hc (fun k hf hk => ⟨fun h => h, fun cs t ht => by
    rcases hs k hf hk cs t ht with rfl | rfl
    · exact ⟨by unfold T64; decide, by decide⟩
    · exact ⟨by unfold T64; decide, by decide⟩⟩)
def T8 : TypeId → Prop := fun t => t = 5
def TSP : TypeId → Prop := fun t => TSs t ∨ t = 112
/-- A slot's data lie in rows of bytes. -/
def SlOk (w : World) (v : Value) : Prop := ∃ (st : Int) (A : Option Addr) (n c : Nat) (d : List UInt8), v = slV st A n c ∧ 1 ≤ st ∧ st ≤ 3 ∧ n ≤ 1048576 ∧ rpU8.sl w (Tn T8 w) A n c d
def SlotsOk (w : World) (f : Nat → Option Value) : Prop := ∀ x v, f x = some v → SlOk w v
def PjOk (w : World) (pj : Value) : Prop := pj = .pointer none ∨ ∃ (gp pe : Nat) (A : Option Addr) (n c : Nat) (l : List Stp), pj = .pointer (some ⟨gp, 0, none⟩) ∧ Blk w gp 38 (prjV pe A n c) ∧ pe ≤ 18446744073709551615 ∧ rpStp.sl w (Tn TSP w) A n c l ∧ n ≤ 1000 ∧ ∀ s ∈ l, s.2.2.length ≤ 1000 ∧ ∀ (j : Nat) x, s.2.2[j]? = some x → x.length ≤ 1000
section
variable {w w' : World} {F : Dom} {f : Nat → Option Value} {v pj : Value}
theorem SlOk.same (h : SlOk w v) (hk : ∀ k, Tn T8 w k → w'.heap[k]? = w.heap[k]?) (hz : w.heap.size ≤ w'.heap.size) : SlOk w' v := by
  obtain ⟨st, A, n, c, d, h1, h2, h3, h4, h5⟩ := h
  exact ⟨st, A, n, c, d, h1, h2, h3, h4, Rp.sl_more (Rp.sl_keep h5 hk) (fun k hkk => Tb.keep hk hz hkk)⟩
theorem SlotsOk.below (h : SlotsOk w f) (hb : Below w.heap.size w w') : SlotsOk w' f := fun x v hx => (h x v hx).same (fun k hk => hb.block k hk.1) hb.size
theorem SlotsOk.chg (h : SlotsOk w f) (hs : Safe F w) (hc : Chg F w w') : SlotsOk w' f := fun x v hx => (h x v hx).same (hs.keep hc (by unfold T8; decide) (by unfold T8; decide)) hc.size
theorem PjOk.below (h : PjOk w pj) (hb : Below w.heap.size w w') : PjOk w' pj := by
  rcases h with h | ⟨gp, pe, A, n, c, l, h1, h2, h3, h4, h5, h6⟩
  · exact .inl h
  · exact .inr ⟨gp, pe, A, n, c, l, h1, keepB h2 hb, h3, Rp.sl_more (Rp.sl_below h4 hb (fun k hk => hk.1)) (fun k hk => Tb.keep (fun k hk => hb.block k hk.1) hb.size hk), h5, h6⟩
theorem PjOk.chg (h : PjOk w pj) (hs : Safe F w) (hc : Chg F w w') : PjOk w' pj := by
  rcases h with h | ⟨gp, pe, A, n, c, l, h1, h2, h3, h4, h5, h6⟩
  · exact .inl h
  · have hk := hs.keep (TS := TSP) hc (by unfold TSP TSs; decide) (by unfold TSP TSs; decide)
    exact .inr ⟨gp, pe, A, n, c, l, h1, hs.blk hc h2 (by decide) (by decide), h3, Rp.sl_more (Rp.sl_keep h4 hk) (fun k hkk => Tb.keep hk hc.size hkk), h5, h6⟩
end
/-- What stands behind a unit's cells: its tails, its slots, its projection. -/
structure UR (w : World) (gm tb M : Nat) (f : Nat → Option Value) (tl : Nat) (pj : Value) (nx : Nat) (At : Option Addr) (nt ct : Nat) (T : List Lnk) : Prop where
  o : OLk w tb At nt ct T
  tk : TkOk (M * 64) T
  mp : SMap w gm M f
  so : SlotsOk w f
  pj : PjOk w pj
  tb1 : tb ≤ w.heap.size
  tl1 : tl ≤ 18446744073709551615
  nx1 : nx ≤ M * 65536
section
variable {w w' : World} {F : Dom} {gm tb M : Nat} {f : Nat → Option Value} {tl : Nat} {pj : Value} {nx : Nat} {At : Option Addr} {nt ct : Nat} {T : List Lnk}
theorem UR.below (h : UR w gm tb M f tl pj nx At nt ct T) (hb : Below w.heap.size w w') : UR w' gm tb M f tl pj nx At nt ct T :=
  ⟨OL.below h.o hb, h.tk, h.mp.below hb h.mp.lt, h.so.below hb, h.pj.below hb, Nat.le_trans h.tb1 hb.size, h.tl1, h.nx1⟩
theorem UR.chg (h : UR w gm tb M f tl pj nx At nt ct T) (hs : Safe F w) (hc : Chg F w w') (hg : ¬ F gm) : UR w' gm tb M f tl pj nx At nt ct T :=
  ⟨hs.olk hc h.o, h.tk, h.mp.chg hc hg, h.so.chg hs hc, h.pj.chg hs hc, Nat.le_trans h.tb1 hc.size, h.tl1, h.nx1⟩
theorem UR.mono {M' : Nat} (h : UR w gm tb M f tl pj nx At nt ct T) (hm : M ≤ M') : UR w gm tb M' f tl pj nx At nt ct T :=
  ⟨h.o, ⟨Nat.le_trans h.tk.1 (Nat.mul_le_mul_right 64 hm), h.tk.2⟩, h.mp.mono hm, h.so, h.pj, h.tb1, h.tl1, Nat.le_trans h.nx1 (Nat.mul_le_mul_right 65536 hm)⟩
end
/-- A unit, and what stands behind it. -/
def UI (w : World) (gu gm tb nd M ep : Nat) (se : Bool) (f : Nat → Option Value) : Prop :=
  EOk ep ∧ ∃ tl pj nx At nt ct T, Blk w gu 60 (unV nd ep se (.map (some gm)) tl pj nx At nt ct) ∧ UR w gm tb M f tl pj nx At nt ct T
theorem UI.mono {w : World} {gu gm tb nd M M' ep : Nat} {se : Bool} {f : Nat → Option Value} (h : UI w gu gm tb nd M ep se f) (hm : M ≤ M') : UI w gu gm tb nd M' ep se f := by
  obtain ⟨h1, tl, pj, nx, At, nt, ct, T, h2, h3⟩ := h
  exact ⟨h1, tl, pj, nx, At, nt, ct, T, h2, h3.mono hm⟩
theorem UI.below {w w' : World} {gu gm tb nd M ep : Nat} {se : Bool} {f : Nat → Option Value} (h : UI w gu gm tb nd M ep se f) (hb : Below w.heap.size w w') : UI w' gu gm tb nd M ep se f := by
  obtain ⟨h1, tl, pj, nx, At, nt, ct, T, h2, h3⟩ := h
  exact ⟨h1, tl, pj, nx, At, nt, ct, T, keepB h2 hb, h3.below hb⟩
end Go.Proofs.Ytnihaaifkogpbaa
