/-
  Plain words for memory, used by all walks of this seat: how a value of Go reads as plain data in a world, and that such a reading stays while what lies below a block number stays.
-/
import Derived.WalkKit
import Derived.ProofKit
import Derived.Below
import Derived.Lib.Hide
import Derived.Laws.OwnMore
import Derived.Deep.Draws
import Derived.Deep.AppendLies
import Derived.Lib.SlBytesConst
import Derived.Maps.AppendAt
import Derived.Deep.RegionHeld3
import Derived.Deep.RegionLaw
import Derived.Deep.QuietTactic
import Derived.BigQuiet
namespace Go.Proofs.Ytnihaaifkogpbaa
open Go.RowKit
set_option linter.unusedVariables false

/-- A set of blocks. -/
abbrev Dom := Nat → Prop
def Same (D : Dom) (w w' : World) : Prop := ∀ k, D k → w'.heap[k]? = w.heap[k]?
theorem Same.cell {D : Dom} {w w' : World} (h : Same D w w') {p : Addr} (hp : D p.block) : w'.cell? p = w.cell? p :=
  World.cell?_of_block (w := w) (h p.block hp)
def lt (B : Nat) : Dom := fun k => k < B
/-- Of the blocks that were there only those of F may hold something else. -/
structure Chg (F : Dom) (w w' : World) : Prop where
  os : w'.os = w.os
  tape : w'.tape = w.tape
  output : w'.output = w.output
  size : w.heap.size ≤ w'.heap.size
  block : ∀ k, k < w.heap.size → ¬ F k → w'.heap[k]? = w.heap[k]?
theorem Chg.refl (F : Dom) (w : World) : Chg F w w := ⟨rfl, rfl, rfl, Nat.le_refl _, fun _ _ _ => rfl⟩
theorem Chg.trans {F : Dom} {a b c : World} (h : Chg F a b) (k : Chg F b c) : Chg F a c :=
  ⟨k.os.trans h.os, k.tape.trans h.tape, k.output.trans h.output, Nat.le_trans h.size k.size, fun i hi hn => (k.block i (Nat.lt_of_lt_of_le hi h.size) hn).trans (h.block i hi hn)⟩
theorem Chg.more {F G : Dom} {w w' : World} (h : Chg F w w') (hG : ∀ k, k < w.heap.size → F k → G k) : Chg G w w' :=
  ⟨h.os, h.tape, h.output, h.size, fun k hk hn => h.block k hk (fun hf => hn (hG k hk hf))⟩
theorem Chg.of_below {B : Nat} {w w' : World} (h : Below B w w') : Chg (fun k => B ≤ k) w w' := ⟨h.os, h.tape, h.output, h.size, fun k _ hn => h.block k (by omega)⟩
theorem Chg.of_pure {w w' : World} (h : Below w.heap.size w w') (F : Dom) : Chg F w w' := ⟨h.os, h.tape, h.output, h.size, fun k hk _ => h.block k hk⟩
theorem Chg.of_grown {w w' : World} {row : Option Nat} (h : w.grownBy w' row) : Chg (fun k => some k = row) w w' := ⟨h.os, h.tape, h.output, h.size, fun k hk hn => h.block k hk hn⟩
theorem Chg.below {F : Dom} {B : Nat} {w w' : World} (h : Chg F w w') (hB : B ≤ w.heap.size) (hF : ∀ k, F k → B ≤ k) : Below B w w' :=
  ⟨h.os, h.tape, h.output, h.size, fun k hk => h.block k (by omega) (fun hf => by have := hF k hf; omega)⟩
theorem Chg.same {F D : Dom} {w w' : World} (h : Chg F w w') (hD : ∀ k, D k → k < w.heap.size) (hn : ∀ k, D k → ¬ F k) : Same D w w' := fun k hk => h.block k (hD k hk) (hn k hk)
theorem Chg.alloc {F : Dom} {a w : World} (h : Chg F a w) (o : Obj) : Chg F a (w.alloc o) :=
  h.trans ⟨rfl, rfl, rfl, by simp, fun k hk _ => Below.heap_alloc _ _ _ hk⟩
theorem Chg.drew {F : Dom} {a w : World} (h : Chg F a w) : Chg F a w.drew := ⟨h.os, h.tape, h.output, h.size, h.block⟩
theorem Chg.setCell {F : Dom} {a w : World} (h : Chg F a w) {p : Addr} (hp : F p.block ∨ a.heap.size ≤ p.block) (u : Value) : Chg F a (w.setCell p u) :=
  ⟨h.os, h.tape, h.output, by simpa [World.setCell] using h.size, fun k hk hn => (Below.heap_setCell _ _ _ _ (by
    rintro rfl
    rcases hp with hp | hp
    · exact hn hp
    · omega)).trans (h.block k hk hn)⟩
theorem Same.of_below {D : Dom} {B : Nat} {w w' : World} (h : Below B w w') (hD : ∀ k, D k → k < B) : Same D w w' := fun k hk => h.block k (hD k hk)
theorem Same.refl (D : Dom) (w : World) : Same D w w := fun _ _ => rfl

/-- How plain data of type α stand in a row of cells: the row has 'size' cells; a reading lies in the blocks of a set D and stays while these stay. -/
structure Rp (α : Type) where
  size : Nat
  ok : World → Dom → α → List Value → Prop
  len : ∀ {w D x vs}, ok w D x vs → vs.length = size
  keep : ∀ {w w' D x vs}, ok w D x vs → Same D w w' → ok w' D x vs
  more : ∀ {w D D' x vs}, ok w D x vs → (∀ k, D k → D' k) → ok w D' x vs
  one : ∀ {w D x vs}, ok w D x vs → ∀ u ∈ vs, u.oneCell' = true

section
variable {α β : Type}
theorem Rp.below (r : Rp α) {w w' : World} {D : Dom} {B : Nat} {x : α} {vs : List Value} (h : r.ok w D x vs) (hb : Below B w w') (hD : ∀ k, D k → k < B) : r.ok w' D x vs :=
  r.keep h (Same.of_below hb hD)

def rpU8 : Rp UInt8 where
  size := 1
  ok := fun _ _ x vs => vs = [.int .u8 (x.toNat : Int)]
  len := by rintro w D x vs rfl; rfl
  keep := fun h _ => h
  more := fun h _ => h
  one := by rintro w D x vs rfl u hu; simp only [List.mem_singleton] at hu; subst hu; rfl
def rpU32 : Rp (BitVec 32) where
  size := 1
  ok := fun _ _ x vs => vs = [.int .u32 (x.toNat : Int)]
  len := by rintro w D x vs rfl; rfl
  keep := fun h _ => h
  more := fun h _ => h
  one := by rintro w D x vs rfl u hu; simp only [List.mem_singleton] at hu; subst hu; rfl
def rpU64 : Rp Nat where
  size := 1
  ok := fun _ _ x vs => vs = [.int .u64 (x : Int)] ∧ x < 18446744073709551616
  len := by rintro w D x vs ⟨rfl, _⟩; rfl
  keep := fun h _ => h
  more := fun h _ => h
  one := by rintro w D x vs ⟨rfl, _⟩ u hu; simp only [List.mem_singleton] at hu; subst hu; rfl
def rpInt : Rp Int where
  size := 1
  ok := fun _ _ x vs => vs = [.int .i64 x] ∧ -9223372036854775808 ≤ x ∧ x < 9223372036854775808
  len := by rintro w D x vs ⟨rfl, _⟩; rfl
  keep := fun h _ => h
  more := fun h _ => h
  one := by rintro w D x vs ⟨rfl, _⟩ u hu; simp only [List.mem_singleton] at hu; subst hu; rfl
def rpBool : Rp Bool where
  size := 1
  ok := fun _ _ x vs => vs = [.bool x]
  len := by rintro w D x vs rfl; rfl
  keep := fun h _ => h
  more := fun h _ => h
  one := by rintro w D x vs rfl u hu; simp only [List.mem_singleton] at hu; subst hu; rfl
def rpPair (r : Rp α) (s : Rp β) : Rp (α × β) where
  size := r.size + s.size
  ok := fun w D x vs => ∃ a b, vs = a ++ b ∧ r.ok w D x.1 a ∧ s.ok w D x.2 b
  len := by rintro w D x vs ⟨a, b, rfl, ha, hb⟩; rw [List.length_append, r.len ha, s.len hb]
  keep := by rintro w w' D x vs ⟨a, b, rfl, ha, hb⟩ h; exact ⟨a, b, rfl, r.keep ha h, s.keep hb h⟩
  more := by rintro w D D' x vs ⟨a, b, rfl, ha, hb⟩ h; exact ⟨a, b, rfl, r.more ha h, s.more hb h⟩
  one := by
    rintro w D x vs ⟨a, b, rfl, ha, hb⟩ u hu
    rcases List.mem_append.1 hu with h | h
    · exact r.one ha u h
    · exact s.one hb u h
def rpVia (f : β → α) (r : Rp α) : Rp β where
  size := r.size
  ok := fun w D x vs => r.ok w D (f x) vs
  len := fun h => r.len h
  keep := fun h k => r.keep h k
  more := fun h k => r.more h k
  one := fun h => r.one h

/-- A row of n elements from an address on. -/
def Rp.row (r : Rp α) (w : World) (D : Dom) (b off : Nat) (l : List α) : Prop :=
  ∀ i x, l[i]? = some x → ∃ cs, r.ok w D x cs ∧ ∀ j u, cs[j]? = some u → w.cell? ⟨b, off + i * r.size + j, none⟩ = some u

theorem Rp.row_keep (r : Rp α) {w w' : World} {D : Dom} {b off : Nat} {l : List α} (h : r.row w D b off l) (hb : D b) (k : Same D w w') : r.row w' D b off l := by
  intro i x hx
  obtain ⟨cs, hc, hg⟩ := h i x hx
  exact ⟨cs, r.keep hc k, fun j u hu => (k.cell hb).trans (hg j u hu)⟩

/-- A slice whose elements read as a list. -/
def rpSlice (r : Rp α) : Rp (List α) where
  size := 1
  ok := fun w D l vs => ∃ A c, vs = [.slice A l.length c] ∧ l.length ≤ c ∧ c ≤ maxLen ∧
    (0 < l.length → ∃ b off, A = some ⟨b, off, none⟩ ∧ D b ∧ r.row w D b off l)
  len := by rintro w D x vs ⟨A, c, rfl, _⟩; rfl
  keep := by
    rintro w w' D l vs ⟨A, c, rfl, h1, h2, h3⟩ k
    refine ⟨A, c, rfl, h1, h2, fun hn => ?_⟩
    obtain ⟨b, off, rfl, hb, hr⟩ := h3 hn
    exact ⟨b, off, rfl, hb, r.row_keep hr hb k⟩
  more := by
    rintro w D D' l vs ⟨A, c, rfl, h1, h2, h3⟩ k
    refine ⟨A, c, rfl, h1, h2, fun hn => ?_⟩
    obtain ⟨b, off, rfl, hb, hr⟩ := h3 hn
    refine ⟨b, off, rfl, k _ hb, fun i x hx => ?_⟩
    obtain ⟨cs, hc, hg⟩ := hr i x hx
    exact ⟨cs, r.more hc k, hg⟩
  one := by
    rintro w D x vs ⟨A, c, rfl, _⟩ u hu
    simp only [List.mem_singleton] at hu
    subst hu; rfl

/-- The same, the slice's parts named. -/
def Rp.sl (r : Rp α) (w : World) (D : Dom) (A : Option Addr) (n c : Nat) (l : List α) : Prop := (rpSlice r).ok w D l [.slice A n c]

theorem Rp.sl_len {r : Rp α} {w : World} {D : Dom} {A : Option Addr} {n c : Nat} {l : List α} (h : r.sl w D A n c l) : l.length = n ∧ n ≤ c ∧ c ≤ maxLen := by
  obtain ⟨A', c', he, h1, h2, _⟩ := h
  simp only [List.cons.injEq, Value.slice.injEq, and_true] at he
  obtain ⟨rfl, rfl, rfl⟩ := he
  exact ⟨rfl, h1, h2⟩
theorem Rp.sl_form {r : Rp α} {w : World} {D : Dom} {vs : List Value} {l : List α} (h : (rpSlice r).ok w D l vs) : ∃ A c, vs = [.slice A l.length c] ∧ r.sl w D A l.length c l := by
  obtain ⟨A, c, rfl, hh⟩ := h
  exact ⟨A, c, rfl, A, c, rfl, hh⟩
theorem Rp.sl_at {r : Rp α} {w : World} {D : Dom} {A : Option Addr} {n c : Nat} {l : List α} (h : r.sl w D A n c l) {k : Nat} (hk : k < n) :
    ∃ b off x cs, A = some ⟨b, off, none⟩ ∧ D b ∧ l[k]? = some x ∧ r.ok w D x cs ∧ ∀ j u, cs[j]? = some u → w.cell? ⟨b, off + k * r.size + j, none⟩ = some u := by
  obtain ⟨A', c', he, h1, h2, h3⟩ := h
  simp only [List.cons.injEq, Value.slice.injEq, and_true] at he
  obtain ⟨rfl, rfl, rfl⟩ := he
  obtain ⟨b, off, rfl, hb, hr⟩ := h3 (by omega)
  obtain ⟨cs, hc, hg⟩ := hr k l[k] (List.getElem?_eq_getElem hk)
  exact ⟨b, off, l[k], cs, rfl, hb, List.getElem?_eq_getElem hk, hc, hg⟩
theorem Rp.sl_below {r : Rp α} {w w' : World} {D : Dom} {B : Nat} {A : Option Addr} {n c : Nat} {l : List α} (h : r.sl w D A n c l) (hb : Below B w w') (hD : ∀ k, D k → k < B) : r.sl w' D A n c l :=
  (rpSlice r).below h hb hD
theorem Rp.sl_keep {r : Rp α} {w w' : World} {D : Dom} {A : Option Addr} {n c : Nat} {l : List α} (h : r.sl w D A n c l) (hb : Same D w w') : r.sl w' D A n c l :=
  (rpSlice r).keep h hb
theorem Rp.sl_more {r : Rp α} {w : World} {D D' : Dom} {A : Option Addr} {n c : Nat} {l : List α} (h : r.sl w D A n c l) (hD : ∀ k, D k → D' k) : r.sl w D' A n c l :=
  (rpSlice r).more h hD
theorem Rp.sl_nil (r : Rp α) (w : World) (D : Dom) (A : Option Addr) (c : Nat) (hc : c ≤ maxLen) : r.sl w D A 0 c [] :=
  ⟨A, c, rfl, Nat.zero_le _, hc, fun h => absurd h (by simp)⟩
/-- A cut 's[i:j]' of a slice. -/
theorem Rp.sl_cut {r : Rp α} {w : World} {D : Dom} {b off n c : Nat} {l : List α} (h : r.sl w D (some ⟨b, off, none⟩) n c l) {i j c' : Nat} (hij : i ≤ j) (hj : j ≤ n) (hc : j - i ≤ c') (hc' : c' ≤ maxLen) :
    r.sl w D (some ⟨b, off + i * r.size, none⟩) (j - i) c' ((l.take j).drop i) := by
  obtain ⟨A', c0, he, h1, h2, h3⟩ := h
  simp only [List.cons.injEq, Value.slice.injEq, and_true] at he
  obtain ⟨rfl, rfl, rfl⟩ := he
  have hlen : ((l.take j).drop i).length = j - i := by rw [List.length_drop, List.length_take]; omega
  refine ⟨_, c', by rw [hlen], by rw [hlen]; exact hc, hc', fun hp => ?_⟩
  obtain ⟨b', off', hA, hb, hr⟩ := h3 (by omega)
  simp only [Option.some.injEq, Addr.mk.injEq, and_true] at hA
  obtain ⟨rfl, rfl⟩ := hA
  refine ⟨_, _, rfl, hb, fun q x hq => ?_⟩
  have hx : l[i + q]? = some x := by
    rw [List.getElem?_drop, List.getElem?_take] at hq
    split at hq
    · exact hq
    · cases hq
  obtain ⟨cs, hok, hcell⟩ := hr (i + q) x hx
  refine ⟨cs, hok, fun k u hu => ?_⟩
  have := hcell k u hu
  rw [Nat.add_mul] at this
  rw [← this]
  congr 2
  omega
end

/-- A block that is known whole: cells cs of element type t, none frozen. -/
def Blk (w : World) (g : Nat) (t : TypeId) (cs : Array Value) : Prop := w.heap[g]? = some (.cells cs t (0, 0))
section
variable {w w' : World} {g : Nat} {t : TypeId} {cs : Array Value}
theorem Blk.lt (h : Blk w g t cs) : g < w.heap.size := (Array.getElem?_eq_some_iff.1 h).1
theorem Blk.cell (h : Blk w g t cs) (i : Nat) : w.cell? ⟨g, i, none⟩ = cs[i]? := cell_of_row w g i cs t (0, 0) h
theorem Blk.frozen (h : Blk w g t cs) (i : Nat) : w.frozen? ⟨g, i, none⟩ = false := frozen_of_row w g i cs t h
theorem Blk.new (w : World) (t : TypeId) (cs : Array Value) : Blk (w.alloc (.cells cs t)) w.heap.size t cs := heap_alloc_new w _
theorem Blk.alloc (h : Blk w g t cs) (o : Obj) : Blk (w.alloc o) g t cs := (Below.heap_alloc w o g h.lt).trans h
theorem Blk.put (h : Blk w g t cs) (i : Nat) (u : Value) : Blk (w.setCell ⟨g, i, none⟩ u) g t (cs.setIfInBounds i u) := by
  unfold Blk at h ⊢
  simp [World.setCell, Array.getElem?_modify, h]
theorem Blk.far (h : Blk w g t cs) {p : Addr} (hp : g ≠ p.block) (u : Value) : Blk (w.setCell p u) g t cs := (Below.heap_setCell w p u g hp).trans h
theorem Blk.below {B : Nat} (h : Blk w g t cs) (hb : Below B w w') (hg : g < B) : Blk w' g t cs := (hb.block g hg).trans h
theorem Blk.grown {row : Option Nat} (h : Blk w g t cs) (hb : w.grownBy w' row) (hg : some g ≠ row) : Blk w' g t cs := (hb.block g h.lt hg).trans h
theorem Blk.rowSet (h : Blk w g t cs) (cs' : Array Value) : Blk (w.setRow g cs') g t cs' := setRow_heap w g cs cs' t (0, 0) h
theorem Blk.rowFar (h : Blk w g t cs) {g' : Nat} (hne : g ≠ g') (cs' : Array Value) : Blk (w.setRow g' cs') g t cs := (setRow_other w g' g cs' hne).trans h
end
theorem below_setRow {B : Nat} {a w : World} (h : Below B a w) {g : Nat} (hg : B ≤ g) (cs : Array Value) : Below B a (w.setRow g cs) :=
  h.trans ⟨rfl, rfl, rfl, by simp [World.setRow], fun k hk => setRow_other w g k cs (by omega)⟩

section
variable {P : Program} {ops : Array Oper} {rest : List Oper} {o : Oper} {a : Act} {w : World} {Q : Exit → Act → World → Prop}
theorem grown_setRow (w : World) (g : Nat) (cs : Array Value) : w.grownBy (w.setRow g cs) (some g) :=
  ⟨rfl, rfl, rfl, by simp [World.setRow], fun k _ hk => setRow_other w g k cs (fun e => hk (by rw [e]))⟩
theorem grown_setCell (w : World) (p : Addr) (u : Value) : w.grownBy (w.setCell p u) (some p.block) :=
  ⟨rfl, rfl, rfl, by simp [World.setCell], fun k _ hk => Below.heap_setCell w p u k (fun e => hk (by rw [e]))⟩
/-- A whole array or struct stored into a block of its size: the world behind it under a name. -/
theorem wpList_put_row (hgd : o.guard = none) (ty : TypeId) (x y : Operand) (ho : o.op = .store ty x y)
    (g : Nat) (cells : Array Value) (hx : a.eval x = .pointer (some ⟨g, 0, none⟩)) (hy : a.eval y = .agg cells)
    (t : TypeId) (old : Array Value) (hg : Blk w g t old) (hi : (P.info? ty).map (·.size) = some cells.size)
    (hold : old.size = cells.size) (h1 : cells.all (·.oneCell') = true)
    (h : ∀ w', Blk w' g t cells → w.grownBy w' (some g) → wpList P ops Q rest (a.put o.dst undef) w') : wpList P ops Q (o :: rest) a w :=
  wpList_store_row hgd ty x y ho g cells hx hy t old hg hi hold h1 (h _ (hg.rowSet _) (grown_setRow w g cells))
end

/-- Bytes: the cell at a place. -/
theorem bytes_at {w : World} {D : Dom} {A : Option Addr} {n c : Nat} {l : List UInt8} (h : rpU8.sl w D A n c l) {k : Nat} (hk : k < n) :
    ∃ b off x, A = some ⟨b, off, none⟩ ∧ D b ∧ l[k]? = some x ∧ w.cell? ⟨b, off + k, none⟩ = some (.int .u8 (x.toNat : Int)) := by
  obtain ⟨b, off, x, cs, hA, hb, hx, hc, hg⟩ := Rp.sl_at h hk
  have hc' : cs = [.int .u8 (x.toNat : Int)] := hc
  subst hc'
  have := hg 0 _ rfl
  exact ⟨b, off, x, hA, hb, hx, by simpa [rpU8] using this⟩

/-- A row of bytes in a block of its own. -/
theorem bytes_of_cells {w : World} {g : Nat} {l : List UInt8} {cs : Array Value} (h : ∀ i, w.cell? ⟨g, i, none⟩ = cs[i]?) (hcs : ∀ (i : Nat) (x : UInt8), l[i]? = some x → cs[i]? = some (Value.int .u8 (x.toNat : Int))) {n c : Nat} (hn : l.length = n) (hnc : n ≤ c) (hc : c ≤ maxLen) :
    rpU8.sl w (fun k => k = g) (some ⟨g, 0, none⟩) n c l := by
  subst hn
  refine ⟨_, c, rfl, hnc, hc, fun _ => ⟨g, 0, rfl, rfl, fun i x hx => ⟨_, rfl, fun j u hu => ?_⟩⟩⟩
  have hj : j = 0 := by
    rcases Nat.eq_zero_or_pos j with h0 | h0
    · exact h0
    · rw [List.getElem?_eq_none (by simp; omega)] at hu; cases hu
  subst hj
  simp only [List.getElem?_cons_zero, Option.some.injEq] at hu
  subst hu
  have := h (0 + i * rpU8.size + 0)
  rw [this]
  simpa [rpU8] using hcs i x hx

/-- Bytes read as a string. -/
theorem run_bytes_string {P : Program} {w : World} {D : Dom} {A : Option Addr} {n c : Nat} {l : List UInt8} (h : rpU8.sl w D A n c l) (src dst e : TypeId)
    (hs : P.underlying src = some (.slice e)) (he : P.underlying e = some (.int .u8)) (hd : P.underlying dst = some .string) :
    (convert src dst (.slice A n c)).run P w = .ok (.string ⟨l.toArray⟩) w := by
  obtain ⟨hlen, _, _⟩ := Rp.sl_len h
  rw [run_convert_bytes_string w src dst e A n c hs he hd]
  rcases A with _ | a
  · have h0 : n = 0 := by
      rcases Nat.eq_zero_or_pos n with h0 | h0
      · exact h0
      · obtain ⟨b, off, x, hA, _⟩ := bytes_at h h0
        cases hA
    subst h0
    obtain rfl := List.eq_nil_of_length_eq_zero hlen
    simp [Conv.bytesToString]
    rfl
  · have hl : (loadCells a n).run P w = .ok (((l.map fun x => (x.toNat : Int)).map (Value.int .u8)).toArray) w := by
      have := run_loadCells_list (P := P) w a ((l.map fun x => (x.toNat : Int)).map (Value.int .u8)) (fun j v hj => by
        have hjl : j < n := by
          rw [← hlen]
          rcases Nat.lt_or_ge j l.length with h | h
          · exact h
          · simp [List.getElem?_eq_none h] at hj
        obtain ⟨b, off, x, hA, _, hx, hc⟩ := bytes_at h hjl
        injection hA with hA
        subst hA
        have hplain : (⟨b, off, none⟩ : Addr).add j = ⟨b, off + j, none⟩ := by unfold Addr.add; split <;> simp_all
        rw [hplain, hc]
        simp [hx] at hj
        rw [hj])
      simpa [hlen] using this
    rw [run_bytesToString w a n c _ hl, foldl_push_byteCells]
    have e0 : (ByteArray.empty : ByteArray).data = #[] := rfl
    rw [e0, Array.empty_append]

/-! Rows of the call's own, that grow by append. -/
theorem own_form {w : World} {base : Nat} {e : TypeId} {size n : Nat} {v : Value} {xs : List Value} (h : w.ownsRow base e size v n xs) : ∃ A c, v = .slice A n c := by
  rcases h.2 with ⟨rfl, rfl⟩ | ⟨g, cap, cur, rfl, _⟩
  · exact ⟨none, 0, rfl⟩
  · exact ⟨_, _, rfl⟩
/-- What append asks of the slice type t over elements e. -/
structure Elem (P : Program) (t e : TypeId) (size bytes : Nat) : Prop where
  ht : P.underlying t = some (.slice e)
  hi : ∃ i z, P.info? e = some i ∧ i.zero = some z ∧ i.size = size ∧ i.bytes = bytes ∧ z.cells.size = size
  hs : 0 < size
theorem Elem.of {P : Program} {t e : TypeId} {size bytes : Nat} {z : Value} (ht : P.underlying t = some (.slice e)) (h : (P.info? e).map (fun i => (i.zero, i.size, i.bytes)) = some (some z, size, bytes)) (hz : z.cells.size = size) (hs : 0 < size) : Elem P t e size bytes := by
  refine ⟨ht, ?_, hs⟩
  cases hi : P.info? e with
  | none => rw [hi] at h; cases h
  | some i =>
    rw [hi] at h
    simp only [Option.map_some, Option.some.injEq, Prod.mk.injEq] at h
    exact ⟨i, z, rfl, h.1, h.2.1, h.2.2, hz⟩
/-- The cells that a slice leads to, nil let in. -/
def Src (w : World) (A : Option Addr) (m size : Nat) (news : List Value) : Prop :=
  news.length = m * size ∧ (∀ u ∈ news, u.oneCell' = true) ∧ (0 < news.length → ∃ a, A = some a ∧ ∀ j u, news[j]? = some u → w.cell? (a.add j) = some u)
theorem Src.one {w : World} {g : Nat} {v : Value} (hc : w.cell? ⟨g, 0, none⟩ = some v) (h1 : v.oneCell' = true) : Src w (some ⟨g, 0, none⟩) 1 1 [v] := by
  refine ⟨rfl, by simpa using h1, fun _ => ⟨_, rfl, fun j u hu => ?_⟩⟩
  have hj : j = 0 := by
    rcases Nat.eq_zero_or_pos j with h0 | h0
    · exact h0
    · rw [List.getElem?_eq_none (by simp; omega)] at hu; cases hu
  subst hj
  simp only [List.getElem?_cons_zero, Option.some.injEq] at hu
  subst hu
  simpa [Addr.add] using hc
theorem oneCell_int (k : IntKind) (n : Int) : (Value.int k n).oneCell' = true := rfl
def bv (x : UInt8) : Value := .int .u8 (x.toNat : Int)
theorem Src.bytes {w : World} {D : Dom} {A : Option Addr} {n c : Nat} {l : List UInt8} (h : rpU8.sl w D A n c l) : Src w A n 1 (l.map bv) := by
  obtain ⟨hlen, _, _⟩ := Rp.sl_len h
  refine ⟨by simp [hlen], fun u hu => ?_, fun hp => ?_⟩
  · obtain ⟨x, _, rfl⟩ := List.mem_map.1 hu; rfl
  · obtain ⟨b, off, x, hA, _⟩ := bytes_at (k := 0) h (by simpa [hlen] using hp)
    refine ⟨_, hA, fun j u hu => ?_⟩
    rw [List.getElem?_map] at hu
    cases hj : l[j]? with
    | none => rw [hj] at hu; cases hu
    | some y =>
      rw [hj] at hu
      injection hu with hu
      subst hu
      obtain ⟨b', off', x', hA', _, hx', hc⟩ := bytes_at (k := j) h (by rw [← hlen]; exact (List.getElem?_eq_some_iff.1 hj).1)
      rw [hA] at hA'
      injection hA' with hA'
      injection hA' with h1 h2
      subst h1; subst h2
      rw [hj] at hx'
      injection hx' with hx'
      subst hx'
      have hplain : (⟨b, off, none⟩ : Addr).add j = ⟨b, off + j, none⟩ := by unfold Addr.add; split <;> simp_all
      rw [hplain, hc]; rfl
section
variable {P : Program}
theorem run_app {t e : TypeId} {size bytes : Nat} (E : Elem P t e size bytes) (w : World) (ty : TypeId) {base : Nat} {v : Value} {n : Nat} {xs : List Value} (hown : w.ownsRow base e size v n xs)
    {A : Option Addr} {m c : Nat} {news : List Value} (hsrc : Src w A m size news) (h63 : n + m ≤ maxLen) (hbytes : (n + m) * bytes ≤ 140737488355328) (hbase : base ≤ w.heap.size) :
    ∃ A' c' w', (Builtin.append_ #[t, t] ty #[v, .slice A m c]).run P w = .ok (.slice A' (n + m) c') w' ∧ w'.ownsRow base e size (.slice A' (n + m) c') (n + m) (xs ++ news) ∧ w.grownBy w' v.ownBlock ∧
      ((Value.slice A' (n + m) c').ownBlock = v.ownBlock ∨ (Value.slice A' (n + m) c').ownBlock = some w.heap.size) := by
  obtain ⟨ht, ⟨i, z, hi, hz, hsize, hby, hzs⟩, hs⟩ := E
  rcases A with _ | ad
  · have hm : news = [] := by
      rcases Nat.eq_zero_or_pos news.length with h0 | h0
      · exact List.eq_nil_of_length_eq_zero h0
      · obtain ⟨a, hA, _⟩ := hsrc.2.2 h0
        cases hA
    subst hm
    have hm0 : m = 0 := by
      have := hsrc.1
      simp only [List.length_nil] at this
      rcases Nat.eq_zero_or_pos m with h0 | h0
      · exact h0
      · have := Nat.mul_pos h0 hs; omega
    subst hm0
    obtain ⟨A, cc, rfl⟩ := own_form hown
    refine ⟨A, cc, w, ?_, by simpa using hown, World.grownBy.refl w _, .inl rfl⟩
    rcases hown.2 with ⟨hv, rfl⟩ | ⟨g, cap, cur, hv, _, _, hnc, _⟩
    · injection hv with h1 _ h3
      subst h1; subst h3
      simp [Builtin.append_, run_underlying ht, sizeOf, typeInfo, hi, Builtin.lenOf, Builtin.firstCells]
    · injection hv with h1 _ h3
      subst h1; subst h3
      simp [Builtin.append_, run_underlying ht, sizeOf, typeInfo, hi, Builtin.lenOf, Builtin.firstCells, hnc, storeCells]
  · have hcells : ∀ j u, news[j]? = some u → w.cell? (ad.add j) = some u := by
      intro j u hu
      obtain ⟨a, hA, hc⟩ := hsrc.2.2 (by have := (List.getElem?_eq_some_iff.1 hu).1; omega)
      injection hA with hA
      subst hA
      exact hc j u hu
    obtain ⟨v', w', hrun, h2, h3, _, h5⟩ := run_append_own_at (P := P) w base t ty e i z size bytes ht hi hz hsize hby hzs hs v n xs hown ad m c news hsrc.1 hcells hsrc.2.1 h63 hbytes hbase
    obtain ⟨A', c', rfl⟩ := own_form h2
    exact ⟨A', c', w', hrun, h2, h3, h5⟩
theorem wpList_app {ops : Array Oper} {rest : List Oper} {o : Oper} {a : Act} {w : World} {Q : Exit → Act → World → Prop} (hgd : o.guard = none) (s x : Operand) (t : TypeId)
    (ho : o.op = .call { callee := .builtin .append, args := #[s, x], argTypes := #[t, t] }) {e : TypeId} {size bytes : Nat} (E : Elem P t e size bytes)
    {base : Nat} {v : Value} {n : Nat} {xs : List Value} (hs : a.eval s = v) (hown : w.ownsRow base e size v n xs)
    {A : Option Addr} {m c : Nat} {news : List Value} (hx : a.eval x = .slice A m c) (hsrc : Src w A m size news) (h63 : n + m ≤ maxLen) (hbytes : (n + m) * bytes ≤ 140737488355328) (hbase : base ≤ w.heap.size)
    (h : ∀ A' c' w', w'.ownsRow base e size (.slice A' (n + m) c') (n + m) (xs ++ news) → w.grownBy w' v.ownBlock → ((Value.slice A' (n + m) c').ownBlock = v.ownBlock ∨ (Value.slice A' (n + m) c').ownBlock = some w.heap.size) →
      wpList P ops Q rest (a.put o.dst (.slice A' (n + m) c')) w') : wpList P ops Q (o :: rest) a w := by
  refine wpList_plain hgd fun K hK => ?_
  obtain ⟨A', c', w', hr, h2, h3, h4⟩ := run_app (P := P) E w o.type hown hsrc h63 hbytes hbase (c := c)
  unfold Oper.wp execOp
  simp only [ho, resolve, invoke, builtin, Sem.run_bind, Sem.run_pure, Result.andThen_ok, List.map_toArray, List.map_cons, List.map_nil, hs, hx, hr]
  exact hK _ _ (h A' c' w' h2 h3 h4)
end
/-- A row of bytes of the call's own reads as bytes. -/
theorem own_bytes {w : World} {base : Nat} {e : TypeId} {A : Option Addr} {n c : Nat} {l : List UInt8} (h : w.ownsRow base e 1 (.slice A n c) n (l.map bv)) : rpU8.sl w (fun k => some k = (Value.slice A n c).ownBlock) A n c l := by
  have hlen : l.length = n := by have := h.1; simpa using this
  subst hlen
  rcases h.2 with ⟨hv, h0⟩ | ⟨g, cap, cur, hv, hg, hh, hnc, hcm, hcs, htake⟩
  · injection hv with h1 _ h3
    subst h1; subst h3
    rw [h0]
    obtain rfl := List.eq_nil_of_length_eq_zero h0
    exact Rp.sl_nil _ _ _ _ _ (by decide)
  · injection hv with h1 _ h3
    subst h1; subst h3
    refine Rp.sl_more (bytes_of_cells (cs := cur) (fun i => cell_of_row w g i cur e (0, 0) hh) (fun i x hx => ?_) rfl hnc hcm) (fun k hk => by subst hk; rfl)
    have hi : (l.map bv)[i]? = some (bv x) := by rw [List.getElem?_map, hx]; rfl
    rw [← htake, List.getElem?_take] at hi
    split at hi
    · simpa [bv] using hi
    · cases hi

theorem byte_of {v : Int} (h0 : 0 ≤ v) (h1 : v < 256) : ∃ u : UInt8, v = (u.toNat : Int) := by
  refine ⟨UInt8.ofNat v.toNat, ?_⟩
  rw [UInt8.toNat_ofNat']
  omega
theorem Src.new (w : World) (v : Value) (e : TypeId) (h1 : v.oneCell' = true) : Src (w.alloc (.cells #[v] e)) (some ⟨w.heap.size, 0, none⟩) 1 1 [v] :=
  Src.one (by rw [(Blk.new w e #[v]).cell 0]; rfl) h1
/-- One byte appended, out of the block that was laid last. -/
theorem wpList_push_byte {P : Program} {ops : Array Oper} {rest : List Oper} {o : Oper} {a : Act} {w : World} {Q : Exit → Act → World → Prop} (hgd : o.guard = none) (s x : Operand) (t : TypeId)
    (ho : o.op = .call { callee := .builtin .append, args := #[s, x], argTypes := #[t, t] }) {e : TypeId} (E : Elem P t e 1 1)
    {base : Nat} {v : Value} {n : Nat} {l : List UInt8} (hs : a.eval s = v) (hown : w.ownsRow base e 1 v n (l.map bv)) (hn : n + 1 ≤ 140737488355328) (hbase : base ≤ w.heap.size)
    {x0 : Int} {e' : TypeId} (hx : a.eval x = .slice (some ⟨w.heap.size, 0, none⟩) 1 1) (h0 : 0 ≤ x0) (h1 : x0 < 256)
    (h : ∀ (u : UInt8) A' c' w', x0 = (u.toNat : Int) → w'.ownsRow base e 1 (.slice A' (n + 1) c') (n + 1) ((l ++ [u]).map bv) → w.grownBy w' v.ownBlock → ((Value.slice A' (n + 1) c').ownBlock = v.ownBlock ∨ w.heap.size ≤ (((Value.slice A' (n + 1) c').ownBlock).getD 0)) →
      wpList P ops Q rest (a.put o.dst (.slice A' (n + 1) c')) w') : wpList P ops Q (o :: rest) a (w.alloc (.cells #[.int .u8 x0] e')) := by
  obtain ⟨u, rfl⟩ := byte_of h0 h1
  have hm : n + 1 ≤ maxLen := by unfold maxLen; omega
  refine wpList_app hgd s x t ho E hs (hown.alloc _) hx (Src.new w _ e' rfl) hm (by omega) (by simp; omega) (fun A' c' w' h2 h3 h4 => h u A' c' w' rfl (by simpa [bv] using h2) ?_ ?_)
  · exact ⟨h3.os, h3.tape, h3.output, by have := h3.size; simp at this; omega, fun k hk hne => (h3.block k (by simp; omega) hne).trans (Below.heap_alloc w _ k hk)⟩
  · rcases h4 with h4 | h4
    · exact .inl h4
    · right; rw [h4]; simp
theorem bits_u8 (op : BinOp) (a b : Int) (h : op = .xor ∨ op = .and ∨ op = .or) : 0 ≤ bits op .u8 a b ∧ bits op .u8 a b < 256 := by
  rcases h with rfl | rfl | rfl <;> (simp only [bits, IntKind.wrap_u8]; omega)
theorem xor_u8 (a b : UInt8) : bits .xor .u8 (a.toNat : Int) (b.toNat : Int) = ((a ^^^ b).toNat : Int) := by
  rw [u8_xor_nat _ _ a.toNat_lt b.toNat_lt, UInt8.toNat_xor]
theorem own_ne {w : World} {v v' y : Value} {base : Nat} {e : TypeId} {size n : Nat} {ys : List Value} (hy : w.ownsRow base e size y n ys) (hne : y.ownBlock = none ∨ y.ownBlock ≠ v.ownBlock)
    (hat : v'.ownBlock = v.ownBlock ∨ w.heap.size ≤ v'.ownBlock.getD 0) : y.ownBlock = none ∨ y.ownBlock ≠ v'.ownBlock := by
  rcases hat with h | h
  · rw [h]; exact hne
  · cases hb : y.ownBlock with
    | none => exact .inl rfl
    | some g =>
      right
      intro he
      have := (hy.lt g hb).2
      rw [← he] at h
      simp at h
      omega
theorem ne_swap {a b : Option Nat} (h : a = none ∨ a ≠ b) : b = none ∨ b ≠ a := by
  cases b with
  | none => exact .inl rfl
  | some g =>
    right
    rcases h with rfl | h
    · simp
    · exact fun e => h e.symm

/-- One byte appended, as a step of a region that draws its order; the world as it stands. -/
theorem step_push_byte {P : Program} {ops : Array Oper} {o : Oper} {a : Act} {w : World} {K : Act → World → Prop} {Q : Exit → Act → World → Prop} {F : Prop} (hgd : o.guard = none) (s x : Operand) (t : TypeId)
    (ho : o.op = .call { callee := .builtin .append, args := #[s, x], argTypes := #[t, t] }) {e : TypeId} (E : Elem P t e 1 1)
    {base : Nat} {v : Value} {n : Nat} {l : List UInt8} (hs : a.eval s = v) (hown : w.ownsRow base e 1 v n (l.map bv)) (hn : n + 1 ≤ 140737488355328) (hbase : base ≤ w.heap.size)
    {x0 : Int} {g : Nat} (hx : a.eval x = .slice (some ⟨g, 0, none⟩) 1 1) (hc : w.cell? ⟨g, 0, none⟩ = some (.int .u8 x0)) (h0 : 0 ≤ x0) (h1 : x0 < 256)
    (h : ∀ (u : UInt8) A' c' w', x0 = (u.toNat : Int) → w'.ownsRow base e 1 (.slice A' (n + 1) c') (n + 1) ((l ++ [u]).map bv) → w.grownBy w' v.ownBlock → ((Value.slice A' (n + 1) c').ownBlock = v.ownBlock ∨ (Value.slice A' (n + 1) c').ownBlock = some w.heap.size) →
      K (a.put o.dst (.slice A' (n + 1) c')) w') : if Region.wanted o (yielded ops a.tmps) = true then Oper.wp P o a w K Q else F := by
  have hw : Region.wanted o (yielded ops a.tmps) = true := by simp [Region.wanted, hgd]
  rw [if_pos hw]
  obtain ⟨u, rfl⟩ := byte_of h0 h1
  have hm : n + 1 ≤ maxLen := by unfold maxLen; omega
  obtain ⟨A', c', w', hr, h2, h3, h4⟩ := run_app (P := P) E _ o.type hown (Src.one hc rfl) hm (by omega) hbase (c := 1)
  unfold Oper.wp execOp
  simp only [ho, resolve, invoke, builtin, Sem.run_bind, Sem.run_pure, Result.andThen_ok, List.map_toArray, List.map_cons, List.map_nil, hs, hx, hr]
  exact h u A' c' w' rfl (by simpa [bv] using h2) h3 h4

/-- An own row of one-cell elements, an element of which is written. -/
theorem own_block {w : World} {base : Nat} {e : TypeId} {A : Option Addr} {n c : Nat} {xs : List Value} (h : w.ownsRow base e 1 (.slice A n c) n xs) (hn : 0 < n) :
    ∃ g, A = some ⟨g, 0, none⟩ ∧ base ≤ g ∧ g < w.heap.size ∧ (∀ i, w.frozen? ⟨g, i, none⟩ = false) ∧ (∀ i u, xs[i]? = some u → w.cell? ⟨g, i, none⟩ = some u) ∧
      ∀ q u, q < n → (w.setCell ⟨g, q, none⟩ u).ownsRow base e 1 (.slice A n c) n (xs.set q u) := by
  rcases h.2 with ⟨_, h0⟩ | ⟨g, cap, cur, hv, hg, hh, hnc, hcm, hcs, htake⟩
  · omega
  · injection hv with h1 _ h3
    subst h1; subst h3
    have hblk : Blk w g e cur := hh
    refine ⟨g, rfl, hg, hblk.lt, hblk.frozen, fun i u hu => ?_, fun q u hq => ?_⟩
    · rw [hblk.cell]
      rw [← htake, List.getElem?_take] at hu
      split at hu
      · simpa using hu
      · cases hu
    · refine ⟨by rw [List.length_set]; exact h.1, .inr ⟨g, c, cur.setIfInBounds q u, rfl, hg, hblk.put q u, hnc, hcm, by simpa using hcs, ?_⟩⟩
      rw [Array.toList_setIfInBounds, List.take_set, htake]

/-- A slice of slices: the slice at a place. -/
theorem rows_at {α : Type} {r : Rp α} {w : World} {D : Dom} {A : Option Addr} {n c : Nat} {l : List (List α)} (h : (rpSlice r).sl w D A n c l) {k : Nat} (hk : k < n) :
    ∃ b off x A' c', A = some ⟨b, off, none⟩ ∧ D b ∧ l[k]? = some x ∧ w.cell? ⟨b, off + k, none⟩ = some (.slice A' x.length c') ∧ r.sl w D A' x.length c' x := by
  obtain ⟨b, off, x, cs, hA, hb, hx, hc, hg⟩ := Rp.sl_at h hk
  obtain ⟨A', c', rfl, hs⟩ := Rp.sl_form hc
  have := hg 0 _ rfl
  exact ⟨b, off, x, A', c', hA, hb, hx, by simpa [rpSlice] using this, hs⟩

section
variable {P : Program}
/-- A struct or an array read from wherever its cells stand. -/
theorem run_loadVar_at (w : World) (a : Addr) (ty : TypeId) (cs : Array Value) (d : TypeDesc) (hc : ∀ j v, cs[j]? = some v → w.cell? (a.add j) = some v)
    (hu : P.underlying ty = some d) (hd : (match d with | .struct _ | .array _ _ => true | _ => false) = true) (hi : (P.info? ty).map (·.size) = some cs.size) :
    (loadVar ty a).run P w = .ok (.agg cs) w := by
  have hl : (loadCells a cs.toList.length).run P w = .ok cs.toList.toArray w :=
    run_loadCells_list (P := P) w a cs.toList (fun j v hv => hc j v (by simpa using hv))
  cases hq : P.info? ty with
  | none => simp [hq] at hi
  | some i =>
    have hs : i.size = cs.size := by simpa [hq] using hi
    have hagg : (isAgg ty).run P w = .ok true w := by
      unfold isAgg
      rw [Sem.run_bind, run_underlying hu w]
      cases d <;> simp_all
    simp only [Array.length_toList, Array.toArray_toList] at hl
    simp [loadVar, Sem.run_bind, hagg, sizeOf, typeInfo, hq, hs, hl]
theorem wpList_load_at {ops : Array Oper} {rest : List Oper} {o : Oper} {a : Act} {w : World} {Q : Exit → Act → World → Prop} (hgd : o.guard = none) (ty : TypeId) (x : Operand) (ho : o.op = .load ty x)
    (ad : Addr) (hx : a.eval x = .pointer (some ad)) (cs : Array Value) (d : TypeDesc) (hc : ∀ j v, cs[j]? = some v → w.cell? (ad.add j) = some v)
    (hu : P.underlying ty = some d) (hd : (match d with | .struct _ | .array _ _ => true | _ => false) = true) (hi : (P.info? ty).map (·.size) = some cs.size)
    (h : wpList P ops Q rest (a.put o.dst (.agg cs)) w) : wpList P ops Q (o :: rest) a w := by
  refine wpList_plain hgd fun K hK => ?_
  unfold Oper.wp execOp
  simp only [ho, hx, Instr.loadAt, Instr.sureAddr, Sem.run_bind, Sem.run_pure, Result.andThen_ok, run_loadVar_at w ad ty cs d hc hu hd hi]
  exact hK _ _ h
end
theorem add_plain (b off j : Nat) : (⟨b, off, none⟩ : Addr).add j = ⟨b, off + j, none⟩ := by unfold Addr.add; split <;> simp_all

/-- The worlds that have grown from w: what lay below B lies as it lay. -/
structure Gr (B : Nat) (w : World) : Type where
  val : World
  is : Below B w val
instance (B : Nat) (w : World) : Nonempty (Gr B w) := ⟨⟨w, Below.refl _ _⟩⟩
theorem wp_region_grow {P : Program} {id : Nat} {Q : Exit → Act → World → Prop} {a : Act} {w : World} {l : List Oper} (hm : P.follows .mixedOrders = true) (hB : Region.lexB .any l.toArray = true) (B : Nat)
    (h : wpQuiet P l.toArray (fun w' => ∃ x : Gr B w, w' = x.val) (fun a' => ∀ w', (∃ x : Gr B w, w' = x.val) → Q .normal a' w') l a) : (Code.region id l.toArray true).wp P Q a w :=
  wp_region_quiet (C := fun w' => ∃ x : Gr B w, w' = x.val) hm hB ⟨⟨w.drew, (Below.refl _ _).drew⟩, rfl⟩ (by simpa using h)
theorem Gr.call {P : Program} {f : FuncId} {args : Array Value} {B : Nat} {w : World} (x : Gr B w) (hB : B ≤ w.heap.size) {v : Value}
    (h : Calls P f args x.val fun e w' => e = .returned v ∧ Below x.val.heap.size x.val w') : Calls P f args x.val fun e w'' => e = .returned v ∧ ∃ y : Gr B w, w'' = y.val :=
  h.mono fun _ w' ⟨he, hb⟩ => ⟨he, ⟨w', x.is.trans (hb.mono (Nat.le_trans hB x.is.size))⟩, rfl⟩
theorem Gr.same {P : Program} {f : FuncId} {args : Array Value} {B : Nat} {w : World} (x : Gr B w) {v : Value}
    (h : Calls P f args x.val fun e w' => e = .returned v ∧ x.val = w') : Calls P f args x.val fun e w'' => e = .returned v ∧ ∃ y : Gr B w, w'' = y.val :=
  h.mono fun _ w' ⟨he, hb⟩ => ⟨he, x, hb.symm⟩
end Go.Proofs.Ytnihaaifkogpbaa
