/-
  The law of this claim, part 1 of its proof: the parts Core, VarM, Step, Cur, Cur2, CodM, CodN, StpM, Stp.
-/
import Derived.WalkKit
import Derived.ProofKit
import Derived.Below
import Derived.Lib.Hide
import Derived.Laws.OwnMore
import Derived.Deep.Draws
import Derived.Deep.AppendLies
import Derived.Lib.SlBytesConst
import Derived.Maps.AppendAt
import Derived.Deep.RegionHeld3
import Derived.Deep.RegionLaw
import Derived.Deep.QuietTactic
import Derived.BigQuiet
import Derived.Test.YtmdgmnaaopineaaRows
import Derived.StillTailTactics
import Derived.IntWalk
/-
  Plain words for memory, used by all walks of this seat: how a value of Go reads as plain data in a world, and that such a reading stays while what lies below a block number stays.
-/
namespace Go.Proofs.Ytmdgmnaaopineaa
open Go.RowKit
set_option linter.unusedVariables false

/-- A set of blocks. -/
abbrev Dom := Nat → Prop
def Same (D : Dom) (w w' : World) : Prop := ∀ k, D k → w'.heap[k]? = w.heap[k]?
theorem Same.cell {D : Dom} {w w' : World} (h : Same D w w') {p : Addr} (hp : D p.block) : w'.cell? p = w.cell? p :=
  World.cell?_of_block (w := w) (h p.block hp)
def lt (B : Nat) : Dom := fun k => k < B
/-- Of the blocks that were there only those of F may hold something else. -/
structure Chg (F : Dom) (w w' : World) : Prop where
  os : w'.os = w.os
  tape : w'.tape = w.tape
  output : w'.output = w.output
  size : w.heap.size ≤ w'.heap.size
  block : ∀ k, k < w.heap.size → ¬ F k → w'.heap[k]? = w.heap[k]?
theorem Chg.refl (F : Dom) (w : World) : Chg F w w := ⟨rfl, rfl, rfl, Nat.le_refl _, fun _ _ _ => rfl⟩
theorem Chg.trans {F : Dom} {a b c : World} (h : Chg F a b) (k : Chg F b c) : Chg F a c :=
  ⟨k.os.trans h.os, k.tape.trans h.tape, k.output.trans h.output, Nat.le_trans h.size k.size, fun i hi hn => (k.block i (Nat.lt_of_lt_of_le hi h.size) hn).trans (h.block i hi hn)⟩
theorem Chg.more {F G : Dom} {w w' : World} (h : Chg F w w') (hG : ∀ k, k < w.heap.size → F k → G k) : Chg G w w' :=
  ⟨h.os, h.tape, h.output, h.size, fun k hk hn => h.block k hk (fun hf => hn (hG k hk hf))⟩
theorem Chg.of_below {B : Nat} {w w' : World} (h : Below B w w') : Chg (fun k => B ≤ k) w w' := ⟨h.os, h.tape, h.output, h.size, fun k _ hn => h.block k (by omega)⟩
theorem Chg.of_pure {w w' : World} (h : Below w.heap.size w w') (F : Dom) : Chg F w w' := ⟨h.os, h.tape, h.output, h.size, fun k hk _ => h.block k hk⟩
theorem Chg.of_grown {w w' : World} {row : Option Nat} (h : w.grownBy w' row) : Chg (fun k => some k = row) w w' := ⟨h.os, h.tape, h.output, h.size, fun k hk hn => h.block k hk hn⟩
theorem Chg.below {F : Dom} {B : Nat} {w w' : World} (h : Chg F w w') (hB : B ≤ w.heap.size) (hF : ∀ k, F k → B ≤ k) : Below B w w' :=
  ⟨h.os, h.tape, h.output, h.size, fun k hk => h.block k (by omega) (fun hf => by have := hF k hf; omega)⟩
theorem Chg.same {F D : Dom} {w w' : World} (h : Chg F w w') (hD : ∀ k, D k → k < w.heap.size) (hn : ∀ k, D k → ¬ F k) : Same D w w' := fun k hk => h.block k (hD k hk) (hn k hk)
theorem Chg.alloc {F : Dom} {a w : World} (h : Chg F a w) (o : Obj) : Chg F a (w.alloc o) :=
  h.trans ⟨rfl, rfl, rfl, by simp, fun k hk _ => Below.heap_alloc _ _ _ hk⟩
theorem Chg.drew {F : Dom} {a w : World} (h : Chg F a w) : Chg F a w.drew := ⟨h.os, h.tape, h.output, h.size, h.block⟩
theorem Chg.setCell {F : Dom} {a w : World} (h : Chg F a w) {p : Addr} (hp : F p.block ∨ a.heap.size ≤ p.block) (u : Value) : Chg F a (w.setCell p u) :=
  ⟨h.os, h.tape, h.output, by simpa [World.setCell] using h.size, fun k hk hn => (Below.heap_setCell _ _ _ _ (by
    rintro rfl
    rcases hp with hp | hp
    · exact hn hp
    · omega)).trans (h.block k hk hn)⟩
theorem Same.of_below {D : Dom} {B : Nat} {w w' : World} (h : Below B w w') (hD : ∀ k, D k → k < B) : Same D w w' := fun k hk => h.block k (hD k hk)
theorem Same.refl (D : Dom) (w : World) : Same D w w := fun _ _ => rfl

/-- How plain data of type α stand in a row of cells: the row has 'size' cells; a reading lies in the blocks of a set D and stays while these stay. -/
structure Rp (α : Type) where
  size : Nat
  ok : World → Dom → α → List Value → Prop
  len : ∀ {w D x vs}, ok w D x vs → vs.length = size
  keep : ∀ {w w' D x vs}, ok w D x vs → Same D w w' → ok w' D x vs
  more : ∀ {w D D' x vs}, ok w D x vs → (∀ k, D k → D' k) → ok w D' x vs
  one : ∀ {w D x vs}, ok w D x vs → ∀ u ∈ vs, u.oneCell' = true

section
variable {α β : Type}
theorem Rp.below (r : Rp α) {w w' : World} {D : Dom} {B : Nat} {x : α} {vs : List Value} (h : r.ok w D x vs) (hb : Below B w w') (hD : ∀ k, D k → k < B) : r.ok w' D x vs :=
  r.keep h (Same.of_below hb hD)

def rpU8 : Rp UInt8 where
  size := 1
  ok := fun _ _ x vs => vs = [.int .u8 (x.toNat : Int)]
  len := by rintro w D x vs rfl; rfl
  keep := fun h _ => h
  more := fun h _ => h
  one := by rintro w D x vs rfl u hu; simp only [List.mem_singleton] at hu; subst hu; rfl
def rpU32 : Rp (BitVec 32) where
  size := 1
  ok := fun _ _ x vs => vs = [.int .u32 (x.toNat : Int)]
  len := by rintro w D x vs rfl; rfl
  keep := fun h _ => h
  more := fun h _ => h
  one := by rintro w D x vs rfl u hu; simp only [List.mem_singleton] at hu; subst hu; rfl
def rpU64 : Rp Nat where
  size := 1
  ok := fun _ _ x vs => vs = [.int .u64 (x : Int)] ∧ x < 18446744073709551616
  len := by rintro w D x vs ⟨rfl, _⟩; rfl
  keep := fun h _ => h
  more := fun h _ => h
  one := by rintro w D x vs ⟨rfl, _⟩ u hu; simp only [List.mem_singleton] at hu; subst hu; rfl
def rpInt : Rp Int where
  size := 1
  ok := fun _ _ x vs => vs = [.int .i64 x] ∧ -9223372036854775808 ≤ x ∧ x < 9223372036854775808
  len := by rintro w D x vs ⟨rfl, _⟩; rfl
  keep := fun h _ => h
  more := fun h _ => h
  one := by rintro w D x vs ⟨rfl, _⟩ u hu; simp only [List.mem_singleton] at hu; subst hu; rfl
def rpBool : Rp Bool where
  size := 1
  ok := fun _ _ x vs => vs = [.bool x]
  len := by rintro w D x vs rfl; rfl
  keep := fun h _ => h
  more := fun h _ => h
  one := by rintro w D x vs rfl u hu; simp only [List.mem_singleton] at hu; subst hu; rfl
def rpPair (r : Rp α) (s : Rp β) : Rp (α × β) where
  size := r.size + s.size
  ok := fun w D x vs => ∃ a b, vs = a ++ b ∧ r.ok w D x.1 a ∧ s.ok w D x.2 b
  len := by rintro w D x vs ⟨a, b, rfl, ha, hb⟩; rw [List.length_append, r.len ha, s.len hb]
  keep := by rintro w w' D x vs ⟨a, b, rfl, ha, hb⟩ h; exact ⟨a, b, rfl, r.keep ha h, s.keep hb h⟩
  more := by rintro w D D' x vs ⟨a, b, rfl, ha, hb⟩ h; exact ⟨a, b, rfl, r.more ha h, s.more hb h⟩
  one := by
    rintro w D x vs ⟨a, b, rfl, ha, hb⟩ u hu
    rcases List.mem_append.1 hu with h | h
    · exact r.one ha u h
    · exact s.one hb u h
def rpVia (f : β → α) (r : Rp α) : Rp β where
  size := r.size
  ok := fun w D x vs => r.ok w D (f x) vs
  len := fun h => r.len h
  keep := fun h k => r.keep h k
  more := fun h k => r.more h k
  one := fun h => r.one h

/-- A row of n elements from an address on. -/
def Rp.row (r : Rp α) (w : World) (D : Dom) (b off : Nat) (l : List α) : Prop :=
  ∀ i x, l[i]? = some x → ∃ cs, r.ok w D x cs ∧ ∀ j u, cs[j]? = some u → w.cell? ⟨b, off + i * r.size + j, none⟩ = some u

theorem Rp.row_keep (r : Rp α) {w w' : World} {D : Dom} {b off : Nat} {l : List α} (h : r.row w D b off l) (hb : D b) (k : Same D w w') : r.row w' D b off l := by
  intro i x hx
  obtain ⟨cs, hc, hg⟩ := h i x hx
  exact ⟨cs, r.keep hc k, fun j u hu => (k.cell hb).trans (hg j u hu)⟩

/-- A slice whose elements read as a list. -/
def rpSlice (r : Rp α) : Rp (List α) where
  size := 1
  ok := fun w D l vs => ∃ A c, vs = [.slice A l.length c] ∧ l.length ≤ c ∧ c ≤ maxLen ∧
    (0 < l.length → ∃ b off, A = some ⟨b, off, none⟩ ∧ D b ∧ r.row w D b off l)
  len := by rintro w D x vs ⟨A, c, rfl, _⟩; rfl
  keep := by
    rintro w w' D l vs ⟨A, c, rfl, h1, h2, h3⟩ k
    refine ⟨A, c, rfl, h1, h2, fun hn => ?_⟩
    obtain ⟨b, off, rfl, hb, hr⟩ := h3 hn
    exact ⟨b, off, rfl, hb, r.row_keep hr hb k⟩
  more := by
    rintro w D D' l vs ⟨A, c, rfl, h1, h2, h3⟩ k
    refine ⟨A, c, rfl, h1, h2, fun hn => ?_⟩
    obtain ⟨b, off, rfl, hb, hr⟩ := h3 hn
    refine ⟨b, off, rfl, k _ hb, fun i x hx => ?_⟩
    obtain ⟨cs, hc, hg⟩ := hr i x hx
    exact ⟨cs, r.more hc k, hg⟩
  one := by
    rintro w D x vs ⟨A, c, rfl, _⟩ u hu
    simp only [List.mem_singleton] at hu
    subst hu; rfl

/-- The same, the slice's parts named. -/
def Rp.sl (r : Rp α) (w : World) (D : Dom) (A : Option Addr) (n c : Nat) (l : List α) : Prop := (rpSlice r).ok w D l [.slice A n c]

theorem Rp.sl_len {r : Rp α} {w : World} {D : Dom} {A : Option Addr} {n c : Nat} {l : List α} (h : r.sl w D A n c l) : l.length = n ∧ n ≤ c ∧ c ≤ maxLen := by
  obtain ⟨A', c', he, h1, h2, _⟩ := h
  simp only [List.cons.injEq, Value.slice.injEq, and_true] at he
  obtain ⟨rfl, rfl, rfl⟩ := he
  exact ⟨rfl, h1, h2⟩
theorem Rp.sl_form {r : Rp α} {w : World} {D : Dom} {vs : List Value} {l : List α} (h : (rpSlice r).ok w D l vs) : ∃ A c, vs = [.slice A l.length c] ∧ r.sl w D A l.length c l := by
  obtain ⟨A, c, rfl, hh⟩ := h
  exact ⟨A, c, rfl, A, c, rfl, hh⟩
theorem Rp.sl_at {r : Rp α} {w : World} {D : Dom} {A : Option Addr} {n c : Nat} {l : List α} (h : r.sl w D A n c l) {k : Nat} (hk : k < n) :
    ∃ b off x cs, A = some ⟨b, off, none⟩ ∧ D b ∧ l[k]? = some x ∧ r.ok w D x cs ∧ ∀ j u, cs[j]? = some u → w.cell? ⟨b, off + k * r.size + j, none⟩ = some u := by
  obtain ⟨A', c', he, h1, h2, h3⟩ := h
  simp only [List.cons.injEq, Value.slice.injEq, and_true] at he
  obtain ⟨rfl, rfl, rfl⟩ := he
  obtain ⟨b, off, rfl, hb, hr⟩ := h3 (by omega)
  obtain ⟨cs, hc, hg⟩ := hr k l[k] (List.getElem?_eq_getElem hk)
  exact ⟨b, off, l[k], cs, rfl, hb, List.getElem?_eq_getElem hk, hc, hg⟩
theorem Rp.sl_below {r : Rp α} {w w' : World} {D : Dom} {B : Nat} {A : Option Addr} {n c : Nat} {l : List α} (h : r.sl w D A n c l) (hb : Below B w w') (hD : ∀ k, D k → k < B) : r.sl w' D A n c l :=
  (rpSlice r).below h hb hD
theorem Rp.sl_keep {r : Rp α} {w w' : World} {D : Dom} {A : Option Addr} {n c : Nat} {l : List α} (h : r.sl w D A n c l) (hb : Same D w w') : r.sl w' D A n c l :=
  (rpSlice r).keep h hb
theorem Rp.sl_more {r : Rp α} {w : World} {D D' : Dom} {A : Option Addr} {n c : Nat} {l : List α} (h : r.sl w D A n c l) (hD : ∀ k, D k → D' k) : r.sl w D' A n c l :=
  (rpSlice r).more h hD
theorem Rp.sl_nil (r : Rp α) (w : World) (D : Dom) (A : Option Addr) (c : Nat) (hc : c ≤ maxLen) : r.sl w D A 0 c [] :=
  ⟨A, c, rfl, Nat.zero_le _, hc, fun h => absurd h (by simp)⟩
/-- A cut 's[i:j]' of a slice. -/
theorem Rp.sl_cut {r : Rp α} {w : World} {D : Dom} {b off n c : Nat} {l : List α} (h : r.sl w D (some ⟨b, off, none⟩) n c l) {i j c' : Nat} (hij : i ≤ j) (hj : j ≤ n) (hc : j - i ≤ c') (hc' : c' ≤ maxLen) :
    r.sl w D (some ⟨b, off + i * r.size, none⟩) (j - i) c' ((l.take j).drop i) := by
  obtain ⟨A', c0, he, h1, h2, h3⟩ := h
  simp only [List.cons.injEq, Value.slice.injEq, and_true] at he
  obtain ⟨rfl, rfl, rfl⟩ := he
  have hlen : ((l.take j).drop i).length = j - i := by rw [List.length_drop, List.length_take]; omega
  refine ⟨_, c', by rw [hlen], by rw [hlen]; exact hc, hc', fun hp => ?_⟩
  obtain ⟨b', off', hA, hb, hr⟩ := h3 (by omega)
  simp only [Option.some.injEq, Addr.mk.injEq, and_true] at hA
  obtain ⟨rfl, rfl⟩ := hA
  refine ⟨_, _, rfl, hb, fun q x hq => ?_⟩
  have hx : l[i + q]? = some x := by
    rw [List.getElem?_drop, List.getElem?_take] at hq
    split at hq
    · exact hq
    · cases hq
  obtain ⟨cs, hok, hcell⟩ := hr (i + q) x hx
  refine ⟨cs, hok, fun k u hu => ?_⟩
  have := hcell k u hu
  rw [Nat.add_mul] at this
  rw [← this]
  congr 2
  omega
end

/-- A block that is known whole: cells cs of element type t, none frozen. -/
def Blk (w : World) (g : Nat) (t : TypeId) (cs : Array Value) : Prop := w.heap[g]? = some (.cells cs t (0, 0))
section
variable {w w' : World} {g : Nat} {t : TypeId} {cs : Array Value}
theorem Blk.lt (h : Blk w g t cs) : g < w.heap.size := (Array.getElem?_eq_some_iff.1 h).1
theorem Blk.cell (h : Blk w g t cs) (i : Nat) : w.cell? ⟨g, i, none⟩ = cs[i]? := cell_of_row w g i cs t (0, 0) h
theorem Blk.frozen (h : Blk w g t cs) (i : Nat) : w.frozen? ⟨g, i, none⟩ = false := frozen_of_row w g i cs t h
theorem Blk.new (w : World) (t : TypeId) (cs : Array Value) : Blk (w.alloc (.cells cs t)) w.heap.size t cs := heap_alloc_new w _
theorem Blk.alloc (h : Blk w g t cs) (o : Obj) : Blk (w.alloc o) g t cs := (Below.heap_alloc w o g h.lt).trans h
theorem Blk.put (h : Blk w g t cs) (i : Nat) (u : Value) : Blk (w.setCell ⟨g, i, none⟩ u) g t (cs.setIfInBounds i u) := by
  unfold Blk at h ⊢
  simp [World.setCell, Array.getElem?_modify, h]
theorem Blk.far (h : Blk w g t cs) {p : Addr} (hp : g ≠ p.block) (u : Value) : Blk (w.setCell p u) g t cs := (Below.heap_setCell w p u g hp).trans h
theorem Blk.below {B : Nat} (h : Blk w g t cs) (hb : Below B w w') (hg : g < B) : Blk w' g t cs := (hb.block g hg).trans h
theorem Blk.grown {row : Option Nat} (h : Blk w g t cs) (hb : w.grownBy w' row) (hg : some g ≠ row) : Blk w' g t cs := (hb.block g h.lt hg).trans h
theorem Blk.rowSet (h : Blk w g t cs) (cs' : Array Value) : Blk (w.setRow g cs') g t cs' := setRow_heap w g cs cs' t (0, 0) h
theorem Blk.rowFar (h : Blk w g t cs) {g' : Nat} (hne : g ≠ g') (cs' : Array Value) : Blk (w.setRow g' cs') g t cs := (setRow_other w g' g cs' hne).trans h
end
theorem below_setRow {B : Nat} {a w : World} (h : Below B a w) {g : Nat} (hg : B ≤ g) (cs : Array Value) : Below B a (w.setRow g cs) :=
  h.trans ⟨rfl, rfl, rfl, by simp [World.setRow], fun k hk => setRow_other w g k cs (by omega)⟩

section
variable {P : Program} {ops : Array Oper} {rest : List Oper} {o : Oper} {a : Act} {w : World} {Q : Exit → Act → World → Prop}
theorem grown_setRow (w : World) (g : Nat) (cs : Array Value) : w.grownBy (w.setRow g cs) (some g) :=
  ⟨rfl, rfl, rfl, by simp [World.setRow], fun k _ hk => setRow_other w g k cs (fun e => hk (by rw [e]))⟩
theorem grown_setCell (w : World) (p : Addr) (u : Value) : w.grownBy (w.setCell p u) (some p.block) :=
  ⟨rfl, rfl, rfl, by simp [World.setCell], fun k _ hk => Below.heap_setCell w p u k (fun e => hk (by rw [e]))⟩
/-- A whole array or struct stored into a block of its size: the world behind it under a name. -/
theorem wpList_put_row (hgd : o.guard = none) (ty : TypeId) (x y : Operand) (ho : o.op = .store ty x y)
    (g : Nat) (cells : Array Value) (hx : a.eval x = .pointer (some ⟨g, 0, none⟩)) (hy : a.eval y = .agg cells)
    (t : TypeId) (old : Array Value) (hg : Blk w g t old) (hi : (P.info? ty).map (·.size) = some cells.size)
    (hold : old.size = cells.size) (h1 : cells.all (·.oneCell') = true)
    (h : ∀ w', Blk w' g t cells → w.grownBy w' (some g) → wpList P ops Q rest (a.put o.dst undef) w') : wpList P ops Q (o :: rest) a w :=
  wpList_store_row hgd ty x y ho g cells hx hy t old hg hi hold h1 (h _ (hg.rowSet _) (grown_setRow w g cells))
end

/-- Bytes: the cell at a place. -/
theorem bytes_at {w : World} {D : Dom} {A : Option Addr} {n c : Nat} {l : List UInt8} (h : rpU8.sl w D A n c l) {k : Nat} (hk : k < n) :
    ∃ b off x, A = some ⟨b, off, none⟩ ∧ D b ∧ l[k]? = some x ∧ w.cell? ⟨b, off + k, none⟩ = some (.int .u8 (x.toNat : Int)) := by
  obtain ⟨b, off, x, cs, hA, hb, hx, hc, hg⟩ := Rp.sl_at h hk
  have hc' : cs = [.int .u8 (x.toNat : Int)] := hc
  subst hc'
  have := hg 0 _ rfl
  exact ⟨b, off, x, hA, hb, hx, by simpa [rpU8] using this⟩

/-- A row of bytes in a block of its own. -/
theorem bytes_of_cells {w : World} {g : Nat} {l : List UInt8} {cs : Array Value} (h : ∀ i, w.cell? ⟨g, i, none⟩ = cs[i]?) (hcs : ∀ (i : Nat) (x : UInt8), l[i]? = some x → cs[i]? = some (Value.int .u8 (x.toNat : Int))) {n c : Nat} (hn : l.length = n) (hnc : n ≤ c) (hc : c ≤ maxLen) :
    rpU8.sl w (fun k => k = g) (some ⟨g, 0, none⟩) n c l := by
  subst hn
  refine ⟨_, c, rfl, hnc, hc, fun _ => ⟨g, 0, rfl, rfl, fun i x hx => ⟨_, rfl, fun j u hu => ?_⟩⟩⟩
  have hj : j = 0 := by
    rcases Nat.eq_zero_or_pos j with h0 | h0
    · exact h0
    · rw [List.getElem?_eq_none (by simp; omega)] at hu; cases hu
  subst hj
  simp only [List.getElem?_cons_zero, Option.some.injEq] at hu
  subst hu
  have := h (0 + i * rpU8.size + 0)
  rw [this]
  simpa [rpU8] using hcs i x hx

/-- Bytes read as a string. -/
theorem run_bytes_string {P : Program} {w : World} {D : Dom} {A : Option Addr} {n c : Nat} {l : List UInt8} (h : rpU8.sl w D A n c l) (src dst e : TypeId)
    (hs : P.underlying src = some (.slice e)) (he : P.underlying e = some (.int .u8)) (hd : P.underlying dst = some .string) :
    (convert src dst (.slice A n c)).run P w = .ok (.string ⟨l.toArray⟩) w := by
  obtain ⟨hlen, _, _⟩ := Rp.sl_len h
  rw [run_convert_bytes_string w src dst e A n c hs he hd]
  rcases A with _ | a
  · have h0 : n = 0 := by
      rcases Nat.eq_zero_or_pos n with h0 | h0
      · exact h0
      · obtain ⟨b, off, x, hA, _⟩ := bytes_at h h0
        cases hA
    subst h0
    obtain rfl := List.eq_nil_of_length_eq_zero hlen
    simp [Conv.bytesToString]
    rfl
  · have hl : (loadCells a n).run P w = .ok (((l.map fun x => (x.toNat : Int)).map (Value.int .u8)).toArray) w := by
      have := run_loadCells_list (P := P) w a ((l.map fun x => (x.toNat : Int)).map (Value.int .u8)) (fun j v hj => by
        have hjl : j < n := by
          rw [← hlen]
          rcases Nat.lt_or_ge j l.length with h | h
          · exact h
          · simp [List.getElem?_eq_none h] at hj
        obtain ⟨b, off, x, hA, _, hx, hc⟩ := bytes_at h hjl
        injection hA with hA
        subst hA
        have hplain : (⟨b, off, none⟩ : Addr).add j = ⟨b, off + j, none⟩ := by unfold Addr.add; split <;> simp_all
        rw [hplain, hc]
        simp [hx] at hj
        rw [hj])
      simpa [hlen] using this
    rw [run_bytesToString w a n c _ hl, foldl_push_byteCells]
    have e0 : (ByteArray.empty : ByteArray).data = #[] := rfl
    rw [e0, Array.empty_append]

/-! Rows of the call's own, that grow by append. -/
theorem own_form {w : World} {base : Nat} {e : TypeId} {size n : Nat} {v : Value} {xs : List Value} (h : w.ownsRow base e size v n xs) : ∃ A c, v = .slice A n c := by
  rcases h.2 with ⟨rfl, rfl⟩ | ⟨g, cap, cur, rfl, _⟩
  · exact ⟨none, 0, rfl⟩
  · exact ⟨_, _, rfl⟩
/-- What append asks of the slice type t over elements e. -/
structure Elem (P : Program) (t e : TypeId) (size bytes : Nat) : Prop where
  ht : P.underlying t = some (.slice e)
  hi : ∃ i z, P.info? e = some i ∧ i.zero = some z ∧ i.size = size ∧ i.bytes = bytes ∧ z.cells.size = size
  hs : 0 < size
theorem Elem.of {P : Program} {t e : TypeId} {size bytes : Nat} {z : Value} (ht : P.underlying t = some (.slice e)) (h : (P.info? e).map (fun i => (i.zero, i.size, i.bytes)) = some (some z, size, bytes)) (hz : z.cells.size = size) (hs : 0 < size) : Elem P t e size bytes := by
  refine ⟨ht, ?_, hs⟩
  cases hi : P.info? e with
  | none => rw [hi] at h; cases h
  | some i =>
    rw [hi] at h
    simp only [Option.map_some, Option.some.injEq, Prod.mk.injEq] at h
    exact ⟨i, z, rfl, h.1, h.2.1, h.2.2, hz⟩
/-- The cells that a slice leads to, nil let in. -/
def Src (w : World) (A : Option Addr) (m size : Nat) (news : List Value) : Prop :=
  news.length = m * size ∧ (∀ u ∈ news, u.oneCell' = true) ∧ (0 < news.length → ∃ a, A = some a ∧ ∀ j u, news[j]? = some u → w.cell? (a.add j) = some u)
theorem Src.one {w : World} {g : Nat} {v : Value} (hc : w.cell? ⟨g, 0, none⟩ = some v) (h1 : v.oneCell' = true) : Src w (some ⟨g, 0, none⟩) 1 1 [v] := by
  refine ⟨rfl, by simpa using h1, fun _ => ⟨_, rfl, fun j u hu => ?_⟩⟩
  have hj : j = 0 := by
    rcases Nat.eq_zero_or_pos j with h0 | h0
    · exact h0
    · rw [List.getElem?_eq_none (by simp; omega)] at hu; cases hu
  subst hj
  simp only [List.getElem?_cons_zero, Option.some.injEq] at hu
  subst hu
  simpa [Addr.add] using hc
theorem oneCell_int (k : IntKind) (n : Int) : (Value.int k n).oneCell' = true := rfl
def bv (x : UInt8) : Value := .int .u8 (x.toNat : Int)
theorem Src.bytes {w : World} {D : Dom} {A : Option Addr} {n c : Nat} {l : List UInt8} (h : rpU8.sl w D A n c l) : Src w A n 1 (l.map bv) := by
  obtain ⟨hlen, _, _⟩ := Rp.sl_len h
  refine ⟨by simp [hlen], fun u hu => ?_, fun hp => ?_⟩
  · obtain ⟨x, _, rfl⟩ := List.mem_map.1 hu; rfl
  · obtain ⟨b, off, x, hA, _⟩ := bytes_at (k := 0) h (by simpa [hlen] using hp)
    refine ⟨_, hA, fun j u hu => ?_⟩
    rw [List.getElem?_map] at hu
    cases hj : l[j]? with
    | none => rw [hj] at hu; cases hu
    | some y =>
      rw [hj] at hu
      injection hu with hu
      subst hu
      obtain ⟨b', off', x', hA', _, hx', hc⟩ := bytes_at (k := j) h (by rw [← hlen]; exact (List.getElem?_eq_some_iff.1 hj).1)
      rw [hA] at hA'
      injection hA' with hA'
      injection hA' with h1 h2
      subst h1; subst h2
      rw [hj] at hx'
      injection hx' with hx'
      subst hx'
      have hplain : (⟨b, off, none⟩ : Addr).add j = ⟨b, off + j, none⟩ := by unfold Addr.add; split <;> simp_all
      rw [hplain, hc]; rfl
section
variable {P : Program}
theorem run_app {t e : TypeId} {size bytes : Nat} (E : Elem P t e size bytes) (w : World) (ty : TypeId) {base : Nat} {v : Value} {n : Nat} {xs : List Value} (hown : w.ownsRow base e size v n xs)
    {A : Option Addr} {m c : Nat} {news : List Value} (hsrc : Src w A m size news) (h63 : n + m ≤ maxLen) (hbytes : (n + m) * bytes ≤ 140737488355328) (hbase : base ≤ w.heap.size) :
    ∃ A' c' w', (Builtin.append_ #[t, t] ty #[v, .slice A m c]).run P w = .ok (.slice A' (n + m) c') w' ∧ w'.ownsRow base e size (.slice A' (n + m) c') (n + m) (xs ++ news) ∧ w.grownBy w' v.ownBlock ∧
      ((Value.slice A' (n + m) c').ownBlock = v.ownBlock ∨ (Value.slice A' (n + m) c').ownBlock = some w.heap.size) := by
  obtain ⟨ht, ⟨i, z, hi, hz, hsize, hby, hzs⟩, hs⟩ := E
  rcases A with _ | ad
  · have hm : news = [] := by
      rcases Nat.eq_zero_or_pos news.length with h0 | h0
      · exact List.eq_nil_of_length_eq_zero h0
      · obtain ⟨a, hA, _⟩ := hsrc.2.2 h0
        cases hA
    subst hm
    have hm0 : m = 0 := by
      have := hsrc.1
      simp only [List.length_nil] at this
      rcases Nat.eq_zero_or_pos m with h0 | h0
      · exact h0
      · have := Nat.mul_pos h0 hs; omega
    subst hm0
    obtain ⟨A, cc, rfl⟩ := own_form hown
    refine ⟨A, cc, w, ?_, by simpa using hown, World.grownBy.refl w _, .inl rfl⟩
    rcases hown.2 with ⟨hv, rfl⟩ | ⟨g, cap, cur, hv, _, _, hnc, _⟩
    · injection hv with h1 _ h3
      subst h1; subst h3
      simp [Builtin.append_, run_underlying ht, sizeOf, typeInfo, hi, Builtin.lenOf, Builtin.firstCells]
    · injection hv with h1 _ h3
      subst h1; subst h3
      simp [Builtin.append_, run_underlying ht, sizeOf, typeInfo, hi, Builtin.lenOf, Builtin.firstCells, hnc, storeCells]
  · have hcells : ∀ j u, news[j]? = some u → w.cell? (ad.add j) = some u := by
      intro j u hu
      obtain ⟨a, hA, hc⟩ := hsrc.2.2 (by have := (List.getElem?_eq_some_iff.1 hu).1; omega)
      injection hA with hA
      subst hA
      exact hc j u hu
    obtain ⟨v', w', hrun, h2, h3, _, h5⟩ := run_append_own_at (P := P) w base t ty e i z size bytes ht hi hz hsize hby hzs hs v n xs hown ad m c news hsrc.1 hcells hsrc.2.1 h63 hbytes hbase
    obtain ⟨A', c', rfl⟩ := own_form h2
    exact ⟨A', c', w', hrun, h2, h3, h5⟩
theorem wpList_app {ops : Array Oper} {rest : List Oper} {o : Oper} {a : Act} {w : World} {Q : Exit → Act → World → Prop} (hgd : o.guard = none) (s x : Operand) (t : TypeId)
    (ho : o.op = .call { callee := .builtin .append, args := #[s, x], argTypes := #[t, t] }) {e : TypeId} {size bytes : Nat} (E : Elem P t e size bytes)
    {base : Nat} {v : Value} {n : Nat} {xs : List Value} (hs : a.eval s = v) (hown : w.ownsRow base e size v n xs)
    {A : Option Addr} {m c : Nat} {news : List Value} (hx : a.eval x = .slice A m c) (hsrc : Src w A m size news) (h63 : n + m ≤ maxLen) (hbytes : (n + m) * bytes ≤ 140737488355328) (hbase : base ≤ w.heap.size)
    (h : ∀ A' c' w', w'.ownsRow base e size (.slice A' (n + m) c') (n + m) (xs ++ news) → w.grownBy w' v.ownBlock → ((Value.slice A' (n + m) c').ownBlock = v.ownBlock ∨ (Value.slice A' (n + m) c').ownBlock = some w.heap.size) →
      wpList P ops Q rest (a.put o.dst (.slice A' (n + m) c')) w') : wpList P ops Q (o :: rest) a w := by
  refine wpList_plain hgd fun K hK => ?_
  obtain ⟨A', c', w', hr, h2, h3, h4⟩ := run_app (P := P) E w o.type hown hsrc h63 hbytes hbase (c := c)
  unfold Oper.wp execOp
  simp only [ho, resolve, invoke, builtin, Sem.run_bind, Sem.run_pure, Result.andThen_ok, List.map_toArray, List.map_cons, List.map_nil, hs, hx, hr]
  exact hK _ _ (h A' c' w' h2 h3 h4)
end
/-- A row of bytes of the call's own reads as bytes. -/
theorem own_bytes {w : World} {base : Nat} {e : TypeId} {A : Option Addr} {n c : Nat} {l : List UInt8} (h : w.ownsRow base e 1 (.slice A n c) n (l.map bv)) : rpU8.sl w (fun k => some k = (Value.slice A n c).ownBlock) A n c l := by
  have hlen : l.length = n := by have := h.1; simpa using this
  subst hlen
  rcases h.2 with ⟨hv, h0⟩ | ⟨g, cap, cur, hv, hg, hh, hnc, hcm, hcs, htake⟩
  · injection hv with h1 _ h3
    subst h1; subst h3
    rw [h0]
    obtain rfl := List.eq_nil_of_length_eq_zero h0
    exact Rp.sl_nil _ _ _ _ _ (by decide)
  · injection hv with h1 _ h3
    subst h1; subst h3
    refine Rp.sl_more (bytes_of_cells (cs := cur) (fun i => cell_of_row w g i cur e (0, 0) hh) (fun i x hx => ?_) rfl hnc hcm) (fun k hk => by subst hk; rfl)
    have hi : (l.map bv)[i]? = some (bv x) := by rw [List.getElem?_map, hx]; rfl
    rw [← htake, List.getElem?_take] at hi
    split at hi
    · simpa [bv] using hi
    · cases hi

theorem byte_of {v : Int} (h0 : 0 ≤ v) (h1 : v < 256) : ∃ u : UInt8, v = (u.toNat : Int) := by
  refine ⟨UInt8.ofNat v.toNat, ?_⟩
  rw [UInt8.toNat_ofNat']
  omega
theorem Src.new (w : World) (v : Value) (e : TypeId) (h1 : v.oneCell' = true) : Src (w.alloc (.cells #[v] e)) (some ⟨w.heap.size, 0, none⟩) 1 1 [v] :=
  Src.one (by rw [(Blk.new w e #[v]).cell 0]; rfl) h1
/-- One byte appended, out of the block that was laid last. -/
theorem wpList_push_byte {P : Program} {ops : Array Oper} {rest : List Oper} {o : Oper} {a : Act} {w : World} {Q : Exit → Act → World → Prop} (hgd : o.guard = none) (s x : Operand) (t : TypeId)
    (ho : o.op = .call { callee := .builtin .append, args := #[s, x], argTypes := #[t, t] }) {e : TypeId} (E : Elem P t e 1 1)
    {base : Nat} {v : Value} {n : Nat} {l : List UInt8} (hs : a.eval s = v) (hown : w.ownsRow base e 1 v n (l.map bv)) (hn : n + 1 ≤ 140737488355328) (hbase : base ≤ w.heap.size)
    {x0 : Int} {e' : TypeId} (hx : a.eval x = .slice (some ⟨w.heap.size, 0, none⟩) 1 1) (h0 : 0 ≤ x0) (h1 : x0 < 256)
    (h : ∀ (u : UInt8) A' c' w', x0 = (u.toNat : Int) → w'.ownsRow base e 1 (.slice A' (n + 1) c') (n + 1) ((l ++ [u]).map bv) → w.grownBy w' v.ownBlock → ((Value.slice A' (n + 1) c').ownBlock = v.ownBlock ∨ w.heap.size ≤ (((Value.slice A' (n + 1) c').ownBlock).getD 0)) →
      wpList P ops Q rest (a.put o.dst (.slice A' (n + 1) c')) w') : wpList P ops Q (o :: rest) a (w.alloc (.cells #[.int .u8 x0] e')) := by
  obtain ⟨u, rfl⟩ := byte_of h0 h1
  have hm : n + 1 ≤ maxLen := by unfold maxLen; omega
  refine wpList_app hgd s x t ho E hs (hown.alloc _) hx (Src.new w _ e' rfl) hm (by omega) (by simp; omega) (fun A' c' w' h2 h3 h4 => h u A' c' w' rfl (by simpa [bv] using h2) ?_ ?_)
  · exact ⟨h3.os, h3.tape, h3.output, by have := h3.size; simp at this; omega, fun k hk hne => (h3.block k (by simp; omega) hne).trans (Below.heap_alloc w _ k hk)⟩
  · rcases h4 with h4 | h4
    · exact .inl h4
    · right; rw [h4]; simp
theorem bits_u8 (op : BinOp) (a b : Int) (h : op = .xor ∨ op = .and ∨ op = .or) : 0 ≤ bits op .u8 a b ∧ bits op .u8 a b < 256 := by
  rcases h with rfl | rfl | rfl <;> (simp only [bits, IntKind.wrap_u8]; omega)
theorem xor_u8 (a b : UInt8) : bits .xor .u8 (a.toNat : Int) (b.toNat : Int) = ((a ^^^ b).toNat : Int) := by
  rw [u8_xor_nat _ _ a.toNat_lt b.toNat_lt, UInt8.toNat_xor]
theorem own_ne {w : World} {v v' y : Value} {base : Nat} {e : TypeId} {size n : Nat} {ys : List Value} (hy : w.ownsRow base e size y n ys) (hne : y.ownBlock = none ∨ y.ownBlock ≠ v.ownBlock)
    (hat : v'.ownBlock = v.ownBlock ∨ w.heap.size ≤ v'.ownBlock.getD 0) : y.ownBlock = none ∨ y.ownBlock ≠ v'.ownBlock := by
  rcases hat with h | h
  · rw [h]; exact hne
  · cases hb : y.ownBlock with
    | none => exact .inl rfl
    | some g =>
      right
      intro he
      have := (hy.lt g hb).2
      rw [← he] at h
      simp at h
      omega
theorem ne_swap {a b : Option Nat} (h : a = none ∨ a ≠ b) : b = none ∨ b ≠ a := by
  cases b with
  | none => exact .inl rfl
  | some g =>
    right
    rcases h with rfl | h
    · simp
    · exact fun e => h e.symm

/-- One byte appended, as a step of a region that draws its order; the world as it stands. -/
theorem step_push_byte {P : Program} {ops : Array Oper} {o : Oper} {a : Act} {w : World} {K : Act → World → Prop} {Q : Exit → Act → World → Prop} {F : Prop} (hgd : o.guard = none) (s x : Operand) (t : TypeId)
    (ho : o.op = .call { callee := .builtin .append, args := #[s, x], argTypes := #[t, t] }) {e : TypeId} (E : Elem P t e 1 1)
    {base : Nat} {v : Value} {n : Nat} {l : List UInt8} (hs : a.eval s = v) (hown : w.ownsRow base e 1 v n (l.map bv)) (hn : n + 1 ≤ 140737488355328) (hbase : base ≤ w.heap.size)
    {x0 : Int} {g : Nat} (hx : a.eval x = .slice (some ⟨g, 0, none⟩) 1 1) (hc : w.cell? ⟨g, 0, none⟩ = some (.int .u8 x0)) (h0 : 0 ≤ x0) (h1 : x0 < 256)
    (h : ∀ (u : UInt8) A' c' w', x0 = (u.toNat : Int) → w'.ownsRow base e 1 (.slice A' (n + 1) c') (n + 1) ((l ++ [u]).map bv) → w.grownBy w' v.ownBlock → ((Value.slice A' (n + 1) c').ownBlock = v.ownBlock ∨ (Value.slice A' (n + 1) c').ownBlock = some w.heap.size) →
      K (a.put o.dst (.slice A' (n + 1) c')) w') : if Region.wanted o (yielded ops a.tmps) = true then Oper.wp P o a w K Q else F := by
  have hw : Region.wanted o (yielded ops a.tmps) = true := by simp [Region.wanted, hgd]
  rw [if_pos hw]
  obtain ⟨u, rfl⟩ := byte_of h0 h1
  have hm : n + 1 ≤ maxLen := by unfold maxLen; omega
  obtain ⟨A', c', w', hr, h2, h3, h4⟩ := run_app (P := P) E _ o.type hown (Src.one hc rfl) hm (by omega) hbase (c := 1)
  unfold Oper.wp execOp
  simp only [ho, resolve, invoke, builtin, Sem.run_bind, Sem.run_pure, Result.andThen_ok, List.map_toArray, List.map_cons, List.map_nil, hs, hx, hr]
  exact h u A' c' w' rfl (by simpa [bv] using h2) h3 h4

/-- An own row of one-cell elements, an element of which is written. -/
theorem own_block {w : World} {base : Nat} {e : TypeId} {A : Option Addr} {n c : Nat} {xs : List Value} (h : w.ownsRow base e 1 (.slice A n c) n xs) (hn : 0 < n) :
    ∃ g, A = some ⟨g, 0, none⟩ ∧ base ≤ g ∧ g < w.heap.size ∧ (∀ i, w.frozen? ⟨g, i, none⟩ = false) ∧ (∀ i u, xs[i]? = some u → w.cell? ⟨g, i, none⟩ = some u) ∧
      ∀ q u, q < n → (w.setCell ⟨g, q, none⟩ u).ownsRow base e 1 (.slice A n c) n (xs.set q u) := by
  rcases h.2 with ⟨_, h0⟩ | ⟨g, cap, cur, hv, hg, hh, hnc, hcm, hcs, htake⟩
  · omega
  · injection hv with h1 _ h3
    subst h1; subst h3
    have hblk : Blk w g e cur := hh
    refine ⟨g, rfl, hg, hblk.lt, hblk.frozen, fun i u hu => ?_, fun q u hq => ?_⟩
    · rw [hblk.cell]
      rw [← htake, List.getElem?_take] at hu
      split at hu
      · simpa using hu
      · cases hu
    · refine ⟨by rw [List.length_set]; exact h.1, .inr ⟨g, c, cur.setIfInBounds q u, rfl, hg, hblk.put q u, hnc, hcm, by simpa using hcs, ?_⟩⟩
      rw [Array.toList_setIfInBounds, List.take_set, htake]

/-- A slice of slices: the slice at a place. -/
theorem rows_at {α : Type} {r : Rp α} {w : World} {D : Dom} {A : Option Addr} {n c : Nat} {l : List (List α)} (h : (rpSlice r).sl w D A n c l) {k : Nat} (hk : k < n) :
    ∃ b off x A' c', A = some ⟨b, off, none⟩ ∧ D b ∧ l[k]? = some x ∧ w.cell? ⟨b, off + k, none⟩ = some (.slice A' x.length c') ∧ r.sl w D A' x.length c' x := by
  obtain ⟨b, off, x, cs, hA, hb, hx, hc, hg⟩ := Rp.sl_at h hk
  obtain ⟨A', c', rfl, hs⟩ := Rp.sl_form hc
  have := hg 0 _ rfl
  exact ⟨b, off, x, A', c', hA, hb, hx, by simpa [rpSlice] using this, hs⟩

section
variable {P : Program}
/-- A struct or an array read from wherever its cells stand. -/
theorem run_loadVar_at (w : World) (a : Addr) (ty : TypeId) (cs : Array Value) (d : TypeDesc) (hc : ∀ j v, cs[j]? = some v → w.cell? (a.add j) = some v)
    (hu : P.underlying ty = some d) (hd : (match d with | .struct _ | .array _ _ => true | _ => false) = true) (hi : (P.info? ty).map (·.size) = some cs.size) :
    (loadVar ty a).run P w = .ok (.agg cs) w := by
  have hl : (loadCells a cs.toList.length).run P w = .ok cs.toList.toArray w :=
    run_loadCells_list (P := P) w a cs.toList (fun j v hv => hc j v (by simpa using hv))
  cases hq : P.info? ty with
  | none => simp [hq] at hi
  | some i =>
    have hs : i.size = cs.size := by simpa [hq] using hi
    have hagg : (isAgg ty).run P w = .ok true w := by
      unfold isAgg
      rw [Sem.run_bind, run_underlying hu w]
      cases d <;> simp_all
    simp only [Array.length_toList, Array.toArray_toList] at hl
    simp [loadVar, Sem.run_bind, hagg, sizeOf, typeInfo, hq, hs, hl]
theorem wpList_load_at {ops : Array Oper} {rest : List Oper} {o : Oper} {a : Act} {w : World} {Q : Exit → Act → World → Prop} (hgd : o.guard = none) (ty : TypeId) (x : Operand) (ho : o.op = .load ty x)
    (ad : Addr) (hx : a.eval x = .pointer (some ad)) (cs : Array Value) (d : TypeDesc) (hc : ∀ j v, cs[j]? = some v → w.cell? (ad.add j) = some v)
    (hu : P.underlying ty = some d) (hd : (match d with | .struct _ | .array _ _ => true | _ => false) = true) (hi : (P.info? ty).map (·.size) = some cs.size)
    (h : wpList P ops Q rest (a.put o.dst (.agg cs)) w) : wpList P ops Q (o :: rest) a w := by
  refine wpList_plain hgd fun K hK => ?_
  unfold Oper.wp execOp
  simp only [ho, hx, Instr.loadAt, Instr.sureAddr, Sem.run_bind, Sem.run_pure, Result.andThen_ok, run_loadVar_at w ad ty cs d hc hu hd hi]
  exact hK _ _ h
end
theorem add_plain (b off j : Nat) : (⟨b, off, none⟩ : Addr).add j = ⟨b, off + j, none⟩ := by unfold Addr.add; split <;> simp_all

/-- The worlds that have grown from w: what lay below B lies as it lay. -/
structure Gr (B : Nat) (w : World) : Type where
  val : World
  is : Below B w val
instance (B : Nat) (w : World) : Nonempty (Gr B w) := ⟨⟨w, Below.refl _ _⟩⟩
theorem wp_region_grow {P : Program} {id : Nat} {Q : Exit → Act → World → Prop} {a : Act} {w : World} {l : List Oper} (hm : P.follows .mixedOrders = true) (hB : Region.lexB .any l.toArray = true) (B : Nat)
    (h : wpQuiet P l.toArray (fun w' => ∃ x : Gr B w, w' = x.val) (fun a' => ∀ w', (∃ x : Gr B w, w' = x.val) → Q .normal a' w') l a) : (Code.region id l.toArray true).wp P Q a w :=
  wp_region_quiet (C := fun w' => ∃ x : Gr B w, w' = x.val) hm hB ⟨⟨w.drew, (Below.refl _ _).drew⟩, rfl⟩ (by simpa using h)
theorem Gr.call {P : Program} {f : FuncId} {args : Array Value} {B : Nat} {w : World} (x : Gr B w) (hB : B ≤ w.heap.size) {v : Value}
    (h : Calls P f args x.val fun e w' => e = .returned v ∧ Below x.val.heap.size x.val w') : Calls P f args x.val fun e w'' => e = .returned v ∧ ∃ y : Gr B w, w'' = y.val :=
  h.mono fun _ w' ⟨he, hb⟩ => ⟨he, ⟨w', x.is.trans (hb.mono (Nat.le_trans hB x.is.size))⟩, rfl⟩
theorem Gr.same {P : Program} {f : FuncId} {args : Array Value} {B : Nat} {w : World} (x : Gr B w) {v : Value}
    (h : Calls P f args x.val fun e w' => e = .returned v ∧ x.val = w') : Calls P f args x.val fun e w'' => e = .returned v ∧ ∃ y : Gr B w, w'' = y.val :=
  h.mono fun _ w' ⟨he, hb⟩ => ⟨he, x, hb.symm⟩
end Go.Proofs.Ytmdgmnaaopineaa
/- Numbers in as few bytes as can be. No walk. -/
namespace Go.Proofs.Ytmdgmnaaopineaa
set_option linter.unusedVariables false
def vbytes (x : Nat) : List UInt8 := if h : x < 128 then [UInt8.ofNat x] else UInt8.ofNat (128 + x % 128) :: vbytes (x / 128)
termination_by x
decreasing_by omega
theorem vbytes_lt {x : Nat} (h : x < 128) : vbytes x = [UInt8.ofNat x] := by rw [vbytes, dif_pos h]
theorem vbytes_ge {x : Nat} (h : ¬ x < 128) : vbytes x = UInt8.ofNat (128 + x % 128) :: vbytes (x / 128) := by rw [vbytes, dif_neg h]
theorem vbytes_len : ∀ (k x : Nat), x < 128 ^ (k + 1) → (vbytes x).length ≤ k + 1
  | 0, x, h => by rw [vbytes_lt (by simpa using h)]; simp
  | k + 1, x, h => by
    by_cases hx : x < 128
    · rw [vbytes_lt hx]; simp
    · rw [vbytes_ge hx, List.length_cons]
      have := vbytes_len k (x / 128) (by rw [Nat.div_lt_iff_lt_mul (by decide)]; rw [Nat.pow_succ] at h; exact h)
      omega
theorem vbytes_10 {x : Nat} (h : x < 18446744073709551616) : (vbytes x).length ≤ 10 := vbytes_len 9 x (by have : (128 : Nat) ^ (9 + 1) = 1180591620717411303424 := by decide
                                                                                                          omega)
theorem vbytes_pos (x : Nat) : 1 ≤ (vbytes x).length := by
  by_cases hx : x < 128
  · rw [vbytes_lt hx]; simp
  · rw [vbytes_ge hx]; simp
abbrev VFlt := Int × Int
/-- What reading a number from p on gives, n bytes having given x: the number, the place behind, the fault. -/
def vgo (l : List UInt8) (p : Nat) : Nat → Nat → Nat → Nat × Nat × VFlt
  | 0, n, x => (0, p + n, (0, 0))
  | k + 1, n, x => match l[p + n]? with
    | none => (0, p + n, (1, (l.length : Int)))
    | some c => if n = 9 ∧ 1 < c.toNat then (0, p + n + 1, (5, ((p + n : Nat) : Int))) else if c.toNat = 0 ∧ 0 < n then (0, p + n + 1, (4, ((p + n : Nat) : Int)))
      else if 128 ≤ c.toNat then vgo l p k (n + 1) (x + c.toNat % 128 * 128 ^ n) else (x + c.toNat % 128 * 128 ^ n, p + n + 1, (0, 0))
def vrd (l : List UInt8) (p : Nat) : Nat × Nat × VFlt := vgo l p 10 0 0
theorem vgo_none {l : List UInt8} {p k n x : Nat} (h : l[p + n]? = none) : vgo l p (k + 1) n x = (0, p + n, (1, (l.length : Int))) := by unfold vgo; rw [h]
theorem vgo_over {l : List UInt8} {p k n x : Nat} {c : UInt8} (h : l[p + n]? = some c) (h1 : n = 9) (h2 : 1 < c.toNat) : vgo l p (k + 1) n x = (0, p + n + 1, (5, ((p + n : Nat) : Int))) := by
  unfold vgo; rw [h]; simp only; rw [if_pos ⟨h1, h2⟩]
theorem vgo_zero {l : List UInt8} {p k n x : Nat} {c : UInt8} (h : l[p + n]? = some c) (h1 : ¬ (n = 9 ∧ 1 < c.toNat)) (h2 : c.toNat = 0) (h3 : 0 < n) : vgo l p (k + 1) n x = (0, p + n + 1, (4, ((p + n : Nat) : Int))) := by
  unfold vgo; rw [h]; simp only; rw [if_neg h1, if_pos ⟨h2, h3⟩]
theorem vgo_more {l : List UInt8} {p k n x : Nat} {c : UInt8} (h : l[p + n]? = some c) (h1 : ¬ (n = 9 ∧ 1 < c.toNat)) (h2 : 128 ≤ c.toNat) : vgo l p (k + 1) n x = vgo l p k (n + 1) (x + c.toNat % 128 * 128 ^ n) := by
  rw [vgo]; rw [h]; simp only; rw [if_neg h1, if_neg (by omega), if_pos h2]
theorem vgo_last {l : List UInt8} {p k n x : Nat} {c : UInt8} (h : l[p + n]? = some c) (h1 : ¬ (n = 9 ∧ 1 < c.toNat)) (h2 : ¬ (c.toNat = 0 ∧ 0 < n)) (h3 : ¬ 128 ≤ c.toNat) : vgo l p (k + 1) n x = (x + c.toNat % 128 * 128 ^ n, p + n + 1, (0, 0)) := by
  unfold vgo; rw [h]; simp only; rw [if_neg h1, if_neg h2, if_neg h3]
theorem pow_9 : (128 : Nat) ^ 9 = 9223372036854775808 := by decide
theorem ofNat_small {y : Nat} (h : y < 256) : (UInt8.ofNat y).toNat = y := by rw [UInt8.toNat_ofNat']; exact Nat.mod_eq_of_lt h
/-- **What is written is read so.** -/
theorem vgo_bytes (l : List UInt8) (p : Nat) : ∀ (k n acc x : Nat), n + k = 10 → acc + x * 128 ^ n < 18446744073709551616 → (0 < n → 0 < x) → (∀ j u, (vbytes x)[j]? = some u → l[p + n + j]? = some u) →
    vgo l p k n acc = (acc + x * 128 ^ n, p + n + (vbytes x).length, (0, 0))
  | 0, n, acc, x, hk, hv, hx, hl => by
    obtain rfl : n = 10 := by omega
    have h2 : x * 128 ^ 10 < 18446744073709551616 := by omega
    have h3 : (128 : Nat) ^ 10 = 1180591620717411303424 := by decide
    rw [h3] at h2
    have := hx (by omega)
    omega
  | k + 1, n, acc, x, hk, hv, hx, hl => by
    have hpn : (128 : Nat) ^ n ≤ 128 ^ 9 := Nat.pow_le_pow_right (by decide) (by omega)
    have hpos : 0 < (128 : Nat) ^ n := Nat.pow_pos (by decide)
    by_cases h : x < 128
    · rw [vbytes_lt h] at hl ⊢
      have h0 := hl 0 _ rfl
      rw [Nat.add_zero] at h0
      have hc : (UInt8.ofNat x).toNat = x := ofNat_small (by omega)
      rw [vgo_last h0 (by
        rintro ⟨h9, h1⟩
        rw [hc] at h1
        subst h9
        have : 2 * 128 ^ 9 ≤ x * 128 ^ 9 := Nat.mul_le_mul_right _ (by omega)
        rw [pow_9] at this
        rw [pow_9] at hv
        omega) (by rw [hc]; rintro ⟨h1, h2⟩; have := hx h2; omega) (by rw [hc]; omega), hc, Nat.mod_eq_of_lt h]
      rfl
    · rw [vbytes_ge h] at hl ⊢
      have h0 := hl 0 _ rfl
      rw [Nat.add_zero] at h0
      have hc : (UInt8.ofNat (128 + x % 128)).toNat = 128 + x % 128 := ofNat_small (by omega)
      have h9 : n ≠ 9 := by
        rintro rfl
        have : 128 * 128 ^ 9 ≤ x * 128 ^ 9 := Nat.mul_le_mul_right _ (by omega)
        rw [pow_9] at this
        rw [pow_9] at hv
        omega
      rw [vgo_more h0 (fun q => h9 q.1) (by rw [hc]; omega), hc]
      have e1 : (128 + x % 128) % 128 = x % 128 := by omega
      have e2 : acc + x % 128 * 128 ^ n + x / 128 * 128 ^ (n + 1) = acc + x * 128 ^ n := by
        rw [Nat.pow_succ, Nat.mul_comm (128 ^ n) 128, ← Nat.mul_assoc, Nat.add_assoc, ← Nat.add_mul]
        congr 2
        omega
      rw [e1, vgo_bytes l p k (n + 1) (acc + x % 128 * 128 ^ n) (x / 128) (by omega) (by rw [e2]; exact hv) (fun _ => by omega) (fun j u hu => by
        have := hl (j + 1) u (by simpa using hu)
        rw [show p + (n + 1) + j = p + n + (j + 1) by omega]; exact this), e2]
      rw [List.length_cons]
      congr 2
      omega
theorem vrd_bytes {l : List UInt8} {p x : Nat} (hx : x < 18446744073709551616) (hl : ∀ j u, (vbytes x)[j]? = some u → l[p + j]? = some u) : vrd l p = (x, p + (vbytes x).length, (0, 0)) := by
  have := vgo_bytes l p 10 0 0 x rfl (by simpa using hx) (by omega) (by simpa using hl)
  simpa [vrd] using this
/-- **What is read is written so.** -/
theorem vgo_inv (l : List UInt8) (p : Nat) : ∀ (k n acc v q : Nat) (a : Int), n + k = 10 → vgo l p k n acc = (v, q, (0, a)) → 1 ≤ k →
    ∃ x, v = acc + x * 128 ^ n ∧ (0 < n → 0 < x) ∧ q = p + n + (vbytes x).length ∧ (∀ j u, (vbytes x)[j]? = some u → l[p + n + j]? = some u) ∧ x * 128 ^ n < 18446744073709551616 - 128 ^ n + 1 ∧ q ≤ l.length
  | 0, n, acc, v, q, a, hk, h, h1 => by omega
  | k + 1, n, acc, v, q, a, hk, h, _ => by
    have hpn : (128 : Nat) ^ n ≤ 128 ^ 9 := Nat.pow_le_pow_right (by decide) (by omega)
    rw [pow_9] at hpn
    cases hl : l[p + n]? with
    | none => rw [vgo_none hl] at h; simp at h
    | some c =>
      have hlen := (List.getElem?_eq_some_iff.1 hl).1
      have hcl := c.toNat_lt
      by_cases h9 : n = 9 ∧ 1 < c.toNat
      · rw [vgo_over hl h9.1 h9.2] at h; simp at h
      · by_cases hz : c.toNat = 0 ∧ 0 < n
        · rw [vgo_zero hl h9 hz.1 hz.2] at h; simp at h
        · by_cases hm : 128 ≤ c.toNat
          · rw [vgo_more hl h9 hm] at h
            have hn9 : n ≠ 9 := fun e => h9 ⟨e, by omega⟩
            obtain ⟨y, e1, e2, e3, e4, e5, e6⟩ := vgo_inv l p k (n + 1) _ v q a (by omega) h (by omega)
            have hy := e2 (by omega)
            have hx : ¬ (c.toNat % 128 + 128 * y) < 128 := by omega
            have hmod : (c.toNat % 128 + 128 * y) % 128 = c.toNat % 128 := by omega
            have hdiv : (c.toNat % 128 + 128 * y) / 128 = y := by omega
            have hb : vbytes (c.toNat % 128 + 128 * y) = c :: vbytes y := by
              rw [vbytes_ge hx, hmod, hdiv]
              congr 1
              apply UInt8.toNat_inj.1
              rw [ofNat_small (by omega)]
              omega
            have hmul : (c.toNat % 128 + 128 * y) * 128 ^ n = c.toNat % 128 * 128 ^ n + y * 128 ^ (n + 1) := by
              rw [Nat.add_mul, Nat.pow_succ, Nat.mul_comm (128 ^ n) 128, ← Nat.mul_assoc, Nat.mul_comm 128 y]
            refine ⟨c.toNat % 128 + 128 * y, ?_, fun _ => by omega, ?_, ?_, ?_, e6⟩
            · rw [hmul, e1]; omega
            · rw [hb, List.length_cons, e3]; omega
            · rw [hb]
              intro j u hu
              cases j with
              | zero => simp only [List.getElem?_cons_zero] at hu; rw [Nat.add_zero, hl, hu]
              | succ j =>
                simp only [List.getElem?_cons_succ] at hu
                have := e4 j u hu
                rw [show p + n + (j + 1) = p + (n + 1) + j by omega]; exact this
            · rw [hmul]
              have h1 : c.toNat % 128 * 128 ^ n ≤ 127 * 128 ^ n := Nat.mul_le_mul_right _ (by omega)
              have h2 : (128 : Nat) ^ (n + 1) = 128 * 128 ^ n := by rw [Nat.pow_succ, Nat.mul_comm]
              rw [h2] at e5 ⊢
              have h3 : (128 : Nat) ^ (n + 1) ≤ 128 ^ 9 := Nat.pow_le_pow_right (by decide) (by omega)
              rw [h2, pow_9] at h3
              omega
          · rw [vgo_last hl h9 hz hm] at h
            simp only [Prod.mk.injEq] at h
            obtain ⟨rfl, rfl, _⟩ := h
            have hb : vbytes c.toNat = [c] := by
              rw [vbytes_lt (by omega)]
              congr 1
              apply UInt8.toNat_inj.1
              rw [ofNat_small (by omega)]
            refine ⟨c.toNat, by rw [Nat.mod_eq_of_lt (show c.toNat < 128 by omega)], fun h => by omega, by rw [hb]; rfl, ?_, ?_, by omega⟩
            · rw [hb]
              intro j u hu
              cases j with
              | zero => simp only [List.getElem?_cons_zero] at hu; rw [Nat.add_zero, hl, hu]
              | succ j => simp at hu
            · by_cases hn : n = 9
              · subst hn
                have : c.toNat ≤ 1 := by omega
                have : c.toNat * 128 ^ 9 ≤ 1 * 128 ^ 9 := Nat.mul_le_mul_right _ this
                rw [pow_9] at this ⊢
                omega
              · have h1 : c.toNat * 128 ^ n ≤ 127 * 128 ^ n := Nat.mul_le_mul_right _ (by omega)
                have h3 : (128 : Nat) ^ (n + 1) ≤ 128 ^ 9 := Nat.pow_le_pow_right (by decide) (by omega)
                rw [Nat.pow_succ, pow_9] at h3
                omega
theorem vrd_inv {l : List UInt8} {p v q : Nat} {a : Int} (h : vrd l p = (v, q, (0, a))) : v < 18446744073709551616 ∧ q = p + (vbytes v).length ∧ q ≤ l.length ∧ ∀ j u, (vbytes v)[j]? = some u → l[p + j]? = some u := by
  obtain ⟨x, e1, _, e3, e4, e5, e6⟩ := vgo_inv l p 10 0 0 v q a rfl h (by decide)
  simp only [Nat.pow_zero, Nat.mul_one, Nat.zero_add] at e1 e5
  subst e1
  exact ⟨by omega, by simpa using e3, e6, by simpa using e4⟩
end Go.Proofs.Ytmdgmnaaopineaa
/- A cut of a slice under one name; an append as a step of a region that draws its order. -/
namespace Go.Proofs.Ytmdgmnaaopineaa
open Go.RowKit
set_option linter.unusedVariables false

theorem Elem.elem {P : Program} {t e : TypeId} {size bytes : Nat} (E : Elem P t e size bytes) : P.elem t = e := by
  simp [Program.elem, E.ht]
theorem Elem.sizeOf {P : Program} {t e : TypeId} {size bytes : Nat} (E : Elem P t e size bytes) (w : World) : (sizeOf e).run P w = .ok size w := by
  obtain ⟨_, ⟨i, z, hi, _, hs, _⟩, _⟩ := E
  simp [Go.sizeOf, typeInfo, hi, hs]

section
variable {P : Program} {T e : TypeId} {size bytes : Nat} {α : Type} {r : Rp α} {w : World} {D : Dom} {A : Option Addr} {n c : Nat} {l : List α}
/-- A cut 's[lo:hi]' of a slice; m is where its room ends. -/
theorem Rp.cut (h : r.sl w D A n c l) {lo hi m : Nat} (h1 : lo ≤ hi) (h2 : hi ≤ n) (h3 : hi ≤ m) (h4 : m ≤ c) :
    r.sl w D (if m = lo then A else A.map (·.add (lo * r.size))) (hi - lo) (m - lo) ((l.take hi).drop lo) := by
  obtain ⟨hlen, hnc, hcm⟩ := Rp.sl_len h
  have hc' : m - lo ≤ maxLen := by unfold maxLen at *; omega
  have hlen2 : ((l.take hi).drop lo).length = hi - lo := by rw [List.length_drop, List.length_take]; omega
  by_cases h0 : hi = lo
  · have e0 : (l.take hi).drop lo = [] := List.eq_nil_of_length_eq_zero (by omega)
    rw [e0, show hi - lo = 0 by omega]
    exact Rp.sl_nil _ _ _ _ _ hc'
  · rw [if_neg (by omega)]
    obtain ⟨b, off, x, cs, rfl, hb, hx, hc, hg⟩ := Rp.sl_at h (k := 0) (by omega)
    have := Rp.sl_cut h h1 h2 (c' := m - lo) (by omega) hc'
    have ea : (Option.map (fun x : Addr => x.add (lo * r.size)) (some ⟨b, off, none⟩)) = some ⟨b, off + lo * r.size, none⟩ := by
      show some ((⟨b, off, none⟩ : Addr).add (lo * r.size)) = _
      rw [add_plain]
    rw [ea]
    exact this
theorem run_cut_lh (E : Elem P T e size bytes) (h : r.sl w D A n c l) (hs : r.size = size) (lo hi : Int) (h0 : 0 ≤ lo) (h1 : lo ≤ hi) (h2 : hi ≤ n) :
    ∃ A', (∀ w', (Instr.slice T (.slice A n c) (some (.int .i64 lo)) (some (.int .i64 hi)) none).run P w' = .ok (.slice A' (hi.toNat - lo.toNat) (c - lo.toNat)) w') ∧ r.sl w D A' (hi.toNat - lo.toNat) (c - lo.toNat) ((l.take hi.toNat).drop lo.toNat) := by
  obtain ⟨hlen, hnc, hcm⟩ := Rp.sl_len h
  refine ⟨_, fun w' => ?_, Rp.cut h (by omega) (by omega) (by omega) (Nat.le_refl c)⟩
  rw [run_slice_lh w' T A n c (by rw [E.elem]; exact E.ht) .i64 .i64 lo hi h0 h1 (by omega), E.elem, E.sizeOf, hs]
  rfl
theorem run_cut_hm (E : Elem P T e size bytes) (h : r.sl w D A n c l) (hs : r.size = size) (hi m : Int) (h1 : 0 ≤ hi) (h2 : hi ≤ n) (h3 : hi ≤ m) (h4 : m ≤ c) :
    ∃ A', (∀ w', (Instr.slice T (.slice A n c) none (some (.int .i64 hi)) (some (.int .i64 m))).run P w' = .ok (.slice A' hi.toNat m.toNat) w') ∧ r.sl w D A' hi.toNat m.toNat (l.take hi.toNat) := by
  obtain ⟨hlen, hnc, hcm⟩ := Rp.sl_len h
  have := Rp.cut h (lo := 0) (hi := hi.toNat) (m := m.toNat) (by omega) (by omega) (by omega) (by omega)
  simp only [Nat.sub_zero, List.drop_zero] at this
  refine ⟨_, fun w' => ?_, this⟩
  rw [run_slice_hm w' T A n c (by rw [E.elem]; exact E.ht) .i64 .i64 hi m h1 h3 (by omega), E.elem, E.sizeOf, hs]
  rfl
theorem run_cut_h (E : Elem P T e size bytes) (h : r.sl w D A n c l) (hs : r.size = size) (hi : Int) (h1 : 0 ≤ hi) (h2 : hi ≤ n) :
    ∃ A', (∀ w', (Instr.slice T (.slice A n c) none (some (.int .i64 hi)) none).run P w' = .ok (.slice A' hi.toNat c) w') ∧ r.sl w D A' hi.toNat c (l.take hi.toNat) := by
  obtain ⟨hlen, hnc, hcm⟩ := Rp.sl_len h
  have := Rp.cut h (lo := 0) (hi := hi.toNat) (m := c) (by omega) (by omega) (by omega) (by omega)
  simp only [Nat.sub_zero, List.drop_zero] at this
  refine ⟨_, fun w' => ?_, this⟩
  rw [run_slice_h w' T A n c (by rw [E.elem]; exact E.ht) .i64 hi h1 (by omega), E.elem, E.sizeOf, hs]
  rfl
theorem run_cut_l (E : Elem P T e size bytes) (h : r.sl w D A n c l) (hs : r.size = size) (lo : Int) (h1 : 0 ≤ lo) (h2 : lo ≤ n) :
    ∃ A', (∀ w', (Instr.slice T (.slice A n c) (some (.int .i64 lo)) none none).run P w' = .ok (.slice A' (n - lo.toNat) (c - lo.toNat)) w') ∧ r.sl w D A' (n - lo.toNat) (c - lo.toNat) (l.drop lo.toNat) := by
  obtain ⟨hlen, hnc, hcm⟩ := Rp.sl_len h
  have := Rp.cut h (lo := lo.toNat) (hi := n) (m := c) (by omega) (by omega) (by omega) (by omega)
  rw [List.take_of_length_le (by omega)] at this
  refine ⟨_, fun w' => ?_, this⟩
  rw [run_slice_l w' T A n c (by rw [E.elem]; exact E.ht) .i64 lo h1 (by omega), E.elem, E.sizeOf, hs]
  rfl
end

/-- An append as a step of a region that draws its order; the world as it stands. -/
theorem step_app {P : Program} {ops : Array Oper} {o : Oper} {a : Act} {w : World} {K : Act → World → Prop} {Q : Exit → Act → World → Prop} {F : Prop} (hgd : o.guard = none) (s x : Operand) (t : TypeId)
    (ho : o.op = .call { callee := .builtin .append, args := #[s, x], argTypes := #[t, t] }) {e : TypeId} {size bytes : Nat} (E : Elem P t e size bytes)
    {base : Nat} {v : Value} {n : Nat} {xs : List Value} (hs : a.eval s = v) (hown : w.ownsRow base e size v n xs)
    {A : Option Addr} {m c : Nat} {news : List Value} (hx : a.eval x = .slice A m c) (hsrc : Src w A m size news) (h63 : n + m ≤ maxLen) (hbytes : (n + m) * bytes ≤ 140737488355328) (hbase : base ≤ w.heap.size)
    (h : ∀ A' c' w', w'.ownsRow base e size (.slice A' (n + m) c') (n + m) (xs ++ news) → w.grownBy w' v.ownBlock → ((Value.slice A' (n + m) c').ownBlock = v.ownBlock ∨ (Value.slice A' (n + m) c').ownBlock = some w.heap.size) →
      K (a.put o.dst (.slice A' (n + m) c')) w') : if Region.wanted o (yielded ops a.tmps) = true then Oper.wp P o a w K Q else F := by
  have hw : Region.wanted o (yielded ops a.tmps) = true := by simp [Region.wanted, hgd]
  rw [if_pos hw]
  obtain ⟨A', c', w', hr, h2, h3, h4⟩ := run_app (P := P) E w o.type hown hsrc h63 hbytes hbase (c := c)
  unfold Oper.wp execOp
  simp only [ho, resolve, invoke, builtin, Sem.run_bind, Sem.run_pure, Result.andThen_ok, List.map_toArray, List.map_cons, List.map_nil, hs, hx, hr]
  exact h A' c' w' h2 h3 h4
end Go.Proofs.Ytmdgmnaaopineaa
/- A reader in its block, and what each of its calls makes of it: the contracts of the program's cursor. -/
namespace Go.Proofs.Ytmdgmnaaopineaa
open Go.ChangeShapes Go.WideShapes Go.ChangeAt Go.RowKit
set_option linter.unusedVariables false

theorem elemU : Elem Try.prog 36 5 1 1 := Elem.of (z := .int .u8 0) Try.underlying36 (by kernel_rfl) rfl (by decide)
abbrev Flt := Int × Int
/-- A reader stands in block g: the bytes l (in the blocks of D), the place p, the fault f. -/
def Rd (w : World) (D : Dom) (g : Nat) (l : List UInt8) (p : Nat) (f : Flt) : Prop :=
  ∃ A c, Blk w g 122 #[.slice A l.length c, .int .i64 p, .int .i64 f.1, .int .i64 f.2] ∧ rpU8.sl w D A l.length c l ∧ ¬ D g ∧ (∀ k, D k → k < w.heap.size) ∧ p ≤ l.length
def one (g : Nat) : Dom := fun k => k = g
section
variable {w w' : World} {D : Dom} {g : Nat} {l : List UInt8} {p : Nat} {f : Flt}
theorem Rd.lt (h : Rd w D g l p f) : g < w.heap.size := by obtain ⟨A, c, hb, _⟩ := h; exact hb.lt
theorem Rd.dom (h : Rd w D g l p f) : ∀ k, D k → k < w.heap.size := by obtain ⟨A, c, _, _, _, hd, _⟩ := h; exact hd
theorem Rd.le (h : Rd w D g l p f) : p ≤ l.length := by obtain ⟨A, c, _, _, _, _, hp⟩ := h; exact hp
theorem Rd.keep (h : Rd w D g l p f) (hs : Same (fun k => k = g ∨ D k) w w') (hz : w.heap.size ≤ w'.heap.size) : Rd w' D g l p f := by
  obtain ⟨A, c, hb, hsl, hg, hd, hp⟩ := h
  exact ⟨A, c, (hs g (.inl rfl)).trans hb, Rp.sl_keep hsl (fun k hk => hs k (.inr hk)), hg, fun k hk => Nat.lt_of_lt_of_le (hd k hk) hz, hp⟩
theorem Rd.below (h : Rd w D g l p f) (hb : Below w.heap.size w w') : Rd w' D g l p f :=
  h.keep (Same.of_below hb (fun k hk => by rcases hk with rfl | hk; exact h.lt; exact h.dom k hk)) hb.size
end

def failF (f : Flt) (c a : Int) : Flt := if f.1 = 0 then (if c = 0 then (0, 0) else (c, a)) else f
def skipF (len p : Nat) (f : Flt) (n : Int) : Nat × Flt × Bool :=
  if f.1 ≠ 0 then (p, f, false) else if n < 0 then (p, (17, (p : Int)), false) else if (len : Int) - p < n then (p, (1, (len : Int)), false) else (p + n.toNat, f, true)
theorem skipF_le {len p : Nat} {f : Flt} {n : Int} (h : p ≤ len) : (skipF len p f n).1 ≤ len := by
  unfold skipF
  split
  · exact h
  · split
    · exact h
    · split
      · exact h
      · show p + n.toNat ≤ len; omega

theorem fat_any (c a : Int) (w : World) : Calls Try.prog 100 #[.int .i64 c, .int .i64 a] w fun e w' => e = .returned (.agg #[.int .i64 (failF (0, 0) c a).1, .int .i64 (failF (0, 0) c a).2]) ∧ Below w.heap.size w w' := by
  by_cases h : c = 0
  · subst h
    have e : failF (0, 0) 0 a = (0, 0) := rfl
    rw [e]
    clear e
    go_enter Try.func100, Try.ntmps100
    go_wp2_with fail
    refine bodyPost_ret (v := .agg #[.int .i64 0, .int .i64 0]) (by simp [results, Try.results100, go_sem]) rfl ⟨rfl, ?_⟩
    exact (Below.refl _ _).alloc (Nat.le_refl _) _
  · have e : failF (0, 0) c a = (c, a) := by unfold failF; rw [if_pos rfl, if_neg h]
    rw [e]
    have hd : (c == 0) = false := by simpa using h
    clear e
    go_enter Try.func100, Try.ntmps100
    go_wp2_with fail
    refine bodyPost_ret (v := .agg #[.int .i64 c, .int .i64 a]) (by simp [results, Try.results100, go_sem]) rfl ⟨rfl, ?_⟩
    exact (Below.refl _ _).alloc (Nat.le_refl _) _
theorem fgood_any (c a : Int) (w : World) : Calls Try.prog 111 #[.agg #[.int .i64 c, .int .i64 a]] w fun e w' => e = .returned (.bool (c == 0)) ∧ Below w.heap.size w w' := by
  go_enter Try.func111, Try.ntmps111
  go_wp2_with fail
  go_ret
  exact ⟨rfl, (Below.refl _ _).alloc (Nat.le_refl _) _⟩

theorem Rd.next {w w' : World} {D : Dom} {g c p' : Nat} {A : Option Addr} {l : List UInt8} {f' : Flt} (hsl : rpU8.sl w D A l.length c l) (hg : ¬ D g) (hd : ∀ k, D k → k < w.heap.size) (chg : Chg (one g) w w')
    (hb : Blk w' g 122 #[.slice A l.length c, .int .i64 p', .int .i64 f'.1, .int .i64 f'.2]) (hp : p' ≤ l.length) : Rd w' D g l p' f' :=
  ⟨A, c, hb, Rp.sl_keep hsl (chg.same hd (fun k hk e => hg (e ▸ hk))), hg, fun k hk => Nat.lt_of_lt_of_le (hd k hk) chg.size, hp⟩

theorem cnew_any {w : World} {D : Dom} {A : Option Addr} {n c : Nat} {l : List UInt8} (h : rpU8.sl w D A n c l) (hD : ∀ k, D k → k < w.heap.size) :
    Calls Try.prog 40 #[.slice A n c] w fun e w' => e = .returned (.pointer (some ⟨w.heap.size, 0, none⟩)) ∧ Rd w' D w.heap.size l 0 (0, 0) ∧ Below w.heap.size w w' := by
  obtain ⟨hlen, hnc, hcm⟩ := Rp.sl_len h
  unfold maxLen at hcm
  obtain ⟨A', hcut, hsl⟩ := run_cut_hm elemU h rfl (n : Int) (n : Int) (by omega) (by omega) (by omega) (by omega)
  have hcut1 := hcut w
  rw [List.take_of_length_le (by omega)] at hsl
  rw [Int.toNat_natCast] at hcut1 hsl
  have HS := Lib.hid hsl
  have HN := Lib.hid hlen
  have HD := Lib.hid hD
  clear h hcut hsl hlen hD
  go_enter Try.func40, Try.ntmps40
  go_wp2_with fail
  go_ret
  have hb : Below w.heap.size w (w.alloc (.cells #[.slice A' n n, .int .i64 0, .int .i64 0, .int .i64 0] 122)) := (Below.refl _ _).alloc (Nat.le_refl _) _
  have hbk := Blk.new w 122 #[.slice A' n n, .int .i64 0, .int .i64 0, .int .i64 0]
  refine ⟨rfl, ⟨A', n, by rw [HN.out]; exact hbk, by rw [HN.out]; exact Rp.sl_below HS.out hb HD.out, fun h => Nat.lt_irrefl _ (HD.out _ h), fun k hk => Nat.lt_of_lt_of_le (HD.out k hk) hb.size, Nat.zero_le _⟩, hb⟩

section
variable {w : World} {D : Dom} {g : Nat} {l : List UInt8} {p : Nat} {f : Flt}
theorem cgood_at (h : Rd w D g l p f) : Calls Try.prog 56 #[.pointer (some ⟨g, 0, none⟩)] w fun e w' => e = .returned (.bool (f.1 == 0)) ∧ Below w.heap.size w w' := by
  obtain ⟨A, c, hb, hsl, hg, hd, hp⟩ := h
  have c2 := hb.cell 2
  have c3 := hb.cell 3
  clear hb hsl hg hd hp
  go_enter Try.func56, Try.ntmps56
  go_wp2_with fail
  refine (fgood_any _ _ _).mono ?_; rintro e w1 ⟨rfl, hb1⟩
  go_wp2_with fail
  go_ret
  exact ⟨rfl, hb1⟩
theorem cfault_at (h : Rd w D g l p f) : Calls Try.prog 44 #[.pointer (some ⟨g, 0, none⟩)] w fun e w' => e = .returned (.agg #[.int .i64 f.1, .int .i64 f.2]) ∧ Below w.heap.size w w' := by
  obtain ⟨A, c, hb, hsl, hg, hd, hp⟩ := h
  have hb2 := hb.alloc (.cells #[.int .i64 0, .int .i64 0] 40)
  have c2 := hb2.cell 2
  have c3 := hb2.cell 3
  clear hb hb2 hsl hg hd hp
  go_enter Try.func44, Try.ntmps44
  go_wp2_with fail
  refine bodyPost_ret (v := .agg #[.int .i64 f.1, .int .i64 f.2]) (by simp [results, Try.results44, go_sem]) rfl ⟨rfl, ?_⟩
  exact (Below.refl _ _).alloc (Nat.le_refl _) _
theorem cat_at (h : Rd w D g l p f) : Calls Try.prog 45 #[.pointer (some ⟨g, 0, none⟩)] w fun e w' => e = .returned (.int .i64 (p : Int)) ∧ w = w' := by
  obtain ⟨A, c, hb, hsl, hg, hd, hp⟩ := h
  have c1 := hb.cell 1
  clear hb hsl hg hd hp
  go_enter Try.func45, Try.ntmps45
  go_wp2
  go_ret
  exact ⟨rfl, rfl⟩
theorem cleft_at (h : Rd w D g l p f) : Calls Try.prog 129 #[.pointer (some ⟨g, 0, none⟩)] w fun e w' => e = .returned (.int .i64 ((l.length : Int) - p)) ∧ Below w.heap.size w w' := by
  obtain ⟨A, c, hb, hsl, hg, hd, hp⟩ := h
  have c0 := hb.cell 0
  have c1 := hb.cell 1
  obtain ⟨_, h1, h2⟩ := Rp.sl_len hsl
  unfold maxLen at h2
  clear hb hsl hg hd
  go_enter Try.func129, Try.ntmps129
  go_wp2_with fail
  go_quiet (fail)
  go_wp2_with fail
  go_ret
  exact ⟨rfl, ⟨rfl, rfl, rfl, Nat.le_refl _, fun _ _ => rfl⟩⟩
theorem cfail_at (h : Rd w D g l p f) (c a : Int) : Calls Try.prog 91 #[.pointer (some ⟨g, 0, none⟩), .int .i64 c, .int .i64 a] w fun e w' => e = .returned (.tuple #[]) ∧ Rd w' D g l p (failF f c a) ∧ Chg (one g) w w' := by
  have hgood := cgood_at h
  have HP := Lib.hid h
  obtain ⟨A, cc, hb, hsl, hg, hd, hp⟩ := h
  have HB := Lib.hid hb
  have HS := Lib.hid hsl
  have HD := Lib.hid hd
  have HG := Lib.hid hg
  clear hb hsl hd hg
  by_cases h0 : f.1 = 0
  · have e : failF f c a = failF (0, 0) c a := by unfold failF; rw [if_pos h0, if_pos rfl]
    rw [e]
    rw [show (f.1 == 0) = true by simpa using h0] at hgood
    have HC := Lib.hid hgood
    have hfat := fun w => fat_any c a w
    clear e hgood h0
    generalize failF (0, 0) c a = f' at *
    have HFAT := Lib.hid hfat
    clear hfat
    go_enter Try.func91, Try.ntmps91
    go_wp2_with fail
    refine HC.out.mono ?_; rintro e w1 ⟨rfl, hb1⟩
    go_wp2_with fail
    refine (HFAT.out _).mono ?_; rintro e w2 ⟨rfl, hb2⟩
    have hb12 := hb1.trans (hb2.mono hb1.size)
    have hblk2 := HB.out.below hb12 HB.out.lt
    have f2 := hblk2.frozen 2
    have f3 := hblk2.frozen 3
    have c2 := hblk2.cell 2
    have c3 := hblk2.cell 3
    have HB2 := Lib.hid hblk2
    have HB12 := Lib.hid hb12
    clear hb1 hb2 hb12 hblk2
    go_wp2_with fail
    go_end0
    have chg : Chg (one g) w _ := ((Chg.of_pure HB12.out (one g)).setCell (p := ⟨g, 2, none⟩) (.inl rfl) (.int .i64 f'.1)).setCell (p := ⟨g, 3, none⟩) (.inl rfl) (.int .i64 f'.2)
    exact ⟨rfl, Rd.next HS.out HG.out HD.out chg ((HB2.out.put 2 _).put 3 _) hp, chg⟩
  · have e : failF f c a = f := by unfold failF; rw [if_neg h0]
    rw [e]
    rw [show (f.1 == 0) = false by simpa using h0] at hgood
    have HC := Lib.hid hgood
    clear e hgood h0
    go_enter Try.func91, Try.ntmps91
    go_wp2_with fail
    refine HC.out.mono ?_; rintro e w1 ⟨rfl, hb1⟩
    go_wp2_with fail
    go_end0
    exact ⟨rfl, HP.out.below hb1, Chg.of_pure hb1 _⟩
theorem skipF_bad1 {len p : Nat} {f : Flt} {n : Int} (h : f.1 ≠ 0) : skipF len p f n = (p, f, false) := if_pos h
theorem skipF_bad2 {len p : Nat} {f : Flt} {n : Int} (h : f.1 = 0) (h2 : n < 0) : skipF len p f n = (p, (17, (p : Int)), false) := by unfold skipF; rw [if_neg (by simpa using h), if_pos h2]
theorem skipF_bad3 {len p : Nat} {f : Flt} {n : Int} (h : f.1 = 0) (h2 : ¬ n < 0) (h3 : (len : Int) - p < n) : skipF len p f n = (p, (1, (len : Int)), false) := by unfold skipF; rw [if_neg (by simpa using h), if_neg h2, if_pos h3]
theorem skipF_ok {len p : Nat} {f : Flt} {n : Int} (h : f.1 = 0) (h2 : ¬ n < 0) (h3 : ¬ (len : Int) - p < n) : skipF len p f n = (p + n.toNat, f, true) := by unfold skipF; rw [if_neg (by simpa using h), if_neg h2, if_neg h3]
theorem failF_set {f : Flt} {c a : Int} (h : f.1 = 0) (hc : c ≠ 0) : failF f c a = (c, a) := by unfold failF; rw [if_pos h, if_neg hc]
theorem cskip_at (h : Rd w D g l p f) (n : Int) (n0 : -9223372036854775808 ≤ n) (n1 : n ≤ 9223372036854775807) : Calls Try.prog 146 #[.pointer (some ⟨g, 0, none⟩), .int .i64 n] w fun e w' => e = .returned (.bool (skipF l.length p f n).2.2) ∧ Rd w' D g l (skipF l.length p f n).1 (skipF l.length p f n).2.1 ∧ Chg (one g) w w' := by
  have hgood := cgood_at h
  have HP := Lib.hid h
  have hp := h.le
  have hlm : l.length ≤ 9223372036854775807 := by
    obtain ⟨A, c, hb, hsl, _⟩ := h
    have := Rp.sl_len hsl
    unfold maxLen at this; omega
  clear h
  by_cases h0 : f.1 = 0
  · rw [show (f.1 == 0) = true by simpa using h0] at hgood
    have HC := Lib.hid hgood
    have H0 := Lib.hid h0
    clear hgood h0
    by_cases hneg : n < 0
    · rw [skipF_bad2 H0.out hneg]
      go_enter Try.func146, Try.ntmps146
      go_wp2_with fail
      refine HC.out.mono ?_; rintro e w1 ⟨rfl, hb1⟩
      have HP1 := Lib.hid (HP.out.below hb1)
      have HB1 := Lib.hid hb1
      have HC1 : Hid (∃ A c, Blk w1 g 122 #[.slice A l.length c, .int .i64 p, .int .i64 f.1, .int .i64 f.2]) := by obtain ⟨A, c, hb, _⟩ := HP1.out; exact ⟨A, c, hb⟩
      obtain ⟨A, c, hblk⟩ := HC1.out
      have c1 := hblk.cell 1
      clear hblk hb1
      go_wp2_with fail
      refine (cfail_at HP1.out 17 p).mono ?_; rintro e w2 ⟨rfl, hr2, hch2⟩
      rw [failF_set H0.out (by decide)] at hr2
      have HR2 := Lib.hid hr2
      have HCH := Lib.hid hch2
      clear hr2 hch2 c1
      go_wp2_with fail
      go_ret
      exact ⟨rfl, HR2.out, (Chg.of_pure HB1.out _).trans HCH.out⟩
    · by_cases hbig : (l.length : Int) - p < n
      · rw [skipF_bad3 H0.out hneg hbig]
        go_enter Try.func146, Try.ntmps146
        go_wp2_with fail
        refine HC.out.mono ?_; rintro e w1 ⟨rfl, hb1⟩
        have HP1 := Lib.hid (HP.out.below hb1)
        have HB1 := Lib.hid hb1
        clear hb1
        go_wp2_with fail
        refine (cleft_at HP1.out).mono ?_; rintro e w2 ⟨rfl, hb2⟩
        have HP2 := Lib.hid (HP1.out.below hb2)
        have HB2 := Lib.hid (HB1.out.trans (hb2.mono HB1.out.size))
        have HC1 : Hid (∃ A c, Blk w2 g 122 #[.slice A l.length c, .int .i64 p, .int .i64 f.1, .int .i64 f.2]) := by obtain ⟨A, c, hb, _⟩ := HP2.out; exact ⟨A, c, hb⟩
        obtain ⟨A, c, hblk⟩ := HC1.out
        have c0 := hblk.cell 0
        clear hblk hb2
        go_wp2_with fail
        refine (cfail_at HP2.out 1 l.length).mono ?_; rintro e w3 ⟨rfl, hr2, hch2⟩
        rw [failF_set H0.out (by decide)] at hr2
        have HR2 := Lib.hid hr2
        have HCH := Lib.hid hch2
        clear hr2 hch2 c0
        go_wp2_with fail
        go_ret
        exact ⟨rfl, HR2.out, (Chg.of_pure HB2.out _).trans HCH.out⟩
      · rw [skipF_ok H0.out hneg hbig]
        obtain ⟨k, rfl⟩ : ∃ k : Nat, n = k := ⟨n.toNat, by omega⟩
        rw [Int.toNat_natCast]
        go_enter Try.func146, Try.ntmps146
        go_wp2_with fail
        refine HC.out.mono ?_; rintro e w1 ⟨rfl, hb1⟩
        have HP1 := Lib.hid (HP.out.below hb1)
        have HB1 := Lib.hid hb1
        clear hb1
        go_wp2_with fail
        refine (cleft_at HP1.out).mono ?_; rintro e w2 ⟨rfl, hb2⟩
        have HB2 := Lib.hid (HB1.out.trans (hb2.mono HB1.out.size))
        obtain ⟨A, c, hblk, hsl, hg, hd, _⟩ := HP1.out.below hb2
        have c1 := hblk.cell 1
        have f1 := hblk.frozen 1
        have HK := Lib.hid hblk
        have HS := Lib.hid hsl
        have HG := Lib.hid hg
        have HD := Lib.hid hd
        clear hblk hb2 hsl hg hd
        go_wp2_with fail
        go_ret
        have chg : Chg (one g) w2 _ := (Chg.refl (one g) w2).setCell (p := ⟨g, 1, none⟩) (.inl rfl) (.int .i64 ((p : Int) + k))
        refine ⟨rfl, Rd.next HS.out HG.out HD.out chg (p' := p + k) ?_ (by omega), (Chg.of_pure HB2.out _).trans chg⟩
        have := HK.out.put 1 (.int .i64 ((p : Int) + k))
        simpa using this
  · rw [skipF_bad1 h0]
    rw [show (f.1 == 0) = false by simpa using h0] at hgood
    have HC := Lib.hid hgood
    clear hgood h0
    go_enter Try.func146, Try.ntmps146
    go_wp2_with fail
    refine HC.out.mono ?_; rintro e w1 ⟨rfl, hb1⟩
    go_wp2_with fail
    go_ret
    exact ⟨rfl, HP.out.below hb1, Chg.of_pure hb1 _⟩
end
end Go.Proofs.Ytmdgmnaaopineaa
/- The program's cursor: Take, Byte, End, Part, Since. -/
namespace Go.Proofs.Ytmdgmnaaopineaa
open Go.ChangeShapes Go.WideShapes Go.ChangeAt Go.RowKit
set_option linter.unusedVariables false

/-- What is taken from a place on. -/
def cutB (l : List UInt8) (p k : Nat) : List UInt8 := (l.take (p + k)).drop p
def takeB (l : List UInt8) (p : Nat) (f : Flt) (n : Int) : List UInt8 := if (skipF l.length p f n).2.2 then cutB l p n.toNat else []
theorem skipF_false {len p : Nat} {f : Flt} {n : Int} (h : (skipF len p f n).2.2 = false) : (skipF len p f n).1 = p := by
  unfold skipF at *
  split
  · rfl
  · split
    · rfl
    · split
      · rfl
      · simp_all
theorem skipF_true {len p : Nat} {f : Flt} {n : Int} (h : (skipF len p f n).2.2 = true) : f.1 = 0 ∧ 0 ≤ n ∧ n ≤ (len : Int) - p ∧ skipF len p f n = (p + n.toNat, f, true) := by
  by_cases h0 : f.1 = 0
  · by_cases h1 : n < 0
    · rw [skipF_bad2 h0 h1] at h; simp at h
    · by_cases h2 : (len : Int) - p < n
      · rw [skipF_bad3 h0 h1 h2] at h; simp at h
      · exact ⟨h0, by omega, by omega, skipF_ok h0 h1 h2⟩
  · rw [skipF_bad1 h0] at h; simp at h

section
variable {w : World} {D : Dom} {g : Nat} {l : List UInt8} {p : Nat} {f : Flt}
def byteB (l : List UInt8) (p : Nat) (f : Flt) : Nat := if (skipF l.length p f 1).2.2 then (l.getD p 0).toNat else 0
theorem cbyte_at (h : Rd w D g l p f) (hl : l.length ≤ 1000000000) : Calls Try.prog 130 #[.pointer (some ⟨g, 0, none⟩)] w fun e w' => e = .returned (.int .u8 (byteB l p f : Int)) ∧ Rd w' D g l (skipF l.length p f 1).1 (skipF l.length p f 1).2.1 ∧ Chg (one g) w w' := by
  have hskip := cskip_at h 1 (by decide) (by decide)
  cases hq : (skipF l.length p f 1).2.2
  · have ht : byteB l p f = 0 := by unfold byteB; rw [hq]; rfl
    rw [ht]
    rw [hq] at hskip
    have HC := Lib.hid hskip
    clear hskip hq ht h
    generalize skipF l.length p f 1 = s at *
    go_enter Try.func130, Try.ntmps130
    go_wp2_with fail
    refine HC.out.mono ?_; rintro e w1 ⟨rfl, hr1, hch⟩
    have HR := Lib.hid hr1
    have HCH := Lib.hid hch
    clear hr1 hch
    go_wp2_with fail
    go_ret
    exact ⟨rfl, HR.out, HCH.out⟩
  · obtain ⟨hf0, hn0, hn1, hs⟩ := skipF_true hq
    have hp := h.le
    obtain ⟨x, hx⟩ : ∃ x, l[p]? = some x := ⟨_, List.getElem?_eq_getElem (show p < l.length by omega)⟩
    have ht : byteB l p f = x.toNat := by unfold byteB; rw [hq, List.getD_eq_getElem?_getD, hx]; rfl
    rw [ht]
    rw [hq] at hskip
    rw [hs] at hskip ⊢
    have HC := Lib.hid hskip
    have HX := Lib.hid hx
    clear hskip hq ht hs h hf0 hx
    go_enter Try.func130, Try.ntmps130
    go_wp2_with fail
    refine HC.out.mono ?_; rintro e w1 ⟨rfl, hr1, hch⟩
    have HR := Lib.hid hr1
    have HCH := Lib.hid hch
    obtain ⟨A, c, hblk, hsl, hg, hd, _⟩ := hr1
    obtain ⟨_, hc1, hc2⟩ := Rp.sl_len hsl
    unfold maxLen at hc2
    obtain ⟨b, off, y, rfl, hbD, hy, hcell⟩ := bytes_at hsl (show p < l.length by omega)
    have exy : y = x := by rw [HX.out] at hy; injection hy with hy; exact hy.symm
    subst exy
    have d0 := hblk.cell 0
    have d1 := hblk.cell 1
    have hw1 : IntKind.i64.wrap ((p : Int) + 1 - 1) = p := by rw [Int.add_sub_cancel]; exact IntWalk.i64_in _ (by omega)
    have hw2 : IntKind.i64.wrap (p : Int) = p := IntWalk.i64_in _ (by omega)
    have hp1 : (p : Int) < (l.length : Int) := by omega
    clear hch hblk hsl hd hy
    go_wp2_with fail
    go_quiet (fail)
    go_wp2_with fail
    go_ret
    exact ⟨rfl, HR.out.below ⟨rfl, rfl, rfl, Nat.le_refl _, fun _ _ => rfl⟩, HCH.out.trans ⟨rfl, rfl, rfl, Nat.le_refl _, fun _ _ _ => rfl⟩⟩
def endF (len p : Nat) (f : Flt) : Flt := if p < len then failF f 9 p else f
theorem cend_at (h : Rd w D g l p f) : Calls Try.prog 78 #[.pointer (some ⟨g, 0, none⟩)] w fun e w' => e = .returned (.tuple #[]) ∧ Rd w' D g l p (endF l.length p f) ∧ Chg (one g) w w' := by
  have hp := h.le
  have HH := Lib.hid h
  have hlm : l.length ≤ 9223372036854775807 := by
    obtain ⟨A, c, hb, hsl, _⟩ := h
    have := Rp.sl_len hsl
    unfold maxLen at this; omega
  clear h
  by_cases hlt : p < l.length
  · have e : endF l.length p f = failF f 9 p := by unfold endF; rw [if_pos hlt]
    rw [e]
    clear e
    go_enter Try.func78, Try.ntmps78
    go_wp2_with fail
    refine (cleft_at HH.out).mono ?_; rintro e w1 ⟨rfl, hb1⟩
    have HR := Lib.hid (HH.out.below hb1)
    have HB := Lib.hid hb1
    obtain ⟨A, c, hblk, hsl, hg, hd, _⟩ := HR.out
    have d1 := hblk.cell 1
    clear hblk hsl hg hd hb1
    go_wp2_with fail
    refine (cfail_at HR.out 9 p).mono ?_; rintro e w2 ⟨rfl, hr2, hch⟩
    have HR2 := Lib.hid hr2
    have HCH := Lib.hid hch
    clear hr2 hch d1
    go_wp2_with fail
    go_end0
    exact ⟨rfl, HR2.out, (Chg.of_pure HB.out _).trans HCH.out⟩
  · have e : endF l.length p f = f := by unfold endF; rw [if_neg hlt]
    rw [e]
    clear e
    go_enter Try.func78, Try.ntmps78
    go_wp2_with fail
    refine (cleft_at HH.out).mono ?_; rintro e w1 ⟨rfl, hb1⟩
    go_wp2_with fail
    go_end0
    exact ⟨rfl, HH.out.below hb1, Chg.of_pure hb1 _⟩
def partE (len p : Nat) (n : Int) : Nat := p + (min (max n 0) ((len : Int) - p)).toNat
end
end Go.Proofs.Ytmdgmnaaopineaa
/- What reading a number does to a reader, whatever its fault; the reference's number from the front. No walk. -/
namespace Go.Proofs.Ytmdgmnaaopineaa
set_option linter.unusedVariables false
def OkF (f : Flt) : Prop := f = (0, 0) ∨ f.1 ≠ 0
theorem OkF.nil : OkF (0, 0) := .inl rfl
theorem OkF.fail {f : Flt} (h : OkF f) (c a : Int) : OkF (failF f c a) := by
  unfold failF OkF at *
  rcases h with rfl | h
  · rw [if_pos rfl]
    by_cases hc : c = 0
    · rw [if_pos hc]; exact .inl rfl
    · rw [if_neg hc]; exact .inr hc
  · rw [if_neg h]; exact .inr h
theorem OkF.eq {f : Flt} (h : OkF f) (h0 : f.1 = 0) : f = (0, 0) := h.resolve_right (fun e => e h0)
theorem vgo_ok (l : List UInt8) (p : Nat) : ∀ (k n x : Nat), OkF (vgo l p k n x).2.2
  | 0, n, x => .inl rfl
  | k + 1, n, x => by
    unfold vgo
    split
    · exact .inr (by simp)
    · split
      · exact .inr (by simp)
      · split
        · exact .inr (by simp)
        · split
          · exact vgo_ok l p k _ _
          · exact .inl rfl
theorem vgo_fail0 (l : List UInt8) (p : Nat) : ∀ (k n x : Nat), (vgo l p k n x).2.2.1 ≠ 0 → (vgo l p k n x).1 = 0
  | 0, n, x => fun h => absurd rfl h
  | k + 1, n, x => by
    intro h
    unfold vgo at h ⊢
    split
    · rfl
    · rename_i c hc
      rw [hc] at h
      simp only at h
      split
      · rfl
      · rename_i h1
        rw [if_neg h1] at h
        split
        · rfl
        · rename_i h2
          rw [if_neg h2] at h
          split
          · rename_i h3
            rw [if_pos h3] at h
            exact vgo_fail0 l p k _ _ h
          · rename_i h3
            rw [if_neg h3] at h
            exact absurd rfl h
def vrdF (l : List UInt8) (p : Nat) (f : Flt) : Nat × Nat × Flt := if f.1 = 0 then vrd l p else (0, p, f)
theorem vrdF_ok {l : List UInt8} {p : Nat} {f : Flt} (h : OkF f) : OkF (vrdF l p f).2.2 := by
  unfold vrdF
  split
  · exact vgo_ok l p 10 0 0
  · exact h
theorem vrdF_fail0 {l : List UInt8} {p : Nat} {f : Flt} (h : (vrdF l p f).2.2.1 ≠ 0) : (vrdF l p f).1 = 0 := by
  unfold vrdF at *
  split
  · rename_i h0
    rw [if_pos h0] at h
    exact vgo_fail0 l p 10 0 0 h
  · rfl
theorem vrdF_good {l : List UInt8} {p : Nat} {f : Flt} (h : f.1 = 0) : vrdF l p f = vrd l p := if_pos h
theorem vrdF_bad {l : List UInt8} {p : Nat} {f : Flt} (h : f.1 ≠ 0) : vrdF l p f = (0, p, f) := if_neg h
theorem vrd_lt (l : List UInt8) (p : Nat) : (vrd l p).1 < 18446744073709551616 := by
  rcases h : vrd l p with ⟨v, q, c, a⟩
  by_cases hc : c = 0
  · subst hc; exact (vrd_inv h).1
  · have := vgo_fail0 l p 10 0 0 (by show (vrd l p).2.2.1 ≠ 0; rw [h]; exact hc)
    have e : (vrd l p).1 = 0 := this
    rw [h] at e
    simp only at e
    omega
theorem vrdF_lt (l : List UInt8) (p : Nat) (f : Flt) : (vrdF l p f).1 < 18446744073709551616 := by
  unfold vrdF; split
  · exact vrd_lt l p
  · simp
/-- A number that may be so great at most. -/
def mostF (l : List UInt8) (p : Nat) (f : Flt) (m : Nat) : Nat × Nat × Flt := if m < (vrdF l p f).1 then (0, (vrdF l p f).2.1, failF (vrdF l p f).2.2 2 p) else vrdF l p f
/-- A number that must be as told. -/
def mustF (R : Nat → Bool) (l : List UInt8) (p : Nat) (f : Flt) : Nat × Nat × Flt :=
  if (vrdF l p f).2.2.1 = 0 then if R (vrdF l p f).1 then vrdF l p f else (0, (vrdF l p f).2.1, failF (vrdF l p f).2.2 3 p) else vrdF l p f
theorem mostF_ok {l : List UInt8} {p : Nat} {f : Flt} (m : Nat) (h : OkF f) : OkF (mostF l p f m).2.2 := by
  unfold mostF; split
  · exact (vrdF_ok h).fail _ _
  · exact vrdF_ok h
theorem mustF_ok {R : Nat → Bool} {l : List UInt8} {p : Nat} {f : Flt} (h : OkF f) : OkF (mustF R l p f).2.2 := by
  unfold mustF; split
  · split
    · exact vrdF_ok h
    · exact (vrdF_ok h).fail _ _
  · exact vrdF_ok h
/-- A number from the front, read from any place on. -/
theorem vgo_drop (l : List UInt8) (p : Nat) (hp : p ≤ l.length) : ∀ (k n x : Nat), p + n ≤ l.length →
    vgo l p k n x = ((vgo (l.drop p) 0 k n x).1, p + (vgo (l.drop p) 0 k n x).2.1, if (vgo (l.drop p) 0 k n x).2.2.1 = 0 then (0, 0) else if (vgo (l.drop p) 0 k n x).2.2.1 = 1 then (1, (l.length : Int)) else ((vgo (l.drop p) 0 k n x).2.2.1, (p : Int) + (vgo (l.drop p) 0 k n x).2.2.2)) ∧
    ((vgo (l.drop p) 0 k n x).2.2.1 = 1 → p + (vgo (l.drop p) 0 k n x).2.1 = l.length) ∧ ((vgo (l.drop p) 0 k n x).2.2.1 ≠ 0 → (vgo (l.drop p) 0 k n x).2.2.1 ≠ 1 → (vgo (l.drop p) 0 k n x).2.2.2 + 1 = (vgo (l.drop p) 0 k n x).2.1)
  | 0, n, x, h => by
    unfold vgo
    refine ⟨?_, fun h => absurd h (by simp), fun h => absurd rfl h⟩
    simp
  | k + 1, n, x, h => by
    have e : (l.drop p)[0 + n]? = l[p + n]? := by rw [List.getElem?_drop, Nat.zero_add]
    cases hc : l[p + n]? with
    | none =>
      rw [vgo_none hc, vgo_none (e.trans hc)]
      have := List.getElem?_eq_none_iff.1 hc
      refine ⟨by simp, fun _ => by simp only; omega, fun _ h => absurd rfl h⟩
    | some c =>
      have hlt := (List.getElem?_eq_some_iff.1 hc).1
      by_cases h9 : n = 9 ∧ 1 < c.toNat
      · rw [vgo_over hc h9.1 h9.2, vgo_over (e.trans hc) h9.1 h9.2]
        refine ⟨by simp; omega, fun h => absurd h (by simp), fun _ _ => by simp only; omega⟩
      · by_cases hz : c.toNat = 0 ∧ 0 < n
        · rw [vgo_zero hc h9 hz.1 hz.2, vgo_zero (e.trans hc) h9 hz.1 hz.2]
          refine ⟨by simp; omega, fun h => absurd h (by simp), fun _ _ => by simp only; omega⟩
        · by_cases hm : 128 ≤ c.toNat
          · rw [vgo_more hc h9 hm, vgo_more (e.trans hc) h9 hm]
            exact vgo_drop l p hp k (n + 1) _ (by omega)
          · rw [vgo_last hc h9 hz hm, vgo_last (e.trans hc) h9 hz hm]
            refine ⟨by simp; omega, fun h => absurd h (by simp), fun h => absurd rfl h⟩
/-- The number that the digits ahead of a place are. -/
def dsum (l : List UInt8) : Nat → Nat
  | 0 => 0
  | n + 1 => dsum l n + (l.getD n 0).toNat % 128 * 128 ^ n
theorem dsum_lt (l : List UInt8) : ∀ n, dsum l n < 128 ^ n
  | 0 => by simp [dsum]
  | n + 1 => by
    have h := dsum_lt l n
    have : (l.getD n 0).toNat % 128 * 128 ^ n ≤ 127 * 128 ^ n := Nat.mul_le_mul_right _ (by omega)
    rw [Nat.pow_succ]
    unfold dsum
    omega
end Go.Proofs.Ytmdgmnaaopineaa
/- What the readers of numbers give, forward and back; bytes that stand at a place. No walk. -/
namespace Go.Proofs.Ytmdgmnaaopineaa
set_option linter.unusedVariables false
/-- The bytes bs stand in l from p on. -/
def Stands (l : List UInt8) (p : Nat) (bs : List UInt8) : Prop := ∀ j u, bs[j]? = some u → l[p + j]? = some u
theorem Stands.nil (l : List UInt8) (p : Nat) : Stands l p [] := fun j u h => by simp at h
theorem stands_append {l a b : List UInt8} {p : Nat} : Stands l p (a ++ b) ↔ Stands l p a ∧ Stands l (p + a.length) b := by
  constructor
  · intro h
    refine ⟨fun j u hu => h j u ?_, fun j u hu => ?_⟩
    · rw [List.getElem?_append_left (List.getElem?_eq_some_iff.1 hu).1]; exact hu
    · have := h (a.length + j) u (by rw [List.getElem?_append_right (by omega)]; simpa using hu)
      rw [Nat.add_assoc]; exact this
  · rintro ⟨h1, h2⟩ j u hu
    by_cases hj : j < a.length
    · exact h1 j u (by rwa [List.getElem?_append_left hj] at hu)
    · rw [List.getElem?_append_right (by omega)] at hu
      have := h2 (j - a.length) u hu
      rw [show p + a.length + (j - a.length) = p + j by omega] at this
      exact this
theorem Stands.front (a b : List UInt8) : Stands (a ++ b) 0 a := fun j u h => by
  rw [Nat.zero_add, List.getElem?_append_left (List.getElem?_eq_some_iff.1 h).1]; exact h
theorem Stands.le {l bs : List UInt8} {p : Nat} (h : Stands l p bs) (hb : 0 < bs.length) : p + bs.length ≤ l.length := by
  have := h (bs.length - 1) (bs[bs.length - 1]'(by omega)) (List.getElem?_eq_getElem (by omega))
  have := (List.getElem?_eq_some_iff.1 this).1
  omega
theorem Stands.eq {l bs : List UInt8} {p q : Nat} (h : Stands l p bs) (hq : q = p + bs.length) (hl : q ≤ l.length) : (l.take q).drop p = bs := by
  apply List.ext_getElem?
  intro j
  rw [List.getElem?_drop, List.getElem?_take]
  by_cases hj : j < bs.length
  · rw [if_pos (by omega), List.getElem?_eq_getElem hj]
    exact h j _ (List.getElem?_eq_getElem hj)
  · rw [if_neg (by omega), List.getElem?_eq_none (by omega)]
theorem Stands.eq0 {l bs : List UInt8} (h : Stands l 0 bs) (hl : bs.length ≤ l.length) : l.take bs.length = bs := by
  have := h.eq (q := bs.length) (by omega) hl
  simpa using this

theorem vrdF_fault {l : List UInt8} {p : Nat} {f : Flt} (h : (vrdF l p f).2.2.1 = 0) : f.1 = 0 := by
  by_cases h0 : f.1 = 0
  · exact h0
  · rw [vrdF_bad h0] at h; exact absurd h h0
theorem failF_bad {f : Flt} {c a : Int} (hc : c ≠ 0) : (failF f c a).1 ≠ 0 := by
  unfold failF
  split
  · exact hc
  · assumption
/-- **A number that was read.** -/
theorem vrdF_inv {l : List UInt8} {p : Nat} {f : Flt} (h : (vrdF l p f).2.2.1 = 0) : f.1 = 0 ∧ (vrdF l p f).1 < 18446744073709551616 ∧ (vrdF l p f).2.1 = p + (vbytes (vrdF l p f).1).length ∧ (vrdF l p f).2.1 ≤ l.length ∧ Stands l p (vbytes (vrdF l p f).1) := by
  have h0 := vrdF_fault h
  refine ⟨h0, ?_⟩
  rw [vrdF_good h0] at h ⊢
  rcases hv : vrd l p with ⟨v, q, c, a⟩
  rw [hv] at h
  simp only at h
  subst h
  exact vrd_inv hv
theorem mostF_inv {l : List UInt8} {p m : Nat} {f : Flt} (h : (mostF l p f m).2.2.1 = 0) : f.1 = 0 ∧ (mostF l p f m).1 ≤ m ∧ (mostF l p f m).1 < 18446744073709551616 ∧ (mostF l p f m).2.1 = p + (vbytes (mostF l p f m).1).length ∧ (mostF l p f m).2.1 ≤ l.length ∧ Stands l p (vbytes (mostF l p f m).1) ∧ mostF l p f m = vrdF l p f := by
  unfold mostF at *
  by_cases hm : m < (vrdF l p f).1
  · rw [if_pos hm] at h
    exact absurd h (failF_bad (by decide))
  · rw [if_neg hm] at h ⊢
    have := vrdF_inv h
    exact ⟨this.1, by omega, this.2.1, this.2.2.1, this.2.2.2.1, this.2.2.2.2, rfl⟩
theorem mustF_inv {R : Nat → Bool} {l : List UInt8} {p : Nat} {f : Flt} (h : (mustF R l p f).2.2.1 = 0) : f.1 = 0 ∧ R (mustF R l p f).1 = true ∧ (mustF R l p f).1 < 18446744073709551616 ∧ (mustF R l p f).2.1 = p + (vbytes (mustF R l p f).1).length ∧ (mustF R l p f).2.1 ≤ l.length ∧ Stands l p (vbytes (mustF R l p f).1) ∧ mustF R l p f = vrdF l p f := by
  unfold mustF at *
  by_cases h0 : (vrdF l p f).2.2.1 = 0
  · rw [if_pos h0] at h ⊢
    cases hR : R (vrdF l p f).1
    · rw [hR] at h
      exact absurd h (failF_bad (by decide))
    · have := vrdF_inv h0
      rw [if_pos rfl]
      exact ⟨this.1, hR, this.2.1, this.2.2.1, this.2.2.2.1, this.2.2.2.2, rfl⟩
  · rw [if_neg h0] at h; exact absurd h h0
theorem vrdF_stands {l : List UInt8} {p x : Nat} (hx : x < 18446744073709551616) (h : Stands l p (vbytes x)) : vrdF l p (0, 0) = (x, p + (vbytes x).length, (0, 0)) := by
  rw [vrdF_good rfl]; exact vrd_bytes hx h
theorem mostF_stands {l : List UInt8} {p x m : Nat} (hx : x < 18446744073709551616) (hm : x ≤ m) (h : Stands l p (vbytes x)) : mostF l p (0, 0) m = (x, p + (vbytes x).length, (0, 0)) := by
  unfold mostF; rw [vrdF_stands hx h, if_neg (by simp only; omega)]
theorem mustF_stands {R : Nat → Bool} {l : List UInt8} {p x : Nat} (hx : x < 18446744073709551616) (hR : R x = true) (h : Stands l p (vbytes x)) : mustF R l p (0, 0) = (x, p + (vbytes x).length, (0, 0)) := by
  unfold mustF; rw [vrdF_stands hx h, if_pos rfl, if_pos hR]
theorem vrdF_le {l : List UInt8} {p : Nat} {f : Flt} (hp : p ≤ l.length) : (vrdF l p f).2.1 ≤ l.length ∧ p ≤ (vrdF l p f).2.1 := by
  unfold vrdF
  split
  · have key : ∀ (k n x : Nat), p + n ≤ l.length → (vgo l p k n x).2.1 ≤ l.length ∧ p ≤ (vgo l p k n x).2.1 := by
      intro k
      induction k with
      | zero => intro n x h; exact ⟨h, by show p ≤ p + n; omega⟩
      | succ k ih =>
        intro n x h
        unfold vgo
        split
        · exact ⟨h, by show p ≤ p + n; omega⟩
        · rename_i c hc
          have := (List.getElem?_eq_some_iff.1 hc).1
          split
          · exact ⟨by show p + n + 1 ≤ _; omega, by show p ≤ p + n + 1; omega⟩
          · split
            · exact ⟨by show p + n + 1 ≤ _; omega, by show p ≤ p + n + 1; omega⟩
            · split
              · exact ih _ _ (by omega)
              · exact ⟨by show p + n + 1 ≤ _; omega, by show p ≤ p + n + 1; omega⟩
    exact key 10 0 0 (by omega)
  · exact ⟨hp, Nat.le_refl _⟩
theorem mostF_q {l : List UInt8} {p m : Nat} {f : Flt} : (mostF l p f m).2.1 = (vrdF l p f).2.1 := by
  unfold mostF; split <;> rfl
theorem mustF_q {R : Nat → Bool} {l : List UInt8} {p : Nat} {f : Flt} : (mustF R l p f).2.1 = (vrdF l p f).2.1 := by
  unfold mustF; split
  · split <;> rfl
  · rfl
theorem mostF_lt (l : List UInt8) (p m : Nat) (f : Flt) : (mostF l p f m).1 < 18446744073709551616 := by
  unfold mostF; split
  · simp
  · exact vrdF_lt l p f
theorem mustF_lt (R : Nat → Bool) (l : List UInt8) (p : Nat) (f : Flt) : (mustF R l p f).1 < 18446744073709551616 := by
  unfold mustF; split
  · split
    · exact vrdF_lt l p f
    · simp
  · exact vrdF_lt l p f
end Go.Proofs.Ytmdgmnaaopineaa
/- Chapter 19 in plain words: what a well-formed stripe is, to which set a position is dealt, and back. No program here. -/
namespace Go.Proofs.Ytmdgmnaaopineaa
noncomputable def dec (p : Prop) : Bool := @decide p (Classical.propDecidable p)
theorem dec_true {p : Prop} (h : p) : dec p = true := by unfold dec; exact @decide_eq_true p (Classical.propDecidable p) h
theorem dec_false {p : Prop} (h : ¬ p) : dec p = false := by unfold dec; exact @decide_eq_false p (Classical.propDecidable p) h
theorem of_dec {p : Prop} (h : dec p = true) : p := by unfold dec at h; exact @of_decide_eq_true p (Classical.propDecidable p) h
theorem of_not_dec {p : Prop} (h : dec p = false) : ¬ p := by unfold dec at h; exact @of_decide_eq_false p (Classical.propDecidable p) h
theorem dec_congr {p q : Prop} (h : p ↔ q) : dec p = dec q := by rw [propext h]

abbrev Stp := Nat × Nat × List (List Nat)
def Rises (l : List Nat) : Prop := ∀ (i a b : Nat), l[i]? = some a → l[i + 1]? = some b → a < b
def SetOk (sets : List (List Nat)) (i : Nat) (l : List Nat) : Prop :=
  1 ≤ l.length ∧ l.length ≤ 8 ∧ Rises l ∧ (∀ a, l[l.length - 1]? = some a → a < 4294967296) ∧ ∀ (j : Nat) (o : List Nat), j < i → sets[j]? = some o → ∀ x ∈ l, x ∉ o
def SOk (s : Stp) : Prop := s.1 < s.2.1 ∧ s.2.1 ≤ 4611686018427387904 ∧ 1 ≤ s.2.2.length ∧ s.2.2.length ≤ 8 ∧ ∀ (i : Nat) (l : List Nat), s.2.2[i]? = some l → SetOk s.2.2 i l

open Classical in
noncomputable def dealt (s : Stp) (p : Nat) : Nat × Nat × Bool :=
  if SOk s ∧ s.1 ≤ p ∧ p < s.2.1 then ((p - s.1) % s.2.2.length, (p - s.1) / s.2.2.length, true) else (0, 0, false)
open Classical in
noncomputable def share (s : Stp) (set : Int) : Nat :=
  if SOk s ∧ 0 ≤ set ∧ set < s.2.2.length then (s.2.1 - s.1 + s.2.2.length - 1 - set.toNat) / s.2.2.length else 0
open Classical in
noncomputable def back (s : Stp) (set : Int) (loc : Nat) : Nat × Bool :=
  if share s set ≤ loc then (0, false) else (s.1 + loc * s.2.2.length + set.toNat, true)

theorem dealt_in {s : Stp} {p : Nat} (h : SOk s) (h1 : s.1 ≤ p) (h2 : p < s.2.1) : dealt s p = ((p - s.1) % s.2.2.length, (p - s.1) / s.2.2.length, true) := by
  unfold dealt; rw [if_pos ⟨h, h1, h2⟩]
theorem dealt_out {s : Stp} {p : Nat} (h : ¬ (SOk s ∧ s.1 ≤ p ∧ p < s.2.1)) : dealt s p = (0, 0, false) := by
  unfold dealt; rw [if_neg h]
theorem share_in {s : Stp} {set : Nat} (h : SOk s) (h2 : set < s.2.2.length) : share s set = (s.2.1 - s.1 + s.2.2.length - 1 - set) / s.2.2.length := by
  unfold share; rw [if_pos ⟨h, by omega, by omega⟩]; simp
theorem share_out {s : Stp} {set : Int} (h : ¬ (SOk s ∧ 0 ≤ set ∧ set < s.2.2.length)) : share s set = 0 := by
  unfold share; rw [if_neg h]
theorem share_pos {s : Stp} {set : Int} {loc : Nat} (h : loc < share s set) : SOk s ∧ 0 ≤ set ∧ set < s.2.2.length := by
  by_cases hh : SOk s ∧ 0 ≤ set ∧ set < s.2.2.length
  · exact hh
  · rw [share_out hh] at h; omega
/-- A number below a set's share is a position inside. -/
theorem share_lt {n k j loc : Nat} (hk : 0 < k) (hj : j < k) : loc < (n + k - 1 - j) / k ↔ loc * k + j < n := by
  rw [Nat.lt_iff_add_one_le, Nat.le_div_iff_mul_le hk, Nat.add_mul]
  omega
theorem back_in {s : Stp} {set : Nat} {loc : Nat} (h : SOk s) (h2 : set < s.2.2.length) (h3 : loc * s.2.2.length + set < s.2.1 - s.1) : back s set loc = (s.1 + loc * s.2.2.length + set, true) := by
  have hlt : loc < share s set := by
    rw [share_in h h2]
    exact (share_lt (by obtain ⟨_, _, h1, _⟩ := h; omega) h2).2 h3
  unfold back
  rw [if_neg (by omega)]; simp
theorem back_out {s : Stp} {set : Int} {loc : Nat} (h : share s set ≤ loc) : back s set loc = (0, false) := by
  unfold back; rw [if_pos h]
theorem back_iff {s : Stp} {set : Int} {loc : Nat} : (back s set loc).2 = true ↔ loc < share s set := by
  unfold back
  by_cases h : share s set ≤ loc
  · rw [if_pos h]; simp; omega
  · rw [if_neg h]; simp; omega
/-- What is given back lies in the stripe, and is dealt so. -/
theorem back_dealt {s : Stp} {set : Int} {loc : Nat} (h : loc < share s set) : ∃ j : Nat, set = j ∧ j < s.2.2.length ∧ back s set loc = (s.1 + loc * s.2.2.length + j, true) ∧ s.1 + loc * s.2.2.length + j < s.2.1 ∧ dealt s (s.1 + loc * s.2.2.length + j) = (j, loc, true) := by
  obtain ⟨hs, h0, h1⟩ := share_pos h
  obtain ⟨j, rfl⟩ : ∃ j : Nat, set = j := ⟨set.toNat, by omega⟩
  have hj : j < s.2.2.length := by omega
  have hk : 0 < s.2.2.length := by omega
  rw [share_in hs hj] at h
  have hin := (share_lt hk hj).1 h
  have hft : s.1 < s.2.1 := hs.1
  refine ⟨j, rfl, hj, back_in hs hj hin, by omega, ?_⟩
  rw [dealt_in hs (by omega) (by omega)]
  have e : s.1 + loc * s.2.2.length + j - s.1 = j + s.2.2.length * loc := by rw [Nat.mul_comm]; omega
  rw [e, Nat.add_mul_mod_self_left, Nat.mod_eq_of_lt hj, Nat.add_mul_div_left _ _ hk, Nat.div_eq_of_lt hj, Nat.zero_add]
/-- What a position is dealt to, leads back to it. -/
theorem dealt_back {s : Stp} {p : Nat} (h : SOk s) (h1 : s.1 ≤ p) (h2 : p < s.2.1) : back s ((p - s.1) % s.2.2.length : Nat) ((p - s.1) / s.2.2.length) = (p, true) := by
  have hk : 0 < s.2.2.length := h.2.2.1
  have e : (p - s.1) / s.2.2.length * s.2.2.length + (p - s.1) % s.2.2.length = p - s.1 := by rw [Nat.mul_comm]; exact Nat.div_add_mod _ _
  rw [back_in h (Nat.mod_lt _ hk) (by rw [e]; omega)]
  rw [Nat.add_assoc, e, Nat.add_sub_cancel' h1]
end Go.Proofs.Ytmdgmnaaopineaa
/- Walks: whether a number is in a list, whether a list rises, whether sets are apart. -/
namespace Go.Proofs.Ytmdgmnaaopineaa
open Go.ChangeShapes Go.WideShapes Go.ChangeAt Go.RowKit
set_option linter.unusedVariables false

theorem elem64 : Elem Try.prog 46 22 1 8 := Elem.of (z := .int .u64 0) Try.underlying46 (by kernel_rfl) rfl (by decide)
theorem elemSets : Elem Try.prog 27 46 1 24 := Elem.of (z := .slice none 0 0) Try.underlying27 (by kernel_rfl) rfl (by decide)
theorem u64_at {w : World} {D : Dom} {A : Option Addr} {n c : Nat} {l : List Nat} (h : rpU64.sl w D A n c l) {k : Nat} (hk : k < n) :
    ∃ b off x, A = some ⟨b, off, none⟩ ∧ D b ∧ l[k]? = some x ∧ w.cell? ⟨b, off + k, none⟩ = some (.int .u64 (x : Int)) ∧ x ≤ 18446744073709551615 := by
  obtain ⟨b, off, x, cs, hA, hb, hx, hc, hg⟩ := Rp.sl_at h hk
  obtain ⟨rfl, hlt⟩ := hc
  have := hg 0 _ rfl
  exact ⟨b, off, x, hA, hb, hx, by simpa [rpU64] using this, by omega⟩
abbrev rpSets : Rp (List (List Nat)) := rpSlice (rpSlice rpU64)

theorem has_any {D : Dom} {A : Option Addr} {n c : Nat} {l : List Nat} (x : Nat) {w : World} (hl : rpU64.sl w D A n c l) :
    Calls Try.prog 67 #[.slice A n c, .int .u64 (x : Int)] w fun e w' => e = .returned (.bool (dec (x ∈ l))) ∧ w = w' := by
  obtain ⟨hlen, hnc, hcm⟩ := Rp.sl_len hl
  unfold maxLen at hcm
  have HL := Lib.hid hl
  have HN := Lib.hid hlen
  clear hl hlen
  go_enter Try.func67, Try.ntmps67
  go_wp2_with fail
  go_loop [5] (fun i => ∃ k : Nat, k ≤ n ∧ i = .int .i64 k ∧ Hid (∀ j y, j < k → l[j]? = some y → y ≠ x)) (fun i => n - (intOf i).toNat)
  case atStart => exact ⟨0, by omega, rfl, fun j y h => by omega⟩
  case round =>
    obtain ⟨k, hk, rfl, hsh⟩ := hrel
    by_cases hkn : k < n
    · obtain ⟨b, off, y, rfl, hb, hy, hc, hlt⟩ := u64_at HL.out hkn
      have hd : decide ((k : Int) < (n : Int)) = true := by simp; omega
      have HY := Lib.hid hy
      clear hy
      by_cases hyx : y = x
      · have hq : ((y : Int) == (x : Int)) = true := by simp; omega
        have HX := Lib.hid hyx
        clear hyx
        go_wp2_with fail
        go_ret
        rw [dec_true (HX.out ▸ List.mem_of_getElem? HY.out)]
        exact ⟨rfl, rfl⟩
      · have hq : ((y : Int) == (x : Int)) = false := by simp; omega
        have HX := Lib.hid hyx
        clear hyx
        go_wp2_with fail
        go_round
        case rel =>
          refine ⟨k + 1, by omega, by go_num, fun j z hj hz => ?_⟩
          rcases Nat.lt_or_ge j k with h | h
          · exact hsh.out j z h hz
          · obtain rfl : j = k := by omega
            rw [HY.out] at hz
            injection hz with hz
            exact hz ▸ HX.out
        case measure => simp [intOf]; omega
    · obtain rfl : k = n := by omega
      have hd : decide ((k : Int) < (k : Int)) = false := by simp
      go_wp2_with fail
      go_ret
      rw [dec_false (fun hm => by
        obtain ⟨j, hj⟩ := List.getElem?_of_mem hm
        exact hsh.out j x (by have := (List.getElem?_eq_some_iff.1 hj).1; have := HN.out; omega) hj rfl)]
      exact ⟨rfl, rfl⟩

/-- Where a number first stands in a list, -1 if nowhere. -/
def IndexIs (l : List Nat) (x : Nat) (r : Int) : Prop := (∃ k : Nat, r = k ∧ l[k]? = some x ∧ ∀ (j : Nat), j < k → l[j]? ≠ some x) ∨ (r = -1 ∧ x ∉ l)
def IndexPost (l : List Nat) (x : Nat) (w : World) (e : Ending) (w' : World) : Prop := ∃ r : Int, IndexIs l x r ∧ e = .returned (.int .i64 r) ∧ w = w'
theorem index_any {D : Dom} {A : Option Addr} {n c : Nat} {l : List Nat} (x : Nat) {w : World} (hl : rpU64.sl w D A n c l) :
    Calls Try.prog 126 #[.slice A n c, .int .u64 (x : Int)] w (IndexPost l x w) := by
  obtain ⟨hlen, hnc, hcm⟩ := Rp.sl_len hl
  unfold maxLen at hcm
  have HL := Lib.hid hl
  have HN := Lib.hid hlen
  clear hl hlen
  go_enter Try.func126, Try.ntmps126
  go_wp2_with fail
  go_loop [8] (fun i => ∃ k : Nat, k ≤ n ∧ i = .int .i64 k ∧ Hid (∀ j, j < k → l[j]? ≠ some x)) (fun i => n - (intOf i).toNat)
  case atStart => exact ⟨0, by omega, rfl, fun j h => by omega⟩
  case round =>
    obtain ⟨k, hk, rfl, hsh⟩ := hrel
    by_cases hkn : k < n
    · obtain ⟨b, off, y, rfl, hb, hy, hc, hlt⟩ := u64_at HL.out hkn
      have hd : decide ((k : Int) < (n : Int)) = true := by simp; omega
      have HY := Lib.hid hy
      clear hy
      by_cases hyx : y = x
      · have hq : ((x : Int) == (y : Int)) = true := by simp; omega
        have HX := Lib.hid hyx
        clear hyx
        go_wp2_with fail
        go_ret
        exact ⟨k, .inl ⟨k, rfl, HX.out ▸ HY.out, hsh.out⟩, rfl, rfl⟩
      · have hq : ((x : Int) == (y : Int)) = false := by simp; omega
        have HX := Lib.hid hyx
        clear hyx
        go_wp2_with fail
        go_round
        case rel =>
          refine ⟨k + 1, by omega, by go_num, fun j hj hz => ?_⟩
          rcases Nat.lt_or_ge j k with h | h
          · exact hsh.out j h hz
          · obtain rfl : j = k := by omega
            rw [HY.out] at hz
            injection hz with hz
            exact HX.out hz
        case measure => simp [intOf]; omega
    · obtain rfl : k = n := by omega
      have hd : decide ((k : Int) < (k : Int)) = false := by simp
      go_wp2_with fail
      go_ret
      exact ⟨-1, .inr ⟨rfl, fun hm => by
        obtain ⟨j, hj⟩ := List.getElem?_of_mem hm
        exact hsh.out j (by have := (List.getElem?_eq_some_iff.1 hj).1; have := HN.out; omega) hj⟩, rfl, rfl⟩
theorem contains_any {D : Dom} {A : Option Addr} {n c : Nat} {l : List Nat} (x : Nat) {w : World} (hl : rpU64.sl w D A n c l) :
    Calls Try.prog 121 #[.slice A n c, .int .u64 (x : Int)] w fun e w' => e = .returned (.bool (dec (x ∈ l))) ∧ w = w' := by
  have HI := Lib.hid (index_any x hl)
  clear hl
  go_enter Try.func121, Try.ntmps121
  go_wp2_with fail
  refine HI.out.mono ?_; rintro e w1 ⟨r, hr, rfl, rfl⟩
  rcases hr with ⟨k, rfl, hk, _⟩ | ⟨rfl, hx⟩
  · have HK := Lib.hid (List.mem_of_getElem? hk)
    clear hk
    go_wp2_with fail
    go_ret
    rw [dec_true HK.out]
    exact ⟨rfl, rfl⟩
  · have HX := Lib.hid hx
    clear hx
    go_wp2_with fail
    go_ret
    rw [dec_false HX.out]
    exact ⟨rfl, rfl⟩

theorem rises_ref {D : Dom} {A : Option Addr} {n c : Nat} {l : List Nat} {w : World} (hl : rpU64.sl w D A n c l) (hD : ∀ k, D k → k < w.heap.size) :
    Calls Try.prog 69 #[.slice A n c] w fun e w' => e = .returned (.bool (dec (Rises l))) ∧ Below w.heap.size w w' := by
  obtain ⟨hlen, hnc, hcm⟩ := Rp.sl_len hl
  unfold maxLen at hcm
  have HL := Lib.hid hl
  have HN := Lib.hid hlen
  have HD := Lib.hid hD
  clear hl hlen hD
  go_enter Try.func69, Try.ntmps69
  go_wp2_with fail
  go_loopw [3] (fun i wr => ∃ k : Nat, (k + 1 ≤ n ∨ k = 0) ∧ i = .int .i64 k ∧ Hid (∀ (j a b : Nat), j < k → l[j]? = some a → l[j + 1]? = some b → a < b) ∧ Below w.heap.size w wr) (fun i _ => n - (intOf i).toNat)
  case atStart => exact ⟨0, .inr rfl, rfl, fun j a b h => by omega, Below.refl _ _⟩
  case round =>
    obtain ⟨k, hk, rfl, hsh, hbel⟩ := hrel
    have HB := Lib.hid hbel
    by_cases hkn : k + 1 < n
    · obtain ⟨b, off, y, rfl, hb, hy, hc, hlt⟩ := u64_at (Rp.sl_below HL.out hbel HD.out) (show k < n by omega)
      obtain ⟨b', off', z, hA, hb', hz, hc', hlt'⟩ := u64_at (Rp.sl_below HL.out hbel HD.out) hkn
      injection hA with hA
      injection hA with h1 h2
      subst h1; subst h2
      have hd : decide ((k : Int) + 1 < (n : Int)) = true := by simp; omega
      have hw1 : IntKind.i64.wrap ((k : Int) + 1) = (k : Int) + 1 := IntWalk.i64_in _ (by omega)
      have hk0 : (0 : Int) ≤ (k : Int) := by omega
      have hk1 : (k : Int) + 1 < (n : Int) := by omega
      have hk3 : (0 : Int) ≤ (k : Int) + 1 := by omega
      have hk2 : (k : Int) < (n : Int) := by omega
      have ht : ((k : Int) + 1).toNat = k + 1 := by omega
      have HY := Lib.hid hy
      have HZ := Lib.hid hz
      clear hy hz hbel
      by_cases hyz : z ≤ y
      · have hq : decide ((z : Int) ≤ (y : Int)) = true := by simp; omega
        go_wp2_with fail
        go_quiet (fail)
        clear hw1 ht
        go_wp2_with fail
        go_ret
        rw [dec_false (fun h => by have := h k y z HY.out HZ.out; omega)]
        exact ⟨rfl, HB.out.trans ⟨rfl, rfl, rfl, Nat.le_refl _, fun _ _ => rfl⟩⟩
      · have hq : decide ((z : Int) ≤ (y : Int)) = false := by simp; omega
        go_wp2_with fail
        go_quiet (fail)
        clear hw1 ht
        go_wp2_with fail
        go_roundw
        case rel =>
          refine ⟨k + 1, by omega, by go_num, fun j a b hj ha hb => ?_, HB.out.trans ⟨rfl, rfl, rfl, Nat.le_refl _, fun _ _ => rfl⟩⟩
          rcases Nat.lt_or_ge j k with h | h
          · exact hsh.out j a b h ha hb
          · obtain rfl : j = k := by omega
            rw [HY.out] at ha
            rw [HZ.out] at hb
            injection ha with ha
            injection hb with hb
            omega
        case measure => simp [intOf]; omega
    · have hd : decide ((k : Int) + 1 < (n : Int)) = false := by simp; omega
      go_wp2_with fail
      go_ret
      have hr : Rises l := fun j a b ha hb => hsh.out j a b (by have := (List.getElem?_eq_some_iff.1 hb).1; have := HN.out; omega) ha hb
      rw [dec_true hr]
      exact ⟨rfl, HB.out⟩
theorem rises_any {D : Dom} {A : Option Addr} {n c : Nat} {l : List Nat} {w : World} (hl : rpU64.sl w D A n c l) (hD : ∀ k, D k → k < w.heap.size) :
    Calls Try.prog 136 #[.slice A n c] w fun e w' => e = .returned (.bool (dec (Rises l))) ∧ Below w.heap.size w w' := by
  obtain ⟨hlen, hnc, hcm⟩ := Rp.sl_len hl
  unfold maxLen at hcm
  have HL := Lib.hid hl
  have HN := Lib.hid hlen
  have HD := Lib.hid hD
  clear hl hlen hD
  go_enter Try.func136, Try.ntmps136
  go_wp2_with fail
  go_loopw [3] (fun i wr => ∃ k : Nat, k ≤ n ∧ i = .int .i64 ((k : Int) + 1) ∧ Hid (∀ (j a b : Nat), j < k → l[j]? = some a → l[j + 1]? = some b → a < b) ∧ Below w.heap.size w wr) (fun i _ => n + 1 - (intOf i).toNat)
  case atStart => exact ⟨0, by omega, rfl, fun j a b h => by omega, Below.refl _ _⟩
  case round =>
    obtain ⟨k, hk, rfl, hsh, hbel⟩ := hrel
    have HB := Lib.hid hbel
    by_cases hkn : k + 1 < n
    · obtain ⟨b, off, y, rfl, hb, hy, hc, hlt⟩ := u64_at (Rp.sl_below HL.out hbel HD.out) (show k < n by omega)
      obtain ⟨b', off', z, hA, hb', hz, hc', hlt'⟩ := u64_at (Rp.sl_below HL.out hbel HD.out) hkn
      injection hA with hA
      injection hA with h1 h2
      subst h1; subst h2
      have hd : decide ((k : Int) + 1 < (n : Int)) = true := by simp; omega
      have hw1 : IntKind.i64.wrap (k : Int) = (k : Int) := IntWalk.i64_in _ (by omega)
      have hk0 : (0 : Int) ≤ (k : Int) := by omega
      have hk1 : (k : Int) + 1 < (n : Int) := by omega
      have hk3 : (0 : Int) ≤ (k : Int) + 1 := by omega
      have hk2 : (k : Int) < (n : Int) := by omega
      have ht : ((k : Int) + 1).toNat = k + 1 := by omega
      have HY := Lib.hid hy
      have HZ := Lib.hid hz
      clear hy hz hbel
      by_cases hyz : z ≤ y
      · have hq : decide ((z : Int) ≤ (y : Int)) = true := by simp; omega
        go_wp2_with fail
        go_quiet (fail)
        clear hw1 ht
        go_wp2_with fail
        go_ret
        rw [dec_false (fun h => by have := h k y z HY.out HZ.out; omega)]
        exact ⟨rfl, HB.out.trans ⟨rfl, rfl, rfl, Nat.le_refl _, fun _ _ => rfl⟩⟩
      · have hq : decide ((z : Int) ≤ (y : Int)) = false := by simp; omega
        go_wp2_with fail
        go_quiet (fail)
        clear hw1 ht
        go_wp2_with fail
        go_roundw
        case rel =>
          refine ⟨k + 1, by omega, by go_num, fun j a b hj ha hb => ?_, HB.out.trans ⟨rfl, rfl, rfl, Nat.le_refl _, fun _ _ => rfl⟩⟩
          rcases Nat.lt_or_ge j k with h | h
          · exact hsh.out j a b h ha hb
          · obtain rfl : j = k := by omega
            rw [HY.out] at ha
            rw [HZ.out] at hb
            injection ha with ha
            injection hb with hb
            omega
        case measure => simp [intOf]; omega
    · have hd : decide ((k : Int) + 1 < (n : Int)) = false := by simp; omega
      go_wp2_with fail
      go_ret
      have hr : Rises l := fun j a b ha hb => hsh.out j a b (by have := (List.getElem?_eq_some_iff.1 hb).1; have := HN.out; omega) ha hb
      rw [dec_true hr]
      exact ⟨rfl, HB.out⟩
end Go.Proofs.Ytmdgmnaaopineaa
