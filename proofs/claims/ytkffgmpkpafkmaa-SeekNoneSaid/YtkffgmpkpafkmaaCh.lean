/- The chain as it lies in memory; New, Added, Keys. -/
import Derived.Test.YtkffgmpkpafkmaaChN
import Derived.Maps.AppendAt
import Derived.Maps.OwnSet
import Derived.Maps.OwnOps
namespace Go.Proofs.Ytkffgmpkpafkmaa
open Go.ChangeShapes Go.WideShapes Go.ChangeAt Go.RowKit Go.Maps
set_option linter.unusedVariables false
theorem elemB : Elem Try.prog 22 5 1 1 := Elem.of (z := .int .u8 0) Try.underlying22 (by kernel_rfl) rfl (by decide)
noncomputable def El : Value → Option (DataW Unit × List MemPlace) := plainElem Try.prog 3
theorem keyedU : Keyed Try.prog 24 := Maps.int_keyed Try.underlying24
theorem u32_key (x : Nat) (h : x < 4294967296) : keyOf Try.prog 24 (.int .u32 (x : Int)) = some (.int .u32 (x : Int)) :=
  Maps.keyOf_int_mk Try.underlying24 (by simp [Lit.wf, IntKind.min, IntKind.max, IntKind.signed, IntKind.bits]; omega)
theorem Blk.newAt {w : World} {k : Nat} (h : w.heap.size = k) (t : TypeId) (cs : Array Value) : Blk (w.alloc (.cells cs t)) k t cs := by subst h; exact Blk.new w t cs
theorem size_alloc (w : World) (o : Obj) : (w.alloc o).heap.size = w.heap.size + 1 := by simp
/-- What a map of last places says. -/
structure LastMap (l : List UInt8) (n : Nat) (Dm : DataW Unit) : Prop where
  tidy : Tidy Dm
  look : ∀ x : Nat, x < 4294967296 → Dm.atKey (.int .u32 (x : Int)) (.lit (.int .i64 0)) = .lit (.int .i64 (lastOf l n x : Int))
  has : ∀ x : Nat, x < 4294967296 → Maps.has Dm (.int .u32 (x : Int)) = decide (lastOf l n x ≠ 0)
  size : Maps.size Dm = fresh l n
theorem lastMap_empty (l : List UInt8) : LastMap l 0 (.map []) := by
  refine ⟨tidy_empty, fun x _ => ?_, fun x _ => ?_, rfl⟩
  · rfl
  · simp [Maps.has, lastOf]
theorem u32_lit (x y : Nat) : (Lit.int .u32 (x : Int) ≠ Lit.int .u32 (y : Int)) ↔ x ≠ y := by
  constructor
  · intro h e; exact h (by rw [e])
  · intro h e; injection e with _ e; omega
theorem LastMap.skip {l : List UInt8} {n : Nat} {Dm : DataW Unit} (h : LastMap l n Dm) (hn : l.length < n + 4) : LastMap l (n + 1) Dm := by
  have hh : ∀ x, hit l x n = false := fun x => by unfold hit; rw [decide_eq_false (by omega)]; rfl
  have hl : ∀ x, lastOf l (n + 1) x = lastOf l n x := fun x => by rw [lastOf_succ, hh]; rfl
  refine ⟨h.tidy, fun x hx => by rw [hl]; exact h.look x hx, fun x hx => by rw [hl]; exact h.has x hx, ?_⟩
  rw [h.size]
  show _ = fresh l n + _
  rw [if_neg (by omega), Nat.add_zero]
theorem LastMap.put {l : List UInt8} {n : Nat} {Dm : DataW Unit} (h : LastMap l n Dm) (hn : n + 4 ≤ l.length) : LastMap l (n + 1) (Dm.put (.int .u32 (keyAt l n : Int)) (.lit (.int .i64 ((n : Int) + 1)))) := by
  have hk : WideAt.IsKeyLit (.int .u32 (keyAt l n : Int)) := trivial
  have hhit : hit l (keyAt l n) n = true := hit_iff.2 ⟨hn, rfl⟩
  have hno : ∀ x, x ≠ keyAt l n → hit l x n = false := fun x hx => by
    cases hh : hit l x n
    · rfl
    · exact absurd (hit_iff.1 hh).2.symm hx
  refine ⟨h.tidy.put hk _, fun x hx => ?_, fun x hx => ?_, ?_⟩
  · by_cases hxk : x = keyAt l n
    · subst hxk
      rw [atKey_put_same h.tidy.isMap hk, lastOf_succ, if_pos hhit]
      rfl
    · rw [atKey_put_other ((u32_lit _ _).2 hxk), h.look x hx, lastOf_succ, if_neg (by rw [hno x hxk]; decide)]
  · by_cases hxk : x = keyAt l n
    · subst hxk
      rw [has_put_same h.tidy.isMap hk, lastOf_succ, if_pos hhit]
      simp
    · rw [has_put_other ((u32_lit _ _).2 hxk), h.has x hx, lastOf_succ, if_neg (by rw [hno x hxk]; decide)]
  · rw [size_put h.tidy, h.has _ (keyAt_lt l n), h.size]
    show _ = fresh l n + _
    by_cases hz : lastOf l n (keyAt l n) = 0 <;> simp [hn, hz]
/-- THE CHAIN IN BLOCK g: l's bytes, n places added; all of it in blocks from B on. -/
def Chn (U : Dom) (w : World) (B g : Nat) (l : List UInt8) (n : Nat) : Prop :=
  ∃ (Ab : Option Addr) (cb mb : Nat) (Ap : Option Addr) (cp : Nat) (Db : Dom) (Dm : DataW Unit),
    Blk w g 54 #[.slice Ab l.length cb, .map (some mb), .slice Ap n cp] ∧
    rpU8.sl w Db Ab l.length cb l ∧ (∀ k, Db k → B ≤ k ∧ k < w.heap.size ∧ k ≠ g ∧ k ≠ mb ∧ some k ≠ (Value.slice Ap n cp).ownBlock) ∧ ((∀ k, Db k → U k) ∧ U g ∧ U mb ∧ ∀ k, (Value.slice Ap n cp).ownBlock = some k → U k) ∧
    w.ownsMap Try.prog 24 El mb n Dm ∧ LastMap l n Dm ∧
    w.ownsRow B 3 1 (.slice Ap n cp) n ((prevs l n).map iv) ∧
    B ≤ g ∧ B ≤ mb ∧ mb ≠ g ∧ (Value.slice Ap n cp).ownBlock ≠ some g ∧ (Value.slice Ap n cp).ownBlock ≠ some mb ∧ n ≤ l.length
theorem Chn.keep {U : Dom} {w w' : World} {B g : Nat} {l : List UInt8} {n : Nat} (h : Chn U w B g l n) (hz : w.heap.size ≤ w'.heap.size) (hb : ∀ k, U k → B ≤ k → k < w.heap.size → w'.heap[k]? = w.heap[k]?) : Chn U w' B g l n := by
  obtain ⟨Ab, cb, mb, Ap, cp, Db, Dm, h1, h2, h3, hu, h4, h6, h7, h8, h9, hr⟩ := h
  refine ⟨Ab, cb, mb, Ap, cp, Db, Dm, (hb g hu.2.1 h8 h1.lt).trans h1, Rp.sl_keep h2 (fun k hk => hb k (hu.1 k hk) (h3 k hk).1 (h3 k hk).2.1), fun k hk => ⟨(h3 k hk).1, Nat.lt_of_lt_of_le (h3 k hk).2.1 hz, (h3 k hk).2.2⟩, hu, ?_, h6, ?_, h8, h9, hr⟩
  · obtain ⟨es, clock, e1, e2⟩ := h4
    exact ⟨es, clock, (hb mb hu.2.2.1 h9 (Array.getElem?_eq_some_iff.1 e1).1).trans e1, e2⟩
  · exact ownsRow_same h7 (fun k hk => hb k (hu.2.2.2 k hk) (h7.lt k hk).1 (h7.lt k hk).2)
theorem Chn.below {U : Dom} {w w' : World} {B g : Nat} {l : List UInt8} {n : Nat} (h : Chn U w B g l n) (hb : Below w.heap.size w w') : Chn U w' B g l n := h.keep hb.size (fun k _ _ hk => hb.block k hk)
theorem Chn.weaken {U U' : Dom} {w : World} {B g : Nat} {l : List UInt8} {n : Nat} (h : Chn U w B g l n) (hU : ∀ k, U k → k < w.heap.size → U' k) : Chn U' w B g l n := by
  obtain ⟨Ab, cb, mb, Ap, cp, Db, Dm, h1, h2, h3, hu, h4, h6, h7, hr⟩ := h
  refine ⟨Ab, cb, mb, Ap, cp, Db, Dm, h1, h2, h3, ⟨fun k hk => hU k (hu.1 k hk) (h3 k hk).2.1, hU g hu.2.1 h1.lt, hU mb hu.2.2.1 h4.lt, fun k hk => hU k (hu.2.2.2 k hk) (h7.lt k hk).2⟩, h4, h6, h7, hr⟩
theorem Chn.lt {U : Dom} {w : World} {B g : Nat} {l : List UInt8} {n : Nat} (h : Chn U w B g l n) : g < w.heap.size := by
  obtain ⟨Ab, cb, mb, Ap, cp, Db, Dm, h1, _⟩ := h
  exact h1.lt
theorem Chn.base {U : Dom} {w : World} {B g : Nat} {l : List UInt8} {n : Nat} (h : Chn U w B g l n) : B ≤ g := by
  obtain ⟨Ab, cb, mb, Ap, cp, Db, Dm, h1, h2, h3, hu, h4, h6, h7, h8, h9, hr⟩ := h
  exact h8
theorem Chn.le {U : Dom} {w : World} {B g : Nat} {l : List UInt8} {n : Nat} (h : Chn U w B g l n) : n ≤ l.length := by
  obtain ⟨Ab, cb, mb, Ap, cp, Db, Dm, h1, h2, h3, hu, h4, h6, h7, h8, h9, _, _, _, hr⟩ := h
  exact hr
section
variable {D : Dom} {A : Option Addr} {n c : Nat} {l : List UInt8} {w : World}
set_option maxRecDepth 100000 in
theorem cnew_any {U : Dom} (hU : ∀ k, w.heap.size ≤ k → U k) (hl : rpU8.sl w D A n c l) (hD : ∀ k, D k → k < w.heap.size) (hn : n ≤ 1000000000) :
    Calls Try.prog 13 #[.slice A n c] w fun e w' => ∃ g, e = .returned (.pointer (some ⟨g, 0, none⟩)) ∧ Chn U w' w.heap.size g l 0 ∧ Below w.heap.size w w' := by
  obtain ⟨hlen, hnc, hcm⟩ := Rp.sl_len hl
  unfold maxLen at hcm
  have hb0 : Below w.heap.size w (w.alloc (.cells #[] 5)) := (Below.refl _ _).alloc (Nat.le_refl _) _
  have HM := Lib.hid (World.ownsRow_made (e := 5) (size := 1) (base := w.heap.size) w #[] 0 (Nat.le_refl _) (by decide) rfl)
  have HSR := Lib.hid (Src.bytes (Rp.sl_below hl hb0 hD))
  have HB0 := Lib.hid hb0
  have HLEN := Lib.hid hlen
  have hmm := @run_makeMap Try.prog
  clear hl hb0 hlen
  go_enter Try.func13, Try.ntmps13
  go_wp2_with (refine wpList_app rfl (.tmp 3) (.tmp 4) 22 rfl elemB rfl HM.out rfl HSR.out (by unfold maxLen; omega) (by omega) (by simp) ?_; intro A1 c1 w2 ho2 hg2 hat2)
  go_ret
  have hlen := HLEN.out
  subst hlen
  rw [Nat.zero_add, List.nil_append] at ho2
  have hg3 : (w.alloc (.cells #[] 5)).grownBy w2 (some w.heap.size) := hg2
  have hbx : Below w.heap.size w w2 := HB0.out.grown hg3 HB0.out.size (fun q hq => by injection hq with hq; omega)
  have hz := hbx.size
  have hbx2 : Below w2.heap.size w2 ((w2.alloc (.map #[] 0)).alloc (.cells #[.slice A1 l.length c1, .map (some w2.heap.size), .slice none 0 0] 54)) := ((Below.refl _ _).alloc (Nat.le_refl _) _).alloc (by simp) _
  refine ⟨_, rfl, ⟨A1, c1, w2.heap.size, none, 0, _, .map [], Blk.newAt (size_alloc _ _) _ _, Rp.sl_below (own_bytes ho2) hbx2 (fun k hk => (ho2.lt k hk.symm).2), fun k hk => ?_, ⟨fun k hk => hU k (ho2.lt k hk.symm).1, hU _ (by omega), hU _ hz, fun k e => by simp [Value.ownBlock] at e⟩, (World.ownsMap_made w2 Try.prog 24 El).alloc _, lastMap_empty l, World.ownsRow_nil _ _ _ _, by omega, hz, by omega, by simp [Value.ownBlock], by simp [Value.ownBlock], Nat.zero_le _⟩, hbx.trans (hbx2.mono hz)⟩
  have := ho2.lt k hk.symm
  have h2 := hbx2.size
  refine ⟨this.1, by omega, by omega, by omega, by simp [Value.ownBlock]⟩
theorem added_none : Calls Try.prog 15 #[.pointer none] w fun e w' => e = .returned (.int .i64 0) ∧ w = w' := by
  go_enter Try.func15, Try.ntmps15
  go_wp2_with fail
  go_ret
  exact ⟨rfl, rfl⟩
variable {U : Dom} {B g m : Nat}
theorem added_any (h : Chn U w B g l m) : Calls Try.prog 15 #[.pointer (some ⟨g, 0, none⟩)] w fun e w' => e = .returned (.int .i64 (m : Int)) ∧ w = w' := by
  obtain ⟨Ab, cb, mb, Ap, cp, Db, Dm, h1, h2, h3, hu, h4, h6, h7, h8, h9, hr⟩ := h
  have k2 := h1.cell 2
  clear h1 h2 h3 h4 h6 h7 h8 h9 hr
  go_enter Try.func15, Try.ntmps15
  go_wp2_with fail
  go_ret
  exact ⟨rfl, rfl⟩
theorem keys_none : Calls Try.prog 16 #[.pointer none] w fun e w' => e = .returned (.int .i64 0) ∧ w = w' := by
  go_enter Try.func16, Try.ntmps16
  go_wp2_with fail
  go_ret
  exact ⟨rfl, rfl⟩
theorem keys_any (h : Chn U w B g l m) : Calls Try.prog 16 #[.pointer (some ⟨g, 0, none⟩)] w fun e w' => e = .returned (.int .i64 (fresh l m : Int)) ∧ w = w' := by
  obtain ⟨Ab, cb, mb, Ap, cp, Db, Dm, h1, h2, h3, hu, h4, h6, h7, h8, h9, hr⟩ := h
  have k1 := h1.cell 1
  have HM := Lib.hid h4
  have hs := h6.size
  rw [← hs]
  clear h1 h2 h3 h4 h6 h7 h8 h9 hr hs
  go_enter Try.func16, Try.ntmps16
  go_wp2_with (refine wpList_len_own w rfl (.tmp 8) 52 rfl 24 3 Try.underlying52 El mb m Dm rfl HM.out ?_)
  go_ret
  exact ⟨rfl, rfl⟩
end
end Go.Proofs.Ytkffgmpkpafkmaa
