/- The seeker: New, Best, Tried. -/
import Derived.Test.YtkffgmpkpafkmaaSkB
import Derived.Test.YtkffgmpkpafkmaaRound
import Derived.Test.YtkffgmpkpafkmaaChLv
import Derived.Deep.RegionHeld3
import Derived.StillTailTactics
namespace Go.Proofs.Ytkffgmpkpafkmaa
open Go.ChangeShapes Go.WideShapes Go.ChangeAt Go.RowKit Go.Maps Go.Shelf
set_option linter.unusedVariables false
attribute [local go_sem] Oper.semAt_some
theorem tried_none {w : World} : Calls Try.prog 30 #[.pointer none] w fun e w' => e = .returned (.int .i64 0) ∧ w = w' := by
  go_enter Try.func30, Try.ntmps30
  go_wp2_with fail
  go_ret
  exact ⟨rfl, rfl⟩
theorem sbest_none {w : World} (a : Int) : Calls Try.prog 29 #[.pointer none, .int .i64 a] w fun e w' => e = .returned (.tuple #[.int .i64 0, .int .i64 0]) ∧ Below w.heap.size w w' := by
  go_enter Try.func29, Try.ntmps29
  go_wp2_with fail
  go_ret2
  exact ⟨rfl, ((Below.refl _ _).alloc (Nat.le_refl _) _).alloc (by simp) _⟩
/-- THE SEEKER IN BLOCK g. -/
def Skr (w : World) (B g : Nat) (l : List UInt8) (m t : Nat) : Prop :=
  ∃ (Ab : Option Addr) (cb gc : Nat) (Db : Dom),
    Blk w g 59 #[.slice Ab l.length cb, .pointer (some ⟨gc, 0, none⟩), .int .i64 (t : Int)] ∧
    rpU8.sl w Db Ab l.length cb l ∧ (∀ k, Db k → B ≤ k ∧ k < g) ∧ Chn (fun k => k < g ∧ ¬ Db k) w B gc l m ∧ B ≤ g
section
variable {D : Dom} {A : Option Addr} {n c : Nat} {l : List UInt8} {w : World}
set_option maxRecDepth 100000 in
set_option maxHeartbeats 4000000 in
theorem snew_any (hl : rpU8.sl w D A n c l) (hD : ∀ k, D k → k < w.heap.size) (hn : n ≤ 1000000000) :
    Calls Try.prog 32 #[.slice A n c] w fun e w' => ∃ g, e = .returned (.pointer (some ⟨g, 0, none⟩)) ∧ Skr w' w.heap.size g l 0 0 ∧ Below w.heap.size w w' := by
  obtain ⟨hlen, hnc, hcm⟩ := Rp.sl_len hl
  unfold maxLen at hcm
  have hb0 : Below w.heap.size w (w.alloc (.cells #[] 5)) := (Below.refl _ _).alloc (Nat.le_refl _) _
  have HM := Lib.hid (World.ownsRow_made (e := 5) (size := 1) (base := w.heap.size) w #[] 0 (Nat.le_refl _) (by decide) rfl)
  have HSR := Lib.hid (Src.bytes (Rp.sl_below hl hb0 hD))
  have HB0 := Lib.hid hb0
  have HLEN := Lib.hid hlen
  have HL := Lib.hid hl
  have HD := Lib.hid hD
  clear hl hb0 hlen hD
  go_enter Try.func32, Try.ntmps32
  go_wp2_with (refine wpList_app rfl (.tmp 3) (.tmp 4) 22 rfl elemB rfl HM.out rfl HSR.out (by unfold maxLen; omega) (by omega) (by simp) ?_; intro A1 c1 w2 ho2 hg2 hat2; have HO2 := Lib.hid ho2; have HG2 := Lib.hid (show (w.alloc (.cells #[] 5)).grownBy w2 (some w.heap.size) from hg2); clear ho2 hg2 hat2)
  have hb2 : Below w.heap.size w w2 := HB0.out.grown HG2.out HB0.out.size (fun q hq => by injection hq with hq; omega)
  have HB2 := Lib.hid hb2
  have hz2 := hb2.size
  have HNEW := Lib.hid (cnew_any (U := fun k => w2.heap.size ≤ k) (fun _ h => h) (Rp.sl_below HL.out hb2 HD.out) (fun k hk => Nat.lt_of_lt_of_le (HD.out k hk) hz2) hn)
  clear hb2
  refine HNEW.out.mono ?_; rintro e w3 ⟨gc, rfl, hc3, hb3⟩
  have HC3 := Lib.hid hc3
  have HB3 := Lib.hid hb3
  clear hc3 hb3
  go_wp2_with fail
  go_ret
  have hz3 := HB3.out.size
  have ho2 := HO2.out
  have hlen := HLEN.out
  subst hlen
  rw [Nat.zero_add, List.nil_append] at ho2
  have hb4 : Below w3.heap.size w3 (w3.alloc (.cells #[.slice A1 l.length c1, .pointer (some ⟨gc, 0, none⟩), .int .i64 0] 59)) := (Below.refl _ _).alloc (Nat.le_refl _) _
  have hlow : ∀ k, some k = (Value.slice A1 l.length c1).ownBlock → k < w2.heap.size := fun k hk => (ho2.lt k hk.symm).2
  refine ⟨_, rfl, ⟨A1, c1, gc, _, ?_, Rp.sl_below (own_bytes ho2) (HB3.out.trans (hb4.mono hz3)) hlow, fun k hk => ⟨(ho2.lt k hk.symm).1, Nat.lt_of_lt_of_le (hlow k hk) hz3⟩, ?_, by omega⟩, HB2.out.trans ((HB3.out.mono hz2).trans (hb4.mono (by omega)))⟩
  · exact Blk.new _ _ _
  · obtain ⟨Ab, cb, mb, Ap, cp, Db, Dm, h1, h2, h3, hu, h4, h6, h7, h8, h9, hr⟩ := (HC3.out.weaken (U' := fun k => k < w3.heap.size ∧ ¬ some k = (Value.slice A1 l.length c1).ownBlock) (fun k (h : w2.heap.size ≤ k) hk => ⟨hk, fun e => by have := hlow k e; omega⟩)).below hb4
    exact ⟨Ab, cb, mb, Ap, cp, Db, Dm, h1, h2, fun k hk => ⟨by have := (h3 k hk).1; omega, (h3 k hk).2⟩, hu, h4, h6, row_mono h7 hz2, by omega, by omega, hr⟩
/-- The best of places that came: the offset, how long. -/
def skf (l : List UInt8) (a : Nat) (pre : List (Fin 65536)) : Int × Nat := pre.foldl (fun q x => if q.2 < mat l (a : Int) ((a : Int) - (x.val : Int)) then ((a : Int) - (x.val : Int), mat l (a : Int) ((a : Int) - (x.val : Int))) else q) (0, 0)
theorem skf_snoc (l : List UInt8) (a : Nat) (pre : List (Fin 65536)) (x : Fin 65536) : skf l a (pre ++ [x]) = if (skf l a pre).2 < mat l (a : Int) ((a : Int) - (x.val : Int)) then ((a : Int) - (x.val : Int), mat l (a : Int) ((a : Int) - (x.val : Int))) else skf l a pre := by
  unfold skf
  rw [List.foldl_append]
  rfl
theorem skf_le (l : List UInt8) (a : Nat) (pre : List (Fin 65536)) : (skf l a pre).2 ≤ l.length := by
  unfold skf
  have h : ∀ (q : Int × Nat), q.2 ≤ l.length → (pre.foldl (fun q x => if q.2 < mat l (a : Int) ((a : Int) - (x.val : Int)) then ((a : Int) - (x.val : Int), mat l (a : Int) ((a : Int) - (x.val : Int))) else q) q).2 ≤ l.length := by
    induction pre with
    | nil => exact fun q h => h
    | cons x pre ih =>
      intro q hq
      refine ih _ ?_
      show (if _ then _ else _ : Int × Nat).2 ≤ _
      split
      · exact mat_le _ _ _
      · exact hq
  exact h _ (Nat.zero_le _)
theorem takenI_any (o : Int) (m : Nat) : Calls Try.prog 33 #[.int .i64 o, .int .i64 (m : Int)] w fun e w' => e = .returned (.tuple #[.int .i64 (if m < 4 then 0 else o), .int .i64 ((if m < 4 then 0 else m : Nat) : Int)]) ∧ w = w' := by
  by_cases h : m < 4
  · have hd : decide ((m : Int) < 4) = true := by simp; omega
    rw [if_pos h, if_pos h]
    go_enter Try.func33, Try.ntmps33
    go_wp2_with fail
    go_ret2
    exact ⟨rfl, rfl⟩
  · have hd : decide ((m : Int) < 4) = false := by simp; omega
    rw [if_neg h, if_neg h]
    go_enter Try.func33, Try.ntmps33
    go_wp2_with fail
    go_ret2
    exact ⟨rfl, rfl⟩
theorem ownFrom_blocks {β : Type} {B : Nat} {I : β → World → Prop} (h : ∀ s W W', I s W → W.heap.size ≤ W'.heap.size → (∀ k, k < W.heap.size → k < B → W'.heap[k]? = W.heap[k]?) → I s W') : OwnFrom B I :=
  fun s W W' row hs hg hr => h s W W' hs hg.size (fun k hk hkB => hg.block k hk (fun e => by have := (hr k e.symm).1; omega))
/-- One step of a round: blocks g, bo, bn alone may have turned; what is no cells beyond b9 lies as it lay. -/
def Kx (B b9 g bo bn : Nat) (W W' : World) : Prop := KeepsFrom b9 W W' ∧ Below B W W' ∧ ∀ k, k < W.heap.size → k ≠ g → k ≠ bo → k ≠ bn → W'.heap[k]? = W.heap[k]?
theorem Kx.trans {B b9 g bo bn : Nat} {a b c : World} (h : Kx B b9 g bo bn a b) (k : Kx B b9 g bo bn b c) : Kx B b9 g bo bn a c :=
  ⟨h.1.trans k.1, h.2.1.trans k.2.1, fun j hj h1 h2 h3 => (k.2.2 j (Nat.lt_of_lt_of_le hj h.2.1.size) h1 h2 h3).trans (h.2.2 j hj h1 h2 h3)⟩
theorem Kx.refl (B b9 g bo bn : Nat) (a : World) : Kx B b9 g bo bn a a := ⟨KeepsFrom.refl _ _, Below.refl _ _, fun _ _ _ _ _ => rfl⟩
theorem Kx.set {B b9 g bo bn : Nat} (W : World) (p : Addr) (u : Value) (hp : p.block = g ∨ p.block = bo ∨ p.block = bn) (h1 : p.block < b9) (h2 : B ≤ p.block) : Kx B b9 g bo bn W (W.setCell p u) :=
  ⟨KeepsFrom.of_grownBy (grown_setCell W p u) (fun j e => by injection e with e; omega), (Below.refl _ _).setCell h2 _, fun k hk q1 q2 q3 => Below.heap_setCell _ _ _ _ (by intro e; omega)⟩
theorem Kx.below {B b9 g bo bn : Nat} {W W' : World} (h : Below W.heap.size W W') (hB : B ≤ W.heap.size) : Kx B b9 g bo bn W W' :=
  ⟨KeepsFrom.of_grownBy (below_grown h) (fun j e => by cases e), h.mono hB, fun k hk _ _ _ => h.block k hk⟩
/-- What Best tells: the best of the places that came, all of them or till the match reached the end. -/
def SkPost (l : List UInt8) (a : Nat) (L : List (Fin 65536)) (B : Nat) (w : World) (e : Ending) (w' : World) : Prop :=
  ∃ pre, (pre = L ∨ pre <+: L ∧ a + (skf l a pre).2 = l.length) ∧ e = .returned (.tuple #[.int .i64 (if (skf l a pre).2 < 4 then 0 else (skf l a pre).1), .int .i64 ((if (skf l a pre).2 < 4 then 0 else (skf l a pre).2 : Nat) : Int)]) ∧ Below B w w'
set_option maxRecDepth 100000 in
set_option maxHeartbeats 4000000 in
theorem sbest_any {B g m t : Nat} (a : Nat) (hs : Skr w B g l m t) (hl : l.length ≤ 1000) (ha : a ≤ 1000) (ht : t ≤ 1000000) :
    Calls Try.prog 29 #[.pointer (some ⟨g, 0, none⟩), .int .i64 (a : Int)] w (SkPost l a (placesL l (upTo l.length m ((min a l.length : Nat) : Int)) (a : Int)) B w) := by
  obtain ⟨Ab, cb, gc, Db, h1, h2, h3, h4, h5⟩ := hs
  have hgl := h1.lt
  obtain ⟨N, hN⟩ : ∃ N, N = l.length := ⟨_, rfl⟩
  rw [← hN] at hl
  obtain ⟨R, hR⟩ : ∃ R, R = min a N := ⟨_, rfl⟩
  have hmn : (if N < a then (N : Int) else (a : Int)) = (R : Int) := by split <;> omega
  obtain ⟨M, hM⟩ : ∃ M, M = upTo N m (R : Int) := ⟨_, rfl⟩
  have hM2 : upTo l.length m ((min a l.length : Nat) : Int) = M := by rw [← hN, ← hR, hM]
  obtain ⟨Ux, hUx⟩ : ∃ Ux : Dom, Ux = fun k => k ≠ g ∧ k ≠ w.heap.size ∧ k ≠ w.heap.size + 1 ∧ ¬ Db k := ⟨_, rfl⟩
  have h4' := h4.weaken (U' := Ux) (fun k (hk : k < g ∧ ¬ Db k) _ => by rw [hUx]; exact ⟨by omega, by omega, by omega, hk.2⟩)
  have hb0 : Below w.heap.size w ((w.alloc (.cells #[.pointer (some ⟨g, 0, none⟩)] 50)).alloc (.cells #[.int .i64 (a : Int)] 3)) := ((Below.refl _ _).alloc (Nat.le_refl _) _).alloc (by simp) _
  have hk0 : Blk ((w.alloc (.cells #[.pointer (some ⟨g, 0, none⟩)] 50)).alloc (.cells #[.int .i64 (a : Int)] 3)) w.heap.size 50 #[.pointer (some ⟨g, 0, none⟩)] := (Blk.new w _ _).alloc _
  have hk1 : Blk ((w.alloc (.cells #[.pointer (some ⟨g, 0, none⟩)] 50)).alloc (.cells #[.int .i64 (a : Int)] 3)) (w.heap.size + 1) 3 #[.int .i64 (a : Int)] := Blk.newAt (size_alloc _ _) _ _
  have hz0 : ((w.alloc (.cells #[.pointer (some ⟨g, 0, none⟩)] 50)).alloc (.cells #[.int .i64 (a : Int)] 3)).heap.size = w.heap.size + 2 := by simp
  rw [hM2]
  refine (callsIn_wide (n := 5)).1 ?_
  refine callsIn_of_wp_marks Try.func29 rfl trivial ?_ rfl
  simp only [Try.ntmps29, List.size_toArray, List.length_cons, List.length_nil, Nat.reduceAdd, Nat.reduceSub, Array.replicate_succ, Array.replicate_zero, List.push_toArray, List.append_toArray, List.nil_append, List.cons_append]
  have H1 := Lib.hid h1
  have H2 := Lib.hid h2
  have H3 := Lib.hid h3
  have H4 := Lib.hid h4'
  have HB0 := Lib.hid hb0
  have HK0 := Lib.hid hk0
  have HK1 := Lib.hid hk1
  have HZ0 := Lib.hid hz0
  have HN := Lib.hid hN
  have HM := Lib.hid hM
  have HM2 := Lib.hid hM2
  have HR := Lib.hid hR
  clear hN h1 h2 h3 h4 h4' hb0 hk0 hk1 hz0 hM hM2 hR
  gi_wp2
  generalize (w.alloc (.cells #[.pointer (some ⟨g, 0, none⟩)] 50)).alloc (.cells #[.int .i64 (a : Int)] 3) = w0 at *
  have hz0 := HZ0.out
  have hk2 := Blk.below (show Blk _ _ _ _ from H1.out) HB0.out hgl
  have e0 := (show Blk _ _ _ _ from HK0.out).cell 0
  have e1 := (show Blk _ _ _ _ from HK1.out).cell 0
  have e2 := hk2.cell 0
  have e3 := hk2.cell 1
  have HK2 := Lib.hid hk2
  have HC0 := Lib.hid (H4.out.keep (B := B) (by omega) (fun k _ _ hk => HB0.out.block k hk))
  have hadd : ∀ x, Below w0.heap.size w0 x → Calls Try.prog 14 #[.pointer (some ⟨gc, 0, none⟩), .int .i64 (R : Int)] x fun e w' => e = .returned (.int .i64 ((M - m : Nat) : Int)) ∧ Chn (Ux) w' B gc l M ∧ Below B w0 w' ∧ Off (Ux) w0 w' := fun x hx => by
    have hxz := hx.size
    have := addTo_any (R : Int) (fun k hk => by rw [hUx]; exact ⟨by omega, by omega, by omega, fun hd => by have := (H3.out k hd).2; omega⟩) (HC0.out.keep hx.size (fun k _ _ hk => hx.block k hk)) (by have := HN.out; omega) (by omega) (by omega)
    rw [← HN.out, ← HM.out] at this
    exact this.mono fun e w' ⟨x1, x2, x3, x4⟩ => ⟨x1, x2, (hx.mono (by omega)).trans x3, fun k hk hn => (x4 k (by omega) hn).trans (hx.block k hk)⟩
  have HADD := Lib.hid hadd
  clear hk2 hadd
  simp only [List.getElem?_toArray, List.getElem?_cons_zero, List.getElem?_cons_succ] at e0 e1 e2 e3
  rw [← HN.out] at e2
  refine wpIn_wide.2 ?_
  go_still_tail 11, (by kernel_rfl)
  change wpList _ _ _ _ _ w0.drew
  go_wp2_with fail
  refine (HADD.out _ (Below.refl _ _).drew).mono ?_; rintro e w1 ⟨rfl, hc1, hb1, ho1⟩
  have hz1 := hb1.size
  have hoff : ∀ k, k = g ∨ k = w.heap.size ∨ k = w.heap.size + 1 → w1.heap[k]? = w0.heap[k]? := fun k hk => ho1 k (by omega) (by rw [hUx]; rintro ⟨q1, q2, q3, _⟩; omega)
  have hk0 : Blk w1 w.heap.size 50 #[.pointer (some ⟨g, 0, none⟩)] := (hoff _ (.inr (.inl rfl))).trans HK0.out
  have hk1 : Blk w1 (w.heap.size + 1) 3 #[.int .i64 (a : Int)] := (hoff _ (.inr (.inr rfl))).trans HK1.out
  have hk2 : Blk w1 g 59 #[.slice Ab N cb, .pointer (some ⟨gc, 0, none⟩), .int .i64 (t : Int)] := (hoff _ (.inl rfl)).trans (by rw [HN.out]; exact HK2.out)
  have hsl1 : rpU8.sl w1 Db Ab N cb l := by rw [HN.out]; exact Rp.sl_keep H2.out (fun k hk => by
    have := H3.out k hk
    rw [ho1 k (by omega) (by rw [hUx]; exact fun q => q.2.2.2 hk), HB0.out.block k (by omega)])
  have HB1 := Lib.hid ((HB0.out.mono (show B ≤ w.heap.size by omega)).trans hb1)
  have HC1 := Lib.hid hc1
  have HK0 := Lib.hid hk0
  have HK1 := Lib.hid hk1
  have HK2 := Lib.hid hk2
  have HSL := Lib.hid hsl1
  have HB1 := Lib.hid ((HB0.out.mono (show B ≤ w.heap.size by omega)).trans hb1)
  clear hc1 hb1 ho1 hoff hk0 hk1 hk2 hsl1 e0 e1 e2 e3
  go_wp2_with fail
  gi_wp2
  have hb2 : Below B w ((w1.alloc (.cells #[.int .i64 0] 3)).alloc (.cells #[.int .i64 0] 3)) := (HB1.out.alloc (by omega) _).alloc (by simp; omega) _
  have bO : Boxed ((w1.alloc (.cells #[.int .i64 0] 3)).alloc (.cells #[.int .i64 0] 3)) w1.heap.size 3 (.int .i64 0) := (Boxed.new _ _ _).alloc _
  have bN : Boxed ((w1.alloc (.cells #[.int .i64 0] 3)).alloc (.cells #[.int .i64 0] 3)) (w1.heap.size + 1) 3 (.int .i64 0) := by have := Boxed.new (w1.alloc (.cells #[.int .i64 0] 3)) 3 (.int .i64 0); rwa [World.size_alloc] at this
  have hg2 : Below w1.heap.size w1 ((w1.alloc (.cells #[.int .i64 0] 3)).alloc (.cells #[.int .i64 0] 3)) := ((Below.refl _ _).alloc (Nat.le_refl _) _).alloc (by simp) _
  have hz2 : ((w1.alloc (.cells #[.int .i64 0] 3)).alloc (.cells #[.int .i64 0] 3)).heap.size = w1.heap.size + 2 := by simp
  generalize (w1.alloc (.cells #[.int .i64 0] 3)).alloc (.cells #[.int .i64 0] 3) = w2 at *
  have hkk := Blk.below (show Blk _ _ _ _ from HK2.out) hg2 (show Blk _ _ _ _ from HK2.out).lt
  have e0 := (Blk.below (show Blk _ _ _ _ from HK0.out) hg2 (show Blk _ _ _ _ from HK0.out).lt).cell 0
  have e1 := (Blk.below (show Blk _ _ _ _ from HK1.out) hg2 (show Blk _ _ _ _ from HK1.out).lt).cell 0
  have e3 := hkk.cell 1
  simp only [List.getElem?_toArray, List.getElem?_cons_zero, List.getElem?_cons_succ] at e0 e1 e3
  have HB2 := Lib.hid hb2
  have HG2 := Lib.hid hg2
  have HO := Lib.hid bO
  have HNB := Lib.hid bN
  have HZ2 := Lib.hid hz2
  clear hkk hb2 hg2 bO bN hz2
  refine wpIn_wide.2 ?_
  go_still_tail 5, (by kernel_rfl)
  change wpList _ _ _ _ _ w2.drew
  clear e0 e1 e3
  have hd2 : Below w2.heap.size w2 w2.drew := (Below.refl _ _).drew
  have HB3 := Lib.hid (show Below B w w2.drew from HB2.out.drew)
  have HG3 := Lib.hid (show Below w1.heap.size w1 w2.drew from HG2.out.drew)
  have HO3 := Lib.hid (show Boxed w2.drew w1.heap.size 3 (.int .i64 0) from HO.out)
  have HN3 := Lib.hid (show Boxed w2.drew (w1.heap.size + 1) 3 (.int .i64 0) from HNB.out)
  have HZ3 := Lib.hid (show w2.drew.heap.size = w1.heap.size + 2 from HZ2.out)
  clear hd2 HB2 HG2 HO HNB HZ2
  generalize w2.drew = w3 at *
  go_wp2_with fail
  refine (places_call (some ⟨gc, 0, none⟩) (a : Int) _).mono ?_
  rintro e w9 ⟨rfl, rfl⟩
  go_wp2_with fail
  gi_wp2
  obtain ⟨L, hLL⟩ : ∃ L, L = placesL l M (a : Int) := ⟨_, rfl⟩
  have hLlen : L.length ≤ M := by rw [hLL]; exact placesL_length l M _
  have hMN : M ≤ N := by have := HC1.out.le; rw [← HN.out] at this; exact this
  have hp : Hid (ChP Ux w1 B (some ⟨gc, 0, none⟩) l M (a : Int) L) := .inr ⟨gc, rfl, HC1.out, hLL, by have := HN.out; omega⟩
  have HLL := Lib.hid hLL
  have hz3 := HZ3.out
  have bC := (Boxed.new w3 29 (.pointer (some ⟨gc, 0, none⟩))).alloc (.cells #[.int .i64 (a : Int)] 3)
  have bA := Boxed.new (w3.alloc (.cells #[.pointer (some ⟨gc, 0, none⟩)] 29)) 3 (.int .i64 (a : Int))
  rw [World.size_alloc] at bA
  have hB9 : Below w3.heap.size w3 ((w3.alloc (.cells #[.pointer (some ⟨gc, 0, none⟩)] 29)).alloc (.cells #[.int .i64 (a : Int)] 3)) := ((Below.refl _ _).alloc (Nat.le_refl _) _).alloc (by simp) _
  have hz9 : ((w3.alloc (.cells #[.pointer (some ⟨gc, 0, none⟩)] 29)).alloc (.cells #[.int .i64 (a : Int)] 3)).heap.size = w3.heap.size + 2 := by simp
  generalize (w3.alloc (.cells #[.pointer (some ⟨gc, 0, none⟩)] 29)).alloc (.cells #[.int .i64 (a : Int)] 3) = w9 at *
  have hB19 : Below w1.heap.size w1 w9 := HG3.out.trans (hB9.mono (by omega))
  have hz1 := HB1.out.size
  have hk2 := Blk.below (show Blk _ _ _ _ from HK2.out) hB19 (show Blk _ _ _ _ from HK2.out).lt
  have hk0 := Blk.below (show Blk _ _ _ _ from HK0.out) hB19 (show Blk _ _ _ _ from HK0.out).lt
  have hk1 := Blk.below (show Blk _ _ _ _ from HK1.out) hB19 (show Blk _ _ _ _ from HK1.out).lt
  have hbO : Boxed w9 w1.heap.size 3 (.int .i64 0) := (hB9.block _ (by omega)).trans HO3.out
  have hbN : Boxed w9 (w1.heap.size + 1) 3 (.int .i64 0) := (hB9.block _ (by omega)).trans HN3.out
  have hBw9 : Below B w w9 := HB3.out.trans (hB9.mono (by omega))
  have hgw1 : g < w1.heap.size := (show Blk _ _ _ _ from HK2.out).lt
  have hbs1 : w.heap.size + 1 < w1.heap.size := (show Blk _ _ _ _ from HK1.out).lt
  have HSL9 := Lib.hid (Rp.sl_below HSL.out hB19 (fun k hk => by have := H3.out k hk; omega))
  have HW0 := Lib.hid hk0
  have HW1 := Lib.hid hk1
  have HBC := Lib.hid bC
  have HBA := Lib.hid bA
  have hSW : ∀ k, (k < w9.heap.size ∧ k ≠ g ∧ k ≠ w1.heap.size ∧ k ≠ w1.heap.size + 1) → k < w9.heap.size := fun k hk => hk.1
  have HST := Lib.hid (places_stops (n := 5 - 1) (S := fun k => k < w9.heap.size ∧ k ≠ g ∧ k ≠ w1.heap.size ∧ k ≠ w1.heap.size + 1) (a : Int) (by omega) (by omega) hp.out hB19 (fun k hu _ hk => by rw [hUx] at hu; exact ⟨by omega, hu.1, by omega, by omega⟩) hSW ⟨by omega, by omega, by omega, by omega⟩ ⟨by omega, by omega, by omega, by omega⟩ bC.cell bA.cell)
  have HUX := Lib.hid hUx
  clear hLL hk0 hk1 bC bA hUx
  refine wpIn_rangeFunc_ownG rfl (by decide) (gf := 31) (lb := #[.pointer (some ⟨w3.heap.size, 0, none⟩), .pointer (some ⟨w3.heap.size + 1, 0, none⟩)]) rfl trivial (enters_of Try.func31 (by kernel_rfl) rfl)
    HST.out (fun h k => h.trans k) (keepS_b hSW) (Below.refl _ _) (fun _ => rfl)
    (fun pre W => (Blk W g 59 #[.slice Ab N cb, .pointer (some ⟨gc, 0, none⟩), .int .i64 ((t + pre.length : Nat) : Int)] ∧ Boxed W w1.heap.size 3 (.int .i64 (skf l a pre).1) ∧ Boxed W (w1.heap.size + 1) 3 (.int .i64 ((skf l a pre).2 : Int)) ∧ w9.heap.size ≤ W.heap.size ∧ (∀ k, k < w9.heap.size → k ≠ g → k ≠ w1.heap.size → k ≠ w1.heap.size + 1 → W.heap[k]? = w9.heap[k]?)) ∧ Below B w W)
    (fun c pre W => ((c = .exit 0 ∧ a + (skf l a pre).2 = N) ∧ Boxed W w1.heap.size 3 (.int .i64 (skf l a pre).1) ∧ Boxed W (w1.heap.size + 1) 3 (.int .i64 ((skf l a pre).2 : Int)) ∧ w9.heap.size ≤ W.heap.size) ∧ Below B w W)
    (OwnFrom.and (ownFrom_blocks (fun s W W' ⟨q1, q2, q3, q4, q5⟩ hz hs => ⟨(hs g (by omega) (by omega)).trans q1, (hs _ (by omega) (by omega)).trans q2, (hs _ (by omega) (by omega)).trans q3, by omega, fun k hk h1 h2 h3 => (hs k (by omega) hk).trans (q5 k hk h1 h2 h3)⟩)) (ownFrom_below (by omega) (by omega)))
    (fun c => OwnFrom.and (ownFrom_blocks (fun s W W' ⟨q1, q2, q3, q4⟩ hz hs => ⟨q1, (hs _ (by omega) (by omega)).trans q2, (hs _ (by omega) (by omega)).trans q3, by omega⟩)) (ownFrom_below (by omega) (by omega)))
    ⟨⟨hk2, hbO, hbN, Nat.le_refl _, fun _ _ _ _ _ => rfl⟩, hBw9⟩
    (fun x => { tmps := #[.pointer (some ⟨g, 0, none⟩), .int .i64 (a : Int), .pointer (some ⟨w.heap.size, 0, none⟩), .pointer (some ⟨w.heap.size + 1, 0, none⟩), .int .i64 0, .int .i64 0, .pointer (some ⟨w1.heap.size, 0, none⟩), .pointer (some ⟨w1.heap.size + 1, 0, none⟩), .int .i64 (x.val : Int), undef, .pointer (some ⟨g, 0, none⟩), .bool false, .pointer (some ⟨g, 0, none⟩), .pointer (some ⟨g, 0, none⟩), .pointer (some ⟨g, 1, none⟩), .pointer (some ⟨gc, 0, none⟩), .int .i64 (a : Int), .pointer (some ⟨g, 0, none⟩), .pointer (some ⟨g, 0, none⟩), .pointer (some ⟨g, 0, none⟩), .slice Ab N cb, .int .i64 (N : Int), .int .i64 (R : Int), .int .i64 ((M - m : Nat) : Int), .pointer (some ⟨g, 0, none⟩), .pointer (some ⟨g, 0, none⟩), .pointer (some ⟨g, 1, none⟩), .pointer (some ⟨gc, 0, none⟩), .int .i64 (a : Int), .func (.func 31) #[] #[.pointer (some ⟨w3.heap.size, 0, none⟩), .pointer (some ⟨w3.heap.size + 1, 0, none⟩)], .int .i64 (x.val : Int), undef, undef, undef, undef, undef, undef, undef, undef, undef, undef, undef, undef, undef, undef, undef, undef, undef, undef, undef, undef, undef, undef, undef, undef, undef, undef, undef, undef, undef, undef, undef, undef, undef, undef, undef, undef, undef], defers := [] }) ?assign ?body ?done ?stop
  case assign =>
    intro yl x W K hK
    clear hz3 hz9
    gi_wp2
    exact hK
  case body =>
    rintro yl pre x W ⟨⟨hg1, hbo, hbn, hsz, hrest⟩, hB⟩ hlt
    obtain ⟨o, mm, hq⟩ : ∃ o mm, skf l a pre = (o, mm) := ⟨_, _, rfl⟩
    rw [hq] at hbo hbn
    have hmm : mm ≤ N := by have := skf_le l a pre; rw [hq] at this; rw [HN.out]; exact this
    obtain ⟨k, hk⟩ : ∃ k, k = pre.length := ⟨_, rfl⟩
    rw [← hk] at hg1 hlt
    obtain ⟨tk, htk⟩ : ∃ tk, tk = t + k := ⟨_, rfl⟩
    rw [← htk] at hg1
    have htk2 : tk ≤ 2000000 := by omega
    have f0 : W.cell? ⟨w.heap.size, 0, none⟩ = some (.pointer (some ⟨g, 0, none⟩)) := (show Blk W w.heap.size _ _ from (hrest _ (by omega) (by omega) (by omega) (by omega)).trans HW0.out).cell 0
    have f2 : W.cell? ⟨g, 2, none⟩ = some (.int .i64 (tk : Int)) := hg1.cell 2
    have f3 := hg1.frozen 2
    have hK1 : Kx B w9.heap.size g w1.heap.size (w1.heap.size + 1) W (W.setCell ⟨g, 2, none⟩ (.int .i64 ((tk : Int) + 1))) := Kx.set W _ _ (.inl rfl) (by show g < _; omega) h5
    have hg2 := hg1.put 2 (.int .i64 ((tk : Int) + 1))
    have hbo2 : Boxed (W.setCell ⟨g, 2, none⟩ (.int .i64 ((tk : Int) + 1))) w1.heap.size 3 (.int .i64 o) := (Below.heap_setCell _ _ _ _ (by show w1.heap.size ≠ g; omega)).trans hbo
    have hbn2 : Boxed (W.setCell ⟨g, 2, none⟩ (.int .i64 ((tk : Int) + 1))) (w1.heap.size + 1) 3 (.int .i64 (mm : Int)) := (Below.heap_setCell _ _ _ _ (by show w1.heap.size + 1 ≠ g; omega)).trans hbn
    have HQ := Lib.hid hq
    have HK := Lib.hid hk
    have HTK := Lib.hid htk
    have HREST := Lib.hid hrest
    have HBW := Lib.hid hB
    have HX1 := Lib.hid hK1
    have HG2' := Lib.hid hg2
    have HBO2 := Lib.hid hbo2
    have HBN2 := Lib.hid hbn2
    clear hq hk htk hrest hB hK1 hg2 hbo2 hbn2 hg1 hbo hbn
    have hz3a : w3.heap.size ≤ w1.heap.size + 2 := by omega
    have hz3b : w1.heap.size + 2 ≤ w3.heap.size := by omega
    have hz9a : w3.heap.size + 2 ≤ w9.heap.size := by omega
    clear hz3 hz9
    gi_wp2
    generalize W.setCell ⟨g, 2, none⟩ (.int .i64 ((tk : Int) + 1)) = W1 at *
    clear f0 f2 f3
    have hsz1 := HX1.out.2.1.size
    have hb0 : ∀ k, k < w9.heap.size → k ≠ g → k ≠ w1.heap.size → k ≠ w1.heap.size + 1 → W1.heap[k]? = w9.heap[k]? := fun k hk q1 q2 q3 => (HX1.out.2.2 k (by omega) q1 q2 q3).trans (HREST.out k hk q1 q2 q3)
    have hs0 : Blk W1 w.heap.size 50 #[.pointer (some ⟨g, 0, none⟩)] := (hb0 _ (by omega) (by omega) (by omega) (by omega)).trans HW0.out
    have ha0 : Blk W1 (w.heap.size + 1) 3 #[.int .i64 (a : Int)] := (hb0 _ (by omega) (by omega) (by omega) (by omega)).trans HW1.out
    have hsl0 : rpU8.sl W1 Db Ab N cb l := Rp.sl_keep HSL9.out (fun k hk => by have := H3.out k hk; exact hb0 k (by omega) (by omega) (by omega) (by omega))
    have e0 : ∀ q : Gr W1.heap.size W1, q.val.cell? ⟨w.heap.size, 0, none⟩ = some (.pointer (some ⟨g, 0, none⟩)) := fun q => (q.is.cell (p := ⟨w.heap.size, 0, none⟩) hs0.lt).trans (hs0.cell 0)
    have e1 : ∀ q : Gr W1.heap.size W1, q.val.cell? ⟨w.heap.size + 1, 0, none⟩ = some (.int .i64 (a : Int)) := fun q => (q.is.cell (p := ⟨w.heap.size + 1, 0, none⟩) ha0.lt).trans (ha0.cell 0)
    have e2 : ∀ q : Gr W1.heap.size W1, q.val.cell? ⟨g, 0, none⟩ = some (.slice Ab N cb) := fun q => (q.is.cell (p := ⟨g, 0, none⟩) HG2'.out.lt).trans (HG2'.out.cell 0)
    obtain ⟨p, hp0⟩ : ∃ p : Nat, p = x.val := ⟨_, rfl⟩
    have hp1 : p < 65536 := by rw [hp0]; exact x.isLt
    obtain ⟨d, hd⟩ : ∃ d : Int, d = (a : Int) - (p : Int) := ⟨_, rfl⟩
    have hs1 : IntKind.i64.wrap ((a : Int) - (p : Int)) = d := by rw [IntWalk.i64_in _ (by omega)]; omega
    have HMA := Lib.hid (fun q : Gr W1.heap.size W1 => match_any (a : Int) d (Rp.sl_below hsl0 q.is (fun k hk => by have := H3.out k hk; omega)) (fun k hk => by have := H3.out k hk; have := q.is.size; omega) hl (by omega) (by omega) (by omega) (by omega))
    have hmat := mat_le l (a : Int) d
    obtain ⟨mv, hmv⟩ : ∃ mv, mv = mat l (a : Int) d := ⟨_, rfl⟩
    rw [← hmv] at HMA hmat
    have hmv2 : mv ≤ N := by rw [HN.out]; exact hmat
    have hsnoc := skf_snoc l a pre x
    rw [HQ.out, ← hp0, ← hd, ← hmv] at hsnoc
    have HSN := Lib.hid hsnoc
    have HP0 := Lib.hid hp0
    have HD := Lib.hid hd
    have HHS := Lib.hid hs0
    have HHA := Lib.hid ha0
    have HB0' := Lib.hid hb0
    have hd1 : -100000 ≤ d := by omega
    have hd2 : d ≤ 100000 := by omega
    rw [← hp0]
    clear hd hmv hmat hsnoc hs0 ha0 hsl0 hp0 hb0
    refine wp_round_grow (by rfl) (by rintro ⟨_, _, h⟩; exact h) (by kernel_rfl) (by kernel_rfl) W1.heap.size ?_
    repeat (first | go_big_quiet_step ((go_at_call 24; exact Gr.call _ (Nat.le_refl _) (HMA.out _))) | quiet_step ((go_at_call 24; exact Gr.call _ (Nat.le_refl _) (HMA.out _))))
    refine wpQuiet_nil ?_
    rintro W2 ⟨⟨_, hb2⟩, rfl⟩
    clear e0 e1 e2 hs1
    have hX2 := HX1.out.trans (Kx.below hb2 (by omega))
    have hg2 := Blk.below (show Blk _ _ _ _ from HG2'.out) hb2 (show Blk _ _ _ _ from HG2'.out).lt
    have hbo2 : Boxed W2 w1.heap.size 3 (.int .i64 o) := (hb2.block _ (by omega)).trans HBO2.out
    have hbn2 : Boxed W2 (w1.heap.size + 1) 3 (.int .i64 (mm : Int)) := (hb2.block _ (by omega)).trans HBN2.out
    have hs2 := Blk.below (show Blk _ _ _ _ from HHS.out) hb2 (show Blk _ _ _ _ from HHS.out).lt
    have ha2 := Blk.below (show Blk _ _ _ _ from HHA.out) hb2 (show Blk _ _ _ _ from HHA.out).lt
    have hsz2 : W1.heap.size ≤ W2.heap.size := hb2.size
    have c0 := hbn2.cell
    have c1 : W2.cell? ⟨w.heap.size + 1, 0, none⟩ = some (.int .i64 (a : Int)) := ha2.cell 0
    have c2 := hbo2.frozen
    have c3 := hbn2.frozen
    have c4 := hbo2.cell
    have HX2 := Lib.hid hX2
    have HG2 := Lib.hid hg2
    have HBO := Lib.hid hbo2
    have HBN := Lib.hid hbn2
    have HS2 := Lib.hid hs2
    have HA2 := Lib.hid ha2
    clear hX2 hg2 hbo2 hbn2 hs2 ha2 hb2
    have hd0 : (a : Int) - (p : Int) = d := HD.out.symm
    by_cases hlt : mm < mv
    · have hdl : decide (mm < mv) = true := by simpa using hlt
      have hsn2 : skf l a (pre ++ [x]) = (d, mv) := by have := HSN.out; rw [if_pos hlt] at this; exact this
      have HSN2 := Lib.hid hsn2
      clear hsn2 hlt
      gi_wp2
      have hX3 := (HX2.out.trans (Kx.set (B := B) (b9 := w9.heap.size) (g := g) (bo := w1.heap.size) (bn := w1.heap.size + 1) W2 ⟨w1.heap.size, 0, none⟩ (.int .i64 d) (.inr (.inl rfl)) (by show w1.heap.size < _; omega) (by show B ≤ w1.heap.size; omega))).trans (Kx.set (B := B) (b9 := w9.heap.size) (g := g) (bo := w1.heap.size) (bn := w1.heap.size + 1) _ ⟨w1.heap.size + 1, 0, none⟩ (.int .i64 (mv : Int)) (.inr (.inr rfl)) (by show w1.heap.size + 1 < _; omega) (by show B ≤ w1.heap.size + 1; omega))
      have hg3 := ((show Blk _ _ _ _ from HG2.out).far (p := ⟨w1.heap.size, 0, none⟩) (by show g ≠ w1.heap.size; omega) (.int .i64 d)).far (p := ⟨w1.heap.size + 1, 0, none⟩) (by show g ≠ w1.heap.size + 1; omega) (.int .i64 (mv : Int))
      have hs0 := ((show Blk _ _ _ _ from HS2.out).far (p := ⟨w1.heap.size, 0, none⟩) (by show w.heap.size ≠ w1.heap.size; omega) (.int .i64 d)).far (p := ⟨w1.heap.size + 1, 0, none⟩) (by show w.heap.size ≠ w1.heap.size + 1; omega) (.int .i64 (mv : Int))
      have ha0 := ((show Blk _ _ _ _ from HA2.out).far (p := ⟨w1.heap.size, 0, none⟩) (by show w.heap.size + 1 ≠ w1.heap.size; omega) (.int .i64 d)).far (p := ⟨w1.heap.size + 1, 0, none⟩) (by show w.heap.size + 1 ≠ w1.heap.size + 1; omega) (.int .i64 (mv : Int))
      have hbo3 : Boxed ((W2.setCell ⟨w1.heap.size, 0, none⟩ (.int .i64 d)).setCell ⟨w1.heap.size + 1, 0, none⟩ (.int .i64 (mv : Int))) w1.heap.size 3 (.int .i64 d) := (Below.heap_setCell _ _ _ _ (by show w1.heap.size ≠ w1.heap.size + 1; omega)).trans ((show Boxed _ _ _ _ from HBO.out).set _)
      have hbn3 : Boxed ((W2.setCell ⟨w1.heap.size, 0, none⟩ (.int .i64 d)).setCell ⟨w1.heap.size + 1, 0, none⟩ (.int .i64 (mv : Int))) (w1.heap.size + 1) 3 (.int .i64 (mv : Int)) := Boxed.set _ (show Boxed (W2.setCell ⟨w1.heap.size, 0, none⟩ (.int .i64 d)) (w1.heap.size + 1) 3 (.int .i64 (mm : Int)) from (Below.heap_setCell _ _ _ _ (by show w1.heap.size + 1 ≠ w1.heap.size; omega)).trans HBN.out)
      have hzz : W2.heap.size ≤ ((W2.setCell ⟨w1.heap.size, 0, none⟩ (.int .i64 d)).setCell ⟨w1.heap.size + 1, 0, none⟩ (.int .i64 (mv : Int))).heap.size := by simp
      generalize (W2.setCell ⟨w1.heap.size, 0, none⟩ (.int .i64 d)).setCell ⟨w1.heap.size + 1, 0, none⟩ (.int .i64 (mv : Int)) = W3 at *
      clear hd0
      have hm3 : mv ≤ N := by omega
      obtain ⟨s, hs⟩ : ∃ s, s = a + mv := ⟨_, rfl⟩
      have hs1 : IntKind.i64.wrap ((a : Int) + (mv : Int)) = (s : Int) := by rw [IntWalk.i64_in _ (by omega)]; omega
      have HS := Lib.hid hs
      have hs3 : s ≤ 3000 := by omega
      have e0 : ∀ q : Gr W3.heap.size W3, q.val.cell? ⟨w.heap.size, 0, none⟩ = some (.pointer (some ⟨g, 0, none⟩)) := fun q => (q.is.cell (p := ⟨w.heap.size, 0, none⟩) hs0.lt).trans (hs0.cell 0)
      have e1 : ∀ q : Gr W3.heap.size W3, q.val.cell? ⟨w.heap.size + 1, 0, none⟩ = some (.int .i64 (a : Int)) := fun q => (q.is.cell (p := ⟨w.heap.size + 1, 0, none⟩) ha0.lt).trans (ha0.cell 0)
      have e2 : ∀ q : Gr W3.heap.size W3, q.val.cell? ⟨g, 0, none⟩ = some (.slice Ab N cb) := fun q => (q.is.cell (p := ⟨g, 0, none⟩) hg3.lt).trans (hg3.cell 0)
      have e3 : ∀ q : Gr W3.heap.size W3, q.val.cell? ⟨w1.heap.size + 1, 0, none⟩ = some (.int .i64 (mv : Int)) := fun q => (q.is.cell (p := ⟨w1.heap.size + 1, 0, none⟩) hbn3.lt).trans hbn3.cell
      have HX3 := Lib.hid hX3
      have HG3' := Lib.hid hg3
      have HBO3 := Lib.hid hbo3
      have HBN3 := Lib.hid hbn3
      have hz3W := hX3.2.1.size
      clear hX3 hg3 hbo3 hbn3 hs hs0 ha0 c0 c1 c2 c3 c4
      by_cases hsN : s = N
      · have hdq : ((s : Int) == (N : Int)) = true := by simp; omega
        have HSN3 := Lib.hid hsN
        clear hsN
        refine wp_round_grow (by rfl) (by rintro ⟨_, _, h⟩; exact h) (by kernel_rfl) (by kernel_rfl) W3.heap.size ?_
        repeat (first | go_big_quiet_step (fail) | quiet_step (fail))
        refine wpQuiet_nil ?_
        rintro W4 ⟨⟨_, hb4⟩, rfl⟩
        have hX4 := HX3.out.trans (Kx.below hb4 (by omega))
        have HX4 := Lib.hid hX4
        have HBO4 := Lib.hid (show Boxed W4 w1.heap.size 3 (.int .i64 d) from (hb4.block _ (by omega)).trans HBO3.out)
        have HBN4 := Lib.hid (show Boxed W4 (w1.heap.size + 1) 3 (.int .i64 (mv : Int)) from (hb4.block _ (by omega)).trans HBN3.out)
        clear e0 e1 e2 e3 hs1 hX4 hb4
        gi_wp2
        refine ⟨HX4.out.1, ⟨⟨rfl, ?_⟩, ?_, ?_, ?_⟩, HBW.out.trans HX4.out.2.1⟩
        · rw [HSN2.out]; have := HS.out; have := HSN3.out; omega
        · rw [HSN2.out]; exact HBO4.out
        · rw [HSN2.out]; exact HBN4.out
        · have := HX4.out.2.1.size; omega
      · have hdq : ((s : Int) == (N : Int)) = false := by simp; omega
        clear hsN
        refine wp_round_grow (by rfl) (by rintro ⟨_, _, h⟩; exact h) (by kernel_rfl) (by kernel_rfl) W3.heap.size ?_
        repeat (first | go_big_quiet_step (fail) | quiet_step (fail))
        refine wpQuiet_nil ?_
        rintro W4 ⟨⟨_, hb4⟩, rfl⟩
        have hX4 := HX3.out.trans (Kx.below hb4 (by omega))
        have HX4 := Lib.hid hX4
        have HG4 := Lib.hid (Blk.below (show Blk _ _ _ _ from HG3'.out) hb4 (show Blk _ _ _ _ from HG3'.out).lt)
        have HBO4 := Lib.hid (show Boxed W4 w1.heap.size 3 (.int .i64 d) from (hb4.block _ (by omega)).trans HBO3.out)
        have HBN4 := Lib.hid (show Boxed W4 (w1.heap.size + 1) 3 (.int .i64 (mv : Int)) from (hb4.block _ (by omega)).trans HBN3.out)
        clear e0 e1 e2 e3 hs1 hX4 hb4
        gi_wp2
        refine ⟨HX4.out.1, ⟨HX4.out.2.1.size, fun k hk => HX4.out.2.2 k (by have := hk.1; omega) hk.2.1 hk.2.2.1 hk.2.2.2⟩, ⟨?_, ?_, ?_, ?_, ?_⟩, HBW.out.trans HX4.out.2.1⟩
        · have e : ((t + (pre ++ [x]).length : Nat) : Int) = (tk : Int) + 1 := by rw [List.length_append]; have := HTK.out; have := HK.out; simp; omega
          rw [e]; exact HG4.out
        · rw [HSN2.out]; exact HBO4.out
        · rw [HSN2.out]; exact HBN4.out
        · have := HX4.out.2.1.size; omega
        · exact fun k hk q1 q2 q3 => (HX4.out.2.2 k (by omega) q1 q2 q3).trans (HREST.out k hk q1 q2 q3)
    · have hdl : decide (mm < mv) = false := by simpa using hlt
      have hsn2 : skf l a (pre ++ [x]) = (o, mm) := by have := HSN.out; rw [if_neg hlt] at this; exact this
      have HSN2 := Lib.hid hsn2
      clear hsn2 hlt
      gi_wp2
      have hX3 := HX2.out
      have hg3 := (show Blk _ _ _ _ from HG2.out)
      have hs0 := (show Blk _ _ _ _ from HS2.out)
      have ha0 := (show Blk _ _ _ _ from HA2.out)
      have hbo3 := (show Boxed _ _ _ _ from HBO.out)
      have hbn3 := (show Boxed _ _ _ _ from HBN.out)
      have hzz : W2.heap.size ≤ W2.heap.size := Nat.le_refl _
      generalize W2 = W3 at *
      clear hd0
      have hm3 : mm ≤ N := by omega
      obtain ⟨s, hs⟩ : ∃ s, s = a + mm := ⟨_, rfl⟩
      have hs1 : IntKind.i64.wrap ((a : Int) + (mm : Int)) = (s : Int) := by rw [IntWalk.i64_in _ (by omega)]; omega
      have HS := Lib.hid hs
      have hs3 : s ≤ 3000 := by omega
      have e0 : ∀ q : Gr W3.heap.size W3, q.val.cell? ⟨w.heap.size, 0, none⟩ = some (.pointer (some ⟨g, 0, none⟩)) := fun q => (q.is.cell (p := ⟨w.heap.size, 0, none⟩) hs0.lt).trans (hs0.cell 0)
      have e1 : ∀ q : Gr W3.heap.size W3, q.val.cell? ⟨w.heap.size + 1, 0, none⟩ = some (.int .i64 (a : Int)) := fun q => (q.is.cell (p := ⟨w.heap.size + 1, 0, none⟩) ha0.lt).trans (ha0.cell 0)
      have e2 : ∀ q : Gr W3.heap.size W3, q.val.cell? ⟨g, 0, none⟩ = some (.slice Ab N cb) := fun q => (q.is.cell (p := ⟨g, 0, none⟩) hg3.lt).trans (hg3.cell 0)
      have e3 : ∀ q : Gr W3.heap.size W3, q.val.cell? ⟨w1.heap.size + 1, 0, none⟩ = some (.int .i64 (mm : Int)) := fun q => (q.is.cell (p := ⟨w1.heap.size + 1, 0, none⟩) hbn3.lt).trans hbn3.cell
      have HX3 := Lib.hid hX3
      have HG3' := Lib.hid hg3
      have HBO3 := Lib.hid hbo3
      have HBN3 := Lib.hid hbn3
      have hz3W := hX3.2.1.size
      clear hX3 hg3 hbo3 hbn3 hs hs0 ha0 c0 c1 c2 c3 c4
      by_cases hsN : s = N
      · have hdq : ((s : Int) == (N : Int)) = true := by simp; omega
        have HSN3 := Lib.hid hsN
        clear hsN
        refine wp_round_grow (by rfl) (by rintro ⟨_, _, h⟩; exact h) (by kernel_rfl) (by kernel_rfl) W3.heap.size ?_
        repeat (first | go_big_quiet_step (fail) | quiet_step (fail))
        refine wpQuiet_nil ?_
        rintro W4 ⟨⟨_, hb4⟩, rfl⟩
        have hX4 := HX3.out.trans (Kx.below hb4 (by omega))
        have HX4 := Lib.hid hX4
        have HBO4 := Lib.hid (show Boxed W4 w1.heap.size 3 (.int .i64 o) from (hb4.block _ (by omega)).trans HBO3.out)
        have HBN4 := Lib.hid (show Boxed W4 (w1.heap.size + 1) 3 (.int .i64 (mm : Int)) from (hb4.block _ (by omega)).trans HBN3.out)
        clear e0 e1 e2 e3 hs1 hX4 hb4
        gi_wp2
        refine ⟨HX4.out.1, ⟨⟨rfl, ?_⟩, ?_, ?_, ?_⟩, HBW.out.trans HX4.out.2.1⟩
        · rw [HSN2.out]; have := HS.out; have := HSN3.out; omega
        · rw [HSN2.out]; exact HBO4.out
        · rw [HSN2.out]; exact HBN4.out
        · have := HX4.out.2.1.size; omega
      · have hdq : ((s : Int) == (N : Int)) = false := by simp; omega
        clear hsN
        refine wp_round_grow (by rfl) (by rintro ⟨_, _, h⟩; exact h) (by kernel_rfl) (by kernel_rfl) W3.heap.size ?_
        repeat (first | go_big_quiet_step (fail) | quiet_step (fail))
        refine wpQuiet_nil ?_
        rintro W4 ⟨⟨_, hb4⟩, rfl⟩
        have hX4 := HX3.out.trans (Kx.below hb4 (by omega))
        have HX4 := Lib.hid hX4
        have HG4 := Lib.hid (Blk.below (show Blk _ _ _ _ from HG3'.out) hb4 (show Blk _ _ _ _ from HG3'.out).lt)
        have HBO4 := Lib.hid (show Boxed W4 w1.heap.size 3 (.int .i64 o) from (hb4.block _ (by omega)).trans HBO3.out)
        have HBN4 := Lib.hid (show Boxed W4 (w1.heap.size + 1) 3 (.int .i64 (mm : Int)) from (hb4.block _ (by omega)).trans HBN3.out)
        clear e0 e1 e2 e3 hs1 hX4 hb4
        gi_wp2
        refine ⟨HX4.out.1, ⟨HX4.out.2.1.size, fun k hk => HX4.out.2.2 k (by have := hk.1; omega) hk.2.1 hk.2.2.1 hk.2.2.2⟩, ⟨?_, ?_, ?_, ?_, ?_⟩, HBW.out.trans HX4.out.2.1⟩
        · have e : ((t + (pre ++ [x]).length : Nat) : Int) = (tk : Int) + 1 := by rw [List.length_append]; have := HTK.out; have := HK.out; simp; omega
          rw [e]; exact HG4.out
        · rw [HSN2.out]; exact HBO4.out
        · rw [HSN2.out]; exact HBN4.out
        · have := HX4.out.2.1.size; omega
        · exact fun k hk q1 q2 q3 => (HX4.out.2.2 k (by omega) q1 q2 q3).trans (HREST.out k hk q1 q2 q3)
  case stop =>
    rintro Dd c pre W hDd hpre ⟨⟨⟨rfl, hfin⟩, hbo, hbn, hsz⟩, hB⟩ hK
    have c0 := hbo.cell
    have c1 := hbn.cell
    obtain ⟨o, mm, hq⟩ : ∃ o mm, skf l a pre = (o, mm) := ⟨_, _, rfl⟩
    rw [hq] at c0 c1
    have HQ := Lib.hid hq
    have HB := Lib.hid hB
    have HFIN := Lib.hid hfin
    have HPRE := Lib.hid hpre
    obtain ⟨r0, hr0⟩ : ∃ r0, r0 = if mm < 4 then (0 : Int) else o := ⟨_, rfl⟩
    obtain ⟨r1, hr1⟩ : ∃ r1, r1 = if mm < 4 then 0 else mm := ⟨_, rfl⟩
    have ht0 := takenI_any (w := W) o mm
    rw [← hr0, ← hr1] at ht0
    have HT := Lib.hid ht0
    have HR0 := Lib.hid hr0
    have HR1 := Lib.hid hr1
    have hz3a : w1.heap.size + 2 ≤ w3.heap.size := by omega
    have hz9a : w3.heap.size + 2 ≤ w9.heap.size := by omega
    clear ht0 hr0 hr1
    clear hbo hbn hB hfin hpre hz3 hz9 hq
    gi_wp2
    refine ⟨trivial, ?_⟩
    refine (callsIn_wide.2 HT.out).mono ?_; rintro e w2 ⟨rfl, rfl⟩
    gi_wp2
    refine ⟨by simp, .inl ⟨_, _, rfl, run_takeDeferred hK, ?_⟩⟩
    refine ⟨_, (show _ = Result.ok (.tuple #[.int .i64 r0, .int .i64 (r1 : Int)]) _ by simp [results, Try.results29, go_sem]), pre, .inr ⟨by rw [← HLL.out]; exact HPRE.out, by rw [← HN.out]; exact HFIN.out⟩, ?_, HB.out.trans ((belowK_b (w := w) (Nat.le_refl _) W Dd _ _ (by omega) hK rfl rfl).mono (by omega))⟩
    rw [HQ.out, HR0.out, HR1.out]
  case done =>
    rintro Dd ys W hDd rfl ⟨⟨hg1, hbo, hbn, hsz, hrest⟩, hB⟩ hK
    have c0 := hbo.cell
    have c1 := hbn.cell
    obtain ⟨o, mm, hq⟩ : ∃ o mm, skf l a ys = (o, mm) := ⟨_, _, rfl⟩
    rw [hq] at c0 c1
    have HQ := Lib.hid hq
    have HB := Lib.hid hB
    obtain ⟨r0, hr0⟩ : ∃ r0, r0 = if mm < 4 then (0 : Int) else o := ⟨_, rfl⟩
    obtain ⟨r1, hr1⟩ : ∃ r1, r1 = if mm < 4 then 0 else mm := ⟨_, rfl⟩
    have ht0 := takenI_any (w := W) o mm
    rw [← hr0, ← hr1] at ht0
    have HT := Lib.hid ht0
    have HR0 := Lib.hid hr0
    have HR1 := Lib.hid hr1
    have hz3a : w1.heap.size + 2 ≤ w3.heap.size := by omega
    have hz9a : w3.heap.size + 2 ≤ w9.heap.size := by omega
    clear ht0 hr0 hr1
    clear hg1 hbo hbn hB hrest hz3 hz9 hq
    gi_wp2
    refine ⟨trivial, ?_⟩
    refine (callsIn_wide.2 HT.out).mono ?_; rintro e w2 ⟨rfl, rfl⟩
    gi_wp2
    refine ⟨by simp, .inl ⟨_, _, rfl, run_takeDeferred hK, ?_⟩⟩
    refine ⟨_, (show _ = Result.ok (.tuple #[.int .i64 r0, .int .i64 (r1 : Int)]) _ by simp [results, Try.results29, go_sem]), ys, .inl HLL.out, ?_, HB.out.trans ((belowK_b (w := w) (Nat.le_refl _) W Dd _ _ (by omega) hK rfl rfl).mono (by omega))⟩
    rw [HQ.out, HR0.out, HR1.out]
end
end Go.Proofs.Ytkffgmpkpafkmaa
