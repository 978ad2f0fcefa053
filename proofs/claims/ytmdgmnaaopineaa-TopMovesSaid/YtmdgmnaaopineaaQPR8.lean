/-
  The law of this claim, part 8 of its proof: the parts StrW, PrX.
-/
import Derived.Deep.DeepCutAuto
import Derived.Deep.CutBlock
import Derived.Test.YtmdgmnaaopineaaQPR7
/- Reading a stripe: the reference. -/
namespace Go.Proofs.Ytmdgmnaaopineaa
open Go.ChangeShapes Go.WideShapes Go.ChangeAt Go.RowKit
set_option linter.unusedVariables false
theorem LL.grown {w w' : World} {base n c g : Nat} {A : Option Addr} {sets : List (List Nat)} {t : TypeId} {cs : Array Value} (h : LL w base A n c sets) (hb : Blk w g t cs) (ht : t ≠ 22) (ht2 : t ≠ 46) (hg : w.grownBy w' (some g)) : LL w' base A n c sets :=
  h.same (fun j cs' t' hj ht' _ => hg.block j (Blk.lt (w := w) hj) (fun e => by
    injection e with e
    subst e
    have h1 : some (Obj.cells cs' t' (0, 0)) = some (Obj.cells cs t (0, 0)) := hj.symm.trans hb
    injection h1 with h1
    injection h1 with _ h2 _
    rcases ht' with rfl | rfl
    · exact ht h2.symm
    · exact ht2 h2.symm))
theorem ownGrown {w w' : World} {g : Nat} {t e : TypeId} {cs : Array Value} {base size m : Nat} {v : Value} {xs : List Value} (h : w.ownsRow base e size v m xs) (hb : Blk w g t cs) (ht : e ≠ t) (hg : w.grownBy w' (some g)) : w'.ownsRow base e size v m xs :=
  ownsRow_same h (fun j hj => hg.block j (h.lt j hj).2 (fun e' => by
    injection e' with e'
    subst e'
    exact Pen.ne' hb h ht hj.symm))
theorem twice_iff {sets : List (List Nat)} {l : List Nat} : TwiceIn sets sets.length l ↔ ¬ Apart l sets := by
  constructor
  · rintro ⟨j, o, _, ho, x, hx, hxo⟩ h
    exact h j o ho x hx hxo
  · intro h
    refine Classical.byContradiction fun hn => h fun j o ho x hx hxo => hn ⟨j, o, (List.getElem?_eq_some_iff.1 ho).1, ho, x, hx, hxo⟩
theorem heap_set4 (w : World) (b i : Nat) (u : Value) (j : Nat) (h : j ≠ b) : (w.setCell ⟨b, i, none⟩ u).heap[j]? = w.heap[j]? := Below.heap_setCell w ⟨b, i, none⟩ u j (fun e => h (by first | exact e | exact e.symm))
theorem heap_drew4 (w : World) (j : Nat) : w.drew.heap[j]? = w.heap[j]? := rfl
theorem LL.far2 {w w' : World} {base n c g4 g5 : Nat} {A : Option Addr} {sets : List (List Nat)} {t4 t5 : TypeId} {c4 c5 : Array Value} (h : LL w base A n c sets) (h4 : Blk w g4 t4 c4) (h5 : Blk w g5 t5 c5) (a4 : t4 ≠ 22) (b4 : t4 ≠ 46) (a5 : t5 ≠ 22) (b5 : t5 ≠ 46) (hw : ∀ j, j ≠ g4 → j ≠ g5 → w'.heap[j]? = w.heap[j]?) : LL w' base A n c sets :=
  h.same (fun j cs' t' hj ht' _ => hw j (by
    rintro rfl
    have h1 : some (Obj.cells cs' t' (0, 0)) = some (Obj.cells c4 t4 (0, 0)) := hj.symm.trans h4
    injection h1 with h1
    injection h1 with _ h2 _
    rcases ht' with rfl | rfl
    · exact a4 h2.symm
    · exact b4 h2.symm) (by
    rintro rfl
    have h1 : some (Obj.cells cs' t' (0, 0)) = some (Obj.cells c5 t5 (0, 0)) := hj.symm.trans h5
    injection h1 with h1
    injection h1 with _ h2 _
    rcases ht' with rfl | rfl
    · exact a5 h2.symm
    · exact b5 h2.symm))
theorem Src.newAt (w : World) (b : Nat) (v : Value) (e : TypeId) (hb : b = w.heap.size) (h1 : v.oneCell' = true) : Src (w.alloc (.cells #[v] e)) (some ⟨b, 0, none⟩) 1 1 [v] := by
  subst hb
  exact Src.new w v e h1
def RstIs (w : World) (A : Option Addr) (n c : Nat) (r : Stp × Nat × Flt) (e : Ending) (w' : World) : Prop :=
  ∃ A2 n2 c2, e = .returned (.tuple #[.agg (rdV A n c r.2.1 r.2.2), .agg (stpV r.1.1 r.1.2.1 A2 n2 c2)]) ∧ LL w' w.heap.size A2 n2 c2 r.1.2.2 ∧ Below w.heap.size w w'
section
variable {D : Dom} {A : Option Addr} {n c : Nat} {l : List UInt8} {p : Nat} {f : Flt} {w : World}
set_option maxRecDepth 100000 in
set_option maxHeartbeats 2000000 in
theorem rstr_over (h : rpU8.sl w D A n c l) (hD : ∀ k, D k → k < w.heap.size) (hf : OkF f) (hp : p ≤ n) (hn : n ≤ 1000000000) (fr : Nat) (hfr : fr ≤ 18446744073709551615) (hbig : 4611686018427387904 < fr) :
    Calls Try.prog 42 #[.agg (rdV A n c p f), .int .u64 (fr : Int)] w (RstIs w A n c ((0, 0, []), p, failF f 3 p)) := by
  have H : Hid ((Try.prog.info? 71).map (·.size) = some 4) := by unfold Hid; kernel_rfl
  have HS3 : Hid ((Try.prog.info? 31).map (·.size) = some 3) := by unfold Hid; kernel_rfl
  have HSL : Hid (∀ w', Below w.heap.size w w' → rpU8.sl w' D A n c l ∧ ∀ k, D k → k < w'.heap.size) := fun w' hb => ⟨Rp.sl_below h hb hD, fun k hk => Nat.lt_of_lt_of_le (hD k hk) hb.size⟩
  obtain ⟨FF, hFF⟩ : ∃ FF, FF = failF f 3 (p : Int) := ⟨_, rfl⟩
  have HFL : Hid (∀ w, Calls Try.prog 95 #[.agg (rdV A n c p f), .int .i64 3, .int .i64 (p : Int)] w fun e w' => e = .returned (.agg (rdV A n c p FF)) ∧ Below w.heap.size w w') := fun w => by rw [hFF]; exact rfail_any A n c p f 3 p w
  rw [← hFF]
  have dd0 : decide ((4611686018427387904 : Int) < (fr : Int)) = true := by simp; omega
  have HZ := Lib.hid (below3 w (.cells (rdV A n c p f) 71) (.cells rdZ 71) (.cells (stpV 0 0 none 0 0) 31))
  have HK2 := Lib.hid ((blk21 w 71 71 (rdV A n c p f) rdZ).alloc (.cells (stpV 0 0 none 0 0) 31))
  have HK4 := Lib.hid ((blk22 w 71 71 (rdV A n c p f) rdZ).alloc (.cells (stpV 0 0 none 0 0) 31))
  have HK5 : Hid (Blk (((w.alloc (.cells (rdV A n c p f) 71)).alloc (.cells rdZ 71)).alloc (.cells (stpV 0 0 none 0 0) 31)) (w.heap.size + 1 + 1) 31 (stpV 0 0 none 0 0)) := by
    have := Blk.new ((w.alloc (.cells (rdV A n c p f) 71)).alloc (.cells rdZ 71)) 31 (stpV 0 0 none 0 0)
    have e : ((w.alloc (.cells (rdV A n c p f) 71)).alloc (.cells rdZ 71)).heap.size = w.heap.size + 1 + 1 := by simp
    rw [e] at this
    exact this
  clear h hD hf hp hn hFF
  go_enter Try.func42, Try.ntmps42
  go_wp2_with fail
  generalize World.alloc (World.alloc (World.alloc _ _) _) _ = w0 at *
  have hz0 := HZ.out.size
  have hl5 := (show Blk w0 (w.heap.size + 1 + 1) 31 _ from HK5.out).lt
  have c0 := (show Blk w0 w.heap.size 71 _ from HK2.out).cell 0
  have c1 := (show Blk w0 w.heap.size 71 _ from HK2.out).cell 1
  have c2 := (show Blk w0 w.heap.size 71 _ from HK2.out).cell 2
  have c3 := (show Blk w0 w.heap.size 71 _ from HK2.out).cell 3
  go_wp2_with fail
  refine (HFL.out _).mono ?_; rintro e w1 ⟨rfl, hb⟩
  have HB1 := Lib.hid (stepB HZ.out hb)
  have HK4a := Lib.hid (keepB (show Blk w0 (w.heap.size + 1) 71 _ from HK4.out) hb)
  have HK5a := Lib.hid (keepB (show Blk w0 (w.heap.size + 1 + 1) 31 _ from HK5.out) hb)
  clear hb c0 c1 c2 c3
  go_wp2_with (first
    | (refine wpList_put_row rfl 71 (.tmp 4) (.tmp 20) rfl (w.heap.size + 1) (rdV A n c p FF) rfl rfl 71 _ HK4a.out H.out rfl (by simp [Value.oneCell']) ?_; intro v4 hblk4 hgr4; have HB4z := Lib.hid ((HB1.out).grown hgr4 (HB1.out).size (fun k hk => by injection hk with hk; omega)); have HK5z := Lib.hid ((show Blk w1 (w.heap.size + 1 + 1) 31 _ from HK5a.out).grown hgr4 (by simp)); have HK4z := Lib.hid hblk4; clear hblk4 hgr4)
    | (refine wpList_put_row rfl 31 (.tmp 5) (.tmp 21) rfl (w.heap.size + 1 + 1) (stpV 0 0 none 0 0) rfl rfl 31 _ HK5z.out HS3.out rfl (by simp [Value.oneCell']) ?_; intro v5 hblk5 hgr5))
  have hb5 := HB4z.out.grown hgr5 HB4z.out.size (fun k hk => by injection hk with hk; omega)
  have hr5 := (show Blk v4 _ _ _ from HK4z.out).grown hgr5 (by simp)
  have e0 := hr5.cell 0
  have e1 := hr5.cell 1
  have e2 := hr5.cell 2
  have e3 := hr5.cell 3
  have i0 := hblk5.cell 0
  have i1 := hblk5.cell 1
  have i2 := hblk5.cell 2
  exact bodyPost_ret (v := .tuple #[.agg (rdV A n c p FF), .agg (stpV 0 0 none 0 0)]) (by simp [results, Try.results42, go_sem, e0, e1, e2, e3, i0, i1, i2]) rfl ⟨none, 0, 0, rfl, LL.nil _ _, hb5⟩
set_option maxRecDepth 100000 in
set_option maxHeartbeats 2000000 in
theorem rstr_great (h : rpU8.sl w D A n c l) (hD : ∀ k, D k → k < w.heap.size) (hf : OkF f) (hp : p ≤ n) (hn : n ≤ 1000000000) (fr : Nat) (hle : fr ≤ 4611686018427387904) {x q : Nat} {F : Flt} (hv : vrdF l p f = (x, q, F)) (h0 : F.1 = 0) (hx : 4611686018427387904 ≤ fr + x) :
    Calls Try.prog 42 #[.agg (rdV A n c p f), .int .u64 (fr : Int)] w (RstIs w A n c ((0, 0, []), q, failF F 3 p)) := by
  have H : Hid ((Try.prog.info? 71).map (·.size) = some 4) := by unfold Hid; kernel_rfl
  have HS3 : Hid ((Try.prog.info? 31).map (·.size) = some 3) := by unfold Hid; kernel_rfl
  have HSL : Hid (∀ w', Below w.heap.size w w' → rpU8.sl w' D A n c l ∧ ∀ k, D k → k < w'.heap.size) := fun w' hb => ⟨Rp.sl_below h hb hD, fun k hk => Nat.lt_of_lt_of_le (hD k hk) hb.size⟩
  obtain ⟨FF, hFF⟩ : ∃ FF, FF = failF F 3 (p : Int) := ⟨_, rfl⟩
  have HFL : Hid (∀ w, Calls Try.prog 95 #[.agg (rdV A n c q F), .int .i64 3, .int .i64 (p : Int)] w fun e w' => e = .returned (.agg (rdV A n c q FF)) ∧ Below w.heap.size w w') := fun w => by rw [hFF]; exact rfail_any A n c q F 3 p w
  rw [← hFF]
  have HV : Hid (∀ w', Below w.heap.size w w' → Calls Try.prog 96 #[.agg (rdV A n c p f)] w' fun e w'' => e = .returned (rnV A n c (x, q, F)) ∧ Below w'.heap.size w' w'') := fun w' hb => by have := rread_any (HSL.out w' hb).1 (HSL.out w' hb).2 hf hp hn; rwa [hv] at this
  have dd0 : decide ((4611686018427387904 : Int) < (fr : Int)) = false := by simp; omega
  have dd3 : IntKind.u64.wrap ((4611686018427387904 : Int) - (fr : Int)) = (4611686018427387904 : Int) - (fr : Int) := IntWalk.u64_in _ (by omega)
  have dd1 : (F.1 == 0) = true := by simpa using h0
  have dd2 : decide ((4611686018427387904 : Int) - (fr : Int) ≤ (x : Int)) = true := by simp; omega
  have HZ := Lib.hid (below3 w (.cells (rdV A n c p f) 71) (.cells rdZ 71) (.cells (stpV 0 0 none 0 0) 31))
  have HK2 := Lib.hid ((blk21 w 71 71 (rdV A n c p f) rdZ).alloc (.cells (stpV 0 0 none 0 0) 31))
  have HK4 := Lib.hid ((blk22 w 71 71 (rdV A n c p f) rdZ).alloc (.cells (stpV 0 0 none 0 0) 31))
  have HK5 : Hid (Blk (((w.alloc (.cells (rdV A n c p f) 71)).alloc (.cells rdZ 71)).alloc (.cells (stpV 0 0 none 0 0) 31)) (w.heap.size + 1 + 1) 31 (stpV 0 0 none 0 0)) := by
    have := Blk.new ((w.alloc (.cells (rdV A n c p f) 71)).alloc (.cells rdZ 71)) 31 (stpV 0 0 none 0 0)
    have e : ((w.alloc (.cells (rdV A n c p f) 71)).alloc (.cells rdZ 71)).heap.size = w.heap.size + 1 + 1 := by simp
    rw [e] at this
    exact this
  clear h hD hf hp hn hFF hv h0
  go_enter Try.func42, Try.ntmps42
  go_wp2_with fail
  generalize World.alloc (World.alloc (World.alloc _ _) _) _ = w0 at *
  have hz0 := HZ.out.size
  have hl5 := (show Blk w0 (w.heap.size + 1 + 1) 31 _ from HK5.out).lt
  go_wp2_with fail
  refine (HV.out _ HZ.out).mono ?_; rintro e w1 ⟨rfl, hb⟩
  have HB1 := Lib.hid (stepB HZ.out hb)
  have hk21 := keepB (show Blk w0 w.heap.size 71 _ from HK2.out) hb
  have HK4a := Lib.hid (keepB (show Blk w0 (w.heap.size + 1) 71 _ from HK4.out) hb)
  have HK5a := Lib.hid (keepB (show Blk w0 (w.heap.size + 1 + 1) 31 _ from HK5.out) hb)
  have hl1 := (show Blk w1 (w.heap.size + 1 + 1) 31 _ from HK5a.out).lt
  have hk2lt := hk21.lt
  have c1 := hk21.cell 1
  clear hb hk21
  go_wp2_with fail
  have HB2 := Lib.hid (stepB HB1.out (below1 w1 (.cells (rdV A n c q F) 71)))
  have HK4b := Lib.hid (keepB (show Blk w1 (w.heap.size + 1) 71 _ from HK4a.out) (below1 w1 (.cells (rdV A n c q F) 71)))
  have HK5b := Lib.hid (keepB (show Blk w1 (w.heap.size + 1 + 1) 31 _ from HK5a.out) (below1 w1 (.cells (rdV A n c q F) 71)))
  clear c1
  generalize World.alloc w1 _ = w2 at *
  refine (HFL.out _).mono ?_; rintro e w3 ⟨rfl, hb⟩
  have HB3 := Lib.hid (stepB HB2.out hb)
  have HK4c := Lib.hid (keepB (show Blk w2 (w.heap.size + 1) 71 _ from HK4b.out) hb)
  have HK5c := Lib.hid (keepB (show Blk w2 (w.heap.size + 1 + 1) 31 _ from HK5b.out) hb)
  clear hb
  go_wp2_with (first
    | (refine wpList_put_row rfl 71 (.tmp 4) (.tmp 40) rfl (w.heap.size + 1) (rdV A n c q FF) rfl rfl 71 _ HK4c.out H.out rfl (by simp [Value.oneCell']) ?_; intro v4 hblk4 hgr4; have HB4z := Lib.hid ((HB3.out).grown hgr4 (HB3.out).size (fun k hk => by injection hk with hk; omega)); have HK5z := Lib.hid ((show Blk w3 (w.heap.size + 1 + 1) 31 _ from HK5c.out).grown hgr4 (by simp)); have HK4z := Lib.hid hblk4; clear hblk4 hgr4)
    | (refine wpList_put_row rfl 31 (.tmp 5) (.tmp 41) rfl (w.heap.size + 1 + 1) (stpV 0 0 none 0 0) rfl rfl 31 _ HK5z.out HS3.out rfl (by simp [Value.oneCell']) ?_; intro v5 hblk5 hgr5))
  have hb5 := HB4z.out.grown hgr5 HB4z.out.size (fun k hk => by injection hk with hk; omega)
  have hr5 := (show Blk v4 _ _ _ from HK4z.out).grown hgr5 (by simp)
  have e0 := hr5.cell 0
  have e1 := hr5.cell 1
  have e2 := hr5.cell 2
  have e3 := hr5.cell 3
  have i0 := hblk5.cell 0
  have i1 := hblk5.cell 1
  have i2 := hblk5.cell 2
  exact bodyPost_ret (v := .tuple #[.agg (rdV A n c q FF), .agg (stpV 0 0 none 0 0)]) (by simp [results, Try.results42, go_sem, e0, e1, e2, e3, i0, i1, i2]) rfl ⟨none, 0, 0, rfl, LL.nil _ _, hb5⟩
set_option maxRecDepth 100000 in
set_option maxHeartbeats 3000000 in
theorem rstr_loop (h : rpU8.sl w D A n c l) (hD : ∀ k, D k → k < w.heap.size) (hf : OkF f) (hp : p ≤ n) (hn : n ≤ 1000000000) (fr : Nat) (hle : fr ≤ 4611686018427387904) {x q : Nat} {F : Flt} (hv : vrdF l p f = (x, q, F)) (hx : F.1 = 0 → fr + x < 4611686018427387904) (hx0 : F.1 ≠ 0 → x = 0) :
    Calls Try.prog 42 #[.agg (rdV A n c p f), .int .u64 (fr : Int)] w (RstIs w A n c (strF l p f fr)) := by
  have H : Hid ((Try.prog.info? 71).map (·.size) = some 4) := by unfold Hid; kernel_rfl
  have HS3 : Hid ((Try.prog.info? 31).map (·.size) = some 3) := by unfold Hid; kernel_rfl
  have HSL : Hid (∀ w', Below w.heap.size w w' → rpU8.sl w' D A n c l ∧ ∀ k, D k → k < w'.heap.size) := fun w' hb => ⟨Rp.sl_below h hb hD, fun k hk => Nat.lt_of_lt_of_le (hD k hk) hb.size⟩
  have hll := (Rp.sl_len h).1
  have hq0 : q ≤ n := by have := (vrdF_le (l := l) (p := p) (f := f) (by omega)).1; rw [hv] at this; simp only at this; omega
  have hokF : OkF F := by have := vrdF_ok (l := l) (p := p) hf; rwa [hv] at this
  obtain ⟨RS, hRS⟩ : ∃ RS, RS = setsF l (manyF l q F 8).1 (manyF l q F 8).2.1 (manyF l q F 8).2.2 [] := ⟨_, rfl⟩
  have hstr : strF l p f fr = (if RS.2.2.1 = 0 then ((fr, fr + x + 1, RS.1), RS.2) else ((0, 0, []), RS.2)) := by
    unfold strF
    rw [if_neg (by omega), hv]
    simp only
    rw [if_neg (by rintro ⟨h1, h2⟩; have := hx h1; omega), ← hRS]
  have hxb : fr + x < 18446744073709551615 := by
    by_cases h0 : F.1 = 0
    · have := hx h0; omega
    · rw [hx0 h0]; omega
  have hxg : F.1 = 0 → 4611686018427387904 - (fr : Int) > (x : Int) := fun h0 => by have := hx h0; omega
  have HV : Hid (∀ w', Below w.heap.size w w' → Calls Try.prog 96 #[.agg (rdV A n c p f)] w' fun e w'' => e = .returned (rnV A n c (x, q, F)) ∧ Below w'.heap.size w' w'') := fun w' hb => by have := rread_any (HSL.out w' hb).1 (HSL.out w' hb).2 hf hp hn; rwa [hv] at this
  have dd0 : decide ((4611686018427387904 : Int) < (fr : Int)) = false := by simp; omega
  have dd3 : IntKind.u64.wrap ((4611686018427387904 : Int) - (fr : Int)) = (4611686018427387904 : Int) - (fr : Int) := IntWalk.u64_in _ (by omega)
  have hmq : (manyF l q F 8).2.1 ≤ n := by rw [manyF_q, ← hll]; exact (vrdF_le (by omega)).1
  have hmok := manyF_ok (l := l) (p := q) (m := 8) hokF
  have hmle := manyF_le (l := l) (p := q) (f := F) (m := 8)
  have hm0 := manyF_fail0 (l := l) (p := q) (m := 8) (f := F)
  have HM : Hid (∀ w', Below w.heap.size w w' → Calls Try.prog 97 #[.agg (rdV A n c q F), .int .i64 8] w' fun e w'' => e = .returned (riV A n c (manyF l q F 8)) ∧ Below w'.heap.size w' w'') := fun w' hb => rmany_any (HSL.out w' hb).1 (HSL.out w' hb).2 hokF hq0 hn 8 (by decide)
  generalize manyF l q F 8 = m at *
  obtain ⟨mn, mq, mf⟩ := m
  simp only at HM hmok hmle hRS hmq hm0
  rw [hstr]
  obtain ⟨X, hX⟩ : ∃ X : Stp × Nat × Flt, X = (if RS.2.2.1 = 0 then ((fr, fr + x + 1, RS.1), RS.2) else ((0, 0, []), RS.2)) := ⟨_, rfl⟩
  rw [← hX]
  have HX := Lib.hid hX
  have HRS := Lib.hid hRS
  have HM0 := Lib.hid hm0
  have HMOK := Lib.hid hmok
  have HMQ := Lib.hid hmq
  have HLN := Lib.hid hll
  have HROUND : Hid (∀ (q : Nat) (F : Flt), OkF F → q ≤ n → (∀ w', Below w.heap.size w w' → Calls Try.prog 97 #[.agg (rdV A n c q F), .int .i64 8] w' fun e w'' => e = .returned (riV A n c (manyF l q F 8)) ∧ Below w'.heap.size w' w'') ∧ (∀ w', Below w.heap.size w w' → Calls Try.prog 98 #[.agg (rdV A n c (manyF l q F 8).2.1 (manyF l q F 8).2.2), .int .i64 ((manyF l q F 8).1 : Int)] w' (RlIs w' A n c (risF l (manyF l q F 8).1 (manyF l q F 8).2.1 (manyF l q F 8).2.2 [])))) := fun q F h1 h2 => ⟨fun w' hb => rmany_any (HSL.out w' hb).1 (HSL.out w' hb).2 h1 h2 hn 8 (by decide), fun w' hb => rris_any (HSL.out w' hb).1 (HSL.out w' hb).2 (manyF_ok h1) (by rw [manyF_q, ← hll]; exact (vrdF_le (by omega)).1) hn _ (by have := manyF_le (l := l) (p := q) (f := F) (m := 8); omega)⟩
  have HZ := Lib.hid (below3 w (.cells (rdV A n c p f) 71) (.cells rdZ 71) (.cells (stpV 0 0 none 0 0) 31))
  have HK2 := Lib.hid ((blk21 w 71 71 (rdV A n c p f) rdZ).alloc (.cells (stpV 0 0 none 0 0) 31))
  have HK4 := Lib.hid ((blk22 w 71 71 (rdV A n c p f) rdZ).alloc (.cells (stpV 0 0 none 0 0) 31))
  have HK5 : Hid (Blk (((w.alloc (.cells (rdV A n c p f) 71)).alloc (.cells rdZ 71)).alloc (.cells (stpV 0 0 none 0 0) 31)) (w.heap.size + 1 + 1) 31 (stpV 0 0 none 0 0)) := by
    have := Blk.new ((w.alloc (.cells (rdV A n c p f) 71)).alloc (.cells rdZ 71)) 31 (stpV 0 0 none 0 0)
    have e : ((w.alloc (.cells (rdV A n c p f) 71)).alloc (.cells rdZ 71)).heap.size = w.heap.size + 1 + 1 := by simp
    rw [e] at this
    exact this
  clear h hD hf hp hn hRS hstr hX hmok hv hm0 hmq hx hx0 hll
  have dd4 : IntKind.u64.wrap ((fr : Int) + (x : Int)) = (fr : Int) + (x : Int) := IntWalk.u64_in _ (by omega)
  have dd5 : IntKind.u64.wrap ((fr : Int) + (x : Int) + 1) = (fr : Int) + (x : Int) + 1 := IntWalk.u64_in _ (by omega)
  obtain ⟨bF, hbF⟩ : ∃ b : Bool, b = (F.1 == 0) := ⟨_, rfl⟩
  have dd1 : (F.1 == 0) = bF := hbF.symm
  have dd2 : bF = true → decide ((4611686018427387904 : Int) - (fr : Int) ≤ (x : Int)) = false := fun h => by
    have := hxg (by rw [h] at hbF; simpa using hbF.symm)
    simp; omega
  have HDD2 := Lib.hid dd2
  clear hbF hxg hokF dd2
  cases bF
  all_goals
    try have dd2 := HDD2.out rfl
    go_enter Try.func42, Try.ntmps42
    go_wp2_with fail
    generalize World.alloc (World.alloc (World.alloc _ _) _) _ = w0 at *
    have hz0 := HZ.out.size
    have hl5 := (show Blk w0 (w.heap.size + 1 + 1) 31 _ from HK5.out).lt
    go_wp2_with fail
    refine (HV.out _ HZ.out).mono ?_; rintro e w1 ⟨rfl, hb⟩
    have HB1 := Lib.hid (stepB HZ.out hb)
    have hk21 := keepB (show Blk w0 w.heap.size 71 _ from HK2.out) hb
    have HK4a := Lib.hid (keepB (show Blk w0 (w.heap.size + 1) 71 _ from HK4.out) hb)
    have HK5a := Lib.hid (keepB (show Blk w0 (w.heap.size + 1 + 1) 31 _ from HK5.out) hb)
    have hl1 := (show Blk w1 (w.heap.size + 1 + 1) 31 _ from HK5a.out).lt
    have hk2lt := hk21.lt
    have c1 := hk21.cell 1
    clear hb hk21
    have HKx := Lib.hid (blk21 w1 71 31 (rdV A n c q F) (#[.int .u64 (fr : Int), .int .u64 ((fr : Int) + (x : Int) + 1), .slice none 0 0]))
    have HKy := Lib.hid (blk22 w1 71 31 (rdV A n c q F) (#[.int .u64 (fr : Int), .int .u64 ((fr : Int) + (x : Int) + 1), .slice none 0 0]))
    have HBx := Lib.hid (stepB HB1.out (below2 w1 (.cells (rdV A n c q F) 71) (.cells (#[.int .u64 (fr : Int), .int .u64 ((fr : Int) + (x : Int) + 1), .slice none 0 0]) 31)))
    have HK4x := Lib.hid (keepB (show Blk w1 (w.heap.size + 1) 71 _ from HK4a.out) (below2 w1 (.cells (rdV A n c q F) 71) (.cells (#[.int .u64 (fr : Int), .int .u64 ((fr : Int) + (x : Int) + 1), .slice none 0 0]) 31)))
    have HK5x := Lib.hid (keepB (show Blk w1 (w.heap.size + 1 + 1) 31 _ from HK5a.out) (below2 w1 (.cells (rdV A n c q F) 71) (.cells (#[.int .u64 (fr : Int), .int .u64 ((fr : Int) + (x : Int) + 1), .slice none 0 0]) 31)))
    go_wp2_with fail
    clear c1 dd4 dd5
    generalize hg6 : w1.heap.size = g6 at *
    generalize World.alloc (World.alloc w1 _) _ = w2 at *
    have hzx := HBx.out.size
    refine (HM.out _ HBx.out).mono ?_; rintro e w3 ⟨rfl, hb⟩
    have HKd := Lib.hid (keepB (show Blk w2 g6 71 _ from HKx.out) hb)
    have HKs := Lib.hid (keepB (show Blk w2 (g6 + 1) 31 _ from HKy.out) hb)
    have HB3 := Lib.hid (stepB HBx.out hb)
    have HK4 := Lib.hid (keepB (show Blk w2 (w.heap.size + 1) 71 _ from HK4x.out) hb)
    have HK5 := Lib.hid (keepB (show Blk w2 (w.heap.size + 1 + 1) 31 _ from HK5x.out) hb)
    clear hb
    go_wp2_with (refine wpList_put_row rfl 71 (.tmp 6) (.tmp 51) rfl g6 (rdV A n c mq mf) rfl rfl 71 _ HKd.out H.out rfl (by simp [Value.oneCell']) ?_; intro w4 hblk hgr; have HKd4 := Lib.hid hblk; have HKs4 := Lib.hid ((show Blk w3 (g6 + 1) 31 _ from HKs.out).grown hgr (by simp)); have HK44 := Lib.hid ((show Blk w3 (w.heap.size + 1) 71 _ from HK4.out).grown hgr (by simp; omega)); have HK54 := Lib.hid ((show Blk w3 (w.heap.size + 1 + 1) 31 _ from HK5.out).grown hgr (by simp; omega)); have HB4 := Lib.hid (HB3.out.grown hgr HB3.out.size (fun j hj => by injection hj with hj; omega)); clear hblk hgr)
    go_loopw [10] (fun i wr => ∃ (k q : Nat) (F : Flt) (sets : List (List Nat)) (As : Option Addr) (cs : Nat), k ≤ mn ∧ i = .int .i64 k ∧ Hid (OkF F) ∧ Hid (q ≤ n) ∧ Hid (Blk wr g6 71 (rdV A n c q F)) ∧ Hid (Blk wr (g6 + 1) 31 #[.int .u64 (fr : Int), .int .u64 ((fr : Int) + (x : Int) + 1), .slice As k cs]) ∧ Hid (Blk wr (w.heap.size + 1) 71 rdZ) ∧ Hid (Blk wr (w.heap.size + 1 + 1) 31 (stpV 0 0 none 0 0)) ∧ Hid (LL wr w.heap.size As k cs sets) ∧ Hid (Below w.heap.size w wr) ∧ Hid (F.1 = 0 → setsF l (mn - k) q F sets = RS) ∧ Hid (F.1 ≠ 0 → RS.2 = (q, F))) (fun i _ => mn - (intOf i).toNat)
    case atStart => exact ⟨0, mq, mf, [], none, 0, by omega, rfl, HMOK.out, HMQ.out, HKd4.out, HKs4.out, HK44.out, HK54.out, LL.nil _ _, HB4.out, fun _ => HRS.out.symm, fun h0 => by
      have h1 := HM0.out h0
      have h2 := HRS.out
      rw [h1] at h2
      rw [h2]; rfl⟩
    case round =>
      clear HM HM0 HMOK HMQ HV HKx HKy HBx HK4x HK5x HKd HKs HB3 HK4 HK5 HKd4 HKs4 HK44 HK54 HB4 HZ HK2 HK4a HK5a HB1 HRS
      obtain ⟨k, q, F, sets, As, cs, hk, rfl, hokF, hqn, hkd, hks, hk4, hk5, hll, hbel, hgo, hst⟩ := hrel
      have hzr := hbel.out.size
      have hgl := (show Blk wr g6 71 _ from hkd.out).lt
      have hsl := (show Blk wr (g6 + 1) 31 _ from hks.out).lt
      have d0 := (show Blk wr g6 71 _ from hkd.out).cell 0
      have d1 := (show Blk wr g6 71 _ from hkd.out).cell 1
      have d2 := (show Blk wr g6 71 _ from hkd.out).cell 2
      have d3 := (show Blk wr g6 71 _ from hkd.out).cell 3
      by_cases hF : F.1 = 0
      case neg =>
        have hq : (F.1 != 0) = true := by simpa using hF
        have hq2 : (F.1 == 0) = false := by simpa using hF
        have hxx : X = ((0, 0, []), q, F) := by
          have h1 := hst.out hF
          have h2 := HX.out
          rw [h1, if_neg hF] at h2
          exact h2
        have HXX := Lib.hid hxx
        clear hF hxx HX
        by_cases hkn : k < mn
        case pos =>
          have hd : decide ((k : Int) < (mn : Int)) = true := by simp; omega
          have hd2 : decide (k < mn) = true := by simpa using hkn
          clear hkn
          go_wp2_with (first
            | (refine wpList_put_row rfl 71 (.tmp 4) (.tmp 118) rfl (w.heap.size + 1) (rdV A n c q F) rfl rfl 71 _ hk4.out H.out rfl (by simp [Value.oneCell']) ?_; intro v4 hblk4 hgr4; have HB4z := Lib.hid ((hbel.out).grown hgr4 (hbel.out).size (fun k hk => by injection hk with hk; omega)); have HK5z := Lib.hid ((show Blk wr (w.heap.size + 1 + 1) 31 _ from hk5.out).grown hgr4 (by simp)); have HK4z := Lib.hid hblk4; clear hblk4 hgr4)
            | (refine wpList_put_row rfl 31 (.tmp 5) (.tmp 119) rfl (w.heap.size + 1 + 1) (stpV 0 0 none 0 0) rfl rfl 31 _ HK5z.out HS3.out rfl (by simp [Value.oneCell']) ?_; intro v5 hblk5 hgr5))
          have hb5 := HB4z.out.grown hgr5 HB4z.out.size (fun k hk => by injection hk with hk; omega)
          have hr5 := (show Blk v4 _ _ _ from HK4z.out).grown hgr5 (by simp)
          have e0 := hr5.cell 0
          have e1 := hr5.cell 1
          have e2 := hr5.cell 2
          have e3 := hr5.cell 3
          have i0 := hblk5.cell 0
          have i1 := hblk5.cell 1
          have i2 := hblk5.cell 2
          have hXX := HXX.out
          clear HXX
          subst hXX
          exact bodyPost_ret (v := .tuple #[.agg (rdV A n c q F), .agg (stpV 0 0 none 0 0)]) (by simp [results, Try.results42, go_sem, e0, e1, e2, e3, i0, i1, i2]) rfl ⟨none, 0, 0, rfl, LL.nil _ _, hb5⟩
        case neg =>
          have hd : decide ((k : Int) < (mn : Int)) = false := by simp; omega
          have hd2 : decide (k < mn) = false := by simpa using hkn
          clear hkn
          go_wp2_with (first
            | (refine wpList_put_row rfl 71 (.tmp 4) (.tmp 118) rfl (w.heap.size + 1) (rdV A n c q F) rfl rfl 71 _ hk4.out H.out rfl (by simp [Value.oneCell']) ?_; intro v4 hblk4 hgr4; have HB4z := Lib.hid ((hbel.out).grown hgr4 (hbel.out).size (fun k hk => by injection hk with hk; omega)); have HK5z := Lib.hid ((show Blk wr (w.heap.size + 1 + 1) 31 _ from hk5.out).grown hgr4 (by simp)); have HK4z := Lib.hid hblk4; clear hblk4 hgr4)
            | (refine wpList_put_row rfl 31 (.tmp 5) (.tmp 119) rfl (w.heap.size + 1 + 1) (stpV 0 0 none 0 0) rfl rfl 31 _ HK5z.out HS3.out rfl (by simp [Value.oneCell']) ?_; intro v5 hblk5 hgr5))
          have hb5 := HB4z.out.grown hgr5 HB4z.out.size (fun k hk => by injection hk with hk; omega)
          have hr5 := (show Blk v4 _ _ _ from HK4z.out).grown hgr5 (by simp)
          have e0 := hr5.cell 0
          have e1 := hr5.cell 1
          have e2 := hr5.cell 2
          have e3 := hr5.cell 3
          have i0 := hblk5.cell 0
          have i1 := hblk5.cell 1
          have i2 := hblk5.cell 2
          have hXX := HXX.out
          clear HXX
          subst hXX
          exact bodyPost_ret (v := .tuple #[.agg (rdV A n c q F), .agg (stpV 0 0 none 0 0)]) (by simp [results, Try.results42, go_sem, e0, e1, e2, e3, i0, i1, i2]) rfl ⟨none, 0, 0, rfl, LL.nil _ _, hb5⟩
      case pos =>
      have hq : (F.1 != 0) = false := by simpa using hF
      have hq2 : (F.1 == 0) = true := by simpa using hF
      by_cases hkn : k < mn
      case neg =>
        obtain rfl : k = mn := by omega
        have hd : decide ((k : Int) < (k : Int)) = false := by simp
        have hd2 : decide (k < k) = false := by simp
        have hrs : RS = (sets, q, F) := by
          have h1 := hgo.out hF
          rw [Nat.sub_self] at h1
          exact h1.symm
        have hxx : X = ((fr, fr + x + 1, sets), q, F) := by
          have h2 := HX.out
          rw [hrs, if_pos hF] at h2
          exact h2
        have HXX := Lib.hid hxx
        have s0 := (show Blk wr (g6 + 1) 31 _ from hks.out).cell 0
        have s1 := (show Blk wr (g6 + 1) 31 _ from hks.out).cell 1
        have s2 := (show Blk wr (g6 + 1) 31 _ from hks.out).cell 2
        have a0 := (show Blk wr (w.heap.size + 1) 71 _ from hk4.out).cell 0
        have a1 := (show Blk wr (w.heap.size + 1) 71 _ from hk4.out).cell 1
        have a2 := (show Blk wr (w.heap.size + 1) 71 _ from hk4.out).cell 2
        have a3 := (show Blk wr (w.heap.size + 1) 71 _ from hk4.out).cell 3
        have af0 := (show Blk wr (w.heap.size + 1) 71 _ from hk4.out).frozen 0
        have af1 := (show Blk wr (w.heap.size + 1) 71 _ from hk4.out).frozen 1
        have af2 := (show Blk wr (w.heap.size + 1) 71 _ from hk4.out).frozen 2
        have af3 := (show Blk wr (w.heap.size + 1) 71 _ from hk4.out).frozen 3
        have b0 := (show Blk wr (w.heap.size + 1 + 1) 31 _ from hk5.out).cell 0
        have b1 := (show Blk wr (w.heap.size + 1 + 1) 31 _ from hk5.out).cell 1
        have b2 := (show Blk wr (w.heap.size + 1 + 1) 31 _ from hk5.out).cell 2
        have bf0 := (show Blk wr (w.heap.size + 1 + 1) 31 _ from hk5.out).frozen 0
        have bf1 := (show Blk wr (w.heap.size + 1 + 1) 31 _ from hk5.out).frozen 1
        have bf2 := (show Blk wr (w.heap.size + 1 + 1) 31 _ from hk5.out).frozen 2
        have hn1 : g6 ≠ w.heap.size + 1 := by omega
        have hn2 : g6 ≠ w.heap.size + 1 + 1 := by omega
        have hn3 : g6 + 1 ≠ w.heap.size + 1 := by omega
        have hn4 : g6 + 1 ≠ w.heap.size + 1 + 1 := by omega
        clear hF hrs hxx HX hkn
        go_wp2_with fail
        go_region_with (fail)
        all_goals
          go_wp2_with fail
          have hXX := HXX.out
          clear HXX
          subst hXX
          have he : ((fr + x + 1 : Nat) : Int) = (fr : Int) + (x : Int) + 1 := by omega
          refine bodyPost_ret (v := .tuple #[.agg (rdV A n c q F), .agg #[.int .u64 (fr : Int), .int .u64 ((fr : Int) + (x : Int) + 1), .slice As k cs]]) (by simp [results, Try.results42, go_sem, a0, a1, a2, a3, b0, b1, b2]) rfl ⟨As, k, cs, ?_, ?_, ?_⟩
          · show _ = Ending.returned (.tuple #[.agg (rdV A n c q F), .agg #[.int .u64 (fr : Int), .int .u64 ((fr + x + 1 : Nat) : Int), .slice As k cs]])
            rw [he]
          · exact hll.out.far2 hk4.out hk5.out (by decide) (by decide) (by decide) (by decide) (fun j h4 h5 => by simp only [heap_set4 _ _ _ _ _ h4, heap_set4 _ _ _ _ _ h5, heap_drew4])
          · refine Below.drew ?_
            iterate 7 (refine Below.setCell ?_ (by dsimp only; omega) _)
            exact hbel.out
      case pos =>
        have hd : decide ((k : Int) < (mn : Int)) = true := by simp; omega
        have hd2 : decide (k < mn) = true := by simpa using hkn
        have HMA := Lib.hid ((HROUND.out q F hokF.out hqn.out).1 wr hbel.out)
        have hris := (HROUND.out q F hokF.out hqn.out).2
        have hstep : mn - k = (mn - (k + 1)) + 1 := by omega
        have hgo2 := hgo.out hF
        rw [hstep] at hgo2
        have g1 := setsF_step (l := l) (k := mn - (k + 1)) (p := q) (f := F) (sets := sets)
        have g2 := setsF_stop (l := l) (k := mn - (k + 1)) (p := q) (f := F) (sets := sets)
        rw [hgo2] at g1 g2
        have sb := setF_bad (l := l) (p := q) (f := F) (others := sets)
        have sg : ∀ x q2 F2, risF l (manyF l q F 8).1 (manyF l q F 8).2.1 (manyF l q F 8).2.2 [] = (x, q2, F2) → F2.1 = 0 → 4294967295 < x.getD (x.length - 1) 0 → setF l q F sets = (x, q2, failF F2 3 ((manyF l q F 8).2.1 : Nat)) := fun x q2 F2 h => setF_big h
        have sf : ∀ x q2 F2, risF l (manyF l q F 8).1 (manyF l q F 8).2.1 (manyF l q F 8).2.2 [] = (x, q2, F2) → F2.1 = 0 → ¬ 4294967295 < x.getD (x.length - 1) 0 → Apart x sets → setF l q F sets = (x, q2, F2) := fun x q2 F2 h => setF_fine h
        have sm : ∀ x q2 F2, risF l (manyF l q F 8).1 (manyF l q F 8).2.1 (manyF l q F 8).2.2 [] = (x, q2, F2) → F2.1 = 0 → ¬ 4294967295 < x.getD (x.length - 1) 0 → ¬ Apart x sets → setF l q F sets = (x, q2, failF F2 13 ((manyF l q F 8).2.1 : Nat)) := fun x q2 F2 h => setF_met h
        have hmok := manyF_ok (l := l) (p := q) (m := 8) hokF.out
        have hm1 := manyF_inv (l := l) (p := q) (f := F) (m := 8)
        have hmq1 : (manyF l q F 8).2.1 ≤ n := by rw [manyF_q, ← HLN.out]; exact (vrdF_le (by rw [HLN.out]; exact hqn.out)).1
        generalize manyF l q F 8 = m at *
        obtain ⟨a, mq2, mf2⟩ := m
        simp only at HMA hris sb sg sf sm hmok hm1 hmq1
        have rok := risF_ok (l := l) (k := a) (p := mq2) (acc := []) hmok
        have rq := risF_q (l := l) (k := a) (f := mf2) (acc := []) (p := mq2) (by rw [HLN.out]; exact hmq1)
        have r64 : ∀ y ∈ (risF l a mq2 mf2 []).1, y < 18446744073709551616 := risF_lt (fun x hx => by cases hx)
        have rinv := risF_inv (l := l) (k := a) (p := mq2) (f := mf2) (acc := [])
        rw [HLN.out] at rq
        generalize hR : risF l a mq2 mf2 [] = R at *
        obtain ⟨xs, q2, F2⟩ := R
        simp only at hris sb rok rq r64 rinv
        have hxl : F2.1 = 0 → 1 ≤ xs.length ∧ xs.length ≤ 8 := fun h => by
          obtain ⟨new, e1, e2, _, _, _, _, _, e8⟩ := rinv h
          have h2 := (hm1 e8).2.1
          have h3 := (hm1 e8).2.2.1
          simp only [List.nil_append] at e1
          rw [e1]; omega
        have sg2 := sg xs q2 F2 rfl
        have sf2 := sf xs q2 F2 rfl
        have sm2 := sm xs q2 F2 rfl
        obtain ⟨nx', hnx⟩ : ∃ nn, nn = xs.length := ⟨_, rfl⟩
        have HRIS : Hid (∀ w', Below w.heap.size w w' → Calls Try.prog 98 #[.agg (rdV A n c mq2 mf2), .int .i64 (a : Int)] w' fun e w'' => ∃ A2 c2, e = .returned (.tuple #[.agg (rdV A n c q2 F2), .slice A2 nx' c2]) ∧ w''.ownsRow w'.heap.size 22 1 (.slice A2 nx' c2) nx' (xs.map uv) ∧ Below w'.heap.size w' w'') := by rw [hnx]; exact hris
        have HNX := Lib.hid hnx
        have HG1 := Lib.hid g1
        have HG2 := Lib.hid g2
        have HSB := Lib.hid sb
        have HSG := Lib.hid sg2
        have HSF := Lib.hid sf2
        have HSM := Lib.hid sm2
        have HROK := Lib.hid rok
        have HRQ := Lib.hid rq
        have HR64 := Lib.hid r64
        have HXL := Lib.hid hxl
        have HF := Lib.hid hF
        have HKMN := Lib.hid hkn
        clear hris hstep hgo2 g1 g2 sb sg sf sm sg2 sf2 sm2 hmok hm1 hmq1 rok rq r64 rinv hR hxl hnx hF hgo hst hkn
        by_cases hF2 : F2.1 = 0
        case neg =>
          have r0 : (F2.1 == 0) = false := by simpa using hF2
          have HF2 := Lib.hid hF2
          clear hF2
          go_wp2_with fail
          refine HMA.out.mono ?_; rintro e w1 ⟨rfl, hb⟩
          have HKd1 := Lib.hid (keepB (show Blk wr g6 71 _ from hkd.out) hb)
          have HKs1 := Lib.hid (keepB (show Blk wr (g6 + 1) 31 _ from hks.out) hb)
          have HK41 := Lib.hid (keepB (show Blk wr (w.heap.size + 1) 71 _ from hk4.out) hb)
          have HK51 := Lib.hid (keepB (show Blk wr (w.heap.size + 1 + 1) 31 _ from hk5.out) hb)
          have HL1 := Lib.hid (hll.out.below hb)
          have HB1 := Lib.hid (stepB hbel.out hb)
          have hz1 := hb.size
          clear hb d0 d1 d2 d3
          have HKe2 := Lib.hid (blk11 w1 71 (rdV A n c mq2 mf2))
          have HKd2 := Lib.hid (keepB (show Blk w1 g6 71 _ from HKd1.out) (below1 w1 (.cells (rdV A n c mq2 mf2) 71)))
          have HKs2 := Lib.hid (keepB (show Blk w1 (g6 + 1) 31 _ from HKs1.out) (below1 w1 (.cells (rdV A n c mq2 mf2) 71)))
          have HK42 := Lib.hid (keepB (show Blk w1 (w.heap.size + 1) 71 _ from HK41.out) (below1 w1 (.cells (rdV A n c mq2 mf2) 71)))
          have HK52 := Lib.hid (keepB (show Blk w1 (w.heap.size + 1 + 1) 31 _ from HK51.out) (below1 w1 (.cells (rdV A n c mq2 mf2) 71)))
          have HL2 := Lib.hid (HL1.out.below (below1 w1 (.cells (rdV A n c mq2 mf2) 71)))
          have HB2 := Lib.hid (stepB HB1.out (below1 w1 (.cells (rdV A n c mq2 mf2) 71)))
          go_wp2_with fail
          generalize hge : w1.heap.size = ge at *
          generalize World.alloc w1 _ = w2 at *
          have hz2 := HB2.out.size
          have hel := (show Blk w2 ge 71 _ from HKe2.out).lt
          refine (HRIS.out _ HB2.out).mono ?_; rintro e w3 ⟨A2, c2, rfl, ho, hb⟩
          have HO3 := Lib.hid (own_mono ho hz2)
          have hoz := HO3.out
          have HKe4 := Lib.hid (keepB (keepB (show Blk w2 ge 71 _ from HKe2.out) hb) (below1 w3 (.cells #[.slice A n c, .int .i64 (q2 : Int), .int .i64 F2.1, .int .i64 F2.2] 71)))
          have HKd4 := Lib.hid (keepB (keepB (show Blk w2 g6 71 _ from HKd2.out) hb) (below1 w3 (.cells #[.slice A n c, .int .i64 (q2 : Int), .int .i64 F2.1, .int .i64 F2.2] 71)))
          have HKs4 := Lib.hid (keepB (keepB (show Blk w2 (g6 + 1) 31 _ from HKs2.out) hb) (below1 w3 (.cells #[.slice A n c, .int .i64 (q2 : Int), .int .i64 F2.1, .int .i64 F2.2] 71)))
          have HK44 := Lib.hid (keepB (keepB (show Blk w2 (w.heap.size + 1) 71 _ from HK42.out) hb) (below1 w3 (.cells #[.slice A n c, .int .i64 (q2 : Int), .int .i64 F2.1, .int .i64 F2.2] 71)))
          have HK54 := Lib.hid (keepB (keepB (show Blk w2 (w.heap.size + 1 + 1) 31 _ from HK52.out) hb) (below1 w3 (.cells #[.slice A n c, .int .i64 (q2 : Int), .int .i64 F2.1, .int .i64 F2.2] 71)))
          have HL4 := Lib.hid ((HL2.out.below hb).below (below1 w3 (.cells #[.slice A n c, .int .i64 (q2 : Int), .int .i64 F2.1, .int .i64 F2.2] 71)))
          have HB4 := Lib.hid (stepB (stepB HB2.out hb) (below1 w3 (.cells #[.slice A n c, .int .i64 (q2 : Int), .int .i64 F2.1, .int .i64 F2.2] 71)))
          have HKf4 := Lib.hid (blk11 w3 71 #[.slice A n c, .int .i64 (q2 : Int), .int .i64 F2.1, .int .i64 F2.2])
          have HO4 := Lib.hid (keepO HO3.out (below1 w3 (.cells #[.slice A n c, .int .i64 (q2 : Int), .int .i64 F2.1, .int .i64 F2.2] 71)))
          have hz3 := hb.size
          clear hb ho hoz
          have hz4 := HB4.out.size
          have HNE1 : Hid (w3.heap.size ≠ g6) := (by omega : w3.heap.size ≠ g6)
          have HNE2 : Hid (w3.heap.size ≠ g6 + 1) := (by omega : w3.heap.size ≠ g6 + 1)
          have HNE3 : Hid (w3.heap.size ≠ w.heap.size + 1) := (by omega : w3.heap.size ≠ w.heap.size + 1)
          have HNE4 : Hid (w3.heap.size ≠ w.heap.size + 1 + 1) := (by omega : w3.heap.size ≠ w.heap.size + 1 + 1)
          obtain ⟨vals, hov, hln, hvi⟩ := HL4.out
          have HOV := Lib.hid hov
          have HVI := Lib.hid hvi
          have hk16 : k + 1 ≤ maxLen := by unfold maxLen; omega
          have HSZ : Hid (w.heap.size ≤ (w3.alloc (.cells #[.slice A n c, .int .i64 (q2 : Int), .int .i64 F2.1, .int .i64 F2.2] 71)).heap.size) := HB4.out.size
          clear hov hvi
          have ks2 := (show Blk (w3.alloc (.cells #[.slice A n c, .int .i64 (q2 : Int), .int .i64 F2.1, .int .i64 F2.2] 71)) (g6 + 1) 31 _ from HKs4.out).cell 2
          have ksf2 := (show Blk (w3.alloc (.cells #[.slice A n c, .int .i64 (q2 : Int), .int .i64 F2.1, .int .i64 F2.2] 71)) (g6 + 1) 31 _ from HKs4.out).frozen 2
          go_upto_region 18 with (at_builtin;  (refine wpList_app rfl (.tmp 108) (.tmp 110) _ rfl elemSets rfl (HOV.out.alloc _) rfl (Src.newAt (w3.alloc (.cells #[.slice A n c, .int .i64 (q2 : Int), .int .i64 F2.1, .int .i64 F2.2] 71)) _ (.slice A2 nx' c2) _ (by first | rfl | simp) rfl) hk16 (by omega) (by have := HSZ.out; (try simp at this); simp; omega) ?_; intro A6 c6 w6 ho6 hg6 hat6; have HO6 := Lib.hid ho6; have HG6 := Lib.hid (show (w3.alloc (.cells #[.slice A n c, .int .i64 (q2 : Int), .int .i64 F2.1, .int .i64 F2.2] 71)).grownBy w6 _ from ⟨hg6.os, hg6.tape, hg6.output, by have := hg6.size; simp at this; (try simp); omega, fun j hj hn => (hg6.block j (by (try simp at hj); simp; omega) hn).trans (Below.heap_alloc _ _ _ hj)⟩); have hk6 : Blk w6 (g6 + 1) 31 _ := (show Blk (w3.alloc (.cells #[.slice A n c, .int .i64 (q2 : Int), .int .i64 F2.1, .int .i64 F2.2] 71)) (g6 + 1) 31 _ from HKs4.out).grown HG6.out (Pen.ne' (show Blk (w3.alloc (.cells #[.slice A n c, .int .i64 (q2 : Int), .int .i64 F2.1, .int .i64 F2.2] 71)) (g6 + 1) 31 _ from HKs4.out) HOV.out (by decide)); have k6 := hk6.cell 2; have kf6 := hk6.frozen 2; have HK6 := Lib.hid hk6; clear ho6 hg6 hat6 hk6))
          have hvi5 := HVI.out
          have hw5 : (w3.alloc (.cells #[.slice A n c, .int .i64 (q2 : Int), .int .i64 F2.1, .int .i64 F2.2] 71)).ownsRow w.heap.size 22 1 (.slice A2 xs.length c2) xs.length (xs.map uv) := by rw [← HNX.out]; exact HO4.out
          have ho6 : w6.ownsRow w.heap.size 46 1 (.slice A6 (k + 1) c6) (k + 1) (vals ++ [.slice A2 xs.length c2]) := by rw [← HNX.out]; exact HO6.out
          have hll6 := (show LL (w3.alloc (.cells #[.slice A n c, .int .i64 (q2 : Int), .int .i64 F2.1, .int .i64 F2.2] 71)) w.heap.size As k cs sets from ⟨vals, HOV.out, hln, hvi5⟩).push HOV.out hvi5 ho6 HG6.out hw5 HR64.out
          have HL7 := Lib.hid (hll6.put HK6.out (by decide) (by decide) (a := ⟨g6 + 1, 2, none⟩) rfl (.slice A6 (k + 1) c6))
          have HK7 := Lib.hid (show Blk (w6.setCell ⟨g6 + 1, 2, none⟩ (.slice A6 (k + 1) c6)) (g6 + 1) 31 #[.int .u64 (fr : Int), .int .u64 ((fr : Int) + (x : Int) + 1), .slice A6 (k + 1) c6] from HK6.out.put 2 _)
          have HKf7 := Lib.hid (((show Blk (w3.alloc (.cells #[.slice A n c, .int .i64 (q2 : Int), .int .i64 F2.1, .int .i64 F2.2] 71)) w3.heap.size 71 _ from HKf4.out).grown HG6.out (Pen.ne' (show Blk (w3.alloc (.cells #[.slice A n c, .int .i64 (q2 : Int), .int .i64 F2.1, .int .i64 F2.2] 71)) w3.heap.size 71 _ from HKf4.out) HOV.out (by decide))).far (p := ⟨g6 + 1, 2, none⟩) (by dsimp only; omega) (.slice A6 (k + 1) c6))
          have HKd7 := Lib.hid (((show Blk (w3.alloc (.cells #[.slice A n c, .int .i64 (q2 : Int), .int .i64 F2.1, .int .i64 F2.2] 71)) g6 71 _ from HKd4.out).grown HG6.out (Pen.ne' (show Blk (w3.alloc (.cells #[.slice A n c, .int .i64 (q2 : Int), .int .i64 F2.1, .int .i64 F2.2] 71)) g6 71 _ from HKd4.out) HOV.out (by decide))).far (p := ⟨g6 + 1, 2, none⟩) (by dsimp only; omega) (.slice A6 (k + 1) c6))
          have HK47 := Lib.hid (((show Blk (w3.alloc (.cells #[.slice A n c, .int .i64 (q2 : Int), .int .i64 F2.1, .int .i64 F2.2] 71)) (w.heap.size + 1) 71 _ from HK44.out).grown HG6.out (Pen.ne' (show Blk (w3.alloc (.cells #[.slice A n c, .int .i64 (q2 : Int), .int .i64 F2.1, .int .i64 F2.2] 71)) (w.heap.size + 1) 71 _ from HK44.out) HOV.out (by decide))).far (p := ⟨g6 + 1, 2, none⟩) (by dsimp only; omega) (.slice A6 (k + 1) c6))
          have HK57 := Lib.hid (((show Blk (w3.alloc (.cells #[.slice A n c, .int .i64 (q2 : Int), .int .i64 F2.1, .int .i64 F2.2] 71)) (w.heap.size + 1 + 1) 31 _ from HK54.out).grown HG6.out (Pen.ne' (show Blk (w3.alloc (.cells #[.slice A n c, .int .i64 (q2 : Int), .int .i64 F2.1, .int .i64 F2.2] 71)) (w.heap.size + 1 + 1) 31 _ from HK54.out) HOV.out (by decide))).far (p := ⟨g6 + 1, 2, none⟩) (by dsimp only; omega) (.slice A6 (k + 1) c6))
          have HB7 := Lib.hid ((HB4.out.grown HG6.out HB4.out.size (fun j hj => (HOV.out.lt j hj).1)).setCell (p := ⟨g6 + 1, 2, none⟩) (by dsimp only; omega) (.slice A6 (k + 1) c6))
          clear hvi5 hw5 ho6 hll6 ks2 ksf2 k6 kf6 hln
          generalize World.setCell w6 _ _ = w7 at *
          have f0 := (show Blk w7 w3.heap.size 71 _ from HKf7.out).cell 0
          have f1 := (show Blk w7 w3.heap.size 71 _ from HKf7.out).cell 1
          have f2 := (show Blk w7 w3.heap.size 71 _ from HKf7.out).cell 2
          have f3 := (show Blk w7 w3.heap.size 71 _ from HKf7.out).cell 3
          go_wp2_with (refine wpList_put_row rfl 71 (.tmp 6) (.tmp 113) rfl g6 (rdV A n c q2 F2) rfl rfl 71 _ HKd7.out H.out rfl (by simp [Value.oneCell']) ?_; intro w8 hblk hgr; have HKd8 := Lib.hid hblk; have HKs8 := Lib.hid ((show Blk w7 (g6 + 1) 31 _ from HK7.out).grown hgr (by simp)); have HK48 := Lib.hid ((show Blk w7 (w.heap.size + 1) 71 _ from HK47.out).grown hgr (by simp; omega)); have HK58 := Lib.hid ((show Blk w7 (w.heap.size + 1 + 1) 31 _ from HK57.out).grown hgr (by simp; omega)); have HB8 := Lib.hid (HB7.out.grown hgr HB7.out.size (fun j hj => by injection hj with hj; omega)); have HL8 := Lib.hid (HL7.out.grown (show Blk w7 g6 71 _ from HKd7.out) (by decide) (by decide) hgr); clear hblk hgr)
          go_roundw
          case rel => exact ⟨k + 1, q2, F2, sets ++ [xs], A6, c6, by have := HKMN.out; omega, by go_num, HROK.out, HRQ.out, HKd8.out, HKs8.out, HK48.out, HK58.out, HL8.out, HB8.out, fun h0 => absurd h0 HF2.out, (fun h0 => by
              have hS := HSB.out HF2.out
              have h2 := HG2.out (by rw [hS]; exact h0)
              rw [hS] at h2
              rw [h2])⟩
          case measure => have := HKMN.out; simp [intOf]; omega
        case pos =>
          have r0 : (F2.1 == 0) = true := by simpa using hF2
          have HF2 := Lib.hid hF2
          clear hF2
          obtain ⟨hxl1, hxl8⟩ := HXL.out HF2.out
          obtain ⟨lst, hlst⟩ : ∃ lst, lst = xs.getD (xs.length - 1) 0 := ⟨_, rfl⟩
          have hli : xs[nx' - 1]? = some lst := by rw [HNX.out, hlst, List.getD_eq_getElem?_getD, List.getElem?_eq_getElem (by omega)]; rfl
          have HLI := Lib.hid hli
          have HLST := Lib.hid hlst
          have hnp : 0 < nx' := by rw [HNX.out]; omega
          have hnU : nx' ≤ 8 := by rw [HNX.out]; omega
          have hnI : (1 : Int) ≤ (nx' : Int) := by omega
          have hnI0 : (0 : Int) < (nx' : Int) := by omega
          clear hli hlst hxl1 hxl8
          by_cases hbig : 4294967295 < lst
          case pos =>
            have r1 : decide ((4294967296 : Int) ≤ (lst : Int)) = true := by simp; omega
            have HS : Hid (setF l q F sets = (xs, q2, failF F2 3 (mq2 : Nat))) := HSG.out HF2.out (by rw [← HLST.out]; exact hbig)
            clear hbig
            obtain ⟨F3, hF3⟩ : ∃ F3, F3 = failF F2 3 (mq2 : Int) := ⟨_, rfl⟩
            have HFL : Hid (∀ w, Calls Try.prog 95 #[.agg (rdV A n c q2 F2), .int .i64 3, .int .i64 (mq2 : Int)] w fun e w' => e = .returned (.agg (rdV A n c q2 F3)) ∧ Below w.heap.size w w') := fun w => by rw [hF3]; exact rfail_any A n c q2 F2 3 mq2 w
            have hbad3 : F3.1 ≠ 0 := by rw [hF3]; exact failF_bad (by decide)
            have HBAD3 := Lib.hid hbad3
            have h30 : (F3.1 == 0) = false := by simpa using hbad3
            have HF3 := Lib.hid hF3
            have HOK3 : Hid (OkF F3) := Or.inr hbad3
            clear hF3 hbad3
            go_wp2_with fail
            refine HMA.out.mono ?_; rintro e w1 ⟨rfl, hb⟩
            have HKd1 := Lib.hid (keepB (show Blk wr g6 71 _ from hkd.out) hb)
            have HKs1 := Lib.hid (keepB (show Blk wr (g6 + 1) 31 _ from hks.out) hb)
            have HK41 := Lib.hid (keepB (show Blk wr (w.heap.size + 1) 71 _ from hk4.out) hb)
            have HK51 := Lib.hid (keepB (show Blk wr (w.heap.size + 1 + 1) 31 _ from hk5.out) hb)
            have HL1 := Lib.hid (hll.out.below hb)
            have HB1 := Lib.hid (stepB hbel.out hb)
            have hz1 := hb.size
            clear hb d0 d1 d2 d3
            have HKe2 := Lib.hid (blk11 w1 71 (rdV A n c mq2 mf2))
            have HKd2 := Lib.hid (keepB (show Blk w1 g6 71 _ from HKd1.out) (below1 w1 (.cells (rdV A n c mq2 mf2) 71)))
            have HKs2 := Lib.hid (keepB (show Blk w1 (g6 + 1) 31 _ from HKs1.out) (below1 w1 (.cells (rdV A n c mq2 mf2) 71)))
            have HK42 := Lib.hid (keepB (show Blk w1 (w.heap.size + 1) 71 _ from HK41.out) (below1 w1 (.cells (rdV A n c mq2 mf2) 71)))
            have HK52 := Lib.hid (keepB (show Blk w1 (w.heap.size + 1 + 1) 31 _ from HK51.out) (below1 w1 (.cells (rdV A n c mq2 mf2) 71)))
            have HL2 := Lib.hid (HL1.out.below (below1 w1 (.cells (rdV A n c mq2 mf2) 71)))
            have HB2 := Lib.hid (stepB HB1.out (below1 w1 (.cells (rdV A n c mq2 mf2) 71)))
            go_wp2_with fail
            generalize hge : w1.heap.size = ge at *
            generalize World.alloc w1 _ = w2 at *
            have hz2 := HB2.out.size
            have hel := (show Blk w2 ge 71 _ from HKe2.out).lt
            refine (HRIS.out _ HB2.out).mono ?_; rintro e w3 ⟨A2, c2, rfl, ho, hb⟩
            have HO3 := Lib.hid (own_mono ho hz2)
            have hoz := HO3.out
            have HKe4 := Lib.hid (keepB (keepB (show Blk w2 ge 71 _ from HKe2.out) hb) (below1 w3 (.cells #[.slice A n c, .int .i64 (q2 : Int), .int .i64 F2.1, .int .i64 F2.2] 71)))
            have HKd4 := Lib.hid (keepB (keepB (show Blk w2 g6 71 _ from HKd2.out) hb) (below1 w3 (.cells #[.slice A n c, .int .i64 (q2 : Int), .int .i64 F2.1, .int .i64 F2.2] 71)))
            have HKs4 := Lib.hid (keepB (keepB (show Blk w2 (g6 + 1) 31 _ from HKs2.out) hb) (below1 w3 (.cells #[.slice A n c, .int .i64 (q2 : Int), .int .i64 F2.1, .int .i64 F2.2] 71)))
            have HK44 := Lib.hid (keepB (keepB (show Blk w2 (w.heap.size + 1) 71 _ from HK42.out) hb) (below1 w3 (.cells #[.slice A n c, .int .i64 (q2 : Int), .int .i64 F2.1, .int .i64 F2.2] 71)))
            have HK54 := Lib.hid (keepB (keepB (show Blk w2 (w.heap.size + 1 + 1) 31 _ from HK52.out) hb) (below1 w3 (.cells #[.slice A n c, .int .i64 (q2 : Int), .int .i64 F2.1, .int .i64 F2.2] 71)))
            have HL4 := Lib.hid ((HL2.out.below hb).below (below1 w3 (.cells #[.slice A n c, .int .i64 (q2 : Int), .int .i64 F2.1, .int .i64 F2.2] 71)))
            have HB4 := Lib.hid (stepB (stepB HB2.out hb) (below1 w3 (.cells #[.slice A n c, .int .i64 (q2 : Int), .int .i64 F2.1, .int .i64 F2.2] 71)))
            have HKf4 := Lib.hid (blk11 w3 71 #[.slice A n c, .int .i64 (q2 : Int), .int .i64 F2.1, .int .i64 F2.2])
            have HO4 := Lib.hid (keepO HO3.out (below1 w3 (.cells #[.slice A n c, .int .i64 (q2 : Int), .int .i64 F2.1, .int .i64 F2.2] 71)))
            have hz3 := hb.size
            clear hb ho hoz
            have hz4 := HB4.out.size
            have HNE1 : Hid (w3.heap.size ≠ g6) := (by omega : w3.heap.size ≠ g6)
            have HNE2 : Hid (w3.heap.size ≠ g6 + 1) := (by omega : w3.heap.size ≠ g6 + 1)
            have HNE3 : Hid (w3.heap.size ≠ w.heap.size + 1) := (by omega : w3.heap.size ≠ w.heap.size + 1)
            have HNE4 : Hid (w3.heap.size ≠ w.heap.size + 1 + 1) := (by omega : w3.heap.size ≠ w.heap.size + 1 + 1)
            obtain ⟨bo, hAo, hbo, _, _, hco, _⟩ := own_block HO4.out hnp
            subst hAo
            have hcell := hco (nx' - 1) (uv lst) (by rw [List.getElem?_map, HLI.out]; rfl)
            unfold uv at hcell
            clear hco hbo
            have e1 := (show Blk (w3.alloc (.cells #[.slice A n c, .int .i64 (q2 : Int), .int .i64 F2.1, .int .i64 F2.2] 71)) ge 71 _ from HKe4.out).cell 1
            go_wp2_with fail
            clear hcell
            refine (HFL.out _).mono ?_; rintro e w5 ⟨rfl, hb⟩
            have HKf5 := Lib.hid (keepB (show Blk (w3.alloc (.cells #[.slice A n c, .int .i64 (q2 : Int), .int .i64 F2.1, .int .i64 F2.2] 71)) w3.heap.size 71 _ from HKf4.out) hb)
            have HKd5 := Lib.hid (keepB (show Blk (w3.alloc (.cells #[.slice A n c, .int .i64 (q2 : Int), .int .i64 F2.1, .int .i64 F2.2] 71)) g6 71 _ from HKd4.out) hb)
            have HKs5 := Lib.hid (keepB (show Blk (w3.alloc (.cells #[.slice A n c, .int .i64 (q2 : Int), .int .i64 F2.1, .int .i64 F2.2] 71)) (g6 + 1) 31 _ from HKs4.out) hb)
            have HK45 := Lib.hid (keepB (show Blk (w3.alloc (.cells #[.slice A n c, .int .i64 (q2 : Int), .int .i64 F2.1, .int .i64 F2.2] 71)) (w.heap.size + 1) 71 _ from HK44.out) hb)
            have HK55 := Lib.hid (keepB (show Blk (w3.alloc (.cells #[.slice A n c, .int .i64 (q2 : Int), .int .i64 F2.1, .int .i64 F2.2] 71)) (w.heap.size + 1 + 1) 31 _ from HK54.out) hb)
            have HL5 := Lib.hid (HL4.out.below hb)
            have HO5 := Lib.hid (keepO HO4.out hb)
            have HB5 := Lib.hid (stepB HB4.out hb)
            clear hb e1
            try clear f0 f1 f2 f3
            go_upto_region 17 with (refine wpList_put_row rfl 71 (.tmp 13) (.tmp 91) rfl w3.heap.size (rdV A n c q2 F3) rfl rfl 71 _ HKf5.out H.out rfl (by simp [Value.oneCell']) ?_; intro w9 hblk hgr; have HKf9 := Lib.hid hblk; have HKd9 := Lib.hid ((show Blk w5 g6 71 _ from HKd5.out).grown hgr (by simp; have := HNE1.out; omega)); have HKs9 := Lib.hid ((show Blk w5 (g6 + 1) 31 _ from HKs5.out).grown hgr (by simp; have := HNE2.out; omega)); have HK49 := Lib.hid ((show Blk w5 (w.heap.size + 1) 71 _ from HK45.out).grown hgr (by simp; have := HNE3.out; omega)); have HK59 := Lib.hid ((show Blk w5 (w.heap.size + 1 + 1) 31 _ from HK55.out).grown hgr (by simp; have := HNE4.out; omega)); have HB9 := Lib.hid (HB5.out.grown hgr HB5.out.size (fun j hj => by injection hj with hj; omega)); have HL9 := Lib.hid (HL5.out.grown (show Blk w5 w3.heap.size 71 _ from HKf5.out) (by decide) (by decide) hgr); have HO9 := Lib.hid (ownGrown HO5.out (show Blk w5 w3.heap.size 71 _ from HKf5.out) (by decide) hgr); have f2 := (show Blk w9 w3.heap.size 71 _ from HKf9.out).cell 2; clear hblk hgr)
            obtain ⟨vals, hov, hln, hvi⟩ := HL9.out
            have HOV := Lib.hid hov
            have HVI := Lib.hid hvi
            have hk16 : k + 1 ≤ maxLen := by unfold maxLen; omega
            have HSZ : Hid (w.heap.size ≤ w9.heap.size) := HB9.out.size
            clear hov hvi
            have ks2 := (show Blk w9 (g6 + 1) 31 _ from HKs9.out).cell 2
            have ksf2 := (show Blk w9 (g6 + 1) 31 _ from HKs9.out).frozen 2
            go_upto_region 18 with (at_builtin;  (refine wpList_app rfl (.tmp 108) (.tmp 110) _ rfl elemSets rfl (HOV.out.alloc _) rfl (Src.newAt w9 _ (.slice (some ⟨bo, 0, none⟩) nx' c2) _ (by first | rfl | simp) rfl) hk16 (by omega) (by have := HSZ.out; (try simp at this); simp; omega) ?_; intro A6 c6 w6 ho6 hg6 hat6; have HO6 := Lib.hid ho6; have HG6 := Lib.hid (show w9.grownBy w6 _ from ⟨hg6.os, hg6.tape, hg6.output, by have := hg6.size; simp at this; (try simp); omega, fun j hj hn => (hg6.block j (by (try simp at hj); simp; omega) hn).trans (Below.heap_alloc _ _ _ hj)⟩); have hk6 : Blk w6 (g6 + 1) 31 _ := (show Blk w9 (g6 + 1) 31 _ from HKs9.out).grown HG6.out (Pen.ne' (show Blk w9 (g6 + 1) 31 _ from HKs9.out) HOV.out (by decide)); have k6 := hk6.cell 2; have kf6 := hk6.frozen 2; have HK6 := Lib.hid hk6; clear ho6 hg6 hat6 hk6))
            have hvi5 := HVI.out
            have hw5 : w9.ownsRow w.heap.size 22 1 (.slice (some ⟨bo, 0, none⟩) xs.length c2) xs.length (xs.map uv) := by rw [← HNX.out]; exact HO9.out
            have ho6 : w6.ownsRow w.heap.size 46 1 (.slice A6 (k + 1) c6) (k + 1) (vals ++ [.slice (some ⟨bo, 0, none⟩) xs.length c2]) := by rw [← HNX.out]; exact HO6.out
            have hll6 := (show LL w9 w.heap.size As k cs sets from ⟨vals, HOV.out, hln, hvi5⟩).push HOV.out hvi5 ho6 HG6.out hw5 HR64.out
            have HL7 := Lib.hid (hll6.put HK6.out (by decide) (by decide) (a := ⟨g6 + 1, 2, none⟩) rfl (.slice A6 (k + 1) c6))
            have HK7 := Lib.hid (show Blk (w6.setCell ⟨g6 + 1, 2, none⟩ (.slice A6 (k + 1) c6)) (g6 + 1) 31 #[.int .u64 (fr : Int), .int .u64 ((fr : Int) + (x : Int) + 1), .slice A6 (k + 1) c6] from HK6.out.put 2 _)
            have HKf7 := Lib.hid (((show Blk w9 w3.heap.size 71 _ from HKf9.out).grown HG6.out (Pen.ne' (show Blk w9 w3.heap.size 71 _ from HKf9.out) HOV.out (by decide))).far (p := ⟨g6 + 1, 2, none⟩) (by dsimp only; omega) (.slice A6 (k + 1) c6))
            have HKd7 := Lib.hid (((show Blk w9 g6 71 _ from HKd9.out).grown HG6.out (Pen.ne' (show Blk w9 g6 71 _ from HKd9.out) HOV.out (by decide))).far (p := ⟨g6 + 1, 2, none⟩) (by dsimp only; omega) (.slice A6 (k + 1) c6))
            have HK47 := Lib.hid (((show Blk w9 (w.heap.size + 1) 71 _ from HK49.out).grown HG6.out (Pen.ne' (show Blk w9 (w.heap.size + 1) 71 _ from HK49.out) HOV.out (by decide))).far (p := ⟨g6 + 1, 2, none⟩) (by dsimp only; omega) (.slice A6 (k + 1) c6))
            have HK57 := Lib.hid (((show Blk w9 (w.heap.size + 1 + 1) 31 _ from HK59.out).grown HG6.out (Pen.ne' (show Blk w9 (w.heap.size + 1 + 1) 31 _ from HK59.out) HOV.out (by decide))).far (p := ⟨g6 + 1, 2, none⟩) (by dsimp only; omega) (.slice A6 (k + 1) c6))
            have HB7 := Lib.hid ((HB9.out.grown HG6.out HB9.out.size (fun j hj => (HOV.out.lt j hj).1)).setCell (p := ⟨g6 + 1, 2, none⟩) (by dsimp only; omega) (.slice A6 (k + 1) c6))
            clear hvi5 hw5 ho6 hll6 ks2 ksf2 k6 kf6 hln
            generalize World.setCell w6 _ _ = w7 at *
            have f0 := (show Blk w7 w3.heap.size 71 _ from HKf7.out).cell 0
            have f1 := (show Blk w7 w3.heap.size 71 _ from HKf7.out).cell 1
            have f2 := (show Blk w7 w3.heap.size 71 _ from HKf7.out).cell 2
            have f3 := (show Blk w7 w3.heap.size 71 _ from HKf7.out).cell 3
            go_wp2_with (refine wpList_put_row rfl 71 (.tmp 6) (.tmp 113) rfl g6 (rdV A n c q2 F3) rfl rfl 71 _ HKd7.out H.out rfl (by simp [Value.oneCell']) ?_; intro w8 hblk hgr; have HKd8 := Lib.hid hblk; have HKs8 := Lib.hid ((show Blk w7 (g6 + 1) 31 _ from HK7.out).grown hgr (by simp)); have HK48 := Lib.hid ((show Blk w7 (w.heap.size + 1) 71 _ from HK47.out).grown hgr (by simp; omega)); have HK58 := Lib.hid ((show Blk w7 (w.heap.size + 1 + 1) 31 _ from HK57.out).grown hgr (by simp; omega)); have HB8 := Lib.hid (HB7.out.grown hgr HB7.out.size (fun j hj => by injection hj with hj; omega)); have HL8 := Lib.hid (HL7.out.grown (show Blk w7 g6 71 _ from HKd7.out) (by decide) (by decide) hgr); clear hblk hgr)
            go_roundw
            case rel => exact ⟨k + 1, q2, F3, sets ++ [xs], A6, c6, by have := HKMN.out; omega, by go_num, HOK3.out, HRQ.out, HKd8.out, HKs8.out, HK48.out, HK58.out, HL8.out, HB8.out, fun h0 => absurd h0 HBAD3.out, (fun h0 => by
                have hS := (HS.out.trans (by rw [HF3.out]) : setF l q F sets = (xs, q2, F3))
                have h2 := HG2.out (by rw [hS]; exact h0)
                rw [hS] at h2
                rw [h2])⟩
            case measure => have := HKMN.out; simp [intOf]; omega
          case neg =>
            have r1 : decide ((4294967296 : Int) ≤ (lst : Int)) = false := by simp; omega
            have HNB : Hid (¬ 4294967295 < xs.getD (xs.length - 1) 0) := (by rw [← HLST.out]; exact hbig : ¬ 4294967295 < xs.getD (xs.length - 1) 0)
            clear hbig
            by_cases hap : Apart xs sets
            case neg =>
              have HS : Hid (setF l q F sets = (xs, q2, failF F2 13 (mq2 : Nat))) := HSM.out HF2.out HNB.out hap
              have HTW : Hid (dec (TwiceIn sets sets.length xs) = true) := dec_true (twice_iff.2 hap)
              clear hap
              obtain ⟨F3, hF3⟩ : ∃ F3, F3 = failF F2 13 (mq2 : Int) := ⟨_, rfl⟩
              have HFL : Hid (∀ w, Calls Try.prog 95 #[.agg (rdV A n c q2 F2), .int .i64 13, .int .i64 (mq2 : Int)] w fun e w' => e = .returned (.agg (rdV A n c q2 F3)) ∧ Below w.heap.size w w') := fun w => by rw [hF3]; exact rfail_any A n c q2 F2 13 mq2 w
              have hbad3 : F3.1 ≠ 0 := by rw [hF3]; exact failF_bad (by decide)
              have HBAD3 := Lib.hid hbad3
              have h30 : (F3.1 == 0) = false := by simpa using hbad3
              have HF3 := Lib.hid hF3
              have HOK3 : Hid (OkF F3) := Or.inr hbad3
              clear hF3 hbad3
              go_wp2_with fail
              refine HMA.out.mono ?_; rintro e w1 ⟨rfl, hb⟩
              have HKd1 := Lib.hid (keepB (show Blk wr g6 71 _ from hkd.out) hb)
              have HKs1 := Lib.hid (keepB (show Blk wr (g6 + 1) 31 _ from hks.out) hb)
              have HK41 := Lib.hid (keepB (show Blk wr (w.heap.size + 1) 71 _ from hk4.out) hb)
              have HK51 := Lib.hid (keepB (show Blk wr (w.heap.size + 1 + 1) 31 _ from hk5.out) hb)
              have HL1 := Lib.hid (hll.out.below hb)
              have HB1 := Lib.hid (stepB hbel.out hb)
              have hz1 := hb.size
              clear hb d0 d1 d2 d3
              have HKe2 := Lib.hid (blk11 w1 71 (rdV A n c mq2 mf2))
              have HKd2 := Lib.hid (keepB (show Blk w1 g6 71 _ from HKd1.out) (below1 w1 (.cells (rdV A n c mq2 mf2) 71)))
              have HKs2 := Lib.hid (keepB (show Blk w1 (g6 + 1) 31 _ from HKs1.out) (below1 w1 (.cells (rdV A n c mq2 mf2) 71)))
              have HK42 := Lib.hid (keepB (show Blk w1 (w.heap.size + 1) 71 _ from HK41.out) (below1 w1 (.cells (rdV A n c mq2 mf2) 71)))
              have HK52 := Lib.hid (keepB (show Blk w1 (w.heap.size + 1 + 1) 31 _ from HK51.out) (below1 w1 (.cells (rdV A n c mq2 mf2) 71)))
              have HL2 := Lib.hid (HL1.out.below (below1 w1 (.cells (rdV A n c mq2 mf2) 71)))
              have HB2 := Lib.hid (stepB HB1.out (below1 w1 (.cells (rdV A n c mq2 mf2) 71)))
              go_wp2_with fail
              generalize hge : w1.heap.size = ge at *
              generalize World.alloc w1 _ = w2 at *
              have hz2 := HB2.out.size
              have hel := (show Blk w2 ge 71 _ from HKe2.out).lt
              refine (HRIS.out _ HB2.out).mono ?_; rintro e w3 ⟨A2, c2, rfl, ho, hb⟩
              have HO3 := Lib.hid (own_mono ho hz2)
              have hoz := HO3.out
              have HKe4 := Lib.hid (keepB (keepB (show Blk w2 ge 71 _ from HKe2.out) hb) (below1 w3 (.cells #[.slice A n c, .int .i64 (q2 : Int), .int .i64 F2.1, .int .i64 F2.2] 71)))
              have HKd4 := Lib.hid (keepB (keepB (show Blk w2 g6 71 _ from HKd2.out) hb) (below1 w3 (.cells #[.slice A n c, .int .i64 (q2 : Int), .int .i64 F2.1, .int .i64 F2.2] 71)))
              have HKs4 := Lib.hid (keepB (keepB (show Blk w2 (g6 + 1) 31 _ from HKs2.out) hb) (below1 w3 (.cells #[.slice A n c, .int .i64 (q2 : Int), .int .i64 F2.1, .int .i64 F2.2] 71)))
              have HK44 := Lib.hid (keepB (keepB (show Blk w2 (w.heap.size + 1) 71 _ from HK42.out) hb) (below1 w3 (.cells #[.slice A n c, .int .i64 (q2 : Int), .int .i64 F2.1, .int .i64 F2.2] 71)))
              have HK54 := Lib.hid (keepB (keepB (show Blk w2 (w.heap.size + 1 + 1) 31 _ from HK52.out) hb) (below1 w3 (.cells #[.slice A n c, .int .i64 (q2 : Int), .int .i64 F2.1, .int .i64 F2.2] 71)))
              have HL4 := Lib.hid ((HL2.out.below hb).below (below1 w3 (.cells #[.slice A n c, .int .i64 (q2 : Int), .int .i64 F2.1, .int .i64 F2.2] 71)))
              have HB4 := Lib.hid (stepB (stepB HB2.out hb) (below1 w3 (.cells #[.slice A n c, .int .i64 (q2 : Int), .int .i64 F2.1, .int .i64 F2.2] 71)))
              have HKf4 := Lib.hid (blk11 w3 71 #[.slice A n c, .int .i64 (q2 : Int), .int .i64 F2.1, .int .i64 F2.2])
              have HO4 := Lib.hid (keepO HO3.out (below1 w3 (.cells #[.slice A n c, .int .i64 (q2 : Int), .int .i64 F2.1, .int .i64 F2.2] 71)))
              have hz3 := hb.size
              clear hb ho hoz
              have hz4 := HB4.out.size
              have HNE1 : Hid (w3.heap.size ≠ g6) := (by omega : w3.heap.size ≠ g6)
              have HNE2 : Hid (w3.heap.size ≠ g6 + 1) := (by omega : w3.heap.size ≠ g6 + 1)
              have HNE3 : Hid (w3.heap.size ≠ w.heap.size + 1) := (by omega : w3.heap.size ≠ w.heap.size + 1)
              have HNE4 : Hid (w3.heap.size ≠ w.heap.size + 1 + 1) := (by omega : w3.heap.size ≠ w.heap.size + 1 + 1)
              obtain ⟨bo, hAo, hbo, _, _, hco, _⟩ := own_block HO4.out hnp
              subst hAo
              have hcell := hco (nx' - 1) (uv lst) (by rw [List.getElem?_map, HLI.out]; rfl)
              unfold uv at hcell
              clear hco hbo
              have ks2 := (show Blk (w3.alloc (.cells #[.slice A n c, .int .i64 (q2 : Int), .int .i64 F2.1, .int .i64 F2.2] 71)) (g6 + 1) 31 _ from HKs4.out).cell 2
              go_wp2_with fail
              clear hcell ks2
              have htw := twice_any (own_u64 HO4.out (by exact HR64.out)) HL4.out.sl.1 (m := k) (Nat.le_refl _) (fun j hj => own_lt HO4.out hj) HL4.out.sl.2
              rw [← HL4.out.len] at htw
              rw [HTW.out] at htw
              rw [HL4.out.len] at htw
              refine htw.mono ?_; rintro e w5 ⟨rfl, hb⟩
              clear htw
              have HKe5 := Lib.hid (keepB (show Blk (w3.alloc (.cells #[.slice A n c, .int .i64 (q2 : Int), .int .i64 F2.1, .int .i64 F2.2] 71)) ge 71 _ from HKe4.out) hb)
              have HKf5 := Lib.hid (keepB (show Blk (w3.alloc (.cells #[.slice A n c, .int .i64 (q2 : Int), .int .i64 F2.1, .int .i64 F2.2] 71)) w3.heap.size 71 _ from HKf4.out) hb)
              have HKd5 := Lib.hid (keepB (show Blk (w3.alloc (.cells #[.slice A n c, .int .i64 (q2 : Int), .int .i64 F2.1, .int .i64 F2.2] 71)) g6 71 _ from HKd4.out) hb)
              have HKs5 := Lib.hid (keepB (show Blk (w3.alloc (.cells #[.slice A n c, .int .i64 (q2 : Int), .int .i64 F2.1, .int .i64 F2.2] 71)) (g6 + 1) 31 _ from HKs4.out) hb)
              have HK45 := Lib.hid (keepB (show Blk (w3.alloc (.cells #[.slice A n c, .int .i64 (q2 : Int), .int .i64 F2.1, .int .i64 F2.2] 71)) (w.heap.size + 1) 71 _ from HK44.out) hb)
              have HK55 := Lib.hid (keepB (show Blk (w3.alloc (.cells #[.slice A n c, .int .i64 (q2 : Int), .int .i64 F2.1, .int .i64 F2.2] 71)) (w.heap.size + 1 + 1) 31 _ from HK54.out) hb)
              have HL5 := Lib.hid (HL4.out.below hb)
              have HO5 := Lib.hid (keepO HO4.out hb)
              have HB5 := Lib.hid (stepB HB4.out hb)
              clear hb
              have e1 := (show Blk w5 ge 71 _ from HKe5.out).cell 1
              have f0 := (show Blk w5 w3.heap.size 71 _ from HKf5.out).cell 0
              have f1 := (show Blk w5 w3.heap.size 71 _ from HKf5.out).cell 1
              have f2 := (show Blk w5 w3.heap.size 71 _ from HKf5.out).cell 2
              have f3 := (show Blk w5 w3.heap.size 71 _ from HKf5.out).cell 3
              go_wp2_with fail
              refine (HFL.out _).mono ?_; rintro e w5b ⟨rfl, hb⟩
              have HKf6 := Lib.hid (keepB (show Blk w5 w3.heap.size 71 _ from HKf5.out) hb)
              have HKd6 := Lib.hid (keepB (show Blk w5 g6 71 _ from HKd5.out) hb)
              have HKs6 := Lib.hid (keepB (show Blk w5 (g6 + 1) 31 _ from HKs5.out) hb)
              have HK46 := Lib.hid (keepB (show Blk w5 (w.heap.size + 1) 71 _ from HK45.out) hb)
              have HK56 := Lib.hid (keepB (show Blk w5 (w.heap.size + 1 + 1) 31 _ from HK55.out) hb)
              have HL6 := Lib.hid (HL5.out.below hb)
              have HO6a := Lib.hid (keepO HO5.out hb)
              have HB6 := Lib.hid (stepB HB5.out hb)
              clear hb e1
              try clear f0 f1 f2 f3
              go_upto_region 17 with (refine wpList_put_row rfl 71 (.tmp 13) (.tmp 106) rfl w3.heap.size (rdV A n c q2 F3) rfl rfl 71 _ HKf6.out H.out rfl (by simp [Value.oneCell']) ?_; intro w9 hblk hgr; have HKf9 := Lib.hid hblk; have HKd9 := Lib.hid ((show Blk w5b g6 71 _ from HKd6.out).grown hgr (by simp; have := HNE1.out; omega)); have HKs9 := Lib.hid ((show Blk w5b (g6 + 1) 31 _ from HKs6.out).grown hgr (by simp; have := HNE2.out; omega)); have HK49 := Lib.hid ((show Blk w5b (w.heap.size + 1) 71 _ from HK46.out).grown hgr (by simp; have := HNE3.out; omega)); have HK59 := Lib.hid ((show Blk w5b (w.heap.size + 1 + 1) 31 _ from HK56.out).grown hgr (by simp; have := HNE4.out; omega)); have HB9 := Lib.hid (HB6.out.grown hgr HB6.out.size (fun j hj => by injection hj with hj; omega)); have HL9 := Lib.hid (HL6.out.grown (show Blk w5b w3.heap.size 71 _ from HKf6.out) (by decide) (by decide) hgr); have HO9 := Lib.hid (ownGrown HO6a.out (show Blk w5b w3.heap.size 71 _ from HKf6.out) (by decide) hgr); have f2 := (show Blk w9 w3.heap.size 71 _ from HKf9.out).cell 2; clear hblk hgr)
              obtain ⟨vals, hov, hln, hvi⟩ := HL9.out
              have HOV := Lib.hid hov
              have HVI := Lib.hid hvi
              have hk16 : k + 1 ≤ maxLen := by unfold maxLen; omega
              have HSZ : Hid (w.heap.size ≤ w9.heap.size) := HB9.out.size
              clear hov hvi
              have ks2 := (show Blk w9 (g6 + 1) 31 _ from HKs9.out).cell 2
              have ksf2 := (show Blk w9 (g6 + 1) 31 _ from HKs9.out).frozen 2
              go_upto_region 18 with (at_builtin;  (refine wpList_app rfl (.tmp 108) (.tmp 110) _ rfl elemSets rfl (HOV.out.alloc _) rfl (Src.newAt w9 _ (.slice (some ⟨bo, 0, none⟩) nx' c2) _ (by first | rfl | simp) rfl) hk16 (by omega) (by have := HSZ.out; (try simp at this); simp; omega) ?_; intro A6 c6 w6 ho6 hg6 hat6; have HO6 := Lib.hid ho6; have HG6 := Lib.hid (show w9.grownBy w6 _ from ⟨hg6.os, hg6.tape, hg6.output, by have := hg6.size; simp at this; (try simp); omega, fun j hj hn => (hg6.block j (by (try simp at hj); simp; omega) hn).trans (Below.heap_alloc _ _ _ hj)⟩); have hk6 : Blk w6 (g6 + 1) 31 _ := (show Blk w9 (g6 + 1) 31 _ from HKs9.out).grown HG6.out (Pen.ne' (show Blk w9 (g6 + 1) 31 _ from HKs9.out) HOV.out (by decide)); have k6 := hk6.cell 2; have kf6 := hk6.frozen 2; have HK6 := Lib.hid hk6; clear ho6 hg6 hat6 hk6))
              have hvi5 := HVI.out
              have hw5 : w9.ownsRow w.heap.size 22 1 (.slice (some ⟨bo, 0, none⟩) xs.length c2) xs.length (xs.map uv) := by rw [← HNX.out]; exact HO9.out
              have ho6 : w6.ownsRow w.heap.size 46 1 (.slice A6 (k + 1) c6) (k + 1) (vals ++ [.slice (some ⟨bo, 0, none⟩) xs.length c2]) := by rw [← HNX.out]; exact HO6.out
              have hll6 := (show LL w9 w.heap.size As k cs sets from ⟨vals, HOV.out, hln, hvi5⟩).push HOV.out hvi5 ho6 HG6.out hw5 HR64.out
              have HL7 := Lib.hid (hll6.put HK6.out (by decide) (by decide) (a := ⟨g6 + 1, 2, none⟩) rfl (.slice A6 (k + 1) c6))
              have HK7 := Lib.hid (show Blk (w6.setCell ⟨g6 + 1, 2, none⟩ (.slice A6 (k + 1) c6)) (g6 + 1) 31 #[.int .u64 (fr : Int), .int .u64 ((fr : Int) + (x : Int) + 1), .slice A6 (k + 1) c6] from HK6.out.put 2 _)
              have HKf7 := Lib.hid (((show Blk w9 w3.heap.size 71 _ from HKf9.out).grown HG6.out (Pen.ne' (show Blk w9 w3.heap.size 71 _ from HKf9.out) HOV.out (by decide))).far (p := ⟨g6 + 1, 2, none⟩) (by dsimp only; omega) (.slice A6 (k + 1) c6))
              have HKd7 := Lib.hid (((show Blk w9 g6 71 _ from HKd9.out).grown HG6.out (Pen.ne' (show Blk w9 g6 71 _ from HKd9.out) HOV.out (by decide))).far (p := ⟨g6 + 1, 2, none⟩) (by dsimp only; omega) (.slice A6 (k + 1) c6))
              have HK47 := Lib.hid (((show Blk w9 (w.heap.size + 1) 71 _ from HK49.out).grown HG6.out (Pen.ne' (show Blk w9 (w.heap.size + 1) 71 _ from HK49.out) HOV.out (by decide))).far (p := ⟨g6 + 1, 2, none⟩) (by dsimp only; omega) (.slice A6 (k + 1) c6))
              have HK57 := Lib.hid (((show Blk w9 (w.heap.size + 1 + 1) 31 _ from HK59.out).grown HG6.out (Pen.ne' (show Blk w9 (w.heap.size + 1 + 1) 31 _ from HK59.out) HOV.out (by decide))).far (p := ⟨g6 + 1, 2, none⟩) (by dsimp only; omega) (.slice A6 (k + 1) c6))
              have HB7 := Lib.hid ((HB9.out.grown HG6.out HB9.out.size (fun j hj => (HOV.out.lt j hj).1)).setCell (p := ⟨g6 + 1, 2, none⟩) (by dsimp only; omega) (.slice A6 (k + 1) c6))
              clear hvi5 hw5 ho6 hll6 ks2 ksf2 k6 kf6 hln
              generalize World.setCell w6 _ _ = w7 at *
              have f0 := (show Blk w7 w3.heap.size 71 _ from HKf7.out).cell 0
              have f1 := (show Blk w7 w3.heap.size 71 _ from HKf7.out).cell 1
              have f2 := (show Blk w7 w3.heap.size 71 _ from HKf7.out).cell 2
              have f3 := (show Blk w7 w3.heap.size 71 _ from HKf7.out).cell 3
              go_wp2_with (refine wpList_put_row rfl 71 (.tmp 6) (.tmp 113) rfl g6 (rdV A n c q2 F3) rfl rfl 71 _ HKd7.out H.out rfl (by simp [Value.oneCell']) ?_; intro w8 hblk hgr; have HKd8 := Lib.hid hblk; have HKs8 := Lib.hid ((show Blk w7 (g6 + 1) 31 _ from HK7.out).grown hgr (by simp)); have HK48 := Lib.hid ((show Blk w7 (w.heap.size + 1) 71 _ from HK47.out).grown hgr (by simp; omega)); have HK58 := Lib.hid ((show Blk w7 (w.heap.size + 1 + 1) 31 _ from HK57.out).grown hgr (by simp; omega)); have HB8 := Lib.hid (HB7.out.grown hgr HB7.out.size (fun j hj => by injection hj with hj; omega)); have HL8 := Lib.hid (HL7.out.grown (show Blk w7 g6 71 _ from HKd7.out) (by decide) (by decide) hgr); clear hblk hgr)
              go_roundw
              case rel => exact ⟨k + 1, q2, F3, sets ++ [xs], A6, c6, by have := HKMN.out; omega, by go_num, HOK3.out, HRQ.out, HKd8.out, HKs8.out, HK48.out, HK58.out, HL8.out, HB8.out, fun h0 => absurd h0 HBAD3.out, (fun h0 => by
                  have hS := (HS.out.trans (by rw [HF3.out]) : setF l q F sets = (xs, q2, F3))
                  have h2 := HG2.out (by rw [hS]; exact h0)
                  rw [hS] at h2
                  rw [h2])⟩
              case measure => have := HKMN.out; simp [intOf]; omega
            case pos =>
              have HS : Hid (setF l q F sets = (xs, q2, F2)) := HSF.out HF2.out HNB.out hap
              have HTW : Hid (dec (TwiceIn sets sets.length xs) = false) := dec_false (fun h => twice_iff.1 h hap)
              clear hap
              go_wp2_with fail
              refine HMA.out.mono ?_; rintro e w1 ⟨rfl, hb⟩
              have HKd1 := Lib.hid (keepB (show Blk wr g6 71 _ from hkd.out) hb)
              have HKs1 := Lib.hid (keepB (show Blk wr (g6 + 1) 31 _ from hks.out) hb)
              have HK41 := Lib.hid (keepB (show Blk wr (w.heap.size + 1) 71 _ from hk4.out) hb)
              have HK51 := Lib.hid (keepB (show Blk wr (w.heap.size + 1 + 1) 31 _ from hk5.out) hb)
              have HL1 := Lib.hid (hll.out.below hb)
              have HB1 := Lib.hid (stepB hbel.out hb)
              have hz1 := hb.size
              clear hb d0 d1 d2 d3
              have HKe2 := Lib.hid (blk11 w1 71 (rdV A n c mq2 mf2))
              have HKd2 := Lib.hid (keepB (show Blk w1 g6 71 _ from HKd1.out) (below1 w1 (.cells (rdV A n c mq2 mf2) 71)))
              have HKs2 := Lib.hid (keepB (show Blk w1 (g6 + 1) 31 _ from HKs1.out) (below1 w1 (.cells (rdV A n c mq2 mf2) 71)))
              have HK42 := Lib.hid (keepB (show Blk w1 (w.heap.size + 1) 71 _ from HK41.out) (below1 w1 (.cells (rdV A n c mq2 mf2) 71)))
              have HK52 := Lib.hid (keepB (show Blk w1 (w.heap.size + 1 + 1) 31 _ from HK51.out) (below1 w1 (.cells (rdV A n c mq2 mf2) 71)))
              have HL2 := Lib.hid (HL1.out.below (below1 w1 (.cells (rdV A n c mq2 mf2) 71)))
              have HB2 := Lib.hid (stepB HB1.out (below1 w1 (.cells (rdV A n c mq2 mf2) 71)))
              go_wp2_with fail
              generalize hge : w1.heap.size = ge at *
              generalize World.alloc w1 _ = w2 at *
              have hz2 := HB2.out.size
              have hel := (show Blk w2 ge 71 _ from HKe2.out).lt
              refine (HRIS.out _ HB2.out).mono ?_; rintro e w3 ⟨A2, c2, rfl, ho, hb⟩
              have HO3 := Lib.hid (own_mono ho hz2)
              have hoz := HO3.out
              have HKe4 := Lib.hid (keepB (keepB (show Blk w2 ge 71 _ from HKe2.out) hb) (below1 w3 (.cells #[.slice A n c, .int .i64 (q2 : Int), .int .i64 F2.1, .int .i64 F2.2] 71)))
              have HKd4 := Lib.hid (keepB (keepB (show Blk w2 g6 71 _ from HKd2.out) hb) (below1 w3 (.cells #[.slice A n c, .int .i64 (q2 : Int), .int .i64 F2.1, .int .i64 F2.2] 71)))
              have HKs4 := Lib.hid (keepB (keepB (show Blk w2 (g6 + 1) 31 _ from HKs2.out) hb) (below1 w3 (.cells #[.slice A n c, .int .i64 (q2 : Int), .int .i64 F2.1, .int .i64 F2.2] 71)))
              have HK44 := Lib.hid (keepB (keepB (show Blk w2 (w.heap.size + 1) 71 _ from HK42.out) hb) (below1 w3 (.cells #[.slice A n c, .int .i64 (q2 : Int), .int .i64 F2.1, .int .i64 F2.2] 71)))
              have HK54 := Lib.hid (keepB (keepB (show Blk w2 (w.heap.size + 1 + 1) 31 _ from HK52.out) hb) (below1 w3 (.cells #[.slice A n c, .int .i64 (q2 : Int), .int .i64 F2.1, .int .i64 F2.2] 71)))
              have HL4 := Lib.hid ((HL2.out.below hb).below (below1 w3 (.cells #[.slice A n c, .int .i64 (q2 : Int), .int .i64 F2.1, .int .i64 F2.2] 71)))
              have HB4 := Lib.hid (stepB (stepB HB2.out hb) (below1 w3 (.cells #[.slice A n c, .int .i64 (q2 : Int), .int .i64 F2.1, .int .i64 F2.2] 71)))
              have HKf4 := Lib.hid (blk11 w3 71 #[.slice A n c, .int .i64 (q2 : Int), .int .i64 F2.1, .int .i64 F2.2])
              have HO4 := Lib.hid (keepO HO3.out (below1 w3 (.cells #[.slice A n c, .int .i64 (q2 : Int), .int .i64 F2.1, .int .i64 F2.2] 71)))
              have hz3 := hb.size
              clear hb ho hoz
              have hz4 := HB4.out.size
              have HNE1 : Hid (w3.heap.size ≠ g6) := (by omega : w3.heap.size ≠ g6)
              have HNE2 : Hid (w3.heap.size ≠ g6 + 1) := (by omega : w3.heap.size ≠ g6 + 1)
              have HNE3 : Hid (w3.heap.size ≠ w.heap.size + 1) := (by omega : w3.heap.size ≠ w.heap.size + 1)
              have HNE4 : Hid (w3.heap.size ≠ w.heap.size + 1 + 1) := (by omega : w3.heap.size ≠ w.heap.size + 1 + 1)
              obtain ⟨bo, hAo, hbo, _, _, hco, _⟩ := own_block HO4.out hnp
              subst hAo
              have hcell := hco (nx' - 1) (uv lst) (by rw [List.getElem?_map, HLI.out]; rfl)
              unfold uv at hcell
              clear hco hbo
              have ks2 := (show Blk (w3.alloc (.cells #[.slice A n c, .int .i64 (q2 : Int), .int .i64 F2.1, .int .i64 F2.2] 71)) (g6 + 1) 31 _ from HKs4.out).cell 2
              go_wp2_with fail
              clear hcell ks2
              have htw := twice_any (own_u64 HO4.out (by exact HR64.out)) HL4.out.sl.1 (m := k) (Nat.le_refl _) (fun j hj => own_lt HO4.out hj) HL4.out.sl.2
              rw [← HL4.out.len] at htw
              rw [HTW.out] at htw
              rw [HL4.out.len] at htw
              refine htw.mono ?_; rintro e w5 ⟨rfl, hb⟩
              clear htw
              have HKe5 := Lib.hid (keepB (show Blk (w3.alloc (.cells #[.slice A n c, .int .i64 (q2 : Int), .int .i64 F2.1, .int .i64 F2.2] 71)) ge 71 _ from HKe4.out) hb)
              have HKf5 := Lib.hid (keepB (show Blk (w3.alloc (.cells #[.slice A n c, .int .i64 (q2 : Int), .int .i64 F2.1, .int .i64 F2.2] 71)) w3.heap.size 71 _ from HKf4.out) hb)
              have HKd5 := Lib.hid (keepB (show Blk (w3.alloc (.cells #[.slice A n c, .int .i64 (q2 : Int), .int .i64 F2.1, .int .i64 F2.2] 71)) g6 71 _ from HKd4.out) hb)
              have HKs5 := Lib.hid (keepB (show Blk (w3.alloc (.cells #[.slice A n c, .int .i64 (q2 : Int), .int .i64 F2.1, .int .i64 F2.2] 71)) (g6 + 1) 31 _ from HKs4.out) hb)
              have HK45 := Lib.hid (keepB (show Blk (w3.alloc (.cells #[.slice A n c, .int .i64 (q2 : Int), .int .i64 F2.1, .int .i64 F2.2] 71)) (w.heap.size + 1) 71 _ from HK44.out) hb)
              have HK55 := Lib.hid (keepB (show Blk (w3.alloc (.cells #[.slice A n c, .int .i64 (q2 : Int), .int .i64 F2.1, .int .i64 F2.2] 71)) (w.heap.size + 1 + 1) 31 _ from HK54.out) hb)
              have HL5 := Lib.hid (HL4.out.below hb)
              have HO5 := Lib.hid (keepO HO4.out hb)
              have HB5 := Lib.hid (stepB HB4.out hb)
              clear hb
              go_upto_region 17 with (fail)
              obtain ⟨vals, hov, hln, hvi⟩ := HL5.out
              have HOV := Lib.hid hov
              have HVI := Lib.hid hvi
              have hk16 : k + 1 ≤ maxLen := by unfold maxLen; omega
              have HSZ : Hid (w.heap.size ≤ w5.heap.size) := HB5.out.size
              clear hov hvi
              have ks2 := (show Blk w5 (g6 + 1) 31 _ from HKs5.out).cell 2
              have ksf2 := (show Blk w5 (g6 + 1) 31 _ from HKs5.out).frozen 2
              go_upto_region 18 with (at_builtin;  (refine wpList_app rfl (.tmp 108) (.tmp 110) _ rfl elemSets rfl (HOV.out.alloc _) rfl (Src.newAt w5 _ (.slice (some ⟨bo, 0, none⟩) nx' c2) _ (by first | rfl | simp) rfl) hk16 (by omega) (by have := HSZ.out; (try simp at this); simp; omega) ?_; intro A6 c6 w6 ho6 hg6 hat6; have HO6 := Lib.hid ho6; have HG6 := Lib.hid (show w5.grownBy w6 _ from ⟨hg6.os, hg6.tape, hg6.output, by have := hg6.size; simp at this; (try simp); omega, fun j hj hn => (hg6.block j (by (try simp at hj); simp; omega) hn).trans (Below.heap_alloc _ _ _ hj)⟩); have hk6 : Blk w6 (g6 + 1) 31 _ := (show Blk w5 (g6 + 1) 31 _ from HKs5.out).grown HG6.out (Pen.ne' (show Blk w5 (g6 + 1) 31 _ from HKs5.out) HOV.out (by decide)); have k6 := hk6.cell 2; have kf6 := hk6.frozen 2; have HK6 := Lib.hid hk6; clear ho6 hg6 hat6 hk6))
              have hvi5 := HVI.out
              have hw5 : w5.ownsRow w.heap.size 22 1 (.slice (some ⟨bo, 0, none⟩) xs.length c2) xs.length (xs.map uv) := by rw [← HNX.out]; exact HO5.out
              have ho6 : w6.ownsRow w.heap.size 46 1 (.slice A6 (k + 1) c6) (k + 1) (vals ++ [.slice (some ⟨bo, 0, none⟩) xs.length c2]) := by rw [← HNX.out]; exact HO6.out
              have hll6 := (show LL w5 w.heap.size As k cs sets from ⟨vals, HOV.out, hln, hvi5⟩).push HOV.out hvi5 ho6 HG6.out hw5 HR64.out
              have HL7 := Lib.hid (hll6.put HK6.out (by decide) (by decide) (a := ⟨g6 + 1, 2, none⟩) rfl (.slice A6 (k + 1) c6))
              have HK7 := Lib.hid (show Blk (w6.setCell ⟨g6 + 1, 2, none⟩ (.slice A6 (k + 1) c6)) (g6 + 1) 31 #[.int .u64 (fr : Int), .int .u64 ((fr : Int) + (x : Int) + 1), .slice A6 (k + 1) c6] from HK6.out.put 2 _)
              have HKf7 := Lib.hid (((show Blk w5 w3.heap.size 71 _ from HKf5.out).grown HG6.out (Pen.ne' (show Blk w5 w3.heap.size 71 _ from HKf5.out) HOV.out (by decide))).far (p := ⟨g6 + 1, 2, none⟩) (by dsimp only; omega) (.slice A6 (k + 1) c6))
              have HKd7 := Lib.hid (((show Blk w5 g6 71 _ from HKd5.out).grown HG6.out (Pen.ne' (show Blk w5 g6 71 _ from HKd5.out) HOV.out (by decide))).far (p := ⟨g6 + 1, 2, none⟩) (by dsimp only; omega) (.slice A6 (k + 1) c6))
              have HK47 := Lib.hid (((show Blk w5 (w.heap.size + 1) 71 _ from HK45.out).grown HG6.out (Pen.ne' (show Blk w5 (w.heap.size + 1) 71 _ from HK45.out) HOV.out (by decide))).far (p := ⟨g6 + 1, 2, none⟩) (by dsimp only; omega) (.slice A6 (k + 1) c6))
              have HK57 := Lib.hid (((show Blk w5 (w.heap.size + 1 + 1) 31 _ from HK55.out).grown HG6.out (Pen.ne' (show Blk w5 (w.heap.size + 1 + 1) 31 _ from HK55.out) HOV.out (by decide))).far (p := ⟨g6 + 1, 2, none⟩) (by dsimp only; omega) (.slice A6 (k + 1) c6))
              have HB7 := Lib.hid ((HB5.out.grown HG6.out HB5.out.size (fun j hj => (HOV.out.lt j hj).1)).setCell (p := ⟨g6 + 1, 2, none⟩) (by dsimp only; omega) (.slice A6 (k + 1) c6))
              clear hvi5 hw5 ho6 hll6 ks2 ksf2 k6 kf6 hln
              generalize World.setCell w6 _ _ = w7 at *
              have f0 := (show Blk w7 w3.heap.size 71 _ from HKf7.out).cell 0
              have f1 := (show Blk w7 w3.heap.size 71 _ from HKf7.out).cell 1
              have f2 := (show Blk w7 w3.heap.size 71 _ from HKf7.out).cell 2
              have f3 := (show Blk w7 w3.heap.size 71 _ from HKf7.out).cell 3
              go_wp2_with (refine wpList_put_row rfl 71 (.tmp 6) (.tmp 113) rfl g6 (rdV A n c q2 F2) rfl rfl 71 _ HKd7.out H.out rfl (by simp [Value.oneCell']) ?_; intro w8 hblk hgr; have HKd8 := Lib.hid hblk; have HKs8 := Lib.hid ((show Blk w7 (g6 + 1) 31 _ from HK7.out).grown hgr (by simp)); have HK48 := Lib.hid ((show Blk w7 (w.heap.size + 1) 71 _ from HK47.out).grown hgr (by simp; omega)); have HK58 := Lib.hid ((show Blk w7 (w.heap.size + 1 + 1) 31 _ from HK57.out).grown hgr (by simp; omega)); have HB8 := Lib.hid (HB7.out.grown hgr HB7.out.size (fun j hj => by injection hj with hj; omega)); have HL8 := Lib.hid (HL7.out.grown (show Blk w7 g6 71 _ from HKd7.out) (by decide) (by decide) hgr); clear hblk hgr)
              go_roundw
              case rel => exact ⟨k + 1, q2, F2, sets ++ [xs], A6, c6, by have := HKMN.out; omega, by go_num, HROK.out, HRQ.out, HKd8.out, HKs8.out, HK48.out, HK58.out, HL8.out, HB8.out, (fun h0 => by
                  have h2 := HG1.out (by rw [HS.out]; exact h0)
                  rw [HS.out] at h2
                  exact h2.symm), (fun h0 => absurd HF2.out h0)⟩
              case measure => have := HKMN.out; simp [intOf]; omega
theorem rstr_any (h : rpU8.sl w D A n c l) (hD : ∀ k, D k → k < w.heap.size) (hf : OkF f) (hp : p ≤ n) (hn : n ≤ 1000000000) (fr : Nat) (hfr : fr ≤ 18446744073709551615) :
    Calls Try.prog 42 #[.agg (rdV A n c p f), .int .u64 (fr : Int)] w (RstIs w A n c (strF l p f fr)) := by
  by_cases h1 : 4611686018427387904 < fr
  · have e : strF l p f fr = ((0, 0, []), p, failF f 3 p) := by unfold strF; rw [if_pos h1]
    rw [e]
    exact rstr_over h hD hf hp hn fr hfr h1
  rcases hv : vrdF l p f with ⟨x, q, F⟩
  by_cases h0 : F.1 = 0
  · by_cases hx : 4611686018427387904 ≤ fr + x
    · have e : strF l p f fr = ((0, 0, []), q, failF F 3 p) := by
        unfold strF
        rw [if_neg h1, hv, if_pos ⟨h0, by show 4611686018427387904 - fr ≤ x; omega⟩]
      rw [e]
      exact rstr_great h hD hf hp hn fr (by omega) hv h0 hx
    · exact rstr_loop h hD hf hp hn fr (by omega) hv (fun _ => by omega) (fun h => absurd h0 h)
  · exact rstr_loop h hD hf hp hn fr (by omega) hv (fun h => absurd h h0) (fun _ => by have := vrdF_fail0 (l := l) (p := p) (f := f) (by rw [hv]; exact h0); rw [hv] at this; exact this)
end
end Go.Proofs.Ytmdgmnaaopineaa
/- Reading a projection: the reference. -/
namespace Go.Proofs.Ytmdgmnaaopineaa
open Go.ChangeShapes Go.WideShapes Go.ChangeAt Go.RowKit
set_option linter.unusedVariables false
theorem StF.halt {l : List UInt8} {R : List Stp × Nat × Flt × Nat} {k p fr : Nat} {f : Flt} {acc : List Stp} (h : StF l R k p f fr acc) (h0 : f.1 ≠ 0) : R.2.1 = p ∧ endFr R.2.1 R.2.2.1 R.2.2.2 = f := by
  obtain ⟨h1, h2⟩ := h.2 h0
  refine ⟨h1, ?_⟩
  rw [h2]
  unfold endFr failF
  split
  · rfl
  · first | rfl | rw [if_neg h0]
def RpIs (w : World) (A : Option Addr) (n c : Nat) (r : Prj × Nat × Flt) (e : Ending) (w' : World) : Prop :=
  ∃ A2 n2 c2, e = .returned (.tuple #[.agg (rdV A n c r.2.1 r.2.2), .agg (prjV r.1.1 A2 n2 c2)]) ∧ OS w' w.heap.size A2 n2 c2 r.1.2 ∧ Below w.heap.size w w'
theorem OS.far2 {w w' : World} {base n c g4 g5 : Nat} {A : Option Addr} {l : List Stp} {c4 c5 : Array Value} (h : OS w base A n c l) (h4 : Blk w g4 71 c4) (h5 : Blk w g5 25 c5) (hw : ∀ j, j ≠ g4 → j ≠ g5 → w'.heap[j]? = w.heap[j]?) (hz : w.heap.size ≤ w'.heap.size) : OS w' base A n c l := by
  have key : ∀ (k : Nat) (cs : Array Value) (t : TypeId), w.heap[k]? = some (.cells cs t (0, 0)) → (TSs t ∨ t = 31) → w'.heap[k]? = w.heap[k]? := by
    intro k cs t ht hor
    refine hw k ?_ ?_
    · rintro rfl
      have := blk_type h4 ht
      subst this
      rcases hor with h | h
      · exact absurd h (by unfold TSs; decide)
      · exact absurd h (by decide)
    · rintro rfl
      have := blk_type h5 ht
      subst this
      rcases hor with h | h
      · exact absurd h tss_prj
      · exact absurd h (by decide)
  refine h.same (fun k hk => ?_) (fun k cs _ hk => key k cs _ hk (.inr rfl)) hz
  obtain ⟨_, h1 | ⟨cs, t, h1, h2⟩⟩ := hk
  · exact h1.elim
  · exact key k cs t h1 (.inl h2)
end Go.Proofs.Ytmdgmnaaopineaa
