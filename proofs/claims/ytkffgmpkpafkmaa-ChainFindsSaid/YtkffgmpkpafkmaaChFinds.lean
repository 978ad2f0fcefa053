/- ChainFinds. -/
import Derived.Test.YtkffgmpkpafkmaaChNone
import Derived.Deep.RegionHeld3
namespace Go.Proofs.Ytkffgmpkpafkmaa
open Go.ChangeShapes Go.WideShapes Go.ChangeAt Go.RowKit Go.Maps Go.Shelf
set_option linter.unusedVariables false
set_option pp.maxSteps 1000000
set_option pp.deepTerms true
attribute [local go_sem] Oper.semAt_some
theorem func_ne_nil (f : Fn) (a b : Array Value) (w : World) : (binOp .eql 39 (.func f a b) .nilFunc).run Try.prog w = .ok (.bool false) w := by
  have h : ∀ d, (Op.equalIn (d + 1) 39 (.func f a b) .nilFunc).run Try.prog w = .ok false w := fun d => by
    unfold Op.equalIn
    simp [run_underlying Try.underlying39]
  simp only [binOp, Op.equal, Sem.run_bind]
  rw [show Op.maxDepth = 9999 + 1 from rfl, h]
  simp
section
variable {D : Dom} {A : Option Addr} {n c : Nat} {l : List UInt8} {w : World}
set_option maxRecDepth 100000 in
set_option maxHeartbeats 4000000 in
theorem finds_long (t a most : Int) (hcm : c ≤ 2 ^ 63 - 1) (hnc : n ≤ c) (hlen : 300 < n) :
    Calls Try.prog 4 #[.slice A n c, .agg #[.int .i64 t, .int .i64 a], .int .i64 most] w fun e w' => e = .returned (.bool true) ∧ Below w.heap.size w w' := by
  have hd : decide ((300 : Int) < (n : Int)) = true := by simp; omega
  have HB := Lib.hid (show Below w.heap.size w (w.alloc (.cells #[.int .i64 t, .int .i64 a] 28)) from (Below.refl _ _).alloc (Nat.le_refl _) _)
  go_enter Try.func4, Try.ntmps4
  go_wp2_with fail
  refine (chlive_any _).mono ?_; rintro e w1 ⟨rfl, hb⟩
  go_wp2_with fail
  go_ret
  exact ⟨rfl, HB.out.trans (hb.mono HB.out.size)⟩
set_option maxRecDepth 100000 in
set_option maxHeartbeats 4000000 in
theorem finds_ok (t a most : Int) (hl : rpU8.sl w D A n c l) (hD : ∀ k, D k → k < w.heap.size) (hn300 : n ≤ 300) (t0 : -9223372036854775808 ≤ t) (t1 : t ≤ 9223372036854775807) (a0 : -9223372036854775808 ≤ a) (a1 : a ≤ 9223372036854775807) (m0 : -9223372036854775808 ≤ most) (m1 : most ≤ 9223372036854775807) :
    Calls Try.prog 4 #[.slice A n c, .agg #[.int .i64 t, .int .i64 a], .int .i64 most] w fun e w' => e = .returned (.bool true) ∧ Below w.heap.size w w' := by
  obtain ⟨hlen, hnc, hcm⟩ := Rp.sl_len hl
  unfold maxLen at hcm
  have hd : decide ((300 : Int) < (n : Int)) = false := by simp; omega
  have hb0 : Below w.heap.size w (w.alloc (.cells #[.int .i64 t, .int .i64 a] 28)) := (Below.refl _ _).alloc (Nat.le_refl _) _
  have HK := Lib.hid (Blk.new w 28 #[.int .i64 t, .int .i64 a])
  have HNEW := Lib.hid (cnew_any (U := allU) (fun _ _ => trivial) (Rp.sl_below hl hb0 hD) (fun k hk => Nat.lt_of_lt_of_le (hD k hk) hb0.size) (by omega))
  obtain ⟨T, hT⟩ : ∃ T, T = t.toNat := ⟨_, rfl⟩
  obtain ⟨M, hM⟩ : ∃ M, M = min T n := ⟨_, rfl⟩
  have hmx : (if t < 0 then (0 : Int) else t) = (T : Int) := by split <;> omega
  have hmn : (if n < T then (n : Int) else (T : Int)) = (M : Int) := by split <;> omega
  have hMn : M ≤ n := by omega
  have hup : upTo l.length 0 t = M := by unfold upTo; omega
  have HL := Lib.hid hl
  have HD := Lib.hid hD
  have HLEN := Lib.hid hlen
  have HB0 := Lib.hid hb0
  have HUP := Lib.hid hup
  clear hlen hl hD hb0 hup hM hT
  refine (callsIn_wide (n := 5)).1 ?_
  refine callsIn_of_wp_marks Try.func4 rfl trivial ?_ rfl
  simp only [Try.ntmps4, List.size_toArray, List.length_cons, List.length_nil, Nat.reduceAdd, Nat.reduceSub, Array.replicate_succ, Array.replicate_zero, List.push_toArray, List.append_toArray, List.nil_append, List.cons_append]
  gi_wp2
  refine ⟨trivial, ?_⟩
  refine (callsIn_wide.2 HNEW.out).mono ?_; rintro e w1 ⟨g, rfl, hc1, hb1⟩
  have hk1 := Blk.below HK.out hb1 (show Blk _ _ _ _ from HK.out).lt
  have e0 : w1.cell? ⟨w.heap.size, 0, none⟩ = some (.int .i64 t) := hk1.cell 0
  have e1 : w1.cell? ⟨w.heap.size, 1, none⟩ = some (.int .i64 a) := hk1.cell 1
  generalize w.alloc (.cells #[.int .i64 t, .int .i64 a] 28) = w0 at *
  have hz0 := HB0.out.size
  have HC1 := Lib.hid hc1
  have HB1 := Lib.hid (HB0.out.trans (hb1.mono hz0))
  clear hc1 hb1 hk1
  gi_wp2
  refine wpIn_wide.2 ?_
  go_quiet (fail)
  have hbd : Below w1.heap.size w1 (w1.drewN nq) := ⟨rfl, rfl, rfl, Nat.le_refl _, fun _ _ => rfl⟩
  have HC1 := Lib.hid (HC1.out.below hbd)
  have HB1 := Lib.hid (HB1.out.trans (hbd.mono HB1.out.size))
  generalize w1.drewN nq = w2 at *
  have hadd := addTo_any t (fun _ _ => trivial) HC1.out (by have := HLEN.out; omega) t0 t1
  rw [HUP.out, Nat.sub_zero] at hadd
  have HADD := Lib.hid hadd
  clear e0 e1 hadd hbd
  gi_wp2
  refine ⟨trivial, ?_⟩
  refine (callsIn_wide.2 HADD.out).mono ?_; rintro e w3 ⟨rfl, hc3, hb3, _⟩
  have HC3 := Lib.hid hc3
  have HB3 := Lib.hid (HB1.out.trans (hb3.mono HB0.out.size))
  have HADDED := Lib.hid (added_any hc3)
  have HKEYS := Lib.hid (keys_any hc3)
  have hz3 := HB3.out.size
  have HRK := Lib.hid (rkeys_any M (Rp.sl_below HL.out HB3.out HD.out) (fun j hj => Nat.lt_of_lt_of_le (HD.out j hj) hz3) hMn (by omega))
  obtain ⟨Fr, hFr⟩ : ∃ Fr, Fr = fresh l M := ⟨_, rfl⟩
  rw [← hFr] at HKEYS HRK
  clear hc3 hb3 hFr
  gi_wp2
  refine ⟨trivial, ?_⟩
  refine (callsIn_wide.2 HADDED.out).mono ?_; rintro e w4 ⟨rfl, rfl⟩
  gi_wp2
  refine ⟨trivial, ?_⟩
  refine (callsIn_wide.2 HKEYS.out).mono ?_; rintro e w4 ⟨rfl, rfl⟩
  gi_wp2
  refine ⟨trivial, ?_⟩
  refine (callsIn_wide.2 HRK.out).mono ?_; rintro e w4 ⟨rfl, hb4⟩
  have HC4 := Lib.hid (HC3.out.below hb4)
  have HB4 := Lib.hid (HB3.out.trans (hb4.mono hz3))
  have hz4 := HB4.out.size
  clear hb4
  gi_wp2
  refine ⟨trivial, ?_⟩
  refine (callsIn_wide.2 (near_chn a most a0 a1 m0 m1 HC4.out (by have := HLEN.out; omega))).mono ?_; rintro e w5 ⟨A5, n5, c5, rfl, ho5, hb5⟩
  have hb5' := HB4.out.trans (hb5.mono hz4)
  have HB5 := Lib.hid hb5'
  have hz5 := hb5'.size
  have HO5 := Lib.hid ho5
  have HC5 := Lib.hid (HC4.out.below hb5)
  have HRN := Lib.hid (rnear_any M a most (Rp.sl_below HL.out hb5' HD.out) (fun j hj => Nat.lt_of_lt_of_le (HD.out j hj) hz5) (by omega) hMn a0 a1 m0 m1)
  clear ho5 hb5 hb5'
  gi_wp2
  refine ⟨trivial, ?_⟩
  refine (callsIn_wide.2 HRN.out).mono ?_; rintro e w6 ⟨A6, n6, c6, rfl, ho6, hb6⟩
  have hb6' := HB5.out.trans (hb6.mono hz5)
  have HB6 := Lib.hid hb6'
  have hz6 := hb6'.size
  have HC6 := Lib.hid (HC5.out.below hb6)
  have hbd : ∀ x ∈ near l M a most, -9223372036854775808 ≤ x ∧ x < 9223372036854775808 := near_bound (by omega)
  have hint := rints_any (Rp.sl_below (own_int HO5.out hbd) hb6 (own_dom HO5.out)) (own_int ho6 hbd) (fun j hj => Nat.lt_of_lt_of_le (own_dom HO5.out j hj) hb6.size) (own_dom ho6)
  rw [dec_true rfl] at hint
  have HINT := Lib.hid hint
  clear ho6 hb6 hb6' hint hbd
  gi_wp2
  refine ⟨trivial, ?_⟩
  refine (callsIn_wide.2 HINT.out).mono ?_; rintro e w8 ⟨rfl, hb8⟩
  have HC8 := Lib.hid (HC6.out.below hb8)
  have HB8 := Lib.hid (HB6.out.trans (hb8.mono hz6))
  have hz8 := HB8.out.size
  clear hb8
  gi_wp2
  refine ⟨trivial, ?_⟩
  refine (callsIn_wide.2 (places_call (some ⟨g, 0, none⟩) a _)).mono ?_
  rintro e w9 ⟨rfl, rfl⟩
  gi_wp2
  rw [func_ne_nil]
  gi_wp2
  obtain ⟨L, hLL⟩ : ∃ L, L = placesL l M a := ⟨_, rfl⟩
  have hp : Hid (ChP allU w8 w0.heap.size (some ⟨g, 0, none⟩) l M a L) := .inr ⟨g, rfl, HC8.out, hLL, by have := HLEN.out; omega⟩
  have hLlen : L.length ≤ 300 := by rw [hLL]; have := placesL_length l M a; omega
  have HLL := Lib.hid hLL
  have bO := Boxed.new w8 35 (.slice none 0 0)
  have bC := Boxed.new (w8.alloc (.cells #[.slice none 0 0] 35)) 29 (.pointer (some ⟨g, 0, none⟩))
  have bA := Boxed.new ((w8.alloc (.cells #[.slice none 0 0] 35)).alloc (.cells #[.pointer (some ⟨g, 0, none⟩)] 29)) 3 (.int .i64 a)
  have bO3 := (bO.alloc (.cells #[.pointer (some ⟨g, 0, none⟩)] 29)).alloc (.cells #[.int .i64 a] 3)
  have bC3 := bC.alloc (.cells #[.int .i64 a] 3)
  have hB3 : Below w8.heap.size w8 (((w8.alloc (.cells #[.slice none 0 0] 35)).alloc (.cells #[.pointer (some ⟨g, 0, none⟩)] 29)).alloc (.cells #[.int .i64 a] 3)) := (((Below.refl _ _).alloc (Nat.le_refl _) _).alloc (by simp) _).alloc (by simp; omega) _
  have hz3' : (((w8.alloc (.cells #[.slice none 0 0] 35)).alloc (.cells #[.pointer (some ⟨g, 0, none⟩)] 29)).alloc (.cells #[.int .i64 a] 3)).heap.size = w8.heap.size + 3 := by simp
  simp only [World.size_alloc] at bC3 bA
  generalize ((w8.alloc (.cells #[.slice none 0 0] 35)).alloc (.cells #[.pointer (some ⟨g, 0, none⟩)] 29)).alloc (.cells #[.int .i64 a] 3) = w9 at *
  obtain ⟨i0, hi, hy0, hy1, hy2⟩ := info_parts infoI
  clear bO bC hLL
  have hSW : ∀ k, (k < w8.heap.size ∨ k = w8.heap.size + 1 ∨ k = w8.heap.size + 1 + 1) → k < w9.heap.size := fun k hk => by omega
  refine wpIn_rangeFunc_ownG rfl (by decide) (gf := 31) (lb := #[.pointer (some ⟨w8.heap.size + 1, 0, none⟩), .pointer (some ⟨w8.heap.size + 1 + 1, 0, none⟩)]) rfl trivial (enters_of Try.func31 (by kernel_rfl) rfl)
    (places_stops (n := 5 - 1) (S := fun k => k < w8.heap.size ∨ k = w8.heap.size + 1 ∨ k = w8.heap.size + 1 + 1) a a0 a1 hp.out hB3 (fun k _ _ hk => .inl hk) hSW (.inr (.inl rfl)) (.inr (.inr rfl)) bC3.cell bA.cell) (fun h k => h.trans k) (keepS_b hSW) (Below.refl _ _) (fun _ => rfl)
    (fun pre W => ((∃ v, Boxed W w8.heap.size 35 v ∧ W.ownsRow w9.heap.size 3 1 v pre.length (pre.map fv) ∧ True) ∧ w9.heap.size ≤ W.heap.size) ∧ Below w8.heap.size w8 W)
    (fun _ _ _ => False)
    (OwnFrom.and (OwnFrom.and (Own.from (holdsRow_own w9.heap.size w8.heap.size 35 3 1 (fun pre : List (Fin 65536) => pre.length) (fun pre : List (Fin 65536) => pre.map fv) (fun _ _ => True)) _) (fun _ W W' _ h hg _ => Nat.le_trans h hg.size)) (ownFrom_below (Nat.le_refl _) (by omega)))
    (fun _ _ _ _ _ hs _ _ => hs)
    ⟨⟨⟨_, bO3, World.ownsRow_nil _ _ _ _, trivial⟩, Nat.le_refl _⟩, hB3⟩
    (fun x => { tmps := #[Value.slice A n c, Value.agg #[Value.int IntKind.i64 t, Value.int IntKind.i64 a], Value.int IntKind.i64 most, undef, Value.pointer (some { block := w.heap.size, off := 0 }), undef, Value.bool false, Value.pointer (some { block := g, off := 0 }), Value.int IntKind.i64 t, Value.int IntKind.i64 a, Value.int IntKind.i64 (M : Int), Value.int IntKind.i64 (M : Int), Value.pointer (some { block := w8.heap.size, off := 0 }), Value.func (Fn.func 31) #[] #[Value.pointer (some { block := w8.heap.size + 1, off := 0 }), Value.pointer (some { block := w8.heap.size + 1 + 1, off := 0 })], Value.int IntKind.i64 (x.val : Int), Value.slice A n c, Value.int IntKind.i64 (n : Int), Value.bool false, undef, Value.slice A n c, Value.pointer (some { block := g, off := 0 }), Value.pointer (some { block := w.heap.size, off := 0 }), Value.int IntKind.i64 t, Value.pointer (some { block := w.heap.size, off := 1 }), Value.int IntKind.i64 a, Value.pointer (some { block := g, off := 0 }), Value.int IntKind.i64 t, Value.int IntKind.i64 (M : Int), Value.int IntKind.i64 t, Value.int IntKind.i64 (T : Int), Value.slice A n c, Value.int IntKind.i64 (n : Int), Value.int IntKind.i64 (M : Int), Value.int IntKind.i64 (M : Int), Value.int IntKind.i64 (M : Int), Value.bool false, Value.bool false, Value.pointer (some { block := g, off := 0 }), Value.int IntKind.i64 (M : Int), Value.int IntKind.i64 (M : Int), Value.bool false, Value.bool false, Value.bool false, Value.pointer (some { block := g, off := 0 }), Value.int IntKind.i64 (Fr : Int), Value.slice A n c, Value.int IntKind.i64 (M : Int), Value.int IntKind.i64 (Fr : Int), Value.bool false, Value.bool false, Value.pointer (some { block := g, off := 0 }), Value.int IntKind.i64 a, Value.int IntKind.i64 most, Value.slice A5 n5 c5, Value.slice A n c, Value.int IntKind.i64 (M : Int), Value.int IntKind.i64 a, Value.int IntKind.i64 most, Value.slice A6 n6 c6, Value.bool true, Value.bool false, Value.pointer (some { block := g, off := 0 }), Value.int IntKind.i64 a, Value.func (Fn.func 31) #[] #[Value.pointer (some { block := w8.heap.size + 1, off := 0 }), Value.pointer (some { block := w8.heap.size + 1 + 1, off := 0 })], Value.func (Fn.func 31) #[] #[Value.pointer (some { block := w8.heap.size + 1, off := 0 }), Value.pointer (some { block := w8.heap.size + 1 + 1, off := 0 })], Value.bool false, Value.func (Fn.func 31) #[] #[Value.pointer (some { block := w8.heap.size + 1, off := 0 }), Value.pointer (some { block := w8.heap.size + 1 + 1, off := 0 })], Value.int IntKind.i64 (x.val : Int), undef, undef, undef, undef, undef, undef, undef, undef, undef, undef, undef, undef, undef, undef, undef, undef, undef, undef, undef, undef, undef], defers := [] }) ?assign ?body ?done ?stop
  case assign =>
    intro yl x W K hK
    gi_wp2
    exact hK
  case body =>
    rintro yl pre x W ⟨⟨⟨v, hv, hrow, _⟩, hl3⟩, hB⟩ hlt
    obtain ⟨A1, c1, rfl⟩ := own_form hrow
    have hc := hv.cell
    have hz := hB.size
    have hzv := hv.lt
    have hplen : pre.length ≤ 300 := by omega
    obtain ⟨k, hk⟩ : ∃ k, k = pre.length := ⟨_, rfl⟩
    have HK := Lib.hid hk
    rw [← hk] at hrow hc hv hlt hplen
    have HROW := Lib.hid hrow
    have HV := Lib.hid hv
    clear hk
    gi_wp2_with (gi_at_builtin; refine wpListIn_append_own _ rfl _ _ 35 rfl w9.heap.size 3 i0 (.int .i64 0) 1 8 Try.underlying35 hi hy0 hy1 hy2 rfl (by decide) _ _ _ rfl (HROW.out.alloc _) ⟨W.heap.size, 0, none⟩ 1 1 [.int .i64 (x.val : Int)] rfl rfl (cell_one_new _ _ _) (by simp [Value.oneCell']) (by unfold maxLen; omega) (by omega) (by simp; omega) ?_; intro v' w1 hown' hgrow _; obtain ⟨g', cap', rfl⟩ := ownsRow_succ hown'; have hv1 : Boxed w1 w8.heap.size 35 (.slice A1 k c1) := (HV.out.alloc _).kept hgrow (HV.out.not_row (by decide) HROW.out); have hc1 := hv1.cell; have hf1 := hv1.frozen; have HG := Lib.hid hgrow; have HO := Lib.hid hown'; have HV1 := Lib.hid hv1; clear hgrow hown' hv1)
    have hrow1 := HROW.out
    have hlow : ∀ j, j < w9.heap.size → some j ≠ (Value.slice A1 k c1).ownBlock := fun j hj e => by have := (hrow1.lt j e.symm).1; omega
    obtain ⟨_, hv2, _, hk2, hb2⟩ := Boxed.appended HV.out (by decide) (row_mono hrow1 (show w8.heap.size ≤ w9.heap.size by omega)) (by omega) (Nat.le_refl _) (row_mono HO.out (show w8.heap.size ≤ w9.heap.size by omega)) HG.out
    have hgrow := HG.out
    have hother : ∀ j, j < w9.heap.size → j ≠ w8.heap.size → (w1.setCell ⟨w8.heap.size, 0, none⟩ (.slice (some ⟨g', 0, none⟩) (k + 1) cap')).heap[j]? = W.heap[j]? := fun j hj hne => by
      have hjW : j < W.heap.size := by omega
      rw [Below.heap_setCell w1 ⟨w8.heap.size, 0, none⟩ _ j hne, hgrow.block j (by simp; omega) (hlow j hj), Below.heap_alloc W _ j hjW]
    have hl : (pre ++ [x]).length = k + 1 := by rw [List.length_append, ← HK.out]; rfl
    have hown : (w1.setCell ⟨w8.heap.size, 0, none⟩ (.slice (some ⟨g', 0, none⟩) (k + 1) cap')).ownsRow w9.heap.size 3 1 (.slice (some ⟨g', 0, none⟩) (k + 1) cap') (pre ++ [x]).length ((pre ++ [x]).map fv) := by
      rw [hl, List.map_append]
      exact HO.out.kept (grownBy_setCell' w1 w8.heap.size _) (.inr (HV1.out.not_row (by decide) HO.out).symm)
    have hsz := hb2.size
    exact ⟨hk2.from _, ⟨hsz, fun j hj => hother j (hSW j hj) (by omega)⟩, ⟨⟨_, hv2, by first | exact hown | (rw [← hz3']; exact hown) | exact ⟨hown, trivial⟩⟩, by omega⟩, hB.trans hb2⟩
  case stop =>
    rintro D c pre W _ _ h _
    exact h.elim
  case done =>
    rintro Dd ys W hDd rfl ⟨⟨⟨v, hv, hrow, _⟩, hl3⟩, hB⟩ hK
    obtain ⟨A1, c1, rfl⟩ := own_form hrow
    have hc := hv.cell
    have hzv := hv.lt
    have hzW := hB.size
    have hBW := HB8.out.trans (hB.mono hz8)
    have HBW := Lib.hid hBW
    have HROW := Lib.hid hrow
    have hDl : Dd < W.heap.size := (Array.getElem?_eq_some_iff.1 hK).1
    have HK := Lib.hid hK
    have hnear : ys.map fv = (near l M a 300).map iv := by
      have := places_near (l := l) (m := M) (a := a) (most := 300) (by have := HLEN.out; omega)
      rw [← HLL.out, List.take_of_length_le (by show ys.length ≤ 300; exact hLlen)] at this
      exact this
    have HN := Lib.hid hnear
    have hbd : Hid (∀ x ∈ near l M a 300, -9223372036854775808 ≤ x ∧ x < 9223372036854775808) := near_bound (by omega)
    have hrn : Hid (∀ X, Below W.heap.size W X → Calls Try.prog 20 #[.slice A n c, .int .i64 (M : Int), .int .i64 a, .int .i64 300] X fun e w' => ∃ A' n' c', e = .returned (.slice A' n' c') ∧ w'.ownsRow X.heap.size 3 1 (.slice A' n' c') n' ((near l M a 300).map iv) ∧ Below X.heap.size X w') := fun X hX => by
      have h1 := HBW.out.trans (hX.mono HBW.out.size)
      exact rnear_any M a 300 (Rp.sl_below HL.out h1 HD.out) (fun j hj => Nat.lt_of_lt_of_le (HD.out j hj) h1.size) (by omega) hMn a0 a1 (by decide) (by decide)
    have HC9 := Lib.hid (((HC8.out.weaken (U' := fun k => k < w8.heap.size) (fun k _ hk => hk)).below hB).weaken (U' := fun k => k ≠ Dd) (fun k (hk : k < w8.heap.size) _ e => by omega))
    clear hrow hBW hK hnear hv
    gi_wp2
    refine wpIn_wide.2 ?_
    go_region_held3 (fun w' => w'.cell? ⟨w8.heap.size, 0, none⟩ = some (.slice A1 ys.length c1))
      (first | go_keep | exact k0 | exact k1)
      (first
        | (go_at_call 20; refine (hrn.out _ (by first | exact Below.refl _ _ | exact (Below.refl _ _).drew)).mono ?_; rintro e w11 ⟨A7, n7, c7, rfl, ho7, hb7⟩; have k0 := (hb7.cell (p := ⟨w8.heap.size, 0, none⟩) hzv).trans hc; have HB7 : Hid (Below W.heap.size W w11) := ⟨hb7.os, hb7.tape, hb7.output, hb7.size, hb7.block⟩; have hi7 := (rints_any (own_int (show w11.ownsRow w9.heap.size 3 1 (.slice A1 ys.length c1) ys.length ((near l M a 300).map iv) from by rw [← HN.out]; exact ownsRow_same HROW.out (fun k hk => HB7.out.block k (HROW.out.lt k hk).2)) hbd.out) (own_int ho7 hbd.out) (fun j hj => Nat.lt_of_lt_of_le (own_dom HROW.out j hj) HB7.out.size) (own_dom ho7)); rw [dec_true rfl] at hi7; have HI := Lib.hid hi7; clear hi7; clear ho7 hb7)
        | (go_at_call 18; refine HI.out.mono ?_; rintro e w12 ⟨rfl, hb8⟩; have HB9 := Lib.hid (HB7.out.trans (hb8.mono HB7.out.size)); have k1 := (HB9.out.cell (p := ⟨w8.heap.size, 0, none⟩) hzv).trans hc; clear hb8))
    have HC10 := Lib.hid (HC9.out.keep HB9.out.size (fun k _ _ hk => HB9.out.block k hk))
    have hadd2 := add_any (fun k hk => by show k ≠ Dd; have := HB9.out.size; omega) HC10.out (by have := HLEN.out; omega)
    rw [HLEN.out] at hadd2
    have HDD := Lib.hid (HB9.out.block Dd hDl)
    have hz12 := HB9.out.size
    obtain ⟨bq, hbq⟩ : ∃ bq : Bool, bq = decide (M < n) := ⟨_, rfl⟩
    rw [← hbq] at hadd2
    have hbq2 : decide ((M : Int) < (n : Int)) = bq := by rw [hbq]; simp
    have hbq3 := hbq.symm
    have HADD2 := Lib.hid hadd2
    clear hbq hadd2 HI hc k0 k1
    cases bq
    all_goals
      gi_wp2
      refine ⟨trivial, ?_⟩
      refine (callsIn_wide.2 HADD2.out).mono ?_; rintro e w13 ⟨rfl, _, hb13, ho13⟩
      have HD13 := Lib.hid (((ho13 Dd (by omega) (fun h => h rfl)).trans HDD.out).trans HK.out)
      have HB13 := Lib.hid ((HBW.out.trans (HB9.out.mono HBW.out.size)).trans (hb13.mono HB0.out.size))
      have hz13 := hb13.size
      clear hb13 ho13
      gi_wp2
      refine ⟨trivial, ?_⟩
      refine (callsIn_wide.2 (chlive_any _)).mono ?_; rintro e w14 ⟨rfl, hb14⟩
      have HD14 := Lib.hid ((hb14.block Dd (Nat.lt_of_lt_of_le (by omega) hz13)).trans HD13.out)
      have HB14 := Lib.hid (HB13.out.trans (hb14.mono HB13.out.size))
      clear hb14
      gi_wp2
      refine ⟨by simp, .inl ⟨_, _, rfl, run_takeDeferred HD14.out, ?_⟩⟩
      exact ⟨_, results_tmp rfl _ _ _, rfl, HB14.out.trans (belowK_b (w := w) (Nat.le_refl _) w14 Dd _ _ (by omega) HD14.out rfl rfl)⟩
end
theorem chainFinds_sl (A : Option Addr) (n c : Nat) (l : List UInt8) (cs : Array Value) (x : Int × Int) (most : Int) (w : World) (hl : rpU8.sl w (lt w.heap.size) A n c l) (hx : (rpPair rpInt rpInt).ok w (lt w.heap.size) x cs.toList) (m0 : -9223372036854775808 ≤ most) (m1 : most ≤ 9223372036854775807) :
    Calls Try.prog 4 #[.slice A n c, .agg cs, .int .i64 most] w fun e w' => e = .returned (.bool true) ∧ Below w.heap.size w w' := by
  obtain ⟨t, a⟩ := x
  obtain ⟨v1, v2, hcs, ⟨rfl, t0, t1⟩, ⟨rfl, a0, a1⟩⟩ := hx
  obtain rfl : cs = #[.int .i64 t, .int .i64 a] := by apply Array.toList_inj.1; rw [hcs]; rfl
  obtain ⟨_, hnc, hcm⟩ := Rp.sl_len hl
  unfold maxLen at hcm
  by_cases h : n ≤ 300
  · exact finds_ok t a most hl (fun k hk => hk) h t0 (by omega) a0 (by omega) m0 m1
  · exact finds_long t a most hcm hnc (by omega)
end Go.Proofs.Ytkffgmpkpafkmaa
