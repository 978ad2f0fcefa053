/- (*Chain).Near. -/
import Derived.Test.YtkffgmpkpafkmaaChQ
namespace Go.Proofs.Ytkffgmpkpafkmaa
open Go.ChangeShapes Go.WideShapes Go.ChangeAt Go.RowKit Go.Maps Go.Shelf
set_option linter.unusedVariables false
attribute [local go_sem] Oper.semAt_some
def fv (x : Fin 65536) : Value := .int .i64 (x.val : Int)
theorem KeepS.of_below {S : Dom} {w w' : World} {B : Nat} (h : Below B w w') (hS : ∀ k, S k → k < B) : KeepS S w w' := ⟨h.size, fun k hk => h.block k (hS k hk)⟩
theorem keepS_b {S : Dom} {w : World} (hS : ∀ k, S k → k < w.heap.size) (W : World) (l : Nat) (o o' : Obj) (hl : w.heap.size ≤ l) (h : W.heap[l]? = some o) (_ : o.isCells = false) (_ : o.isWalk = false) : KeepS S W (W.putObj l o') := by
  have hb := belowK_b (w := w) (Nat.le_refl _) W l o o' hl h ‹_› ‹_›
  exact ⟨hb.size, fun k hk => hb.block k (hS k hk)⟩
theorem infoI : (Try.prog.info? 3).map (fun i => (i.zero, i.size, i.bytes)) = some (some (.int .i64 0), 1, 8) := by kernel_rfl
theorem row_mono {w : World} {base base' : Nat} {e : TypeId} {size : Nat} {v : Value} {n : Nat} {xs : List Value} (h : w.ownsRow base e size v n xs) (hb : base' ≤ base) : w.ownsRow base' e size v n xs := by
  refine ⟨h.1, ?_⟩
  rcases h.2 with h0 | ⟨g, cap, cur, hv, hg, hr⟩
  · exact .inl h0
  · exact .inr ⟨g, cap, cur, hv, Nat.le_trans hb hg, hr⟩
section
variable {U : Dom} {B m : Nat} {l : List UInt8} {w : World} {pv : Option Addr} {L : List (Fin 65536)}
set_option maxRecDepth 100000 in
set_option maxHeartbeats 4000000 in
theorem near_any (a most : Int) (a0 : -9223372036854775808 ≤ a) (a1 : a ≤ 9223372036854775807) (m0 : -9223372036854775808 ≤ most) (m1 : most ≤ 9223372036854775807) (hp : ChP U w B pv l m a L) (hL : L.length ≤ 60000) :
    Calls Try.prog 19 #[.pointer pv, .int .i64 a, .int .i64 most] w fun e w' => ∃ A n c, e = .returned (.slice A n c) ∧ w'.ownsRow w.heap.size 3 1 (.slice A n c) n ((L.take most.toNat).map fv) ∧ Below w.heap.size w w' := by
  have HP := Lib.hid hp
  clear hp
  refine (callsIn_wide (n := 5)).1 ?_
  refine callsIn_of_wp_marks Try.func19 rfl trivial ?_ rfl
  simp only [Try.ntmps19, List.size_toArray, List.length_cons, List.length_nil, Nat.reduceAdd, Nat.reduceSub, Array.replicate_succ, Array.replicate_zero, List.push_toArray, List.append_toArray, List.nil_append, List.cons_append]
  gi_wp2
  refine ⟨trivial, ?_⟩
  refine (callsIn_wide.2 (places_call pv a _)).mono ?_
  rintro e w' ⟨rfl, rfl⟩
  gi_wp2
  have bM := ((Boxed.new w 3 (.int .i64 most)).alloc (.cells #[.slice none 0 0] 35))
  have bO := Boxed.new (w.alloc (.cells #[.int .i64 most] 3)) 35 (.slice none 0 0)
  have hB2 : Below w.heap.size w ((w.alloc (.cells #[.int .i64 most] 3)).alloc (.cells #[.slice none 0 0] 35)) := ((Below.refl _ w).alloc (Nat.le_refl _) _).alloc (by simp) _
  have hz2 : ((w.alloc (.cells #[.int .i64 most] 3)).alloc (.cells #[.slice none 0 0] 35)).heap.size = w.heap.size + 2 := by simp
  rw [World.size_alloc] at bO
  generalize (w.alloc (.cells #[.int .i64 most] 3)).alloc (.cells #[.slice none 0 0] 35) = w2 at *
  have bC := (Boxed.new w2 29 (.pointer pv)).alloc (.cells #[.int .i64 a] 3)
  have bA := Boxed.new (w2.alloc (.cells #[.pointer pv] 29)) 3 (.int .i64 a)
  rw [World.size_alloc] at bA
  have bM3 := (bM.alloc (.cells #[.pointer pv] 29)).alloc (.cells #[.int .i64 a] 3)
  have bO3 := (bO.alloc (.cells #[.pointer pv] 29)).alloc (.cells #[.int .i64 a] 3)
  have hB3 : Below w.heap.size w ((w2.alloc (.cells #[.pointer pv] 29)).alloc (.cells #[.int .i64 a] 3)) := (hB2.alloc (by omega) _).alloc (by simp; omega) _
  have hz3 : ((w2.alloc (.cells #[.pointer pv] 29)).alloc (.cells #[.int .i64 a] 3)).heap.size = w.heap.size + 4 := by simp; omega
  rw [hz2] at bC bA
  generalize ((w2.alloc (.cells #[.pointer pv] 29)).alloc (.cells #[.int .i64 a] 3)) = w3 at *
  clear bM bO hB2 hz2
  obtain ⟨i0, hi, hy0, hy1, hy2⟩ := info_parts infoI
  obtain ⟨T, hT⟩ : ∃ T, T = most.toNat := ⟨_, rfl⟩
  have HT := Lib.hid hT
  try rw [← hT]
  have hSW : ∀ k, (k < w.heap.size ∨ k = w.heap.size + 1 + 1 ∨ k = w.heap.size + 1 + 1 + 1) → k < w3.heap.size := fun k hk => by omega
  refine wpIn_rangeFunc_ownG rfl (by decide) (gf := 31) (lb := #[.pointer (some ⟨w.heap.size + 1 + 1, 0, none⟩), .pointer (some ⟨w.heap.size + 1 + 1 + 1, 0, none⟩)]) rfl trivial (enters_of Try.func31 (by kernel_rfl) rfl)
    (places_stops (n := 5 - 1) (S := fun k => k < w.heap.size ∨ k = w.heap.size + 1 + 1 ∨ k = w.heap.size + 1 + 1 + 1) a a0 a1 HP.out hB3 (fun k _ _ hk => .inl hk) hSW (.inr (.inl rfl)) (.inr (.inr rfl)) bC.cell bA.cell) (fun h k => h.trans k) (keepS_b hSW) (Below.refl _ _) (fun _ => rfl)
    (fun pre W => ((∃ v, Boxed W (w.heap.size + 1) 35 v ∧ W.ownsRow w3.heap.size 3 1 v pre.length (pre.map fv) ∧ True) ∧ Boxed W w.heap.size 3 (.int .i64 most) ∧ pre.length ≤ T ∧ w3.heap.size ≤ W.heap.size) ∧ Below w.heap.size w W)
    (fun c pre W => (c = .exit 0 ∧ ∃ ini last, pre = ini ++ [last] ∧ ini.length = T ∧ (∃ v, Boxed W (w.heap.size + 1) 35 v ∧ W.ownsRow w3.heap.size 3 1 v ini.length (ini.map fv) ∧ True)) ∧ Below w.heap.size w W)
    (OwnFrom.and (OwnFrom.and (Own.from (holdsRow_own w3.heap.size (w.heap.size + 1) 35 3 1 (fun pre : List (Fin 65536) => pre.length) (fun pre : List (Fin 65536) => pre.map fv) (fun _ _ => True)) _) (OwnFrom.and (Own.from (boxed_own w.heap.size 3 (fun _ => .int .i64 most)) _) (OwnFrom.and (fun _ _ _ _ h _ _ => h) (fun _ W W' _ h hg _ => Nat.le_trans h hg.size)))) (ownFrom_below (Nat.le_refl _) (by omega)))
    (fun c => OwnFrom.and (fun s W W' row hs hg hr => by
      obtain ⟨hc, ini, last, e1, e2, e3⟩ := hs
      exact ⟨hc, ini, last, e1, e2, (Own.from (holdsRow_own w3.heap.size (w.heap.size + 1) 35 3 1 (fun pre : List (Fin 65536) => pre.length) (fun pre : List (Fin 65536) => pre.map fv) (fun _ _ => True)) _) ini W W' row e3 hg hr⟩) (ownFrom_below (Nat.le_refl _) (by omega)))
    ⟨⟨⟨_, bO3, World.ownsRow_nil _ _ _ _, trivial⟩, bM3, Nat.zero_le _, Nat.le_refl _⟩, hB3⟩
    (fun x => { tmps := #[.pointer pv, .int .i64 a, .int .i64 most, undef, undef, .pointer (some ⟨w.heap.size, 0, none⟩), .slice none 0 0, .pointer (some ⟨w.heap.size + 1, 0, none⟩), .int .i64 (x.val : Int), .pointer pv, .int .i64 a, .func (.func 31) #[] #[.pointer (some ⟨w.heap.size + 1 + 1, 0, none⟩), .pointer (some ⟨w.heap.size + 1 + 1 + 1, 0, none⟩)], .int .i64 (x.val : Int), undef, undef, undef, undef, undef, undef, undef, undef, undef], defers := [] }) ?assign ?body ?done ?stop
  case assign =>
    intro yl x W K hK
    gi_wp2
    exact hK
  case body =>
    rintro yl pre x W ⟨⟨⟨v, hv, hrow, _⟩, hm, hpT, hl3⟩, hB⟩ hlt
    obtain ⟨A1, c1, rfl⟩ := own_form hrow
    have hc := hv.cell
    have hcm := hm.cell
    have hz := hB.size
    have hzv := hv.lt
    have hplen : pre.length ≤ 60000 := by omega
    obtain ⟨k, hk⟩ : ∃ k, k = pre.length := ⟨_, rfl⟩
    have HK := Lib.hid hk
    rw [← hk] at hrow hc hpT hv hlt hplen
    have HROW := Lib.hid hrow
    have HV := Lib.hid hv
    have hW3n : w3.heap.size ≤ W.heap.size := hl3
    clear hk
    by_cases hfull : most ≤ (k : Int)
    · gi_wp2
      have hkT : k = T := by have := HT.out; omega
      exact ⟨KeepsFrom.refl _ _, ⟨rfl, pre, x, rfl, by rw [← HK.out]; exact hkT, _, HV.out, by rw [← HK.out]; exact HROW.out, trivial⟩, hB⟩
    · have hlt2 : (k : Int) < most := by omega
      have hnk : ¬ most ≤ (k : Int) := by omega
      have hkT : k + 1 ≤ T := by have := HT.out; omega
      have HKT := Lib.hid hkT
      clear hkT
      gi_wp2_with (gi_at_builtin; refine wpListIn_append_own _ rfl _ _ 35 rfl w3.heap.size 3 i0 (.int .i64 0) 1 8 Try.underlying35 hi hy0 hy1 hy2 rfl (by decide) _ _ _ rfl (HROW.out.alloc _) ⟨W.heap.size, 0, none⟩ 1 1 [.int .i64 (x.val : Int)] rfl rfl (cell_one_new _ _ _) (by simp [Value.oneCell']) (by unfold maxLen; omega) (by omega) (by simp; omega) ?_; intro v' w1 hown' hgrow _; obtain ⟨g', cap', rfl⟩ := ownsRow_succ hown'; have hv1 : Boxed w1 (w.heap.size + 1) 35 (.slice A1 k c1) := (HV.out.alloc _).kept hgrow (HV.out.not_row (by decide) HROW.out); have hc1 := hv1.cell; have hf1 := hv1.frozen; have HG := Lib.hid hgrow; have HO := Lib.hid hown'; have HV1 := Lib.hid hv1; clear hgrow hown' hv1)
      have hrow1 := HROW.out
      have hlow : ∀ j, j < w3.heap.size → some j ≠ (Value.slice A1 k c1).ownBlock := fun j hj e => by have := (hrow1.lt j e.symm).1; omega
      obtain ⟨_, hv2, _, hk2, hb2⟩ := Boxed.appended HV.out (by decide) (row_mono hrow1 (show w.heap.size + 1 ≤ w3.heap.size by omega)) (by omega) (Nat.le_refl _) (row_mono HO.out (show w.heap.size + 1 ≤ w3.heap.size by omega)) HG.out
      have hgrow := HG.out
      have hother : ∀ j, j < w3.heap.size → j ≠ w.heap.size + 1 → (w1.setCell ⟨w.heap.size + 1, 0, none⟩ (.slice (some ⟨g', 0, none⟩) (k + 1) cap')).heap[j]? = W.heap[j]? := fun j hj hne => by
        have hjW : j < W.heap.size := by
          rcases Nat.lt_or_ge j W.heap.size with h | h
          · exact h
          · exact absurd hj (by have := hW3n; omega)
        rw [Below.heap_setCell w1 ⟨w.heap.size + 1, 0, none⟩ _ j hne, hgrow.block j (by simp; omega) (hlow j hj), Below.heap_alloc W _ j hjW]
      have hl : (pre ++ [x]).length = k + 1 := by rw [List.length_append, ← HK.out]; rfl
      have hown : (w1.setCell ⟨w.heap.size + 1, 0, none⟩ (.slice (some ⟨g', 0, none⟩) (k + 1) cap')).ownsRow w3.heap.size 3 1 (.slice (some ⟨g', 0, none⟩) (k + 1) cap') (pre ++ [x]).length ((pre ++ [x]).map fv) := by
        rw [hl, List.map_append]
        exact HO.out.kept (grownBy_setCell' w1 (w.heap.size + 1) _) (.inr (HV1.out.not_row (by decide) HO.out).symm)
      refine ⟨hk2.from _, ⟨hb2.size, fun j hj => hother j (hSW j hj) (by omega)⟩, ⟨⟨_, hv2, by rw [← hz3]; exact hown⟩, (hother w.heap.size (by omega) (by omega)).trans hm, by rw [hl]; have := HKT.out; have := HT.out; omega, by have := hb2.size; omega⟩, hB.trans (hb2.mono (by omega))⟩
  case done =>
    rintro D ys W hD rfl ⟨⟨⟨v, hv, hrow, _⟩, hm, hpT, hl3⟩, hB⟩ hK
    obtain ⟨A1, c1, rfl⟩ := own_form hrow
    have hc := hv.cell
    have HROW := Lib.hid hrow
    have HB := Lib.hid hB
    gi_wp2
    refine ⟨by simp, .inl ⟨_, _, rfl, run_takeDeferred hK, ?_⟩⟩
    exact ⟨_, results_tmp rfl _ _ _, A1, ys.length, c1, rfl, by rw [← HT.out, List.take_of_length_le hpT]; exact row_mono (ownsRow_putObj HROW.out _ hK rfl) (by omega), HB.out.trans (belowK_b (w := w) (Nat.le_refl _) W D _ _ (by omega) hK rfl rfl)⟩
  case stop =>
    rintro D c pre W hD hpre ⟨⟨rfl, ini, last, e1, e2, v, hv, hrow, _⟩, hB⟩ hK
    obtain ⟨A1, c1, rfl⟩ := own_form hrow
    have hc := hv.cell
    have HROW := Lib.hid hrow
    have HB := Lib.hid hB
    have HPRE := Lib.hid hpre
    have hini : L.take T = ini := by
      obtain ⟨t, ht⟩ := HPRE.out
      rw [← ht, e1, List.append_assoc, List.take_append_of_le_length (by omega), List.take_of_length_le (by omega)]
    have HI := Lib.hid hini
    clear hrow hB hpre hini e1 hv e2
    gi_wp2
    refine ⟨by simp, .inl ⟨_, _, rfl, run_takeDeferred hK, ?_⟩⟩
    exact ⟨_, results_tmp rfl _ _ _, A1, ini.length, c1, rfl, by rw [← HT.out, HI.out]; exact row_mono (ownsRow_putObj HROW.out _ hK rfl) (by omega), HB.out.trans (belowK_b (w := w) (Nat.le_refl _) W D _ _ (by omega) hK rfl rfl)⟩
end
end Go.Proofs.Ytkffgmpkpafkmaa
