/- slices.Insert of one link into a row of one's own. -/
import Derived.Test.YtnihaaifkogpbaaLkR
import Derived.Test.YtnihaaifkogpbaaChecked
import Derived.Shelf.Spec.SlicesInsert
import Derived.Lib.AppendZerosOnto
import Derived.Laws.CopyRow
import Derived.Laws.NewBlocks
import Derived.BigQuiet
import Derived.Deep.DeepCutAuto
import Derived.Deep.CutBlock
namespace Go.Proofs.Ytnihaaifkogpbaa
open Go.ChangeShapes Go.WideShapes Go.ChangeAt Go.RowKit
set_option linter.unusedVariables false
theorem elemLink : Elem Try.prog 32 44 2 32 := Elem.of (z := .agg #[.int .u64 0, .slice none 0 0]) Try.underlying32 (by kernel_rfl) rfl (by decide)
/-- 'copy' of elements of several cells into a row that is known whole. -/
theorem run_copy_rows {P : Program} (w : World) (dT sT ty elem : TypeId) (g o dLen dCap : Nat) (a : Addr) (sLen sCap : Nat) (cur : Array Value) (t : TypeId) (cs : List Value) (sz m : Nat)
    (hu : P.underlying dT = some (.slice elem)) (hs : (P.info? elem).map (·.size) = some sz) (hm : Nat.min sLen dLen = m)
    (hg : w.heap[g]? = some (.cells cur t (0, 0))) (hn : cs.length = m * sz)
    (hsrc : ∀ j v, cs[j]? = some v → w.cell? (a.add j) = some v) (hfit : o + cs.length ≤ cur.size) (h1 : ∀ v ∈ cs, v.oneCell' = true) :
    (Builtin.copy_ #[dT, sT] ty #[.slice (some ⟨g, o, none⟩) dLen dCap, .slice (some a) sLen sCap]).run P w =
      .ok (goInt m) (w.setRow g (cur.toList.take o ++ cs ++ cur.toList.drop (o + cs.length)).toArray) := by
  have hl := run_loadCells_list (P := P) w a cs hsrc
  have hst := run_storeCells_at P g o t cs 0 cur w hg (by simpa using hfit) h1
  cases hq : P.info? elem with
  | none => simp [hq] at hs
  | some i =>
    have hi : i.size = sz := by simpa [hq] using hs
    simp [Builtin.copy_, run_underlying hu, Builtin.lenOf, Builtin.firstCells, sizeOf, typeInfo, hq, hi, hm, ← hn, hl, hst]
theorem ins_list {α : Type} (cur : List α) (xs vs : List α) (a b : Nat) (hx : cur.take b = xs) (hb : b + vs.length ≤ cur.length) (ha : a ≤ b) :
    let c1 := cur.take (a + vs.length) ++ xs.drop a ++ cur.drop (a + vs.length + (xs.drop a).length)
    (c1.take a ++ vs ++ c1.drop (a + vs.length)).take (b + vs.length) = xs.take a ++ vs ++ xs.drop a := by
  intro c1
  have hxl : xs.length = b := by rw [← hx, List.length_take]; omega
  have hdl : (xs.drop a).length = b - a := by rw [List.length_drop, hxl]
  have e1 : c1.take a = xs.take a := by
    show List.take a (_ ++ _ ++ _) = _
    rw [List.append_assoc, List.take_append_of_le_length (by rw [List.length_take]; omega), List.take_take, Nat.min_eq_left (by omega), ← hx, List.take_take, Nat.min_eq_left ha]
  have e2 : c1.drop (a + vs.length) = xs.drop a ++ cur.drop (a + vs.length + (xs.drop a).length) := by
    show List.drop _ (_ ++ _ ++ _) = _
    rw [List.append_assoc, List.drop_append_of_le_length (by rw [List.length_take]; omega), List.drop_take, Nat.sub_self, List.take_zero, List.nil_append]
  rw [e1, e2, ← List.append_assoc, List.take_append_of_le_length]
  · rw [List.take_of_length_le]
    simp only [List.length_append, List.length_take, hdl, hxl]; omega
  · simp only [List.length_append, List.length_take, hdl, hxl]; omega
section
variable {w : World} {base n c vb i : Nat} {A : Option Addr} {xs : List Value} {v1 v2 : Value}
/-- The result of an insertion. -/
def InsIs (w : World) (base : Nat) (A : Option Addr) (n c i : Nat) (xs : List Value) (v1 v2 : Value) (e : Ending) (w' : World) : Prop :=
  ∃ A' c', e = .returned (.slice A' (n + 1) c') ∧ w'.ownsRow base 44 2 (.slice A' (n + 1) c') (n + 1) (xs.take (i * 2) ++ [v1, v2] ++ xs.drop (i * 2)) ∧ w.grownBy w' (Value.slice A n c).ownBlock
set_option maxRecDepth 100000 in
set_option maxHeartbeats 2000000 in
theorem insert_end (ho : w.ownsRow base 44 2 (.slice A n c) n xs) (hb : Blk w vb 44 #[v1, v2]) (h1 : v1.oneCell' = true) (h2 : v2.oneCell' = true) (hn : n ≤ 100000) (hbase : base ≤ w.heap.size) :
    Calls Try.prog 73 #[.slice A n c, .int .i64 (n : Int), .slice (some ⟨vb, 0, none⟩) 1 1] w (InsIs w base A n c n xs v1 v2) := by
  have hsrc : Src w (some ⟨vb, 0, none⟩) 1 2 [v1, v2] := ⟨rfl, fun u hu => by
    simp only [List.mem_cons, List.not_mem_nil, or_false] at hu
    rcases hu with rfl | rfl
    · exact h1
    · exact h2, fun _ => ⟨_, rfl, fun j u hu => by
      rw [add_plain, hb.cell, Nat.zero_add]; simpa using hu⟩⟩
  have hl : xs.length = n * 2 := ho.1
  have HO := Lib.hid ho
  have HS := Lib.hid hsrc
  have HE : Hid (xs.take (n * 2) ++ [v1, v2] ++ xs.drop (n * 2) = xs ++ [v1, v2]) := by
    show _ = _
    rw [List.take_of_length_le (by omega), List.drop_of_length_le (by omega), List.append_nil]
  have hq : ((n : Int) == (n : Int)) = true := by simp
  obtain ⟨A0, hA0⟩ : ∃ A0, A0 = A := ⟨_, rfl⟩
  clear ho hsrc hb hl
  rcases HO.out.2 with ⟨hv, h0⟩ | ⟨g, cap, cur, hv, hg, hh, hnc, hcm, hcs, htake⟩
  · injection hv with e1 e2 e3
    subst e1; subst e3; subst h0
    clear hA0 e2
    go_enter Try.func73, Try.ntmps73
    go_wp2_with (at_builtin; refine wpList_app rfl (.tmp 23) (.tmp 24) _ rfl elemLink rfl HO.out rfl HS.out (by unfold maxLen; omega) (by omega) hbase ?_; intro A2 c2 w3 ho2 hg2 hat2
                 have HO2 := Lib.hid ho2
                 have HG2 := Lib.hid hg2
                 clear ho2 hg2 hat2)
    go_ret
    exact ⟨A2, c2, rfl, by rw [HE.out]; exact HO2.out, HG2.out⟩
  · injection hv with e1 e2 e3
    subst e1; subst e3
    clear hA0 e2 hh htake hcs
    go_enter Try.func73, Try.ntmps73
    go_wp2_with (at_builtin; refine wpList_app rfl (.tmp 23) (.tmp 24) _ rfl elemLink rfl HO.out rfl HS.out (by unfold maxLen; omega) (by omega) hbase ?_; intro A2 c2 w3 ho2 hg2 hat2
                 have HO2 := Lib.hid ho2
                 have HG2 := Lib.hid hg2
                 clear ho2 hg2 hat2)
    all_goals
      go_ret
      exact ⟨A2, c2, rfl, by rw [HE.out]; exact HO2.out, HG2.out⟩
/-- No two slices in two blocks of one's own overlap. -/
theorem overlaps_no {vb g off lb cb la ca : Nat} {cs cur : Array Value} {t t' : TypeId} (hb : Blk w vb t cs) (hg : Blk w g t' cur) (hne : vb ≠ g) (hs : cur.size ≠ 0) :
    (callFunc 81 #[.slice (some ⟨vb, 0, none⟩) la ca, .slice (some ⟨g, off, none⟩) lb cb]).run Try.prog w = .ok (.value (.bool false)) w := by
  have hsa : w.shape? vb = some (t, cs.size) := by
    have h : w.heap[vb]? = some (.cells cs t (0, 0)) := hb
    unfold World.shape?; rw [h]
  have hsb : w.shape? g = some (t', cur.size) := by
    have h : w.heap[g]? = some (.cells cur t' (0, 0)) := hg
    unfold World.shape?; rw [h]
  rw [run_callFunc_extern Try.func81 (by kernel_rfl) (by kernel_rfl) (by kernel_rfl) (e := Extern.SlicesOverlaps.overlaps #[32, 32] #[4]) (by kernel_rfl),
    Lib.run_overlaps_apart w 32 4 44 Try.underlying32 2 (fun w => by kernel_rfl) ⟨vb, 0, none⟩ ⟨g, off, none⟩ la ca lb cb hne t t' cs.size cur.size hsa hsb hs (hb.frozen 0) (hb.frozen _)]
  rfl
set_option maxRecDepth 100000 in
set_option maxHeartbeats 4000000 in
theorem insert_shift {g : Nat} {cur : Array Value} (hh : Blk w g 44 cur) (hcs : cur.size = c * 2) (htake : cur.toList.take (n * 2) = xs) (hnc : n + 1 ≤ c) (hcm : c ≤ maxLen) (hg : base ≤ g)
    (hb : Blk w vb 44 #[v1, v2]) (hne : vb ≠ g) (h1 : v1.oneCell' = true) (h2 : v2.oneCell' = true) (hx1 : ∀ u ∈ xs, u.oneCell' = true) (hi : i < n) :
    Calls Try.prog 73 #[.slice (some ⟨g, 0, none⟩) n c, .int .i64 (i : Int), .slice (some ⟨vb, 0, none⟩) 1 1] w (InsIs w base (some ⟨g, 0, none⟩) n c i xs v1 v2) := by
  have hov : ∀ off lb cb, (callFunc 81 #[.slice (some ⟨vb, 0, none⟩) 1 1, .slice (some ⟨g, off, none⟩) lb cb]).run Try.prog w = .ok (.value (.bool false)) w := fun off lb cb => overlaps_no hb hh hne (by omega)
  have HE := Lib.hid (ins_list cur.toList xs [v1, v2] (i * 2) (n * 2) htake (by simp; omega) (by omega))
  have hxl : xs.length = n * 2 := by rw [← htake, List.length_take]; simp; omega
  unfold maxLen at hcm
  have hz2 : ((i : Int) == (n : Int)) = false := by rw [beq_eq_false_iff_ne]; omega
  have hw0 : IntKind.i64.wrap ((n : Int) + 1) = (n : Int) + 1 := by rw [IntWalk.i64_in _ (by omega)]
  have hw1 : IntKind.i64.wrap ((i : Int) + 1) = (i : Int) + 1 := by rw [IntWalk.i64_in _ (by omega)]
  have hq1 : (0 : Int) ≤ (i : Int) + 1 := by omega
  have htn : ((i : Int) + 1).toNat = i + 1 := by omega
  have hq3 : (i : Int) ≤ (n : Int) + 1 := by omega
  have hgt : decide ((c : Int) < (n : Int) + 1) = false := by simp; omega
  have hsz : (Try.prog.info? 44).map (·.size) = some 2 := by kernel_rfl
  obtain ⟨cur1, hcur1⟩ : ∃ cur1 : Array Value, cur1 = (cur.toList.take ((i + 1) * 2) ++ xs.drop (i * 2) ++ cur.toList.drop ((i + 1) * 2 + (xs.drop (i * 2)).length)).toArray := ⟨_, rfl⟩
  have hdl : (xs.drop (i * 2)).length = (n - i) * 2 := by rw [List.length_drop, hxl]; omega
  have hb1 : Blk w.drew g 44 cur := hh
  have hc1s : cur1.size = cur.size := by
    rw [hcur1]; simp only [List.size_toArray, List.length_append, List.length_take, List.length_drop, hdl, Array.length_toList]; omega
  have hcp1 : ∀ ty dc sc, (Builtin.copy_ #[32, 32] ty #[.slice (some ⟨g, (i + 1) * 2, none⟩) (n - i) dc, .slice (some ⟨g, i * 2, none⟩) (n + 1 - i) sc]).run Try.prog w.drew = .ok (goInt ((n - i : Nat) : Int)) (w.drew.setRow g cur1) := fun ty dc sc => by
    rw [hcur1]
    exact run_copy_rows w.drew _ _ ty 44 g ((i + 1) * 2) (n - i) dc ⟨g, i * 2, none⟩ (n + 1 - i) sc cur 44 (xs.drop (i * 2)) 2 (n - i) Try.underlying32 hsz (by simp only [Nat.min_def]; split <;> omega) hb1 hdl
      (fun j v hj => by
        rw [add_plain, hb1.cell]
        rw [List.getElem?_drop, ← htake, List.getElem?_take] at hj
        split at hj
        · simpa using hj
        · cases hj) (by rw [hdl]; omega) (fun v hv => hx1 v (List.mem_of_mem_drop hv))
  obtain ⟨W1, hW1⟩ : ∃ W1, W1 = w.drew.setRow g cur1 := ⟨_, rfl⟩
  rw [← hW1] at hcp1
  have hbW : Blk W1 g 44 cur1 := by rw [hW1]; exact hb1.rowSet cur1
  have hbV : Blk W1 vb 44 #[v1, v2] := by
    have h : Blk w.drew vb 44 #[v1, v2] := hb
    rw [hW1]; exact h.rowFar hne cur1
  obtain ⟨cur2, hcur2⟩ : ∃ cur2 : Array Value, cur2 = (cur1.toList.take (i * 2) ++ [v1, v2] ++ cur1.toList.drop (i * 2 + [v1, v2].length)).toArray := ⟨_, rfl⟩
  have hcp2 : ∀ ty dc, (Builtin.copy_ #[32, 32] ty #[.slice (some ⟨g, i * 2, none⟩) (n + 1 - i) dc, .slice (some ⟨vb, 0, none⟩) 1 1]).run Try.prog W1 = .ok (goInt 1) (W1.setRow g cur2) := fun ty dc => by
    rw [hcur2]
    exact run_copy_rows W1 _ _ ty 44 g (i * 2) (n + 1 - i) dc ⟨vb, 0, none⟩ 1 1 cur1 44 [v1, v2] 2 1 Try.underlying32 hsz (by simp only [Nat.min_def]; split <;> omega) hbW rfl
      (fun j v hj => by rw [add_plain, hbV.cell, Nat.zero_add]; simpa using hj) (by show i * 2 + 2 ≤ _; omega) (fun u hu => by
        simp only [List.mem_cons, List.not_mem_nil, or_false] at hu
        rcases hu with rfl | rfl
        · exact h1
        · exact h2)
  have HFIN : Hid ((W1.setRow g cur2).ownsRow base 44 2 (.slice (some ⟨g, 0, none⟩) (n + 1) c) (n + 1) (xs.take (i * 2) ++ [v1, v2] ++ xs.drop (i * 2))) := by
    refine ⟨?_, .inr ⟨g, c, cur2, rfl, hg, hbW.rowSet cur2, hnc, by unfold maxLen; omega, ?_, ?_⟩⟩
    · simp only [List.length_append, List.length_take, hdl, hxl, List.length_cons, List.length_nil]; omega
    · rw [hcur2]; simp only [List.size_toArray, List.length_append, List.length_take, List.length_drop, Array.length_toList, List.length_cons, List.length_nil]; omega
    · have h := HE.out
      simp only [List.length_cons, List.length_nil] at h
      have e1 : cur1.toList = cur.toList.take ((i + 1) * 2) ++ xs.drop (i * 2) ++ cur.toList.drop ((i + 1) * 2 + (xs.drop (i * 2)).length) := by rw [hcur1]
      have e2 : i * 2 + (0 + 1 + 1) = (i + 1) * 2 := by omega
      rw [e2] at h
      rw [← e1] at h
      rw [hcur2]
      simp only [List.length_cons, List.length_nil]
      rw [e2, show (n + 1) * 2 = n * 2 + (0 + 1 + 1) by omega]
      exact h
  have HGR : Hid (w.grownBy (W1.setRow g cur2) (some g)) := by
    have h1 : w.grownBy W1 (some g) := by rw [hW1]; exact ⟨rfl, rfl, rfl, by simp [World.setRow], fun k _ hk => setRow_other w.drew g k cur1 (fun e => hk (by rw [e]))⟩
    have h2 := grown_setRow W1 g cur2
    exact ⟨h2.os.trans h1.os, h2.tape.trans h1.tape, h2.output.trans h1.output, Nat.le_trans h1.size h2.size, fun k hk hn => (h2.block k (Nat.lt_of_lt_of_le hk h1.size) hn).trans (h1.block k hk hn)⟩
  have mixed : Try.prog.follows .mixedOrders = true := by kernel_rfl
  have hgc : ¬ (c = i + 1) := by omega
  have hgi : ¬ (c = i) := by omega
  have hin : i ≤ n := by omega
  clear hcur1 hW1 hbW hbV hcur2 hb1 hc1s hh hb htake hdl
  go_enter Try.func73, Try.ntmps73
  go_wp2_with (simp only [hov])
  go_region_law_o (refine step_copy_runI rfl _ _ 32 32 rfl _ _ (by simp [Act.eval, Act.put]) (by simp [Act.eval, Act.put]) (hcp1 _ _ _) ?_)
  go_wp2_with (at_builtin; refine wpList_copy_runI _ rfl _ _ 32 32 rfl _ _ rfl rfl (hcp2 _ _) ?_)
  go_ret
  exact ⟨_, _, rfl, HFIN.out, HGR.out⟩
set_option maxRecDepth 100000 in
set_option maxHeartbeats 4000000 in
theorem insert_grow {g : Nat} {cur : Array Value} (hh : Blk w g 44 cur) (hcs : cur.size = c * 2) (htake : cur.toList.take (n * 2) = xs) (hnc : n ≤ c) (hroom : c < n + 1) (hn : n ≤ 100000) (hbase : base ≤ w.heap.size)
    (hb : Blk w vb 44 #[v1, v2]) (h1 : v1.oneCell' = true) (h2 : v2.oneCell' = true) (hx1 : ∀ u ∈ xs, u.oneCell' = true) (hi : i < n) :
    Calls Try.prog 73 #[.slice (some ⟨g, 0, none⟩) n c, .int .i64 (i : Int), .slice (some ⟨vb, 0, none⟩) 1 1] w (InsIs w base (some ⟨g, 0, none⟩) n c i xs v1 v2) := by
  have hxl : xs.length = n * 2 := by rw [← htake, List.length_take]; simp; omega
  have hdl : (xs.drop (i * 2)).length = (n - i) * 2 := by rw [List.length_drop, hxl]; omega
  have htl : (xs.take (i * 2)).length = i * 2 := by rw [List.length_take, hxl]; omega
  have hz2 : ((i : Int) == (n : Int)) = false := by rw [beq_eq_false_iff_ne]; omega
  have hw0 : IntKind.i64.wrap ((n : Int) + 1) = (n : Int) + 1 := by rw [IntWalk.i64_in _ (by omega)]
  have hw1 : IntKind.i64.wrap ((i : Int) + 1) = (i : Int) + 1 := by rw [IntWalk.i64_in _ (by omega)]
  have hkk : (n : Int) + 1 - (i : Int) = ((n + 1 - i : Nat) : Int) := by omega
  have hw2 : IntKind.i64.wrap ((n : Int) + 1 - (i : Int)) = (n : Int) + 1 - (i : Int) := by rw [IntWalk.i64_in _ (by omega)]
  have hq1 : (0 : Int) ≤ (i : Int) + 1 := by omega
  have htn : ((i : Int) + 1).toNat = i + 1 := by omega
  have hq3 : (i : Int) ≤ (n : Int) := by omega
  have hgt : decide ((c : Int) < (n : Int) + 1) = true := by simp; omega
  obtain ⟨hu, ⟨i0, z, hi0, hz0, hzs, hzb, hzc⟩, _⟩ := elemLink
  have hsz : (Try.prog.info? 44).map (·.size) = some 2 := by rw [hi0]; simp [hzs]
  have hgl := hh.lt
  have hvl := hb.lt
  have hik : i + (n + 1 - i) = n + 1 := by omega
  have hold : (Builtin.firstCells i0.size i (.slice (some ⟨g, 0, none⟩) i c)).run Try.prog w.drew = .ok (xs.take (i * 2)).toArray w.drew := by
    rw [hzs]
    refine run_firstCells_some w.drew 2 i ⟨g, 0, none⟩ i c (xs.take (i * 2)) htl (fun j v hj => ?_)
    have hb1 : Blk w.drew g 44 cur := hh
    rw [add_plain, hb1.cell, Nat.zero_add]
    rw [List.getElem?_take] at hj
    split at hj
    · rw [← htake, List.getElem?_take] at hj
      split at hj
      · simpa using hj
      · cases hj
    · cases hj
  obtain ⟨N, hN⟩ : ∃ N, N = w.heap.size := ⟨_, rfl⟩
  obtain ⟨G, hG⟩ : ∃ G, G = grownCap w (n + 1) c 44 := ⟨_, rfl⟩
  obtain ⟨ROW, hROW⟩ : ∃ ROW : Array Value, ROW = (xs.take (i * 2)).toArray ++ Builtin.zeroCells z.cells (n + 1 - i) ++ Builtin.zeroCells z.cells (G - (n + 1)) := ⟨_, rfl⟩
  have hGn : n + 1 ≤ G := by rw [hG]; exact grownCap_ge w _ _ _
  have hG63 : G ≤ 9223372036854775807 := by
    have := grownCap_le_maxLen w (n + 1) c 44 (by unfold maxLen; omega)
    rw [← hG] at this
    unfold maxLen at this
    omega
  have hrz : ∀ ty, (Builtin.append_ #[32, 3] ty #[.slice (some ⟨g, 0, none⟩) i c, .int .i64 ((n : Int) + 1 - (i : Int))]).run Try.prog w = .ok (.slice (some ⟨N, 0, none⟩) (n + 1) G) (w.drew.alloc (.cells ROW 44)) := fun ty => by
    have h := Lib.run_append_grow_zeros w 32 3 ty 44 i0 z .i64 .i64 hu Try.underlying3 hi0 hz0 (some ⟨g, 0, none⟩) i c (xs.take (i * 2)) hold (n + 1 - i) (by omega) (by rw [hzs]; decide) (by omega) (by omega) (by rw [hzb]; omega) (by rw [hzb, hik]; exact growslice_fits hroom (by omega))
    rw [hik] at h
    rw [hkk, hROW, hG, hN]
    exact h
  have hRs : ROW.size = G * 2 := by
    rw [hROW]
    simp only [Array.size_append, Builtin.zeroCells, Array.size_map, Array.size_range, List.size_toArray, htl, hzc]
    omega
  obtain ⟨W1, hW1⟩ : ∃ W1, W1 = w.drew.alloc (.cells ROW 44) := ⟨_, rfl⟩
  obtain ⟨rowA, hrowA⟩ : ∃ r : Array Value, r = (ROW.toList.take (i * 2) ++ [v1, v2] ++ ROW.toList.drop (i * 2 + [v1, v2].length)).toArray := ⟨_, rfl⟩
  have hAs : rowA.size = G * 2 := by
    rw [hrowA]; simp only [List.size_toArray, List.length_append, List.length_take, List.length_drop, Array.length_toList, List.length_cons, List.length_nil]; omega
  obtain ⟨rowB, hrowB⟩ : ∃ r : Array Value, r = (rowA.toList.take ((i + 1) * 2) ++ xs.drop (i * 2) ++ rowA.toList.drop ((i + 1) * 2 + (xs.drop (i * 2)).length)).toArray := ⟨_, rfl⟩
  have hBs : rowB.size = G * 2 := by
    rw [hrowB]; simp only [List.size_toArray, List.length_append, List.length_take, List.length_drop, hdl, Array.length_toList]; omega
  have hNW : Blk W1 N 44 ROW := by rw [hW1, hN]; exact Blk.new w.drew 44 ROW
  have hgW : Blk W1 g 44 cur := by
    have h : Blk w.drew g 44 cur := hh
    rw [hW1]; exact h.alloc _
  have hvW : Blk W1 vb 44 #[v1, v2] := by
    have h : Blk w.drew vb 44 #[v1, v2] := hb
    rw [hW1]; exact h.alloc _
  have hcpA : ∀ (W : World), W.heap = W1.heap → ∀ ty dc, (Builtin.copy_ #[32, 32] ty #[.slice (some ⟨N, i * 2, none⟩) (n + 1 - i) dc, .slice (some ⟨vb, 0, none⟩) 1 1]).run Try.prog W = .ok (goInt 1) (W.setRow N rowA) := fun W hW ty dc => by
    have b1 : Blk W N 44 ROW := by show W.heap[N]? = _; rw [hW]; exact hNW
    have b2 : Blk W vb 44 #[v1, v2] := by show W.heap[vb]? = _; rw [hW]; exact hvW
    rw [hrowA]
    exact run_copy_rows W _ _ ty 44 N (i * 2) (n + 1 - i) dc ⟨vb, 0, none⟩ 1 1 ROW 44 [v1, v2] 2 1 hu hsz (by simp only [Nat.min_def]; split <;> omega) b1 rfl
      (fun j v hj => by rw [add_plain, b2.cell, Nat.zero_add]; simpa using hj) (by show i * 2 + 2 ≤ _; omega) (fun u hu => by
        simp only [List.mem_cons, List.not_mem_nil, or_false] at hu
        rcases hu with rfl | rfl
        · exact h1
        · exact h2)
  have hcpB : ∀ (W : World), W.heap = (W1.setRow N rowA).heap → ∀ ty dc sc, (Builtin.copy_ #[32, 32] ty #[.slice (some ⟨N, (i + 1) * 2, none⟩) (n - i) dc, .slice (some ⟨g, i * 2, none⟩) (n - i) sc]).run Try.prog W = .ok (goInt ((n - i : Nat) : Int)) (W.setRow N rowB) := fun W hW ty dc sc => by
    have b1 : Blk W N 44 rowA := by show W.heap[N]? = _; rw [hW]; exact hNW.rowSet rowA
    have b2 : Blk W g 44 cur := by show W.heap[g]? = _; rw [hW]; exact hgW.rowFar (by omega) rowA
    rw [hrowB]
    exact run_copy_rows W _ _ ty 44 N ((i + 1) * 2) (n - i) dc ⟨g, i * 2, none⟩ (n - i) sc rowA 44 (xs.drop (i * 2)) 2 (n - i) hu hsz (by simp only [Nat.min_def]; split <;> omega) b1 hdl
      (fun j v hj => by
        rw [add_plain, b2.cell]
        rw [List.getElem?_drop, ← htake, List.getElem?_take] at hj
        split at hj
        · simpa using hj
        · cases hj) (by rw [hdl]; omega) (fun v hv => hx1 v (List.mem_of_mem_drop hv))
  have HFIN : Hid (∀ W : World, W.heap = ((W1.setRow N rowA).setRow N rowB).heap → W.ownsRow base 44 2 (.slice (some ⟨N, 0, none⟩) (n + 1) G) (n + 1) (xs.take (i * 2) ++ [v1, v2] ++ xs.drop (i * 2))) := fun W hW => by
    refine ⟨?_, .inr ⟨N, G, rowB, rfl, by omega, ?_, hGn, by unfold maxLen; omega, hBs, ?_⟩⟩
    · simp only [List.length_append, htl, hdl, List.length_cons, List.length_nil]; omega
    · rw [hW]; exact (hNW.rowSet rowA).rowSet rowB
    · have e0 : ROW.toList.take (i * 2) = xs.take (i * 2) := by
        rw [hROW]
        simp only [Array.toList_append]
        show List.take (i * 2) (xs.take (i * 2) ++ _ ++ _) = _
        rw [List.append_assoc, List.take_append_of_le_length (Nat.le_of_eq htl.symm), List.take_of_length_le (Nat.le_of_eq htl)]
      have eA : rowA.toList.take ((i + 1) * 2) = xs.take (i * 2) ++ [v1, v2] := by
        rw [hrowA, e0]
        show List.take _ (_ ++ _ ++ _) = _
        rw [List.take_append_of_le_length (by rw [List.length_append, htl]; simp; omega), List.take_of_length_le (by rw [List.length_append, htl]; simp; omega)]
      rw [hrowB, eA]
      show List.take _ (_ ++ _ ++ _) = _
      rw [List.take_append_of_le_length (by simp only [List.length_append, htl, hdl, List.length_cons, List.length_nil]; omega), List.take_of_length_le (by simp only [List.length_append, htl, hdl, List.length_cons, List.length_nil]; omega)]
  have HGR : Hid (∀ W : World, W.os = w.os → W.tape = w.tape → W.output = w.output → W.heap = ((W1.setRow N rowA).setRow N rowB).heap → w.grownBy W (some g)) := fun W e1 e2 e3 hW => by
    refine ⟨e1, e2, e3, by rw [hW, hW1]; simp [World.setRow], fun k hk _ => ?_⟩
    have hkN : k ≠ N := by omega
    rw [hW]
    have a1 := setRow_other (W1.setRow N rowA) N k rowB hkN
    have a2 := setRow_other W1 N k rowA hkN
    rw [a1, a2, hW1]
    exact Below.heap_alloc w.drew _ k hk
  have mixed : Try.prog.follows .mixedOrders = true := by kernel_rfl
  have hgc : ¬ (G = i + 1) := by omega
  have hgi : ¬ (G = i) := by omega
  have hci : ¬ (c = i) := by omega
  have hin : i ≤ n := by omega
  have hE1 : ((w.alloc (.cells ROW 44)).drew).heap = W1.heap := by rw [hW1]; rfl
  have hF1 : (((w.alloc (.cells ROW 44)).drew.setRow N rowA).drew).heap = (W1.setRow N rowA).heap := by rw [hW1]; rfl
  have hE0 : (w.drew.alloc (.cells ROW 44)).heap = W1.heap := by rw [hW1]
  have hF0 : ((w.drew.alloc (.cells ROW 44)).setRow N rowA).drew.heap = (W1.setRow N rowA).heap := by rw [hW1]; rfl
  have HW1 := Lib.hid hW1
  clear hkk hik hold hROW hG hrowA hrowB hNW hgW hvW hh hb htake hdl htl hxl hN hW1 hi0 hz0 hzs hzb hzc
  go_enter Try.func73, Try.ntmps73
  go_wp2_with (first
    | (at_builtin; refine Lib.wpList_append_run _ rfl _ _ _ _ rfl _ _ rfl rfl _ _ (hrz _) ?_)
    | (at_builtin; refine wpList_copy_runI _ rfl _ _ 32 32 rfl _ _ rfl rfl (hcpA _ (by first | exact hE0 | exact hE1) _ _) ?_))
  go_region_law_o (refine step_copy_runI rfl _ _ 32 32 rfl _ _ (by simp [Act.eval, Act.put]) (by simp [Act.eval, Act.put]) (hcpB _ (by first | exact hF1 | exact hF0) _ _ _) ?_)
  go_wp2_with fail
  go_ret
  refine ⟨_, _, rfl, HFIN.out _ ?_, HGR.out _ rfl rfl rfl ?_⟩
  all_goals (rw [HW1.out]; rfl)
theorem insert_any (ho : w.ownsRow base 44 2 (.slice A n c) n xs) (hb : Blk w vb 44 #[v1, v2]) (hne : (Value.slice A n c).ownBlock ≠ some vb) (h1 : v1.oneCell' = true) (h2 : v2.oneCell' = true) (hx1 : ∀ u ∈ xs, u.oneCell' = true) (hn : n ≤ 100000) (hbase : base ≤ w.heap.size) (hi : i ≤ n) :
    Calls Try.prog 73 #[.slice A n c, .int .i64 (i : Int), .slice (some ⟨vb, 0, none⟩) 1 1] w (InsIs w base A n c i xs v1 v2) := by
  by_cases hin : i = n
  · subst hin
    exact insert_end ho hb h1 h2 hn hbase
  · rcases ho.2 with ⟨hv, h0⟩ | ⟨g, cap, cur, hv, hg, hh, hnc, hcm, hcs, htake⟩
    · omega
    · injection hv with e1 e2 e3
      subst e1; subst e3
      by_cases hr : n + 1 ≤ c
      · exact insert_shift hh hcs htake hr hcm hg hb (fun e => hne (by rw [e]; rfl)) h1 h2 hx1 (by omega)
      · exact insert_grow hh hcs htake hnc (by omega) hn hbase hb h1 h2 hx1 (by omega)
end
end Go.Proofs.Ytnihaaifkogpbaa
