/- The reference's Put and Fail. -/
import Derived.Test.YtjgcgedjpppfmaaPlays
namespace Go.Proofs.Ytjgcgedjpppfmaa
open Go.ChangeShapes Go.WideShapes Go.ChangeAt Go.RowKit
set_option linter.unusedVariables false

theorem blk_top (w : World) (cs cs' : Array Value) (t t' : TypeId) : Blk ((w.alloc (.cells cs t)).alloc (.cells cs' t')) (w.heap.size + 1) t' cs' := by
  have h := Blk.new (w.alloc (.cells cs t)) t' cs'
  have e : (w.alloc (.cells cs t)).heap.size = w.heap.size + 1 := by simp
  rw [e] at h
  exact h
theorem below_two (w : World) (o o' : Obj) : Below w.heap.size w ((w.alloc o).alloc o') :=
  ((Below.refl _ w).alloc (Nat.le_refl _) _).alloc (by simp) _

theorem ref_fail_any (M : Int) (A : Option Addr) (n c : Nat) (code x : Int) (w : World) : Calls Try.prog 26 #[.agg #[.int .i64 M, .slice A n c, .int .i64 code], .int .i64 x] w fun e w' => e = .returned (.agg #[.int .i64 M, .slice A n c, .int .i64 (if code = 0 then x else code)]) ∧ Below w.heap.size w w' := by
  have H : Hid ((Try.prog.info? 41).map (·.size) = some 3) := by unfold Hid; kernel_rfl
  by_cases h : code = 0
  · subst h
    rw [if_pos rfl]
    go_enter Try.func26, Try.ntmps26
    go_wp2_with fail
    exact bodyPost_ret (results_cell_row rfl _ _ (w.heap.size + 1) 41 _ (0, 0) _ rfl (blk_top _ _ _ _ _) Try.underlying41 rfl H.out) rfl ⟨rfl, below_two _ _ _⟩
  · rw [if_neg h]
    go_enter Try.func26, Try.ntmps26
    go_wp2_with fail
    exact bodyPost_ret (results_cell_row rfl _ _ (w.heap.size + 1) 41 _ (0, 0) _ rfl (blk_top _ _ _ _ _) Try.underlying41 rfl H.out) rfl ⟨rfl, below_two _ _ _⟩

theorem ref_put_any (M : Int) (A : Option Addr) (n c : Nat) (b : List UInt8) (code : Int) (A' : Option Addr) (n' c' : Nat) (new : List UInt8) (D D' : Dom) (w : World)
    (h0 : 0 ≤ M) (h1 : M ≤ 9223372036854775807) (hb : rpU8.sl w D A n c b) (hn : n ≤ 1000000000) (hD : ∀ k, D k → k < w.heap.size) (hs : rpU8.sl w D' A' n' c' new) (hn' : n' ≤ 1000000000) (hD' : ∀ k, D' k → k < w.heap.size) :
    Calls Try.prog 22 #[.agg #[.int .i64 M, .slice A n c, .int .i64 code], .slice A' n' c'] w fun e w' => ∃ A2 n2 c2 D2, e = .returned (.agg #[.int .i64 M, .slice A2 n2 c2, .int .i64 (putB M b code new).2]) ∧ rpU8.sl w' D2 A2 n2 c2 (putB M b code new).1 ∧ (∀ k, D2 k → k < w'.heap.size ∧ (D k ∨ w.heap.size ≤ k)) ∧ Below w.heap.size w w' := by
  have H : Hid ((Try.prog.info? 41).map (·.size) = some 3) := by unfold Hid; kernel_rfl
  obtain ⟨hbl, _, _⟩ := Rp.sl_len hb
  obtain ⟨hnl, _, _⟩ := Rp.sl_len hs
  have HB := Lib.hid hb
  have HS := Lib.hid hs
  have HBL := Lib.hid hbl
  have HNL := Lib.hid hnl
  clear hb hs hbl hnl
  by_cases hc : code = 0
  · subst hc
    by_cases hbig : M < n + n'
    · have hp : putB M b 0 new = (b, 2) := putB_more _ _ _ (by rw [HBL.out, HNL.out]; exact hbig)
      rw [hp]
      have hd : decide (M < (n : Int) + (n' : Int)) = true := by simpa using hbig
      clear hp
      go_enter Try.func22, Try.ntmps22
      go_wp2_with fail
      have hz := (below_two w (.cells #[.int .i64 M, .slice A n c, .int .i64 2] 41) (.cells #[.int .i64 M, .slice A n c, .int .i64 2] 41))
      exact bodyPost_ret (results_cell_row rfl _ _ (w.heap.size + 1) 41 _ (0, 0) _ rfl (blk_top _ _ _ _ _) Try.underlying41 rfl H.out) rfl ⟨A, n, c, D, rfl, Rp.sl_below HB.out hz hD, fun k hk => ⟨Nat.lt_of_lt_of_le (hD k hk) hz.size, .inl hk⟩, hz⟩
    · have hp : putB M b 0 new = (b ++ new, 0) := putB_fits _ _ _ (by rw [HBL.out, HNL.out]; exact hbig)
      rw [hp]
      have hd : decide (M < (n : Int) + (n' : Int)) = false := by simpa using hbig
      clear hp
      have hz := (below_two w (.cells #[.int .i64 M, .slice A n c, .int .i64 0] 41) (.cells #[.int .i64 0, .slice none 0 0, .int .i64 0] 41))
      have HZ := Lib.hid hz
      have HK := Lib.hid ((Blk.new w 41 #[.int .i64 M, .slice A n c, .int .i64 0]).alloc (.cells #[.int .i64 0, .slice none 0 0, .int .i64 0] 41))
      have HR := Lib.hid (blk_top w #[.int .i64 M, .slice A n c, .int .i64 0] #[.int .i64 0, .slice none 0 0, .int .i64 0] 41 41)
      have hsb := Src.bytes (Rp.sl_below HB.out hz hD)
      have HSB := Lib.hid hsb
      clear hz hsb
      go_enter Try.func22, Try.ntmps22
      go_wp2_with (first
        | (at_builtin; refine wpList_app rfl (.tmp 21) (.tmp 23) _ rfl elemB rfl (show World.ownsRow _ w.heap.size 5 1 (.slice none 0 0) 0 (List.map bv []) from World.ownsRow_nil _ _ _ _) rfl HSB.out (by unfold maxLen; omega) (by omega) (by simp; omega) ?_; intro A1 c1 w1 ho1 hg1 hat1
           change World.grownBy _ _ none at hg1
           have hb1 : Below w.heap.size w w1 := HZ.out.grown hg1 (by simp; omega) (fun k hk => by cases hk)
           have HB1 := Lib.hid hb1
           have HS1 := Lib.hid (Src.bytes (Rp.sl_below HS.out hb1 hD'))
           have HK1 := Lib.hid (HK.out.grown hg1 (by simp))
           have HR1 := Lib.hid (HR.out.grown hg1 (by simp))
           rw [Nat.zero_add, ← List.map_append, List.nil_append] at ho1
           have HO1 := Lib.hid ho1
           have hz1 := hb1.size
           have hk1c := HK1.out.cell 1
           clear ho1 hg1 hat1 hb1)
        | (at_builtin; refine wpList_app rfl (.tmp 25) (.tmp 26) _ rfl elemB rfl HO1.out rfl HS1.out (by unfold maxLen; omega) (by omega) hz1 ?_; intro A2 c2 w2 ho2 hg2 hat2
           have hb2 : Below w.heap.size w1 w2 := (Below.refl _ w1).grown hg2 hz1 (fun k hk => (HO1.out.lt k hk).1)
           have HB2 := Lib.hid hb2
           have HK2 := Lib.hid (HK1.out.grown hg2 (Pen.ne HK1.out HO1.out (by decide)))
           have HR2 := Lib.hid (HR1.out.grown hg2 (Pen.ne HR1.out HO1.out (by decide)))
           rw [← List.map_append] at ho2
           have HO2 := Lib.hid ho2
           have hk2c := HK2.out.cell 1
           have hk2f := HK2.out.frozen 1
           clear ho2 hg2 hat2 hb2)
        | (refine wpList_load_at rfl 41 (.tmp 2) rfl ⟨w.heap.size, 0, none⟩ rfl #[.int .i64 M, .slice A2 (n + n') c2, .int .i64 0] _ (fun j v hv => by rw [add_plain, Nat.zero_add, (HK2.out.put 1 _).cell]; exact hv) Try.underlying41 rfl H.out ?_)
        | (refine wpList_put_row rfl 41 (.tmp 4) (.tmp 29) rfl (w.heap.size + 1) #[.int .i64 M, .slice A2 (n + n') c2, .int .i64 0] rfl rfl 41 _ (HR2.out.grown (grown_setCell _ _ _) (by simp)) H.out rfl (by simp [Value.oneCell']) ?_; intro w3 hblk hgr))
      have ho3 := ((HO2.out.kept (grown_setCell w2 ⟨w.heap.size, 1, none⟩ (.slice A2 (n + n') c2)) (.inr (fun e => Pen.ne HK2.out HO2.out (by decide) e.symm))).kept hgr (.inr (fun e => Pen.ne HR2.out HO2.out (by decide) e.symm)))
      have hbz : Below w.heap.size w w3 := (((HB1.out.trans HB2.out).setCell (p := ⟨w.heap.size, 1, none⟩) (Nat.le_refl _) _).grown hgr (by have := HB1.out.size; have := HB2.out.size; simp; omega) (fun k hk => by injection hk with hk; omega))
      refine bodyPost_ret (results_cell_row rfl _ _ (w.heap.size + 1) 41 _ (0, 0) _ rfl hblk Try.underlying41 rfl H.out) rfl ⟨A2, n + n', c2, rfl, fun k => some k = (Value.slice A2 (n + n') c2).ownBlock, own_bytes ho3, fun k hk => ⟨own_lt ho3 hk, .inr (ho3.lt k hk.symm).1⟩, hbz⟩
  · have hp : putB M b code new = (b, code) := by unfold putB; rw [if_pos hc]
    rw [hp]
    have hz : (code != 0) = true := bne_iff_ne.2 hc
    clear hp hc
    go_enter Try.func22, Try.ntmps22
    go_wp2_with fail
    have hz := (below_two w (.cells #[.int .i64 M, .slice A n c, .int .i64 code] 41) (.cells #[.int .i64 M, .slice A n c, .int .i64 code] 41))
    exact bodyPost_ret (results_cell_row rfl _ _ (w.heap.size + 1) 41 _ (0, 0) _ rfl (blk_top _ _ _ _ _) Try.underlying41 rfl H.out) rfl ⟨A, n, c, D, rfl, Rp.sl_below HB.out hz hD, fun k hk => ⟨Nat.lt_of_lt_of_le (hD k hk) hz.size, .inl hk⟩, hz⟩
end Go.Proofs.Ytjgcgedjpppfmaa
