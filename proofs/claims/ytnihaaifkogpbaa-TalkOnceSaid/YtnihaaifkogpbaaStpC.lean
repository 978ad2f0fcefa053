/- stripe.Copy. -/
import Derived.Test.YtnihaaifkogpbaaLL
import Derived.Test.YtnihaaifkogpbaaStp3
namespace Go.Proofs.Ytnihaaifkogpbaa
open Go.ChangeShapes Go.WideShapes Go.ChangeAt Go.RowKit
set_option linter.unusedVariables false
theorem LL.grownC {w w' : World} {base n c g : Nat} {A : Option Addr} {sets : List (List Nat)} {t : TypeId} {cs : Array Value} (h : LL w base A n c sets) (hb : Blk w g t cs) (ht : t ≠ 29) (ht2 : t ≠ 23) (hg : w.grownBy w' (some g)) : LL w' base A n c sets :=
  h.same (fun j cs' t' hj ht' _ => hg.block j (Blk.lt (w := w) hj) (fun e => by
    injection e with e
    subst e
    have h1 : some (Obj.cells cs' t' (0, 0)) = some (Obj.cells cs t (0, 0)) := hj.symm.trans hb
    injection h1 with h1
    injection h1 with _ h2 _
    rcases ht' with rfl | rfl
    · exact ht h2.symm
    · exact ht2 h2.symm))
section
variable {D : Dom} {A : Option Addr} {n c f t : Nat} {sets : List (List Nat)} {w : World}
set_option maxRecDepth 100000 in
set_option maxHeartbeats 3000000 in
theorem stcopy_any (hs : (rpSlice rpU64).sl w D A n c sets) (hD : ∀ k, D k → k < w.heap.size) (hn : n ≤ 1000) (hl : ∀ (i : Nat) x, sets[i]? = some x → x.length ≤ 1000) :
    Calls Try.prog 58 #[.agg (stpV f t A n c)] w fun e w' => ∃ A2 c2, e = .returned (.agg (stpV f t A2 n c2)) ∧ LL w' w.heap.size A2 n c2 sets ∧ Below w.heap.size w w' := by
  have H : Hid ((Try.prog.info? 112).map (·.size) = some 3) := by unfold Hid; kernel_rfl
  have hlen := (Rp.sl_len hs).1
  have HZ := Lib.hid (below2 w (.cells (stpV f t A n c) 112) (.cells (stpV 0 0 none 0 0) 112))
  have HK := Lib.hid (blk21 w 112 112 (stpV f t A n c) (stpV 0 0 none 0 0))
  have HR := Lib.hid (blk22 w 112 112 (stpV f t A n c) (stpV 0 0 none 0 0))
  have HS := Lib.hid (show Sl (rpSlice rpU64) w D A n c sets from ⟨hs, hD⟩)
  have HN := Lib.hid hlen
  have HLE := Lib.hid hl
  clear hs hD hlen hl
  go_enter Try.func58, Try.ntmps58
  go_wp2_with fail
  generalize World.alloc (World.alloc w _) _ = w0 at *
  have k2 := (show Blk w0 w.heap.size 112 _ from HK.out).cell 2
  go_wp2_with fail
  clear k2
  go_loopw [3, 9] (fun o i wr => ∃ (k : Nat) (As : Option Addr) (cs : Nat), k ≤ n ∧ i = .int .i64 k ∧ o = .slice As k cs ∧ Hid (LL wr w.heap.size As k cs (sets.take k)) ∧ Hid (Blk wr w.heap.size 112 (stpV f t A n c)) ∧ Hid (Blk wr (w.heap.size + 1) 112 (stpV 0 0 none 0 0)) ∧ Hid (Below w.heap.size w wr)) (fun _ i _ => n - (intOf i).toNat)
  case atStart => exact ⟨0, none, 0, by omega, rfl, rfl, LL.nil _ _, HK.out, HR.out, HZ.out⟩
  case round =>
    clear HK HR HZ
    obtain ⟨k, As, cs, hk, rfl, rfl, hll, hkb, hkr, hbel⟩ := hrel
    have hzr := hbel.out.size
    have hltr := (show Blk wr (w.heap.size + 1) 112 _ from hkr.out).lt
    by_cases hkn : k < n
    case neg =>
      obtain rfl : k = n := by omega
      have hd : decide ((k : Int) < (k : Int)) = false := by simp
      have k0 := (show Blk wr w.heap.size 112 _ from hkb.out).cell 0
      have k1 := (show Blk wr w.heap.size 112 _ from hkb.out).cell 1
      have k2 := (show Blk wr w.heap.size 112 _ from hkb.out).cell 2
      have f2 := (show Blk wr w.heap.size 112 _ from hkb.out).frozen 2
      have HL7 := Lib.hid ((show LL wr w.heap.size As k cs (sets.take k) from hll.out).put (show Blk wr w.heap.size 112 _ from hkb.out) (by decide) (by decide) (a := ⟨w.heap.size, 2, none⟩) rfl (.slice As k cs))
      have HR7 := Lib.hid ((show Blk wr (w.heap.size + 1) 112 _ from hkr.out).far (p := ⟨w.heap.size, 2, none⟩) (by dsimp only; omega) (.slice As k cs))
      have HB7 := Lib.hid (hbel.out.setCell (p := ⟨w.heap.size, 2, none⟩) (by dsimp only; omega) (.slice As k cs))
      have HE : Hid (sets.take k = sets) := List.take_of_length_le (by rw [HN.out]; exact Nat.le_refl _)
      go_wp2_with (refine wpList_put_row rfl 112 (.tmp 2) (.tmp 22) rfl (w.heap.size + 1) (stpV f t As k cs) rfl rfl 112 _ HR7.out H.out rfl (by simp [Value.oneCell']) ?_; intro w9 hblk hgr)
      have hl9 := (show LL (wr.setCell ⟨w.heap.size, 2, none⟩ (.slice As k cs)) w.heap.size As k cs (sets.take k) from HL7.out).grownC HR7.out (by decide) (by decide) hgr
      rw [HE.out] at hl9
      exact bodyPost_ret (results_cell_row rfl _ _ (w.heap.size + 1) 112 _ (0, 0) _ rfl hblk Try.underlying112 rfl H.out) rfl ⟨As, cs, rfl, hl9, HB7.out.grown hgr HB7.out.size (fun j hj => by injection hj with hj; omega)⟩
    case pos =>
      have hd : decide ((k : Int) < (n : Int)) = true := by simp; omega
      have hkI : (0 : Int) ≤ (k : Int) := by omega
      have hkI2 : (k : Int) < (n : Int) := by omega
      obtain ⟨b, off, x, A3, c3, rfl, hb, hx, hcell, hrow⟩ := rows_at (keepS HS.out hbel.out).1 hkn
      have hx1 := HLE.out k x hx
      have HSR := Lib.hid (Src.u64 (Rp.sl_below hrow (below1 wr (.cells #[] 29)) (keepS HS.out hbel.out).2))
      have HLT := Lib.hid (u64_lt hrow)
      have hm := World.ownsRow_made (e := 29) (size := 1) (base := w.heap.size) wr #[] 0 (by omega) (by decide) rfl
      have HM := Lib.hid hm
      have HTK : Hid (sets.take (k + 1) = sets.take k ++ [x]) := by
        show sets.take (k + 1) = sets.take k ++ [x]
        rw [List.take_add_one, hx]; rfl
      have hmx : 0 + x.length ≤ maxLen := by unfold maxLen; omega
      have hk16 : k + 1 ≤ maxLen := by unfold maxLen; omega
      clear hm hrow hx hb
      go_wp2_with (first
        | (at_builtin; refine wpList_app rfl (.tmp 14) (.tmp 15) _ rfl elem64 rfl HM.out rfl HSR.out hmx (by omega) (by simp; omega) ?_; intro A4 c4 w4 ho4 hg4 hat4
           have hb4 : Below wr.heap.size wr w4 := (below1 wr (.cells #[] 29)).grown hg4 (below1 wr (.cells #[] 29)).size (fun j hj => by have e : j = wr.heap.size := (by injection hj with hj; exact hj.symm); omega)
           have HB4 := Lib.hid hb4
           have ho4' : w4.ownsRow w.heap.size 29 1 (.slice A4 x.length c4) x.length (x.map uv) := by
             have := ho4
             rw [List.nil_append] at this
             simpa using this
           have HO4 := Lib.hid ho4'
           obtain ⟨vals, hov, hln, hvi⟩ := (show LL wr w.heap.size As k cs (sets.take k) from hll.out).below hb4
           have HOV := Lib.hid hov
           have HVI := Lib.hid hvi
           have HLN := Lib.hid hln
           have hz4 := hb4.size
           clear ho4 hg4 hat4 hb4 ho4' hov hvi hln)
        | (at_builtin; refine wpList_app rfl (.tmp 13) (.tmp 17) _ rfl elemSets rfl (HOV.out.alloc _) rfl (Src.new w4 (.slice A4 x.length c4) _ rfl) hk16 (by omega) (by simp; omega) ?_; intro A6 c6 w6 ho6 hg6 hat6
           have HO6 := Lib.hid ho6
           have HG6 := Lib.hid (show w4.grownBy w6 _ from ⟨hg6.os, hg6.tape, hg6.output, by have := hg6.size; simp at this; omega, fun j hj hn => (hg6.block j (by simp; omega) hn).trans (Below.heap_alloc _ _ _ hj)⟩)
           clear ho6 hg6 hat6))
      have hkb4 := keepB (show Blk wr w.heap.size 112 _ from hkb.out) HB4.out
      have hkr4 := keepB (show Blk wr (w.heap.size + 1) 112 _ from hkr.out) HB4.out
      have ho6 := HO6.out
      try rw [Nat.zero_add] at ho6
      have hll6 := (show LL w4 w.heap.size As k cs (sets.take k) from ⟨vals, HOV.out, HLN.out, HVI.out⟩).push HOV.out HVI.out ho6 HG6.out HO4.out HLT.out
      go_roundw
      case rel => exact ⟨k + 1, A6, c6, by omega, by go_num, rfl, by rw [HTK.out]; exact hll6, hkb4.grown HG6.out (Pen.ne' hkb4 HOV.out (by decide)), hkr4.grown HG6.out (Pen.ne' hkr4 HOV.out (by decide)), (stepB hbel.out HB4.out).grown HG6.out (stepB hbel.out HB4.out).size (fun j hj => (HOV.out.lt j hj).1)⟩
      case measure => simp [intOf]; omega
end
end Go.Proofs.Ytnihaaifkogpbaa
