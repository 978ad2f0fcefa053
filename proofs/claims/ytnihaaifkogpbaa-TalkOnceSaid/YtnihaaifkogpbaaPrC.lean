/- proj.Copy. -/
import Derived.Test.YtnihaaifkogpbaaOL
import Derived.Test.YtnihaaifkogpbaaStpC
import Derived.Test.YtnihaaifkogpbaaPrj
namespace Go.Proofs.Ytnihaaifkogpbaa
open Go.ChangeShapes Go.WideShapes Go.ChangeAt Go.RowKit
set_option linter.unusedVariables false
def TSs (t : TypeId) : Prop := t = 29 ∨ t = 23
theorem tss_stp : ¬ TSs 112 := by unfold TSs; decide
theorem tss_prj : ¬ TSs 38 := by unfold TSs; decide
theorem elemStp : Elem Try.prog 36 112 rpStp.size 40 := Elem.of (z := .agg #[.int .u64 0, .int .u64 0, .slice none 0 0]) Try.underlying36 (by kernel_rfl) rfl (by decide)
abbrev OS (w : World) (base : Nat) (A : Option Addr) (n c : Nat) (l : List Stp) : Prop := OL rpStp TSs (fun _ => False) 112 w base A n c l
theorem own_tb {D0 : Dom} {w : World} {base n c : Nat} {A : Option Addr} {xs : List Value} {e : TypeId} (he : TSs e) (h : w.ownsRow base e 1 (.slice A n c) n xs) : ∀ k, some k = (Value.slice A n c).ownBlock → Tb TSs D0 w k := by
  intro k hk
  rcases h.2 with ⟨hv, _⟩ | ⟨g, cap, cur, hv, hg, hh, _⟩
  · rw [hv] at hk; cases hk
  · rw [hv] at hk
    simp only [Value.ownBlock, Option.some.injEq] at hk
    subst hk
    exact ⟨Blk.lt (w := w) hh, .inr ⟨cur, e, hh, he⟩⟩
theorem LL.tb {D0 : Dom} {w : World} {base n c : Nat} {A : Option Addr} {sets : List (List Nat)} (h : LL w base A n c sets) : (rpSlice rpU64).sl w (Tb TSs D0 w) A n c sets := by
  obtain ⟨vals, ho, hn, hi⟩ := h
  have hrow : ∀ (i : Nat) x, sets[i]? = some x → ∃ v, vals[i]? = some v ∧ (rpSlice rpU64).ok w (Tb TSs D0 w) x [v] := by
    intro i x hx
    obtain ⟨⟨A', c', hv, hw⟩, h64⟩ := hi i x hx
    exact ⟨_, hv, Rp.sl_more (own_u64 hw h64) (own_tb (.inl rfl) hw)⟩
  have hT := own_tb (D0 := D0) (.inr rfl) ho
  rcases ho.2 with ⟨hv, h0⟩ | ⟨g, cap, cur, hv, hg, hh, hnc, hcm, hcs, htake⟩
  · injection hv with h1 h2 h3
    subst h1; subst h3
    have hs0 : sets = [] := List.eq_nil_of_length_eq_zero (by omega)
    subst hs0
    have hn0 : n = 0 := by simpa using hn.symm
    subst hn0
    exact Rp.sl_nil _ _ _ _ _ (by decide)
  · injection hv with h1 h2 h3
    subst h1; subst h3
    subst hn
    refine ⟨_, _, rfl, hnc, hcm, fun _ => ⟨g, 0, rfl, hT g rfl, fun i x hx => ?_⟩⟩
    obtain ⟨v, hvi, hok⟩ := hrow i x hx
    refine ⟨[v], hok, fun j u hu => ?_⟩
    have hj : j = 0 := by
      rcases Nat.eq_zero_or_pos j with h0 | h0
      · exact h0
      · rw [List.getElem?_eq_none (by simp; omega)] at hu; cases hu
    subst hj
    simp only [List.getElem?_cons_zero, Option.some.injEq] at hu
    subst hu
    have hcell := cell_of_row w g (0 + i * (rpSlice rpU64).size + 0) cur 23 (0, 0) hh
    rw [hcell]
    have e1 : 0 + i * (rpSlice rpU64).size + 0 = i := by show 0 + i * 1 + 0 = i; omega
    rw [e1]
    rw [← htake, List.getElem?_take] at hvi
    split at hvi
    · simpa using hvi
    · cases hvi
theorem stp_ok {w : World} {D : Dom} {f t n c : Nat} {A : Option Addr} {sets : List (List Nat)} (hf : f ≤ 18446744073709551615) (ht : t ≤ 18446744073709551615) (h : (rpSlice rpU64).sl w D A n c sets) : rpStp.ok w D (f, t, sets) (stpV f t A n c).toList :=
  ⟨[_], _, rfl, ⟨rfl, by show f < _; omega⟩, [_], _, rfl, ⟨rfl, by show t < _; omega⟩, h⟩
section
variable {D : Dom} {A : Option Addr} {n c e : Nat} {l : List Stp} {w : World}
set_option maxRecDepth 100000 in
set_option maxHeartbeats 4000000 in
theorem prcopy_any (hs : rpStp.sl w D A n c l) (hD : ∀ k, D k → k < w.heap.size) (hn : n ≤ 1000) (hl : ∀ s ∈ l, s.2.2.length ≤ 1000 ∧ ∀ (j : Nat) x, s.2.2[j]? = some x → x.length ≤ 1000) :
    Calls Try.prog 36 #[.agg (prjV e A n c)] w fun en w' => ∃ A2 c2, en = .returned (.agg (prjV e A2 n c2)) ∧ OS w' w.heap.size A2 n c2 l ∧ Below w.heap.size w w' := by
  have H : Hid ((Try.prog.info? 38).map (·.size) = some 2) := by unfold Hid; kernel_rfl
  have hlen := (Rp.sl_len hs).1
  have HZ := Lib.hid (below2 w (.cells (prjV e A n c) 38) (.cells (prjV 0 none 0 0) 38))
  have HK := Lib.hid (blk21 w 38 38 (prjV e A n c) (prjV 0 none 0 0))
  have HR := Lib.hid (blk22 w 38 38 (prjV e A n c) (prjV 0 none 0 0))
  have HS := Lib.hid (show Sl rpStp w D A n c l from ⟨hs, hD⟩)
  have HN := Lib.hid hlen
  have HLE := Lib.hid hl
  clear hs hD hlen hl
  go_enter Try.func36, Try.ntmps36
  go_wp2_with fail
  generalize World.alloc (World.alloc w _) _ = w0 at *
  have k1 := (show Blk w0 w.heap.size 38 _ from HK.out).cell 1
  go_wp2_with fail
  clear k1
  go_loopw [3, 9] (fun o i wr => ∃ (k : Nat) (As : Option Addr) (cs : Nat), k ≤ n ∧ i = .int .i64 k ∧ o = .slice As k cs ∧ Hid (OS wr w.heap.size As k cs (l.take k)) ∧ Hid (Blk wr w.heap.size 38 (prjV e A n c)) ∧ Hid (Blk wr (w.heap.size + 1) 38 (prjV 0 none 0 0)) ∧ Hid (Below w.heap.size w wr)) (fun _ i _ => n - (intOf i).toNat)
  case atStart => exact ⟨0, none, 0, by omega, rfl, rfl, OL.nil _ _ _ _ _ _, HK.out, HR.out, HZ.out⟩
  case round =>
    clear HK HR HZ
    obtain ⟨k, As, cs, hk, rfl, rfl, hll, hkb, hkr, hbel⟩ := hrel
    have hzr := hbel.out.size
    have hltr := (show Blk wr (w.heap.size + 1) 38 _ from hkr.out).lt
    by_cases hkn : k < n
    case neg =>
      obtain rfl : k = n := by omega
      have hd : decide ((k : Int) < (k : Int)) = false := by simp
      have k0 := (show Blk wr w.heap.size 38 _ from hkb.out).cell 0
      have k1 := (show Blk wr w.heap.size 38 _ from hkb.out).cell 1
      have f1 := (show Blk wr w.heap.size 38 _ from hkb.out).frozen 1
      have HL7 := Lib.hid ((show OS wr w.heap.size As k cs (l.take k) from hll.out).put (show Blk wr w.heap.size 38 _ from hkb.out) id tss_prj (by decide) (a := ⟨w.heap.size, 1, none⟩) rfl (.slice As k cs))
      have HR7 := Lib.hid ((show Blk wr (w.heap.size + 1) 38 _ from hkr.out).far (p := ⟨w.heap.size, 1, none⟩) (by dsimp only; omega) (.slice As k cs))
      have HB7 := Lib.hid (hbel.out.setCell (p := ⟨w.heap.size, 1, none⟩) (by dsimp only; omega) (.slice As k cs))
      have HE : Hid (l.take k = l) := List.take_of_length_le (by rw [HN.out]; exact Nat.le_refl _)
      go_wp2_with (refine wpList_put_row rfl 38 (.tmp 2) (.tmp 21) rfl (w.heap.size + 1) (prjV e As k cs) rfl rfl 38 _ HR7.out H.out rfl (by simp [Value.oneCell']) ?_; intro w9 hblk hgr)
      have hl9 := (show OS (wr.setCell ⟨w.heap.size, 1, none⟩ (.slice As k cs)) w.heap.size As k cs (l.take k) from HL7.out).grown HR7.out id tss_prj (by decide) hgr
      rw [HE.out] at hl9
      exact bodyPost_ret (results_cell_row rfl _ _ (w.heap.size + 1) 38 _ (0, 0) _ rfl hblk Try.underlying38 rfl H.out) rfl ⟨As, cs, rfl, hl9, HB7.out.grown hgr HB7.out.size (fun j hj => by injection hj with hj; omega)⟩
    case pos =>
      have hd : decide ((k : Int) < (n : Int)) = true := by simp; omega
      have hkI : (0 : Int) ≤ (k : Int) := by omega
      have hkI2 : (k : Int) < (n : Int) := by omega
      have hsr := keepS HS.out hbel.out
      obtain ⟨bo, off, s, A3, c3, rfl, hbD, hx, g0, g1, g2, hrow, hs1, hs2⟩ := stps_at hsr.1 hkn
      obtain ⟨sf, hsf⟩ : ∃ sf, sf = s.1 := ⟨_, rfl⟩
      obtain ⟨st, hst⟩ : ∃ st, st = s.2.1 := ⟨_, rfl⟩
      obtain ⟨ss, hss⟩ : ∃ ss, ss = s.2.2 := ⟨_, rfl⟩
      have es : s = (sf, st, ss) := by rw [hsf, hst, hss]
      rw [← hsf] at g0 hs1
      rw [← hst] at g1 hs2
      rw [← hss] at g2 hrow
      subst es
      have hle := HLE.out _ (List.mem_of_getElem? hx)
      have HLS := Lib.hid hle
      have hba := below1 wr (.cells (stpV sf st A3 ss.length c3) 112)
      have HRW := Lib.hid (keepS (show Sl (rpSlice rpU64) wr _ A3 ss.length c3 ss from ⟨hrow, hsr.2⟩) hba)
      have HKS := Lib.hid (blk11 wr 112 (stpV sf st A3 ss.length c3))
      have HBA := Lib.hid hba
      have HTK : Hid (l.take (k + 1) = l.take k ++ [(sf, st, ss)]) := by
        show l.take (k + 1) = l.take k ++ [(sf, st, ss)]
        rw [List.take_add_one, hx]; rfl
      have hk16 : k + 1 ≤ maxLen := by unfold maxLen; omega
      clear hx hle hrow hsr hsf hst hss hba
      go_wp2_with fail
      generalize World.alloc wr _ = w4 at *
      have hz4 := HBA.out.size
      have v0 := (show Blk w4 _ _ _ from HKS.out).cell 0
      have v1 := (show Blk w4 _ _ _ from HKS.out).cell 1
      have v2 := (show Blk w4 _ _ _ from HKS.out).cell 2
      clear g0 g1 g2
      go_wp2_with fail
      refine (stcopy_any HRW.out.1 HRW.out.2 HLS.out.1 HLS.out.2).mono ?_; rintro en w5 ⟨A5, c5, rfl, hl5, hb5⟩
      have hb5a := below1 w5 (.cells (stpV sf st A5 ss.length c5) 112)
      have hb45 := stepB HBA.out hb5
      have HB5 := Lib.hid (stepB hb45 hb5a)
      have hz5 := hb5.size
      obtain ⟨vals, hov, hln, hvi⟩ := ((show OS wr w.heap.size As k cs (l.take k) from hll.out).below hb45).below hb5a
      have HOV := Lib.hid hov
      have HVI := Lib.hid hvi
      have HLN := Lib.hid hln
      have HX5 := Lib.hid (stp_ok hs1 hs2 (LL.tb (D0 := fun _ => False) (hl5.below hb5a)))
      have HSR := Lib.hid (Src.blk (size := rpStp.size) (blk11 w5 112 (stpV sf st A5 ss.length c5)) (by kernel_rfl) (by simp [Value.oneCell']))
      clear hl5 hb5 hb5a hb45 hov hvi hln v0 v1 v2
      go_wp2_with (at_builtin; refine wpList_app rfl (.tmp 13) (.tmp 16) _ rfl elemStp rfl HOV.out rfl HSR.out hk16 (by omega) (by simp; omega) ?_; intro A6 c6 w6 ho6 hg6 hat6
                   have HO6 := Lib.hid ho6
                   have HG6 := Lib.hid hg6
                   clear ho6 hg6 hat6)
      have hll6 := (show OS (w5.alloc (.cells (stpV sf st A5 ss.length c5) 112)) w.heap.size As k cs (l.take k) from ⟨vals, HOV.out, HLN.out, HVI.out⟩).push HOV.out HVI.out tss_stp (fun _ h => h.elim) HO6.out HG6.out HX5.out
      have hb6 := HB5.out
      have hkb6 := keepB (show Blk wr w.heap.size 38 _ from hkb.out) hb6
      have hkr6 := keepB (show Blk wr (w.heap.size + 1) 38 _ from hkr.out) hb6
      go_roundw
      case rel => exact ⟨k + 1, A6, c6, by omega, by go_num, rfl, by rw [HTK.out]; exact hll6, hkb6.grown HG6.out (Pen.ne hkb6 HOV.out (by decide)), hkr6.grown HG6.out (Pen.ne hkr6 HOV.out (by decide)), (stepB hbel.out hb6).grown HG6.out (stepB hbel.out hb6).size (fun j hj => (HOV.out.lt j hj).1)⟩
      case measure => simp [intOf]; omega
end
end Go.Proofs.Ytnihaaifkogpbaa
