/- batch.Copy. -/
import Derived.Test.YtcbmnfjbmkpfiaaPkC
namespace Go.Proofs.Ytcbmnfjbmkpfiaa
open Go.ChangeShapes Go.WideShapes Go.ChangeAt Go.RowKit
set_option linter.unusedVariables false
/-- Entries of no more than can be gone through. -/
def EBd (es : List Ent) : Prop := es.length ≤ 1000 ∧ ∀ e ∈ es, e.1.length ≤ 1000 ∧ (∀ x ∈ e.1, x.2.length ≤ 1000) ∧ e.2.length ≤ 1000000
theorem tb_more {w : World} {k : Nat} {D0 : Dom} (h : Tb T64 (fun _ => False) w k) : Tb TD D0 w k := ⟨h.1, .inr (by
  rcases h.2 with h | ⟨cs, t, h, ht⟩
  · exact h.elim
  · exact ⟨cs, t, h, .inl ht⟩)⟩
abbrev zB : Array Value := #[.int .u64 0, .int .u64 0, .slice none 0 0]
section
variable {D : Dom} {A : Option Addr} {n c ep b : Nat} {es : List Ent} {w : World}
def BCopyIs (w : World) (ep b n : Nat) (es : List Ent) (e : Ending) (w' : World) : Prop :=
  ∃ A' c', e = .returned (.agg (batV ep b A' n c')) ∧ TB (fun _ => False) w' w.heap.size A' n c' es ∧ Below w.heap.size w w'
theorem TB.mono {D0 : Dom} {base base' : Nat} (h : TB D0 w base A n c es) (hb : base' ≤ base) : TB D0 w base' A n c es := by
  obtain ⟨vals, rv, ho, hn, hi, ha⟩ := h
  refine ⟨vals, rv, own_less2 ho hb, hn, fun i e he => ?_, ha⟩
  obtain ⟨A', c', B, d, h1, h2, h3, h4, h5⟩ := hi i e he
  exact ⟨A', c', B, d, h1, h2, own_less2 h3 hb, h4, h5⟩
set_option maxRecDepth 100000 in
set_option maxHeartbeats 4000000 in
theorem bcopy_any (hs : rpEnt.sl w D A n c es) (hD : ∀ k, D k → k < w.heap.size) (hE : EBd es) :
    Calls Try.prog 31 #[.agg (batV ep b A n c)] w (BCopyIs w ep b n es) := by
  have hb2 := below2 w (.cells (batV ep b A n c) 25) (.cells zB 25)
  have HB2 := Lib.hid hb2
  have K1 := Lib.hid (blk21 w 25 25 (batV ep b A n c) zB)
  have K2 := Lib.hid (blk22 w 25 25 (batV ep b A n c) zB)
  have HS2 := Lib.hid (keepS (show Sl rpEnt w D A n c es from ⟨hs, hD⟩) hb2)
  have HN := Lib.hid (Rp.sl_len hs).1
  have HE := Lib.hid hE
  have hn1 : n ≤ 1000 := by rw [← HN.out]; exact hE.1
  have HZ2 : Hid ((((w.alloc (.cells (batV ep b A n c) 25)).alloc (.cells zB 25))).heap.size = w.heap.size + 2) := by show _ = _; simp
  have HSZ : Hid ((Try.prog.info? 25).map (·.size) = some 3) := by show _ = _; kernel_rfl
  clear hs hD hb2 hE
  go_enter Try.func31, Try.ntmps31
  go_upto_region 2 with (fail)
  generalize World.alloc (World.alloc w _) _ = w2 at *
  have k2 := (show Blk w2 w.heap.size 25 (batV ep b A n c) from K1.out).cell 2
  go_wp2_with fail
  clear k2
  go_loopw [3, 9] (fun v3 v9 wr => ∃ (k : Nat) (As : Option Addr) (cs : Nat), k ≤ n ∧ v3 = .slice As k cs ∧ v9 = .int .i64 (k : Int) ∧ Hid (TB (fun _ => False) wr w2.heap.size As k cs (es.take k)) ∧ Hid (Below w2.heap.size w2 wr)) (fun _ v9 _ => n - (intOf v9).toNat)
  case atStart => exact ⟨0, none, 0, by omega, rfl, rfl, TB.nil _ _ _, Below.refl _ _⟩
  case round =>
    obtain ⟨k, As, cs, hk, rfl, rfl, htb, hbel⟩ := hrel
    by_cases hkn : k < n
    case neg =>
      obtain rfl : k = n := by omega
      have hd : decide ((k : Int) < (k : Int)) = false := by simp
      have HO : Hid (TB (fun _ => False) wr w2.heap.size As k cs es) := by
        have h := htb.out
        rw [List.take_of_length_le (by have := HN.out; omega)] at h
        exact h
      have KA := Lib.hid (keepB (show Blk w2 w.heap.size 25 (batV ep b A k c) from K1.out) hbel.out)
      have KB := Lib.hid (keepB (show Blk w2 (w.heap.size + 1) 25 zB from K2.out) hbel.out)
      have a0 := (show Blk wr w.heap.size 25 (batV ep b A k c) from KA.out).cell 0
      have a1 := (show Blk wr w.heap.size 25 (batV ep b A k c) from KA.out).cell 1
      have a2 := (show Blk wr w.heap.size 25 (batV ep b A k c) from KA.out).cell 2
      have a2f := (show Blk wr w.heap.size 25 (batV ep b A k c) from KA.out).frozen 2
      have hgr0 : wr.grownBy (wr.setCell ⟨w.heap.size, 2, none⟩ (.slice As k cs)) (some w.heap.size) := grown_setCell wr ⟨w.heap.size, 2, none⟩ (.slice As k cs)
      have hk1 : Blk (wr.setCell ⟨w.heap.size, 2, none⟩ (.slice As k cs)) w.heap.size 25 (batV ep b As k cs) := KA.out.put 2 _
      have hk2 : Blk (wr.setCell ⟨w.heap.size, 2, none⟩ (.slice As k cs)) (w.heap.size + 1) 25 zB := KB.out.far (p := ⟨w.heap.size, 2, none⟩) (by show w.heap.size + 1 ≠ w.heap.size; omega) _
      have ht1 := TB.turned HO.out KA.out (by unfold TD; decide) (fun h => h) (.inl ⟨by decide, by decide⟩) hgr0
      have hb1 := (HB2.out.trans (hbel.out.mono HB2.out.size)).grown hgr0 (Nat.le_trans HB2.out.size hbel.out.size) (fun q hq => Nat.le_of_eq (Option.some.inj hq))
      have HK1 := Lib.hid hk1
      have HK2 := Lib.hid hk2
      have HT1 := Lib.hid ht1
      have HB1 := Lib.hid hb1
      clear hgr0 hk1 hk2 ht1 hb1
      go_upto_region 8 with (fail)
      clear a0 a1 a2 a2f
      generalize World.setCell wr _ _ = w5 at *
      have a0 := (show Blk w5 w.heap.size 25 (batV ep b As k cs) from HK1.out).cell 0
      have a1 := (show Blk w5 w.heap.size 25 (batV ep b As k cs) from HK1.out).cell 1
      have a2 := (show Blk w5 w.heap.size 25 (batV ep b As k cs) from HK1.out).cell 2
      go_wp2_with (refine wpList_put_row rfl 25 (.tmp 2) (.tmp 21) rfl (w.heap.size + 1) (batV ep b As k cs) rfl rfl 25 _ HK2.out HSZ.out rfl (by simp [Value.oneCell']) ?_; intro w6 hblk hgr)
      try rw [Exit.noGoto_ret]
      have x0 := (show Blk w6 (w.heap.size + 1) 25 (batV ep b As k cs) from hblk).cell 0
      have x1 := (show Blk w6 (w.heap.size + 1) 25 (batV ep b As k cs) from hblk).cell 1
      have x2 := (show Blk w6 (w.heap.size + 1) 25 (batV ep b As k cs) from hblk).cell 2
      refine bodyPost_ret (v := .agg (batV ep b As k cs)) (by simp [results, Try.results31, go_sem, x0, x1, x2]) rfl ⟨As, cs, rfl, (TB.turned HT1.out HK2.out (by unfold TD; decide) (fun h => h) (.inl ⟨by decide, by decide⟩) hgr).mono HB2.out.size, HB1.out.grown hgr HB1.out.size (fun q hq => by have e' : w.heap.size + 1 = q := Option.some.inj hq; omega)⟩
    case pos =>
      have hd : decide ((k : Int) < (n : Int)) = true := by simp; omega
      have hkI : (0 : Int) ≤ (k : Int) := by omega
      have hkI2 : (k : Int) < (n : Int) := by omega
      have hzr := hbel.out.size
      have hsr := keepS HS2.out hbel.out
      obtain ⟨bo, off, x, A3, c3, B3, d3, rfl, hbD, hx, g0, g1, hrow, hdat⟩ := ent_at hsr.1 hkn
      obtain ⟨xL, xd⟩ := x
      simp only at g0 g1 hrow hdat
      obtain ⟨hb1, hb2, hb3⟩ := HE.out.2 _ (List.mem_of_getElem? hx)
      simp only at hb1 hb2 hb3
      have HT : Hid (es.take (k + 1) = es.take k ++ [(xL, xd)]) := by show _ = _; rw [List.take_add_one, hx]; rfl
      obtain ⟨xn, hxn⟩ : ∃ xn, xL.length = xn := ⟨_, rfl⟩
      obtain ⟨dn, hdn⟩ : ∃ dn, xd.length = dn := ⟨_, rfl⟩
      rw [hxn] at g0
      rw [hdn] at g1
      have hba := below1 wr (.cells (entV A3 xn c3 B3 dn d3) 45)
      have hdd : ∀ k, D k → k < (wr.alloc (.cells (entV A3 xn c3 B3 dn d3) 45)).heap.size := fun k hk => Nat.lt_of_lt_of_le (hsr.2 k hk) hba.size
      have hc := ecopy_any (Rp.sl_below hrow hba hsr.2) hdd (by omega) (fun x hx => Nat.le_trans (hb2 x hx) (by decide)) (Rp.sl_below hdat hba hsr.2) hdd hb3
      rw [hxn, hdn] at hc
      have HC := Lib.hid hc
      have HBA := Lib.hid (stepB hbel.out hba)
      have HK := Lib.hid (blk11 wr 45 (entV A3 xn c3 B3 dn d3))
      have HT4 := Lib.hid (TB.below htb.out hba)
      have HXN := Lib.hid hxn
      have HDN := Lib.hid hdn
      clear hrow hdat hx hbD hsr hba hdd hc hxn hdn hb1 hb2 hb3
      go_upto_region 5 with (fail)
      generalize World.alloc wr _ = w4 at *
      have v0 := (show Blk w4 wr.heap.size 45 (entV A3 xn c3 B3 dn d3) from HK.out).cell 0
      have v1 := (show Blk w4 wr.heap.size 45 (entV A3 xn c3 B3 dn d3) from HK.out).cell 1
      clear g0 g1
      go_wp2_with fail
      refine HC.out.mono ?_; rintro e w5 ⟨A5, c5, B5, d5, rfl, hl5, hd5, hb5⟩
      have hb6 := below1 w5 (.cells (entV A5 xn c5 B5 dn d5) 45)
      have HB46 := Lib.hid (stepB hb5 hb6)
      have HB6 := Lib.hid (stepB HBA.out HB46.out)
      obtain ⟨vals, rv, htv⟩ := HT4.out
      have HTV := Lib.hid htv
      have HOV := Lib.hid (htv.below HB46.out).1
      have HL6 := Lib.hid (OL.below hl5 hb6)
      have HD6 := Lib.hid (hd5.below hb6)
      have HSRC := Lib.hid (Src.blk (size := 2) (blk11 w5 45 (entV A5 xn c5 B5 dn d5)) rfl (by
        intro u hu
        simp only [List.mem_cons, List.not_mem_nil, or_false] at hu
        rcases hu with rfl | rfl <;> rfl))
      have HBS := Lib.hid HB6.out.size
      clear v0 v1 hb5 hb6 htv hl5 hd5
      go_wp2_with (at_builtin; refine wpList_app rfl (.tmp 13) (.tmp 16) _ rfl elemEnt (by rfl) HOV.out (by rfl) HSRC.out (by unfold maxLen; omega) (by omega) HBS.out ?_; intro A6 c6 w6 ho6 hg6 hat6
                   have HO6 := Lib.hid ho6
                   have HG6 := Lib.hid hg6
                   have HB7 := Lib.hid (HB6.out.grown hg6 HBS.out (fun q hq => (HOV.out.lt q hq).1))
                   clear ho6 hg6 hat6)
      have HP2 : Hid (TB (fun _ => False) w6 w2.heap.size A6 (k + 1) c6 (es.take (k + 1))) := by
        show TB _ _ _ _ _ _ _
        rw [HT.out]
        obtain ⟨rvE, q1, q2, q3⟩ := HL6.out
        have e1 := HXN.out
        have e2 := HDN.out
        subst e1; subst e2
        refine TBv.push (e := (xL, xd)) HTV.out HB46.out (fun k hk => hk.elim) HBA.out.size HO6.out HG6.out q1 (HD6.out.sl (TS := TD) (.inr rfl) _) (fun p y hy => ?_)
        obtain ⟨cs, hok, hc⟩ := q3 p y hy
        have hsz : rpLnk.size = 2 := by kernel_rfl
        rw [hsz] at hc
        exact ⟨cs, rpLnk.more hok (fun q hq => tb_more hq), hc⟩
      go_roundw
      case rel => exact ⟨k + 1, A6, c6, by omega, rfl, by go_num, HP2, HB7⟩
      case measure => simp [intOf]; omega
end
end Go.Proofs.Ytcbmnfjbmkpfiaa
