/- peek.threaded. -/
import Derived.Test.YtcbmnfjbmkpfiaaPkE
import Derived.IntWalk
namespace Go.Proofs.Ytcbmnfjbmkpfiaa
open Go.ChangeShapes Go.WideShapes Go.ChangeAt Go.RowKit
set_option linter.unusedVariables false
theorem size_allocK (w : World) (o : Obj) : (w.alloc o).heap.size = w.heap.size + 1 := by simp
theorem Row64.other {w w' : World} {base n c b0 : Nat} {A : Option Addr} {l : List Nat} {t : TypeId} {cs : Array Value} (h : Row64 w base A n c l) (hb : Blk w b0 t cs) (ht : t ≠ 22) (hg : w.grownBy w' (some b0)) : Row64 w' base A n c l := Row64.boxed h hb ht hg
theorem cell_keep {w : World} {p q : Addr} {u v : Value} (h : w.cell? q = some v) (hne : q.block ≠ p.block) : (w.setCell p u).cell? q = some v := by
  rw [World.cell?_of_block (w := w) (Below.heap_setCell w p u q.block hne)]; exact h
theorem TBb.put {w : World} {hi base n c g : Nat} {A : Option Addr} {es : List Ent} {D0 : Dom} {t : TypeId} {cs : Array Value} (h : TBb hi D0 w base A n c es) (hb : Blk w g t cs) (hn : ¬ D0 g) (ht : ¬ TD t) (h2 : t ≠ 45) (h3 : t ≠ 57 ∨ hi ≤ g) {a : Addr} (ha : a.block = g) (u : Value) : TBb hi D0 (w.setCell a u) base A n c es :=
  h.chg (F := fun k => k = g) ((Chg.refl _ w).setCell (.inl ha) u) (fun k hk _ => by
    subst hk
    refine ⟨hn, fun cs' t' h' => ?_⟩
    obtain rfl := blk_type hb h'
    exact ⟨ht, h2, h3⟩)
section
variable {A At : Option Addr} {n c ep b nt ct base tb hi m : Nat} {es : List Ent} {tl : List Lnk} {w : World}
/-- What peek.threaded gives. -/
def ThreadedIs (base tb ep b n hi : Nat) (w : World) (es : List Ent) (tl : List Lnk) (e : Ending) (w' : World) : Prop :=
  ∃ A' c' At' nt' ct', e = .returned (.tuple #[.agg (batV ep b A' n c'), .slice At' nt' ct']) ∧ TBb hi (fun _ => False) w' base A' n c' (thE b es tl n).1 ∧ OLk w' tb At' nt' ct' (thE b es tl n).2 ∧ Below base w w'
set_option maxRecDepth 100000 in
set_option maxHeartbeats 8000000 in
theorem threaded_any (htb : TBb hi (fun _ => False) w base A n c es) (hol : OLk w tb At nt ct tl) (hE : EBd es) (hT : TOk 1000 tl) (h1 : base ≤ hi) (h2 : hi ≤ tb) (h3 : tb ≤ w.heap.size) (hbn : b + n ≤ 4611686018427387904) (hn16 : n ≤ 16) (hL16 : ∀ e ∈ es, e.1.length ≤ 16) :
    Calls Try.prog 38 #[.agg (batV ep b A n c), .slice At nt ct] w (ThreadedIs base tb ep b n hi w es tl) := by
  have hb2 := below2 w (.cells (batV ep b A n c) 25) (.cells zB 25)
  have HB2 := Lib.hid (show Below base w _ from hb2.mono (by omega))
  have K1 := Lib.hid (blk21 w 25 25 (batV ep b A n c) zB)
  have K2 := Lib.hid (blk22 w 25 25 (batV ep b A n c) zB)
  have HT2 := Lib.hid (htb.below hb2)
  have HO2 := Lib.hid (OL.below hol hb2)
  have HN := Lib.hid htb.tb.len
  have HE := Lib.hid hE
  have HTO := Lib.hid hT
  have HL16 := Lib.hid hL16
  have hn1 : n ≤ 1000 := by omega
  have HBN := Lib.hid hbn
  have HSZ : Hid ((Try.prog.info? 25).map (·.size) = some 3) := by show _ = _; kernel_rfl
  have HW0 : Hid (w.heap.size < ((w.alloc (.cells (batV ep b A n c) 25)).alloc (.cells zB 25)).heap.size) := by show _ < _; simp only [size_allocK]; omega
  have HTB0 := Lib.hid h3
  have H12 : Hid (base ≤ hi ∧ hi ≤ tb) := ⟨h1, h2⟩
  clear htb hol hb2 hE hT h1 h2 h3 hbn hL16
  go_enter Try.func38, Try.ntmps38
  go_upto_region 1 with (fail)
  obtain ⟨gz, hgz⟩ : ∃ gz, gz = w.heap.size := ⟨_, rfl⟩
  rw [← hgz]
  rw [← hgz] at K1 K2 HW0 HTB0
  have HGZ := Lib.hid hgz
  clear hgz
  generalize World.alloc (World.alloc w _) _ = w2 at *
  have k2 := (show Blk w2 gz 25 (batV ep b A n c) from K1.out).cell 2
  go_wp2_with fail
  clear k2
  go_loopw [1, 15] (fun v1 v15 wr => ∃ (i nq : Nat) (Aq : Option Addr) (cq : Nat), i ≤ n ∧ v1 = .slice Aq nq cq ∧ v15 = .int .i64 (i : Int) ∧ Hid (TBb hi (fun _ => False) wr base A n c ((thE b es tl i).1 ++ es.drop i)) ∧ Hid (OLk wr tb Aq nq cq (thE b es tl i).2) ∧ Hid (Blk wr gz 25 (batV ep b A n c)) ∧ Hid (Blk wr (gz + 1) 25 zB) ∧ Hid (Below base w wr) ∧ Hid (gz + 1 < wr.heap.size)) (fun _ v15 _ => n - (intOf v15).toNat)
  case atStart => exact ⟨0, nt, At, ct, by omega, rfl, rfl, HT2.out, HO2.out, K1.out, K2.out, HB2.out, (show Blk w2 (gz + 1) _ _ from K2.out).lt⟩
  case round =>
    clear HT2 HO2 K1 K2 HB2 HW0
    obtain ⟨i, nq, Aq, cq, hi', rfl, rfl, htb, hol, hk1, hk2, hbel, hgz1⟩ := hrel
    by_cases hin : i < n
    case neg =>
      obtain rfl : i = n := by omega
      have hd : decide ((i : Int) < (i : Int)) = false := by simp
      have HT6 : Hid (TBb hi (fun _ => False) wr base A i c (thE b es tl i).1) := by
        have h := htb.out
        rw [List.drop_of_length_le (by have := HN.out; omega), List.append_nil] at h
        exact h
      have a0 := (show Blk wr gz 25 (batV ep b A i c) from hk1.out).cell 0
      have a1 := (show Blk wr gz 25 (batV ep b A i c) from hk1.out).cell 1
      have a2 := (show Blk wr gz 25 (batV ep b A i c) from hk1.out).cell 2
      have HBZ : Hid (base ≤ wr.heap.size) := by have := H12.out; have := HTB0.out; have := hgz1.out; show _ ≤ _; omega
      have HBG : Hid (base ≤ gz) := by have := H12.out; have := HTB0.out; show _ ≤ _; omega
      go_wp2_with (refine wpList_put_row rfl 25 (.tmp 4) (.tmp 54) rfl (gz + 1) (batV ep b A i c) rfl rfl 25 _ hk2.out HSZ.out rfl (by simp [Value.oneCell']) ?_; intro w6 hblk hgr)
      try rw [Exit.noGoto_ret]
      have x0 := (show Blk w6 (gz + 1) 25 (batV ep b A i c) from hblk).cell 0
      have x1 := (show Blk w6 (gz + 1) 25 (batV ep b A i c) from hblk).cell 1
      have x2 := (show Blk w6 (gz + 1) 25 (batV ep b A i c) from hblk).cell 2
      have hnl : (Value.slice Aq nq cq).ownBlock ≠ some (gz + 1) := fun e => by
        obtain ⟨vals, ho, _⟩ := hol.out
        obtain ⟨cs, hcs⟩ := own_type ho e
        exact absurd (blk_type hk2.out hcs) (by decide)
      have htb6 := HT6.out.chg (F := fun k => k = gz + 1) ((Chg.of_grown hgr).more (fun k _ hk => Option.some.inj hk)) (fun k hk _ => by
        subst hk
        refine ⟨fun h => h, fun cs' t' h' => ?_⟩
        obtain rfl := blk_type hk2.out h'
        exact ⟨by unfold TD; decide, by decide, .inl (by decide)⟩)
      refine bodyPost_ret (v := .tuple #[.agg (batV ep b A i c), .slice Aq nq cq]) (by simp [results, Try.results38, go_sem, x0, x1, x2]) rfl ⟨A, c, Aq, nq, cq, rfl, htb6, OLk.other hol.out hk2.out (by decide) hnl hgr, hbel.out.grown hgr HBZ.out (fun q hq => by have e' : gz + 1 = q := Option.some.inj hq; have := HBG.out; omega)⟩
    case pos =>
      have hd : decide ((i : Int) < (n : Int)) = true := by simp; omega
      have hiI : (0 : Int) ≤ (i : Int) := by omega
      have hiI2 : (i : Int) < (n : Int) := by omega
      obtain ⟨x, hx⟩ : ∃ x, es[i]? = some x := ⟨_, List.getElem?_eq_getElem (by have := HN.out; omega)⟩
      obtain ⟨xL, xd⟩ := x
      have hlen : (thE b es tl i).1.length = i := thE_len i (by have := HN.out; omega)
      have HLEN := Lib.hid hlen
      have htb1 := htb.out
      rw [drop_at hx] at htb1
      obtain ⟨gE, AL, cL, BL, dL, curE, rfl, hgE, hkE, cE0, cE1⟩ := TB.at htb1.tb (mid_at hlen)
      simp only at cE0 cE1
      obtain ⟨xn, hxn⟩ : ∃ xn, xL.length = xn := ⟨_, rfl⟩
      obtain ⟨dn, hdn⟩ : ∃ dn, xd.length = dn := ⟨_, rfl⟩
      rw [hxn] at cE0
      rw [hdn] at cE1
      have hx16 : xn ≤ 16 := by rw [← hxn]; exact HL16.out _ (List.mem_of_getElem? hx)
      have HXN := Lib.hid hxn
      have HX := Lib.hid hx
      obtain ⟨p, hp⟩ : ∃ p, p = b + i := ⟨_, rfl⟩
      have hp62 : p ≤ 4611686018427387904 := by have := HBN.out; omega
      have hpw : IntKind.u64.wrap ((b : Int) + (i : Int)) = (p : Int) := by rw [IntWalk.u64_in _ (by have := HBN.out; omega)]; omega
      have hiw : IntKind.u64.wrap (i : Int) = (i : Int) := IntWalk.u64_in _ (by omega)
      have HP := Lib.hid hp
      have HPW := Lib.hid hpw
      have HIW := Lib.hid hiw
      obtain ⟨T0, hT0⟩ : ∃ T0, T0 = (thE b es tl i).2 := ⟨_, rfl⟩
      have HTOK : Hid (TOk (1000 + i * 16) T0) := by
        show TOk _ _
        rw [hT0]; exact thE_ok HTO.out HL16.out i
      have HOL0 := hol.out
      rw [← hT0] at HOL0
      have HSUC : Hid (thE b es tl (i + 1) = ((thE b es tl i).1 ++ [((thS p xL T0 xL.length).1, xd)], (thS p xL T0 xL.length).2)) := by
        show _ = _
        rw [thE_succ hx, hT0, hp]
      have HE0 := Lib.hid (show T0 = _ from hT0)
      obtain ⟨gb, hgb⟩ : ∃ gb, gb = wr.heap.size := ⟨_, rfl⟩
      have hba := below1 wr (.cells (entV AL xn cL BL dn dL) 45)
      have HK := Lib.hid (blk11 wr 45 (entV AL xn cL BL dn dL))
      have HT5 := Lib.hid (TBb.below htb1 hba)
      have HO5 := Lib.hid (OL.below HOL0 hba)
      have HK1 := Lib.hid (keepB (show Blk wr gz 25 (batV ep b (some ⟨gE, 0, none⟩) n c) from hk1.out) hba)
      have HK2 := Lib.hid (keepB (show Blk wr (gz + 1) 25 zB from hk2.out) hba)
      have HC5 := Lib.hid ((hba.cell (p := ⟨gE, i * 2, none⟩) hkE.lt).trans cE0)
      have HB5 := Lib.hid (show Below base w _ from hbel.out.trans (hba.mono (by have := H12.out; have := HTB0.out; have := hgz1.out; omega)))
      have HGB : Hid (gz + 1 < gb) := by show _ < _; rw [hgb]; exact hgz1.out
      have cE0' : wr.cell? ⟨gE, 0 + i * 2, none⟩ = some (.slice AL xn cL) := by rw [Nat.zero_add]; exact cE0
      have cE1' : wr.cell? ⟨gE, 0 + i * 2 + 1, none⟩ = some (.slice BL dn dL) := by rw [Nat.zero_add]; exact cE1
      rw [← hgb] at HK
      clear hx hlen htb1 hxn hdn hba hkE htb hk1 hk2 hbel hol hp hpw hiw hT0 HOL0 hgz1
      go_upto_region 4 with (fail)
      rw [← hgb]
      clear cE0 cE1 cE0' cE1' hgb
      generalize World.alloc wr _ = w5 at *
      have v0 := (show Blk w5 gb 45 (entV AL xn cL BL dn dL) from HK.out).cell 0
      go_wp2_with fail
      clear v0
      obtain ⟨wo, hwo⟩ : ∃ wo, wo = wr := ⟨_, rfl⟩
      subst hwo
      go_loopw [1, 23] (fun v1 v23 wq => ∃ (k nq : Nat) (Aq : Option Addr) (cq : Nat), k ≤ xn ∧ v1 = .slice Aq nq cq ∧ v23 = .int .i64 (k : Int) ∧ Hid (TBb hi (fun _ => False) wq base (some ⟨gE, 0, none⟩) n c ((thE b es tl i).1 ++ ([((thS p xL T0 k).1 ++ xL.drop k, xd)] ++ es.drop (i + 1)))) ∧ Hid (OLk wq tb Aq nq cq (thS p xL T0 k).2) ∧ Hid (Blk wq gb 45 (entV AL xn cL BL dn dL)) ∧ Hid (Blk wq gz 25 (batV ep b (some ⟨gE, 0, none⟩) n c)) ∧ Hid (Blk wq (gz + 1) 25 zB) ∧ Hid (wq.cell? ⟨gE, i * 2, none⟩ = some (.slice AL xn cL)) ∧ Hid (Below base w wq)) (fun _ v23 _ => xn - (intOf v23).toNat)
      case atStart => exact ⟨0, nq, Aq, cq, by omega, rfl, rfl, HT5.out, HO5.out, HK.out, HK1.out, HK2.out, HC5.out, HB5.out⟩
      case round =>
        clear HT5 HO5 HK HK1 HK2 HC5 HB5
        obtain ⟨k, nq, Aq, cq, hk, rfl, rfl, htq, hol, hkb, hk1, hk2, hcq, hbel⟩ := hrel
        have hbz : Hid (gz + 1 < wr.heap.size) := (show Blk wr (gz + 1) 25 zB from hk2.out).lt
        by_cases hkn : k < xn
        case neg =>
          obtain rfl : k = xn := by omega
          have hd2 : decide ((k : Int) < (k : Int)) = false := by simp
          have HT6 : Hid (TBb hi (fun _ => False) wr base (some ⟨gE, 0, none⟩) n c ((thE b es tl (i + 1)).1 ++ es.drop (i + 1))) := by
            have h := htq.out
            rw [List.drop_of_length_le (l := xL) (by have := HXN.out; omega), List.append_nil, ← List.append_assoc] at h
            show TBb _ _ _ _ _ _ _ _
            rw [HSUC.out, HXN.out]; exact h
          have HO6 : Hid (OLk wr tb Aq nq cq (thE b es tl (i + 1)).2) := by
            show OLk _ _ _ _ _ _
            rw [HSUC.out, HXN.out]; exact hol.out
          go_wp2_with fail
          go_roundw
          case rel => exact ⟨i + 1, nq, Aq, cq, by omega, rfl, by go_num, HT6, HO6, hk1, hk2, hbel, hbz⟩
          case measure => simp [intOf]; omega
        case pos =>
          have hd2 : decide ((k : Int) < (xn : Int)) = true := by simp; omega
          have hkI : (0 : Int) ≤ (k : Int) := by omega
          have hkI2 : (k : Int) < (xn : Int) := by omega
          obtain ⟨y, hy⟩ : ∃ y, xL[k]? = some y := ⟨_, List.getElem?_eq_getElem (by have := HXN.out; omega)⟩
          obtain ⟨ys, yl⟩ := y
          have hpl : (thS p xL T0 k).1.length = k := thS_len k (by have := HXN.out; omega)
          have hLk : ((thS p xL T0 k).1 ++ xL.drop k)[k]? = some (ys, yl) := by rw [drop_at hy]; exact mid_at hpl
          obtain ⟨gE2, cw, g, _, hA2, hgE2l, q0, hgb2, hgl, hghi, hgne, hfr, r0, r1, ⟨A9, n9, c9, rfl⟩, hy64, hcur, hturn⟩ := TBb.turn htq.out (fun k hk => hk.elim) (mid_at HLEN.out) hLk
          simp only at r0 hy64
          injection hA2 with hA2
          injection hA2 with hA2
          subst hA2
          have hq0 := hcq.out
          rw [q0] at hq0
          injection hq0 with hq0
          injection hq0 with e1 e2 e3
          subst e1; subst e3
          obtain ⟨curg, hbg⟩ := hcur
          obtain ⟨T, hT⟩ : ∃ T, T = (thS p xL T0 k).2 := ⟨_, rfl⟩
          obtain ⟨fl, hfl⟩ : ∃ fl, fl = (fnd T ys).2.2 := ⟨_, rfl⟩
          obtain ⟨fs, hfs⟩ : ∃ fs, fs = (fnd T ys).2.1 := ⟨_, rfl⟩
          obtain ⟨fb, hfb⟩ : ∃ fb, fb = (fnd T ys).1 := ⟨_, rfl⟩
          have HFL := Lib.hid hfl
          have HFS := Lib.hid hfs
          have HFB := Lib.hid hfb
          have HSU : Hid (thS p xL T0 (k + 1) = ((thS p xL T0 k).1 ++ [(ys, fl)], withL T (extL (ys, fl) p))) := by show _ = _; rw [thS_succ hy, hfl, hT]
          have hTok : TOk (1000 + i * 16 + k) T := by rw [hT]; exact thS_ok HTOK.out k
          have HTK := Lib.hid hTok
          have hflen : fl.length ≤ 1000 := by rw [hfl]; exact hTok.fnd ys
          have hol1 : OLk wr tb Aq nq cq T := by rw [hT]; exact hol.out
          have hnq : nq ≤ 2000 := by
            have h1 := hol1.len
            have h2 := hTok.1
            omega
          have HSET : Hid (((thS p xL T0 k).1 ++ xL.drop k).set k (ys, fl) = (thS p xL T0 (k + 1)).1 ++ xL.drop (k + 1)) := by
            show _ = _
            rw [drop_at hy, mid_set hpl, HSU.out, List.append_assoc]
          have hown : ∀ q, (Value.slice Aq nq cq).ownBlock = some q → tb ≤ q ∧ q < wr.heap.size := fun q hq => OLk.lt hol1 hq
          have HOWN := Lib.hid hown
          have HTURN := Lib.hid hturn
          have HBG := Lib.hid hbg
          obtain ⟨gx, hgx⟩ : ∃ gx, gx = wr.heap.size := ⟨_, rfl⟩
          have HGX := Lib.hid hgx
          have HR0 := Lib.hid r0
          have HR1 := Lib.hid r1
          have HGN := Lib.hid (show g < wr.heap.size ∧ base ≤ g ∧ g < hi ∧ g ≠ gE from ⟨hgl, hgb2, hghi, hgne⟩)
          have HGEL := Lib.hid hgE2l
          -- the copy of the link
          have hba := below1 wr (.cells #[.int .u64 (ys : Int), .slice A9 n9 c9] 57)
          have HBA := Lib.hid hba
          have HKX := Lib.hid (blk11 wr 57 #[.int .u64 (ys : Int), .slice A9 n9 c9])
          have HO1 := Lib.hid (OL.below hol1 hba)
          have r0' : wr.cell? ⟨g, 0 + k * 2, none⟩ = some (.int .u64 (ys : Int)) := by rw [Nat.zero_add]; exact r0
          have r1' : wr.cell? ⟨g, 0 + k * 2 + 1, none⟩ = some (.slice A9 n9 c9) := by rw [Nat.zero_add]; exact r1
          rw [← hgx] at HKX
          clear hy hpl hLk hturn q0 hbg hT hfl hfs hfb hTok hol1 hown hgx hba hfr hgE2l hgb2 hgl hghi hgne e2
          go_upto_region 7 with (fail)
          rw [← HGX.out]
          clear r0 r1 r0' r1'
          generalize World.alloc wr _ = w6 at *
          have x0 := (show Blk w6 gx 57 #[.int .u64 (ys : Int), .slice A9 n9 c9] from HKX.out).cell 0
          have HF : Hid (Calls Try.prog 47 #[.slice Aq nq cq, .int .u64 (ys : Int)] w6 fun e w' => ∃ (A' : Option Addr) (n' c' : Nat), e = .returned (.tuple #[.agg (lkV fs A' n' c'), .bool fb]) ∧ Row64 w' w6.heap.size A' n' c' fl ∧ Below w6.heap.size w6 w') := by
            have h := find_any (id := ys) (OL.sl HO1.out) (fun k hk => hk) (by omega) (fun x hx => Nat.le_trans (HTK.out.2 x hx) (by decide)) hy64
            refine h.mono fun e w' hh => ?_
            obtain ⟨A', n', c', he, hr, hb⟩ := hh
            exact ⟨A', n', c', by rw [he, HFS.out, HFB.out], by rw [HFL.out]; exact hr, hb⟩
          go_upto_region 8 with
            (go_at_call 47
             refine HF.out.mono ?_
             rintro e w7 ⟨A5, fn, c5, rfl, hr5, hb5⟩
             have hb6 := below1 w7 (.cells (lkV fs A5 fn c5) 57)
             have HB67 := Lib.hid (stepB hb5 hb6)
             have HR8 := Lib.hid (hr5.below hb6)
             have HKT := Lib.hid (blk11 w7 57 (lkV fs A5 fn c5))
             have HZ7 := Lib.hid hb5.size
             clear hr5 hb5 hb6 x0)
          obtain ⟨gt, hgt⟩ : ∃ gt, gt = w7.heap.size := ⟨_, rfl⟩
          rw [← hgt]
          rw [← hgt] at HKT
          clear hgt
          generalize World.alloc w7 _ = w8 at *
          have HB8 := Lib.hid (stepB HBA.out HB67.out)
          have HKX8 := Lib.hid (keepB (show Blk w6 gx 57 #[.int .u64 (ys : Int), .slice A9 n9 c9] from HKX.out) HB67.out)
          have HO8 := Lib.hid (OL.below HO1.out HB67.out)
          have t1 := (show Blk w8 gt 57 (lkV fs A5 fn c5) from HKT.out).cell 1
          have x1 := (show Blk w8 gx 57 #[.int .u64 (ys : Int), .slice A9 n9 c9] from HKX8.out).cell 1
          have x1f := (show Blk w8 gx 57 #[.int .u64 (ys : Int), .slice A9 n9 c9] from HKX8.out).frozen 1
          have HGXL := Lib.hid (show Blk w8 gx 57 #[.int .u64 (ys : Int), .slice A9 n9 c9] from HKX8.out).lt
          -- the copy's Backs
          have hgr9 := grown_setCell w8 ⟨gx, 1, none⟩ (.slice A5 fn c5)
          have HKX9 : Hid (Blk (w8.setCell ⟨gx, 1, none⟩ (.slice A5 fn c5)) gx 57 (lkV ys A5 fn c5)) := (show Blk w8 gx 57 #[.int .u64 (ys : Int), .slice A9 n9 c9] from HKX8.out).put 1 _
          have HB9 := Lib.hid (HB8.out.setCell (p := ⟨gx, 1, none⟩) (by have := HGX.out; show wr.heap.size ≤ gx; omega) (.slice A5 fn c5))
          have HR9 := Lib.hid (Row64.other HR8.out HKX8.out (by decide) hgr9)
          have HO9 := Lib.hid (OLk.other HO8.out HKX8.out (by decide) (fun e => by have := (HOWN.out gx e).2; have := HGX.out; omega) hgr9)
          clear hgr9
          go_upto_region 9 with (fail)
          clear t1 x1 x1f
          generalize w8.setCell ⟨gx, 1, none⟩ (.slice A5 fn c5) = w9 at *
          have HBG9 := Lib.hid (keepB (show Blk wr g 57 curg from HBG.out) HB9.out)
          have b0 := (keepB (show Blk wr gb 45 (entV (some ⟨g, 0, none⟩) xn cw BL dn dL) from hkb.out) HB9.out).cell 0
          have x0 := (show Blk w9 gx 57 (lkV ys A5 fn c5) from HKX9.out).cell 0
          have x1 := (show Blk w9 gx 57 (lkV ys A5 fn c5) from HKX9.out).cell 1
          have r0 := (HB9.out.cell (p := ⟨g, k * 2, none⟩) HGN.out.1).trans HR0.out
          have r1 := (HB9.out.cell (p := ⟨g, k * 2 + 1, none⟩) HGN.out.1).trans HR1.out
          have rf0 := (show Blk w9 g 57 curg from HBG9.out).frozen (k * 2)
          have rf1 := (show Blk w9 g 57 curg from HBG9.out).frozen (k * 2 + 1)
          have r0' : w9.cell? ⟨g, 0 + k * 2, none⟩ = some (.int .u64 (ys : Int)) := by rw [Nat.zero_add]; exact r0
          have r1' : w9.cell? ⟨g, 0 + k * 2 + 1, none⟩ = some (.slice A9 n9 c9) := by rw [Nat.zero_add]; exact r1
          have rf0' : w9.frozen? ⟨g, 0 + k * 2, none⟩ = false := by rw [Nat.zero_add]; exact rf0
          have rf1' : w9.frozen? ⟨g, 0 + k * 2 + 1, none⟩ = false := by rw [Nat.zero_add]; exact rf1
          have HSELF : Hid (w9.setCell ⟨g, k * 2, none⟩ (.int .u64 (ys : Int)) = w9) := setCell_self HBG9.out r0
          have HTB10 := Lib.hid (HTURN.out w9 A5 fn c5 fl HB9.out (HR9.out.sl (TS := TD) (.inl rfl) _))
          have hgr10 := grown_setCell w9 ⟨g, k * 2 + 1, none⟩ (.slice A5 fn c5)
          have HO10 := Lib.hid (OLk.boxed HO9.out HBG9.out (by have := HGN.out; have := H12.out; omega) hgr10)
          have HR10 := Lib.hid (Row64.other HR9.out HBG9.out (by decide) hgr10)
          have hfar : ∀ {q : Nat} {t : TypeId} {cs : Array Value}, Blk wr q t cs → q ≠ g → Blk (w9.setCell ⟨g, k * 2 + 1, none⟩ (.slice A5 fn c5)) q t cs := fun hb hne => (keepB hb HB9.out).far (p := ⟨g, k * 2 + 1, none⟩) hne _
          have HKB10 := Lib.hid (hfar hkb.out (fun e => by subst e; exact absurd (blk_type HBG.out hkb.out) (by decide)))
          have HK110 := Lib.hid (hfar hk1.out (fun e => by subst e; exact absurd (blk_type HBG.out hk1.out) (by decide)))
          have HK210 := Lib.hid (hfar hk2.out (fun e => by have e' : g = gz + 1 := e.symm; subst e'; exact absurd (blk_type HBG.out hk2.out) (by decide)))
          have HKX10 := Lib.hid ((show Blk w9 gx 57 (lkV ys A5 fn c5) from HKX9.out).far (p := ⟨g, k * 2 + 1, none⟩) (by have := HGN.out; have := HGX.out; show gx ≠ g; omega) (.slice A5 fn c5))
          have HC10 : Hid ((w9.setCell ⟨g, k * 2 + 1, none⟩ (.slice A5 fn c5)).cell? ⟨gE, i * 2, none⟩ = some (.slice (some ⟨g, 0, none⟩) xn cw)) := cell_keep ((HB9.out.cell (p := ⟨gE, i * 2, none⟩) HGEL.out).trans hcq.out) (fun e => HGN.out.2.2.2 e.symm)
          have HBW : Hid (base ≤ wr.heap.size) := by have := H12.out; have := HTB0.out; have := hbz.out; show _ ≤ _; omega
          have HB10 := Lib.hid ((hbel.out.trans (HB9.out.mono HBW.out)).setCell (p := ⟨g, k * 2 + 1, none⟩) (by have := HGN.out; show base ≤ g; omega) (.slice A5 fn c5))
          have HZ10 : Hid (wr.heap.size ≤ (w9.setCell ⟨g, k * 2 + 1, none⟩ (.slice A5 fn c5)).heap.size) := Nat.le_trans HB9.out.size (by simp [World.setCell])
          clear hgr10 hfar
          go_upto_region 10 with (fail)
          rw [HSELF.out]
          clear b0 x0 x1 r0 r1 rf0 rf1 r0' r1' rf0' rf1'
          generalize w9.setCell ⟨g, k * 2 + 1, none⟩ (.slice A5 fn c5) = w10 at *
          have x0 := (show Blk w10 gx 57 (lkV ys A5 fn c5) from HKX10.out).cell 0
          have x1 := (show Blk w10 gx 57 (lkV ys A5 fn c5) from HKX10.out).cell 1
          have z1 := (show Blk w10 gz 25 (batV ep b (some ⟨gE, 0, none⟩) n c) from HK110.out).cell 1
          have hfn : fn ≤ 1000 := by have := HR10.out.len; omega
          have HX := Lib.hid (extend_any (s := ys) (p := p) HR10.out.rd (fun k hk => hk) (by omega) (by omega))
          have hpw := HPW.out
          have hiw := HIW.out
          have HHY := Lib.hid hy64
          go_wp2_with
            (first
             | (go_at_call 50
                refine HX.out.mono ?_
                rintro e w11 ⟨A6, n6, c6, rfl, hr11, hb11⟩
                have HB11 := Lib.hid hb11
                have HR11 := Lib.hid hr11
                have HN6 : Hid (n6 ≤ 1000000) := by
                  show _ ≤ _
                  have h1 := hr11.len
                  have h2 := extL_len (ys, fl) p
                  omega
                have HWT := Lib.hid (with_any (s := ys) (OL.sl (OL.below HO10.out hb11)) (fun k hk => hk) (by omega) (fun x hx => Nat.le_trans (HTK.out.2 x hx) (by decide)) hr11.rd (fun k hk => hk) HN6.out HHY.out)
                clear hb11 hr11 x0 x1 z1 hpw hiw)
             | (go_at_call 49
                refine HWT.out.mono ?_
                rintro e w12 ⟨A7, n7, c7, rfl, ho12, hb12⟩
                have HB12 := Lib.hid (stepB HB11.out hb12)
                have HO12 := Lib.hid (OL.mono ho12 (show tb ≤ w11.heap.size by have := HB11.out.size; have := HZ10.out; have := HTB0.out; have := hbz.out; omega))
                clear ho12 hb12))
          have HT12 : Hid (TBb hi (fun _ => False) w12 base (some ⟨gE, 0, none⟩) n c ((thE b es tl i).1 ++ ([((thS p xL T0 (k + 1)).1 ++ xL.drop (k + 1), xd)] ++ es.drop (i + 1)))) := by
            have h := HTB10.out.below HB12.out
            rw [mid_set HLEN.out] at h
            rw [HSET.out] at h
            exact h
          have HO13 : Hid (OLk w12 tb A7 n7 c7 (thS p xL T0 (k + 1)).2) := by
            show OLk _ _ _ _ _ _
            rw [HSU.out]; exact HO12.out
          have HKB12 := Lib.hid (keepB HKB10.out HB12.out)
          have HK112 := Lib.hid (keepB HK110.out HB12.out)
          have HK212 := Lib.hid (keepB HK210.out HB12.out)
          have HC12 := Lib.hid ((HB12.out.cell (p := ⟨gE, i * 2, none⟩) (by have := HGEL.out; have := HZ10.out; show gE < _; omega)).trans HC10.out)
          have HB13 := Lib.hid (show Below base w w12 from HB10.out.trans (HB12.out.mono (by have := HBW.out; have := HZ10.out; omega)))
          go_roundw
          case rel => exact ⟨k + 1, n7, A7, c7, by omega, rfl, by go_num, HT12, HO13, HKB12, HK112, HK212, HC12, HB13⟩
          case measure => simp [intOf]; omega
end
end Go.Proofs.Ytcbmnfjbmkpfiaa
