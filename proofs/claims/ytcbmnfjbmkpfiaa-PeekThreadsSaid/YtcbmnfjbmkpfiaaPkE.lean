/- peek.bare. -/
import Derived.Test.YtcbmnfjbmkpfiaaPkD
namespace Go.Proofs.Ytcbmnfjbmkpfiaa
open Go.ChangeShapes Go.WideShapes Go.ChangeAt Go.RowKit
set_option linter.unusedVariables false
theorem drop_at {α : Type} {l : List α} {k : Nat} {x : α} (h : l[k]? = some x) : l.drop k = [x] ++ l.drop (k + 1) := by
  have hk := (List.getElem?_eq_some_iff.1 h)
  obtain ⟨h1, h2⟩ := hk
  rw [List.drop_eq_getElem_cons h1, h2]; rfl
theorem mid_at {α : Type} {a b : List α} {x : α} {n : Nat} (h : a.length = n) : (a ++ ([x] ++ b))[n]? = some x := by
  rw [List.getElem?_append_right (by omega), h, Nat.sub_self]; rfl
theorem mid_set {α : Type} {a b : List α} {x y : α} {n : Nat} (h : a.length = n) : (a ++ ([x] ++ b)).set n y = a ++ ([y] ++ b) := by
  rw [List.set_append_right _ _ (by omega), h, Nat.sub_self]; rfl
def nilB (x : Lnk) : Lnk := (x.1, [])
theorem bare_eq (e : Ent) : bareE e = (e.1.map nilB, e.2) := rfl
section
variable {D : Dom} {A : Option Addr} {n c ep b : Nat} {es : List Ent} {w : World}
/-- What a call of the peek's gives that makes a batch. -/
def BatchIs (w : World) (ep b n : Nat) (es : List Ent) (e : Ending) (w' : World) : Prop :=
  ∃ A' c', e = .returned (.agg (batV ep b A' n c')) ∧ TB (fun _ => False) w' w.heap.size A' n c' es ∧ Below w.heap.size w w'
set_option maxRecDepth 100000 in
set_option maxHeartbeats 4000000 in
theorem bare_any (hs : rpEnt.sl w D A n c es) (hD : ∀ k, D k → k < w.heap.size) (hE : EBd es) :
    Calls Try.prog 36 #[.agg (batV ep b A n c)] w (BatchIs w ep b n (bareL es)) := by
  have hb2 := below2 w (.cells (batV ep b A n c) 25) (.cells zB 25)
  have HB2 := Lib.hid hb2
  have K1 := Lib.hid (blk21 w 25 25 (batV ep b A n c) zB)
  have K2 := Lib.hid (blk22 w 25 25 (batV ep b A n c) zB)
  have HS2 := Lib.hid (keepS (show Sl rpEnt w D A n c es from ⟨hs, hD⟩) hb2)
  have HN := Lib.hid (Rp.sl_len hs).1
  have HE := Lib.hid hE
  have hn1 : n ≤ 1000 := by rw [← HN.out]; exact hE.1
  have HSZ : Hid ((Try.prog.info? 25).map (·.size) = some 3) := by show _ = _; kernel_rfl
  clear hs hD hb2 hE
  go_enter Try.func36, Try.ntmps36
  go_upto_region 1 with (fail)
  generalize World.alloc (World.alloc w _) _ = w2 at *
  have k0 := (show Blk w2 w.heap.size 25 (batV ep b A n c) from K1.out).cell 0
  have k1 := (show Blk w2 w.heap.size 25 (batV ep b A n c) from K1.out).cell 1
  have k2 := (show Blk w2 w.heap.size 25 (batV ep b A n c) from K1.out).cell 2
  have HC := Lib.hid (bcopy_any (ep := ep) (b := b) HS2.out.1 HS2.out.2 HE.out)
  go_upto_region 2 with
    (go_at_call 31
     refine HC.out.mono ?_
     rintro e w3 ⟨A3, c3, rfl, ht3, hb3⟩
     have hba := below1 w3 (.cells (batV ep b A3 n c3) 25)
     have HB4 := Lib.hid (stepB hb3 hba)
     have HT4 := Lib.hid (TB.below ht3 hba)
     have K4 := Lib.hid (blk11 w3 25 (batV ep b A3 n c3))
     have KR4 := Lib.hid (keepB (show Blk w2 (w.heap.size + 1) 25 zB from K2.out) (stepB hb3 hba))
     have HZ3 := Lib.hid hb3.size
     clear ht3 hb3 hba k0 k1 k2)
  obtain ⟨go, hgo⟩ : ∃ go, go = w3.heap.size := ⟨_, rfl⟩
  rw [← hgo] at K4 ⊢
  have HGO : Hid (w2.heap.size ≤ go) := by show _ ≤ _; rw [hgo]; exact HZ3.out
  clear hgo
  generalize World.alloc w3 _ = w4 at *
  have k2 := (show Blk w4 go 25 (batV ep b A3 n c3) from K4.out).cell 2
  go_wp2_with fail
  clear k2
  go_loopw [12] (fun v12 wr => ∃ i : Nat, i ≤ n ∧ v12 = .int .i64 (i : Int) ∧ Hid (TB (fun _ => False) wr w2.heap.size A3 n c3 (bareL (es.take i) ++ es.drop i)) ∧ Hid (Blk wr go 25 (batV ep b A3 n c3)) ∧ Hid (Blk wr (w.heap.size + 1) 25 zB) ∧ Hid (Below w2.heap.size w2 wr)) (fun v12 _ => n - (intOf v12).toNat)
  case atStart => exact ⟨0, by omega, rfl, HT4.out, K4.out, KR4.out, HB4.out⟩
  case round =>
    clear HT4 K4 KR4 HB4
    obtain ⟨i, hi, rfl, htb, hko, hkr, hbel⟩ := hrel
    by_cases hin : i < n
    case neg =>
      obtain rfl : i = n := by omega
      have hd : decide ((i : Int) < (i : Int)) = false := by simp
      have HO : Hid (TB (fun _ => False) wr w2.heap.size A3 i c3 (bareL es)) := by
        have h := htb.out
        rw [List.take_of_length_le (by have := HN.out; omega), List.drop_of_length_le (by have := HN.out; omega), List.append_nil] at h
        exact h
      have a0 := (show Blk wr go 25 (batV ep b A3 i c3) from hko.out).cell 0
      have a1 := (show Blk wr go 25 (batV ep b A3 i c3) from hko.out).cell 1
      have a2 := (show Blk wr go 25 (batV ep b A3 i c3) from hko.out).cell 2
      have HBZ := Lib.hid (stepB HB2.out hbel.out)
      go_wp2_with (refine wpList_put_row rfl 25 (.tmp 2) (.tmp 29) rfl (w.heap.size + 1) (batV ep b A3 i c3) rfl rfl 25 _ hkr.out HSZ.out rfl (by simp [Value.oneCell']) ?_; intro w6 hblk hgr)
      try rw [Exit.noGoto_ret]
      have x0 := (show Blk w6 (w.heap.size + 1) 25 (batV ep b A3 i c3) from hblk).cell 0
      have x1 := (show Blk w6 (w.heap.size + 1) 25 (batV ep b A3 i c3) from hblk).cell 1
      have x2 := (show Blk w6 (w.heap.size + 1) 25 (batV ep b A3 i c3) from hblk).cell 2
      refine bodyPost_ret (v := .agg (batV ep b A3 i c3)) (by simp [results, Try.results36, go_sem, x0, x1, x2]) rfl ⟨A3, c3, rfl, (TB.turned HO.out hkr.out (by unfold TD; decide) (fun h => h) (.inl ⟨by decide, by decide⟩) hgr).mono HB2.out.size, HBZ.out.grown hgr HBZ.out.size (fun q hq => by have e' : w.heap.size + 1 = q := Option.some.inj hq; omega)⟩
    case pos =>
      have hd : decide ((i : Int) < (n : Int)) = true := by simp; omega
      have hiI : (0 : Int) ≤ (i : Int) := by omega
      have hiI2 : (i : Int) < (n : Int) := by omega
      obtain ⟨x, hx⟩ : ∃ x, es[i]? = some x := ⟨_, List.getElem?_eq_getElem (by have := HN.out; omega)⟩
      obtain ⟨xL, xd⟩ := x
      have hlen : (bareL (es.take i)).length = i := by unfold bareL; rw [List.length_map, List.length_take]; have := HN.out; omega
      have HLEN := Lib.hid hlen
      have htb1 := htb.out
      rw [drop_at hx] at htb1
      obtain ⟨gE, AL, cL, BL, dL, curE, rfl, hgE, hkE, cE0, cE1⟩ := TB.at htb1 (mid_at hlen)
      simp only at cE0 cE1
      obtain ⟨xn, hxn⟩ : ∃ xn, xL.length = xn := ⟨_, rfl⟩
      obtain ⟨dn, hdn⟩ : ∃ dn, xd.length = dn := ⟨_, rfl⟩
      rw [hxn] at cE0
      rw [hdn] at cE1
      have hx1000 : xn ≤ 1000 := by rw [← hxn]; exact (HE.out.2 _ (List.mem_of_getElem? hx)).1
      have HXN := Lib.hid hxn
      have HTN : Hid (bareL (es.take (i + 1)) = bareL (es.take i) ++ [(xL.map nilB, xd)]) := by
        show _ = _
        rw [List.take_add_one, hx]
        unfold bareL
        rw [List.map_append]; rfl
      obtain ⟨gb, hgb⟩ : ∃ gb, gb = wr.heap.size := ⟨_, rfl⟩
      have hba := below1 wr (.cells (entV AL xn cL BL dn dL) 45)
      have HK := Lib.hid (blk11 wr 45 (entV AL xn cL BL dn dL))
      have HT5 := Lib.hid (TB.below htb1 hba)
      have HKO5 := Lib.hid (keepB (show Blk wr go 25 (batV ep b (some ⟨gE, 0, none⟩) n c3) from hko.out) hba)
      have HKR5 := Lib.hid (keepB (show Blk wr (w.heap.size + 1) 25 zB from hkr.out) hba)
      have HE5 := Lib.hid (keepB hkE hba)
      have HC5 := Lib.hid ((hba.cell (p := ⟨gE, i * 2, none⟩) hkE.lt).trans cE0)
      have HB5 := Lib.hid (stepB hbel.out hba)
      have hgbz : w2.heap.size ≤ gb := by rw [hgb]; exact hbel.out.size
      have cE0' : wr.cell? ⟨gE, 0 + i * 2, none⟩ = some (.slice AL xn cL) := by rw [Nat.zero_add]; exact cE0
      have cE1' : wr.cell? ⟨gE, 0 + i * 2 + 1, none⟩ = some (.slice BL dn dL) := by rw [Nat.zero_add]; exact cE1
      rw [← hgb] at HK
      clear hx hlen htb1 hxn hdn hba hkE htb hko hkr hbel
      go_upto_region 5 with (fail)
      rw [← hgb]
      clear cE0 cE1 cE0' cE1' hgb
      generalize World.alloc wr _ = w5 at *
      have v0 := (show Blk w5 gb 45 (entV AL xn cL BL dn dL) from HK.out).cell 0
      go_wp2_with fail
      clear v0
      obtain ⟨wo, hwo⟩ : ∃ wo, wo = wr := ⟨_, rfl⟩
      subst hwo
      go_loopw [19] (fun v19 wq => ∃ k : Nat, k ≤ xn ∧ v19 = .int .i64 (k : Int) ∧ Hid (TB (fun _ => False) wq w2.heap.size (some ⟨gE, 0, none⟩) n c3 (bareL (es.take i) ++ ([((xL.take k).map nilB ++ xL.drop k, xd)] ++ es.drop (i + 1)))) ∧ Hid (Blk wq gb 45 (entV AL xn cL BL dn dL)) ∧ Hid (Blk wq go 25 (batV ep b (some ⟨gE, 0, none⟩) n c3)) ∧ Hid (Blk wq (w.heap.size + 1) 25 zB) ∧ Hid (wq.cell? ⟨gE, i * 2, none⟩ = some (.slice AL xn cL)) ∧ Hid (Below w2.heap.size w2 wq)) (fun v19 _ => xn - (intOf v19).toNat)
      case atStart => exact ⟨0, by omega, rfl, HT5.out, HK.out, HKO5.out, HKR5.out, HC5.out, HB5.out⟩
      case round =>
        clear HT5 HK HKO5 HKR5 HC5 HB5
        obtain ⟨k, hk, rfl, htq, hkq, hko, hkr, hcq, hbel⟩ := hrel
        by_cases hkn : k < xn
        case neg =>
          obtain rfl : k = xn := by omega
          have hd2 : decide ((k : Int) < (k : Int)) = false := by simp
          have HT6 : Hid (TB (fun _ => False) wr w2.heap.size (some ⟨gE, 0, none⟩) n c3 (bareL (es.take (i + 1)) ++ es.drop (i + 1))) := by
            have h := htq.out
            rw [List.take_of_length_le (l := xL) (by have := HXN.out; omega), List.drop_of_length_le (l := xL) (by have := HXN.out; omega), List.append_nil, ← List.append_assoc, ← HTN.out] at h
            exact h
          go_wp2_with fail
          go_roundw
          case rel => exact ⟨i + 1, by omega, by go_num, HT6, hko, hkr, hbel⟩
          case measure => simp [intOf]; omega
        case pos =>
          have hd2 : decide ((k : Int) < (xn : Int)) = true := by simp; omega
          have hkI : (0 : Int) ≤ (k : Int) := by omega
          have hkI2 : (k : Int) < (xn : Int) := by omega
          obtain ⟨y, hy⟩ : ∃ y, xL[k]? = some y := ⟨_, List.getElem?_eq_getElem (by have := HXN.out; omega)⟩
          have hpl : ((xL.take k).map nilB).length = k := by rw [List.length_map, List.length_take]; have := HXN.out; omega
          have hLk : ((xL.take k).map nilB ++ xL.drop k)[k]? = some y := by rw [drop_at hy]; exact mid_at hpl
          obtain ⟨gE2, cq, Bq, dq, g, v1, hA2, hgE2l, hgE2, q0, q1, hgb2, hgl, hgne, hfr, r0, r1, _, hy64, _, hturn⟩ := TB.turn htq.out (fun k hk => hk.elim) (mid_at HLEN.out) hLk
          injection hA2 with hA2
          injection hA2 with hA2
          subst hA2
          have hq0 := hcq.out
          rw [q0] at hq0
          injection hq0 with hq0
          injection hq0 with e1 e2 e3
          subst e1; subst e3
          have hset : Hid (TB (fun _ => False) (wr.setCell ⟨g, k * 2 + 1, none⟩ (.slice none 0 0)) w2.heap.size (some ⟨gE, 0, none⟩) n c3 (bareL (es.take i) ++ ([((xL.take (k + 1)).map nilB ++ xL.drop (k + 1), xd)] ++ es.drop (i + 1)))) := by
            have h := hturn wr none 0 0 [] (Below.refl _ _) (Rp.sl_nil _ _ _ _ _ (by decide))
            have e5 : ((xL.take k).map nilB ++ xL.drop k).set k (y.1, []) = (xL.take (k + 1)).map nilB ++ xL.drop (k + 1) := by
              rw [drop_at hy, mid_set hpl, List.take_add_one, hy]
              simp [nilB]
            rw [e5, mid_set HLEN.out] at h
            exact h
          have v0 := (show Blk wr gb 45 (entV (some ⟨g, 0, none⟩) xn cq BL dn dL) from hkq.out).cell 0
          have hf1 := hfr (k * 2 + 1)
          have r1' : wr.cell? ⟨g, 0 + k * 2 + 1, none⟩ = some v1 := by rw [Nat.zero_add]; exact r1
          have hf1' : wr.frozen? ⟨g, 0 + k * 2 + 1, none⟩ = false := by rw [Nat.zero_add]; exact hf1
          have hgr := grown_setCell wr ⟨g, k * 2 + 1, none⟩ (.slice none 0 0)
          obtain ⟨curg, hbg⟩ : ∃ cur, Blk wr g 57 cur := by assumption
          have hK1 := (show Blk wr gb 45 (entV (some ⟨g, 0, none⟩) xn cq BL dn dL) from hkq.out).far (p := ⟨g, k * 2 + 1, none⟩) (fun e => by
            have e' : gb = g := e
            subst e'
            exact absurd (blk_type hbg hkq.out) (by decide)) (.slice none 0 0)
          have hK2 := (show Blk wr go 25 (batV ep b (some ⟨gE, 0, none⟩) n c3) from hko.out).far (p := ⟨g, k * 2 + 1, none⟩) (fun e => by
            have e' : go = g := e
            subst e'
            exact absurd (blk_type hbg hko.out) (by decide)) (.slice none 0 0)
          have hK3 := (show Blk wr (w.heap.size + 1) 25 zB from hkr.out).far (p := ⟨g, k * 2 + 1, none⟩) (fun e => by
            have e' : w.heap.size + 1 = g := e
            subst e'
            exact absurd (blk_type hbg hkr.out) (by decide)) (.slice none 0 0)
          have hC1 : (wr.setCell ⟨g, k * 2 + 1, none⟩ (.slice none 0 0)).cell? ⟨gE, i * 2, none⟩ = some (.slice (some ⟨g, 0, none⟩) xn cq) := by
            rw [World.cell?_of_block (w := wr) (Below.heap_setCell wr ⟨g, k * 2 + 1, none⟩ (.slice none 0 0) gE (fun e => hgne e.symm))]
            exact hcq.out
          have hB1 := hbel.out.setCell (p := ⟨g, k * 2 + 1, none⟩) (show w2.heap.size ≤ g from hgb2) (.slice none 0 0)
          have HK1 := Lib.hid hK1
          have HK2 := Lib.hid hK2
          have HK3 := Lib.hid hK3
          have HC1 := Lib.hid hC1
          have HB1 := Lib.hid hB1
          clear hy hpl hLk hturn q0 q1 r0 hgr hbg hK1 hK2 hK3 hC1 hB1 hfr e2
          go_wp2_with fail
          go_roundw
          case rel => exact ⟨k + 1, by omega, by go_num, hset, HK1, HK2, HK3, HC1, HB1⟩
          case measure => simp [intOf]; omega
end
end Go.Proofs.Ytcbmnfjbmkpfiaa
