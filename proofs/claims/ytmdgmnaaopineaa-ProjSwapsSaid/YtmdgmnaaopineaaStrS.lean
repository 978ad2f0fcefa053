/- Reading a set: the program. -/
import Derived.Test.YtmdgmnaaopineaaStrR
import Derived.Test.YtmdgmnaaopineaaPut
namespace Go.Proofs.Ytmdgmnaaopineaa
open Go.ChangeShapes Go.WideShapes Go.ChangeAt Go.RowKit
set_option linter.unusedVariables false
theorem setF_bad {l : List UInt8} {p : Nat} {f : Flt} {others : List (List Nat)} (h : (risF l (manyF l p f 8).1 (manyF l p f 8).2.1 (manyF l p f 8).2.2 []).2.2.1 ≠ 0) : setF l p f others = ([], (risF l (manyF l p f 8).1 (manyF l p f 8).2.1 (manyF l p f 8).2.2 []).2) := by
  unfold setF; simp only; rw [if_neg h]
theorem setF_big {l : List UInt8} {p : Nat} {f : Flt} {others : List (List Nat)} {x : List Nat} {q : Nat} {F : Flt} (h : risF l (manyF l p f 8).1 (manyF l p f 8).2.1 (manyF l p f 8).2.2 [] = (x, q, F)) (h0 : F.1 = 0) (h1 : 4294967295 < x.getD (x.length - 1) 0) : setF l p f others = (x, q, failF F 3 ((manyF l p f 8).2.1 : Nat)) := by
  unfold setF; simp only; rw [h]; simp only; rw [if_pos h0, if_pos h1]
theorem setF_fine {l : List UInt8} {p : Nat} {f : Flt} {others : List (List Nat)} {x : List Nat} {q : Nat} {F : Flt} (h : risF l (manyF l p f 8).1 (manyF l p f 8).2.1 (manyF l p f 8).2.2 [] = (x, q, F)) (h0 : F.1 = 0) (h1 : ¬ 4294967295 < x.getD (x.length - 1) 0) (h2 : Apart x others) : setF l p f others = (x, q, F) := by
  unfold setF; simp only; rw [h]; simp only; rw [if_pos h0, if_neg h1, if_pos h2]
theorem setF_met {l : List UInt8} {p : Nat} {f : Flt} {others : List (List Nat)} {x : List Nat} {q : Nat} {F : Flt} (h : risF l (manyF l p f 8).1 (manyF l p f 8).2.1 (manyF l p f 8).2.2 [] = (x, q, F)) (h0 : F.1 = 0) (h1 : ¬ 4294967295 < x.getD (x.length - 1) 0) (h2 : ¬ Apart x others) : setF l p f others = (x, q, failF F 13 ((manyF l p f 8).2.1 : Nat)) := by
  unfold setF; simp only; rw [h]; simp only; rw [if_pos h0, if_neg h1, if_neg h2]
section
variable {w : World} {D Do : Dom} {g : Nat} {l : List UInt8} {p : Nat} {f : Flt}
set_option maxRecDepth 100000 in
set_option maxHeartbeats 2000000 in
theorem readSet_at (h : Rd w D g l p f) (hf : OkF f) (hl : l.length ≤ 1000000000) {Ao : Option Addr} {no co : Nat} {others : List (List Nat)} (ho : (rpSlice rpU64).sl w Do Ao no co others) (hDo : ∀ k, Do k → k < w.heap.size) (hDg : ¬ Do g) :
    Calls Try.prog 94 #[.pointer (some ⟨g, 0, none⟩), .slice Ao no co] w (RisIs w D g l (setF l p f others)) := by
  have HM := Lib.hid (many_at h hf hl 8 (by decide))
  have hml := manyF_le (l := l) (p := p) (f := f) (m := 8)
  have hmok := manyF_ok (l := l) (p := p) (m := 8) hf
  have hminv := manyF_inv (l := l) (p := p) (f := f) (m := 8)
  have hbad := setF_bad (l := l) (p := p) (f := f) (others := others)
  have hbig := @setF_big l p f others
  have hfine := @setF_fine l p f others
  have hmet := @setF_met l p f others
  generalize setF l p f others = R at *
  generalize manyF l p f 8 = m at *
  obtain ⟨mn, mq, mf⟩ := m
  simp only at HM hml hmok hminv hbad hbig hfine hmet
  have HRR : Hid (∀ w, Rd w D g l mq mf → Calls Try.prog 131 #[.pointer (some ⟨g, 0, none⟩), .int .i64 (mn : Int)] w (RisIs w D g l (risF l mn mq mf []))) := fun w h => rising_at h hmok hl mn (by omega)
  have hinv := risF_inv (l := l) (k := mn) (p := mq) (f := mf) (acc := [])
  have hr64 := risF_lt (l := l) (k := mn) (p := mq) (f := mf) (acc := []) (fun x hx => by cases hx)
  generalize risF l mn mq mf [] = r at *
  obtain ⟨x, q, F⟩ := r
  simp only at HRR hinv hbad hr64
  obtain ⟨nn, hnn⟩ : ∃ nn, nn = x.length := ⟨_, rfl⟩
  have HRS : Hid (∀ w, Rd w D g l mq mf → Calls Try.prog 131 #[.pointer (some ⟨g, 0, none⟩), .int .i64 (mn : Int)] w fun e w' => ∃ A c, e = .returned (.slice A nn c) ∧ w'.ownsRow w.heap.size 22 1 (.slice A nn c) nn (x.map uv) ∧ Rd w' D g l q F ∧ Chg (one g) w w') := by rw [hnn]; exact HRR.out
  have HNN := Lib.hid hnn
  have HBAD := Lib.hid hbad
  have HBIG := Lib.hid (fun h0 h1 => @hbig x q F rfl h0 h1)
  have HFINE := Lib.hid (fun h0 h1 h2 => @hfine x q F rfl h0 h1 h2)
  have HMET := Lib.hid (fun h0 h1 h2 => @hmet x q F rfl h0 h1 h2)
  have HSO : Hid (Sl (rpSlice rpU64) w Do Ao no co others) := ⟨ho, hDo⟩
  have HDG := Lib.hid hDg
  have hgl := h.lt
  have HR64 := Lib.hid hr64
  have HL : Hid (F.1 = 0 → 1 ≤ nn ∧ nn ≤ 8) := fun h0 => by
    obtain ⟨new, e1, e2, _, _, _, _, _, e8⟩ := hinv h0
    have h1 := (hminv e8).2.1
    rw [hnn, e1, List.nil_append]; omega
  clear HRR hnn h hf ho hDo hDg hbad hbig hfine hmet hinv hminv hmok hml hr64
  by_cases h0 : F.1 = 0
  case neg =>
    have hq : (F.1 == 0) = false := by simpa using h0
    have HB : Hid (R = ([], q, F)) := HBAD.out h0
    clear h0
    go_enter Try.func94, Try.ntmps94
    go_wp2_with fail
    refine HM.out.mono ?_; rintro e w1 ⟨rfl, hr, hc⟩
    have HR1 := Lib.hid hr
    have HC1 := Lib.hid hc
    have HO1 := Lib.hid (chS HSO.out hc (fun k hk e => HDG.out ((show k = g from e) ▸ hk)))
    clear hr hc
    go_wp2_with fail
    refine (cat_at HR1.out).mono ?_; rintro e w2 ⟨rfl, rfl⟩
    go_wp2_with fail
    refine (HRS.out _ HR1.out).mono ?_; rintro e w2 ⟨A, c, rfl, how, hr, hc⟩
    have HR2 := Lib.hid hr
    have HC2 := Lib.hid (HC1.out.trans hc)
    have HO2 := Lib.hid (chS HO1.out hc (fun k hk e => HDG.out ((show k = g from e) ▸ hk)))
    have HW2 := Lib.hid (own_mono how HC1.out.size)
    clear hr hc how
    go_wp2_with fail
    refine (cgood_at HR2.out).mono ?_; rintro e w3 ⟨rfl, hb⟩
    have HR3 := Lib.hid (HR2.out.below hb)
    have HC3 := Lib.hid (HC2.out.trans (Chg.of_pure hb _))
    have HO3 := Lib.hid (keepS HO2.out hb)
    have HW3 := Lib.hid (keepO HW2.out hb)
    clear hb
    go_wp2_with fail
    go_ret
    have hR := HB.out
    subst hR
    exact ⟨none, 0, rfl, World.ownsRow_nil _ _ _ _, HR3.out, HC3.out⟩
  case pos =>
    have hq : (F.1 == 0) = true := by simpa using h0
    obtain ⟨hx1, hx8⟩ := HL.out h0
    have hxI : (1 : Int) ≤ (nn : Int) := by omega
    have hxI2 : (0 : Int) ≤ (nn : Int) - 1 := by omega
    obtain ⟨a, ha⟩ : ∃ a, x[nn - 1]? = some a := ⟨_, List.getElem?_eq_getElem (by have := HNN.out; omega)⟩
    have hgd : x.getD (x.length - 1) 0 = a := by rw [← HNN.out, List.getD_eq_getElem?_getD, ha]; rfl
    have HA := Lib.hid ha
    rw [hgd] at HBIG HFINE HMET
    clear ha hgd
    have H0 := Lib.hid h0
    clear h0
    by_cases hbg : 4294967295 < a
    case pos =>
      have hd : decide ((4294967295 : Int) < (a : Int)) = true := by simp; omega
      have HB : Hid (R = (x, q, failF F 3 (mq : Nat))) := HBIG.out H0.out hbg
      clear hbg
      go_enter Try.func94, Try.ntmps94
      go_wp2_with fail
      refine HM.out.mono ?_; rintro e w1 ⟨rfl, hr, hc⟩
      have HR1 := Lib.hid hr
      have HC1 := Lib.hid hc
      have HO1 := Lib.hid (chS HSO.out hc (fun k hk e => HDG.out ((show k = g from e) ▸ hk)))
      clear hr hc
      go_wp2_with fail
      refine (cat_at HR1.out).mono ?_; rintro e w2 ⟨rfl, rfl⟩
      go_wp2_with fail
      refine (HRS.out _ HR1.out).mono ?_; rintro e w2 ⟨A, c, rfl, how, hr, hc⟩
      have HR2 := Lib.hid hr
      have HC2 := Lib.hid (HC1.out.trans hc)
      have HO2 := Lib.hid (chS HO1.out hc (fun k hk e => HDG.out ((show k = g from e) ▸ hk)))
      have HW2 := Lib.hid (own_mono how HC1.out.size)
      clear hr hc how
      go_wp2_with fail
      refine (cgood_at HR2.out).mono ?_; rintro e w3 ⟨rfl, hb⟩
      have HR3 := Lib.hid (HR2.out.below hb)
      have HC3 := Lib.hid (HC2.out.trans (Chg.of_pure hb _))
      have HO3 := Lib.hid (keepS HO2.out hb)
      have HW3 := Lib.hid (keepO HW2.out hb)
      clear hb
      obtain ⟨bo, hAo, hbo, _, _, hco, _⟩ := own_block HW3.out (by omega)
      have hcell := hco (nn - 1) (uv a) (by rw [List.getElem?_map, HA.out]; rfl)
      unfold uv at hcell
      clear hco
      subst hAo
      go_wp2_with fail
      refine (cfail_at HR3.out 3 _).mono ?_; rintro e w4 ⟨rfl, hr, hc⟩
      have HR4 := Lib.hid hr
      have HC4 := Lib.hid (HC3.out.trans hc)
      have HW4 := Lib.hid (chO HW3.out hc (fun j hj e => by have e : j = g := e; have := (HW3.out.lt j hj).1; have := hgl; omega))
      clear hr hc hcell
      go_wp2_with fail
      go_ret
      have hR := HB.out
      subst hR
      have hnn := HNN.out
      subst hnn
      exact ⟨_, c, rfl, HW4.out, HR4.out, HC4.out⟩
    case neg =>
      have hd : decide ((4294967295 : Int) < (a : Int)) = false := by simp; omega
      by_cases hap : Apart x others
      case pos =>
        have HB : Hid (R = (x, q, F)) := HFINE.out H0.out hbg hap
        have HAP := Lib.hid (dec_true hap)
        clear hbg hap
        go_enter Try.func94, Try.ntmps94
        go_wp2_with fail
        refine HM.out.mono ?_; rintro e w1 ⟨rfl, hr, hc⟩
        have HR1 := Lib.hid hr
        have HC1 := Lib.hid hc
        have HO1 := Lib.hid (chS HSO.out hc (fun k hk e => HDG.out ((show k = g from e) ▸ hk)))
        clear hr hc
        go_wp2_with fail
        refine (cat_at HR1.out).mono ?_; rintro e w2 ⟨rfl, rfl⟩
        go_wp2_with fail
        refine (HRS.out _ HR1.out).mono ?_; rintro e w2 ⟨A, c, rfl, how, hr, hc⟩
        have HR2 := Lib.hid hr
        have HC2 := Lib.hid (HC1.out.trans hc)
        have HO2 := Lib.hid (chS HO1.out hc (fun k hk e => HDG.out ((show k = g from e) ▸ hk)))
        have HW2 := Lib.hid (own_mono how HC1.out.size)
        clear hr hc how
        go_wp2_with fail
        refine (cgood_at HR2.out).mono ?_; rintro e w3 ⟨rfl, hb⟩
        have HR3 := Lib.hid (HR2.out.below hb)
        have HC3 := Lib.hid (HC2.out.trans (Chg.of_pure hb _))
        have HO3 := Lib.hid (keepS HO2.out hb)
        have HW3 := Lib.hid (keepO HW2.out hb)
        clear hb
        obtain ⟨bo, hAo, hbo, _, _, hco, _⟩ := own_block HW3.out (by omega)
        have hcell := hco (nn - 1) (uv a) (by rw [List.getElem?_map, HA.out]; rfl)
        unfold uv at hcell
        clear hco
        subst hAo
        go_wp2_with fail
        refine (apart_any (own_u64 HW3.out HR64.out) HO3.out.1).mono ?_; rintro e w4 ⟨rfl, rfl⟩
        rw [HAP.out]
        go_wp2_with fail
        go_ret
        have hR := HB.out
        subst hR
        have hnn := HNN.out
        subst hnn
        exact ⟨_, c, rfl, HW3.out, HR3.out, HC3.out⟩
      case neg =>
        have HB : Hid (R = (x, q, failF F 13 (mq : Nat))) := HMET.out H0.out hbg hap
        have HAP := Lib.hid (dec_false hap)
        clear hbg hap
        go_enter Try.func94, Try.ntmps94
        go_wp2_with fail
        refine HM.out.mono ?_; rintro e w1 ⟨rfl, hr, hc⟩
        have HR1 := Lib.hid hr
        have HC1 := Lib.hid hc
        have HO1 := Lib.hid (chS HSO.out hc (fun k hk e => HDG.out ((show k = g from e) ▸ hk)))
        clear hr hc
        go_wp2_with fail
        refine (cat_at HR1.out).mono ?_; rintro e w2 ⟨rfl, rfl⟩
        go_wp2_with fail
        refine (HRS.out _ HR1.out).mono ?_; rintro e w2 ⟨A, c, rfl, how, hr, hc⟩
        have HR2 := Lib.hid hr
        have HC2 := Lib.hid (HC1.out.trans hc)
        have HO2 := Lib.hid (chS HO1.out hc (fun k hk e => HDG.out ((show k = g from e) ▸ hk)))
        have HW2 := Lib.hid (own_mono how HC1.out.size)
        clear hr hc how
        go_wp2_with fail
        refine (cgood_at HR2.out).mono ?_; rintro e w3 ⟨rfl, hb⟩
        have HR3 := Lib.hid (HR2.out.below hb)
        have HC3 := Lib.hid (HC2.out.trans (Chg.of_pure hb _))
        have HO3 := Lib.hid (keepS HO2.out hb)
        have HW3 := Lib.hid (keepO HW2.out hb)
        clear hb
        obtain ⟨bo, hAo, hbo, _, _, hco, _⟩ := own_block HW3.out (by omega)
        have hcell := hco (nn - 1) (uv a) (by rw [List.getElem?_map, HA.out]; rfl)
        unfold uv at hcell
        clear hco
        subst hAo
        go_wp2_with fail
        refine (apart_any (own_u64 HW3.out HR64.out) HO3.out.1).mono ?_; rintro e w4 ⟨rfl, rfl⟩
        rw [HAP.out]
        go_wp2_with fail
        refine (cfail_at HR3.out 13 _).mono ?_; rintro e w4 ⟨rfl, hr, hc⟩
        have HR4 := Lib.hid hr
        have HC4 := Lib.hid (HC3.out.trans hc)
        have HW4 := Lib.hid (chO HW3.out hc (fun j hj e => by have e : j = g := e; have := (HW3.out.lt j hj).1; have := hgl; omega))
        clear hr hc hcell
        go_wp2_with fail
        go_ret
        have hR := HB.out
        subst hR
        have hnn := HNN.out
        subst hnn
        exact ⟨_, c, rfl, HW4.out, HR4.out, HC4.out⟩
end
end Go.Proofs.Ytmdgmnaaopineaa
