/- The program's readers of numbers, whatever the fault. -/
import Derived.Test.YtmdgmnaaopineaaVarR
namespace Go.Proofs.Ytmdgmnaaopineaa
open Go.ChangeShapes Go.WideShapes Go.ChangeAt Go.RowKit
set_option linter.unusedVariables false
section
variable {w : World} {D : Dom} {g : Nat} {l : List UInt8} {p : Nat} {f : Flt}
theorem vread_any (h : Rd w D g l p f) (hf : OkF f) (hl : l.length ≤ 1000000000) : Calls Try.prog 92 #[.pointer (some ⟨g, 0, none⟩)] w fun e w' => e = .returned (.int .u64 ((vrdF l p f).1 : Int)) ∧ Rd w' D g l (vrdF l p f).2.1 (vrdF l p f).2.2 ∧ Chg (one g) w w' := by
  by_cases h0 : f.1 = 0
  · obtain rfl := hf.eq h0
    rw [vrdF_good rfl]
    exact vread_at h hl
  · rw [vrdF_bad h0]
    refine (vread_bad h h0).mono ?_
    rintro e w1 ⟨rfl, hb⟩
    exact ⟨rfl, h.below hb, Chg.of_pure hb _⟩
set_option maxRecDepth 100000 in
theorem vmost_any (h : Rd w D g l p f) (hf : OkF f) (hl : l.length ≤ 1000000000) (m : Nat) : Calls Try.prog 140 #[.pointer (some ⟨g, 0, none⟩), .int .u64 (m : Int)] w fun e w' => e = .returned (.int .u64 ((mostF l p f m).1 : Int)) ∧ Rd w' D g l (mostF l p f m).2.1 (mostF l p f m).2.2 ∧ Chg (one g) w w' := by
  have HA := Lib.hid (cat_at h)
  have HV := Lib.hid (vread_any h hf hl)
  unfold mostF
  generalize vrdF l p f = r at *
  obtain ⟨x, q, f'⟩ := r
  simp only at HV ⊢
  by_cases hx : m < x
  · rw [if_pos hx]
    have hd : decide (m < x) = true := by simpa using hx
    clear h hx
    go_enter Try.func140, Try.ntmps140
    go_wp2_with fail
    refine HA.out.mono ?_; rintro e w1 ⟨rfl, rfl⟩
    go_wp2_with fail
    refine HV.out.mono ?_; rintro e w2 ⟨rfl, hr2, hc2⟩
    have HR2 := Lib.hid hr2
    have HC2 := Lib.hid hc2
    clear hr2 hc2
    go_wp2_with fail
    refine (cfail_at HR2.out _ _).mono ?_; rintro e w3 ⟨rfl, hr3, hc3⟩
    have HR3 := Lib.hid hr3
    have HC3 := Lib.hid (HC2.out.trans hc3)
    clear hr3 hc3
    go_wp2_with fail
    go_ret
    exact ⟨rfl, HR3.out, HC3.out⟩
  · rw [if_neg hx]
    have hd : decide (m < x) = false := by simp; omega
    clear h hx
    go_enter Try.func140, Try.ntmps140
    go_wp2_with fail
    refine HA.out.mono ?_; rintro e w1 ⟨rfl, rfl⟩
    go_wp2_with fail
    refine HV.out.mono ?_; rintro e w2 ⟨rfl, hr2, hc2⟩
    have HR2 := Lib.hid hr2
    have HC2 := Lib.hid hc2
    clear hr2 hc2
    go_wp2_with fail
    go_ret
    exact ⟨rfl, HR2.out, HC2.out⟩
theorem eright2_any (x : Nat) (w : World) : Calls Try.prog 90 #[.int .u64 (x : Int)] w fun e w' => e = .returned (.bool (decide (1 ≤ x) && decide (x < 4611686018427387904))) ∧ w = w' := by
  obtain ⟨b, hb⟩ : ∃ b, b = decide (x < 4611686018427387904) := ⟨_, rfl⟩
  obtain ⟨c, hc⟩ : ∃ c, c = decide (1 ≤ x) := ⟨_, rfl⟩
  rw [← hb, ← hc]
  have hd : decide ((1 : Int) ≤ (x : Int)) = c := by rw [hc]; apply decide_eq_decide.2; omega
  have hd2 : decide ((x : Int) < 4611686018427387904) = b := by rw [hb]; apply decide_eq_decide.2; omega
  clear hb hc
  cases c
  all_goals
    go_enter Try.func90, Try.ntmps90
    go_wp2_with fail
    go_ret
    exact ⟨rfl, rfl⟩
set_option maxRecDepth 100000 in
theorem eread_fn {K : Nat} {R : Nat → Bool} (hK : ∀ (x : Nat) (w : World), x < 18446744073709551616 → Calls Try.prog K #[.int .u64 (x : Int)] w fun e w' => e = .returned (.bool (R x)) ∧ w = w') (hrun : ∀ args w, Sem.run Try.prog (callFunc K args) w = .ok (.enter K args) w) (h : Rd w D g l p f) (hf : OkF f) (hl : l.length ≤ 1000000000) :
    Calls Try.prog 139 #[.pointer (some ⟨g, 0, none⟩), .func (.func K) #[] #[]] w fun e w' => e = .returned (.int .u64 ((mustF R l p f).1 : Int)) ∧ Rd w' D g l (mustF R l p f).2.1 (mustF R l p f).2.2 ∧ Chg (one g) w w' := by
  have HA := Lib.hid (cat_at h)
  have HV := Lib.hid (vread_any h hf hl)
  have HK := Lib.hid (hK (vrdF l p f).1)
  have hlt := vrdF_lt l p f
  have h0 := @vrdF_fail0 l p f
  have hok := @vrdF_ok l p f hf
  unfold mustF
  generalize vrdF l p f = r at *
  obtain ⟨x, q, f'⟩ := r
  simp only at HV HK h0 hlt hok ⊢
  have HLT := Lib.hid hlt
  have HRUN := Lib.hid hrun
  clear hrun
  by_cases hg : f'.1 = 0
  · rw [if_pos hg]
    obtain rfl := hok.eq hg
    clear hg hok h0 hlt
    cases hx : R x
    · rw [hx] at HK
      simp only [Bool.false_eq_true, if_false]
      have e : failF (0, 0) 3 p = (3, (p : Int)) := failF_set rfl (by decide)
      rw [e]
      clear h hx hK e
      go_enter Try.func139, Try.ntmps139
      go_wp2_with fail
      refine HA.out.mono ?_; rintro e w1 ⟨rfl, rfl⟩
      go_wp2_with fail
      refine HV.out.mono ?_; rintro e w2 ⟨rfl, hr2, hc2⟩
      have HR2 := Lib.hid hr2
      have HC2 := Lib.hid hc2
      clear hr2 hc2
      go_wp2_with fail
      rw [HRUN.out]; refine (HK.out _ HLT.out).mono ?_; rintro e w3 ⟨rfl, rfl⟩
      go_wp2_with fail
      refine (cfail_at HR2.out _ _).mono ?_; rintro e w3 ⟨rfl, hr3, hc3⟩
      have HR3 := Lib.hid hr3
      have HC3 := Lib.hid (HC2.out.trans hc3)
      clear hr3 hc3
      go_wp2_with fail
      refine (cgood_at HR3.out).mono ?_; rintro e w4 ⟨rfl, hb4⟩
      have HB4 := Lib.hid hb4
      clear hb4
      go_wp2_with fail
      go_ret
      exact ⟨rfl, HR3.out.below HB4.out, HC3.out.trans (Chg.of_pure HB4.out _)⟩
    · rw [hx] at HK
      simp only [if_true]
      clear h hx hK
      go_enter Try.func139, Try.ntmps139
      go_wp2_with fail
      refine HA.out.mono ?_; rintro e w1 ⟨rfl, rfl⟩
      go_wp2_with fail
      refine HV.out.mono ?_; rintro e w2 ⟨rfl, hr2, hc2⟩
      have HR2 := Lib.hid hr2
      have HC2 := Lib.hid hc2
      clear hr2 hc2
      go_wp2_with fail
      rw [HRUN.out]; refine (HK.out _ HLT.out).mono ?_; rintro e w3 ⟨rfl, rfl⟩
      go_wp2_with fail
      refine (cgood_at HR2.out).mono ?_; rintro e w4 ⟨rfl, hb4⟩
      have HB4 := Lib.hid hb4
      clear hb4
      go_wp2_with fail
      go_ret
      exact ⟨rfl, HR2.out.below HB4.out, HC2.out.trans (Chg.of_pure HB4.out _)⟩
  · rw [if_neg hg]
    obtain rfl := h0 hg
    have hq : (f'.1 == 0) = false := by simpa using hg
    have e : failF f' 3 p = f' := by unfold failF; rw [if_neg hg]
    clear hg hok h0 hlt h hK
    obtain ⟨b, hb⟩ : ∃ b, b = R 0 := ⟨_, rfl⟩
    rw [← hb] at HK
    clear hb
    have HE := Lib.hid e
    clear e
    cases b
    · go_enter Try.func139, Try.ntmps139
      go_wp2_with fail
      refine HA.out.mono ?_; rintro e w1 ⟨rfl, rfl⟩
      go_wp2_with fail
      refine HV.out.mono ?_; rintro e w2 ⟨rfl, hr2, hc2⟩
      have HR2 := Lib.hid hr2
      have HC2 := Lib.hid hc2
      clear hr2 hc2
      go_wp2_with fail
      rw [HRUN.out]; refine (HK.out _ HLT.out).mono ?_; rintro e w3 ⟨rfl, rfl⟩
      go_wp2_with fail
      refine (cfail_at HR2.out _ _).mono ?_; rintro e w3 ⟨rfl, hr3, hc3⟩
      rw [HE.out] at hr3
      have HR3 := Lib.hid hr3
      have HC3 := Lib.hid (HC2.out.trans hc3)
      clear hr3 hc3
      go_wp2_with fail
      refine (cgood_at HR3.out).mono ?_; rintro e w4 ⟨rfl, hb4⟩
      have HB4 := Lib.hid hb4
      clear hb4
      go_wp2_with fail
      go_ret
      exact ⟨rfl, HR3.out.below HB4.out, HC3.out.trans (Chg.of_pure HB4.out _)⟩
    · go_enter Try.func139, Try.ntmps139
      go_wp2_with fail
      refine HA.out.mono ?_; rintro e w1 ⟨rfl, rfl⟩
      go_wp2_with fail
      refine HV.out.mono ?_; rintro e w2 ⟨rfl, hr2, hc2⟩
      have HR2 := Lib.hid hr2
      have HC2 := Lib.hid hc2
      clear hr2 hc2
      go_wp2_with fail
      rw [HRUN.out]; refine (HK.out _ HLT.out).mono ?_; rintro e w3 ⟨rfl, rfl⟩
      go_wp2_with fail
      refine (cgood_at HR2.out).mono ?_; rintro e w4 ⟨rfl, hb4⟩
      have HB4 := Lib.hid hb4
      clear hb4
      go_wp2_with fail
      go_ret
      exact ⟨rfl, HR2.out.below HB4.out, HC2.out.trans (Chg.of_pure HB4.out _)⟩
def isEpoch (x : Nat) : Bool := decide (1 ≤ x) && decide (x < 4611686018427387904)
def isTail (x : Nat) : Bool := decide (x ≤ 4611686018427387904)
set_option maxRecDepth 100000 in
theorem eread_any (h : Rd w D g l p f) (hf : OkF f) (hl : l.length ≤ 1000000000) :
    Calls Try.prog 114 #[.pointer (some ⟨g, 0, none⟩)] w fun e w' => e = .returned (.int .u64 ((mustF isEpoch l p f).1 : Int)) ∧ Rd w' D g l (mustF isEpoch l p f).2.1 (mustF isEpoch l p f).2.2 ∧ Chg (one g) w w' := by
  have HE := Lib.hid (eread_fn (K := 90) (R := isEpoch) (fun x w _ => eright2_any x w) (fun args w => rfl) h hf hl)
  clear h hf hl
  go_enter Try.func114, Try.ntmps114
  go_wp2_with fail
  refine HE.out.mono ?_; rintro e w1 ⟨rfl, hr1, hc1⟩
  have HR1 := Lib.hid hr1
  have HC1 := Lib.hid hc1
  clear hr1 hc1
  go_wp2_with fail
  go_ret
  exact ⟨rfl, HR1.out, HC1.out⟩
end
end Go.Proofs.Ytmdgmnaaopineaa
