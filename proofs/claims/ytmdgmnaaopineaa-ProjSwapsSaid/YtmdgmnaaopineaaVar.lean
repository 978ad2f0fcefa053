/- varint.Read. -/
import Derived.Test.YtmdgmnaaopineaaVarM
import Derived.Test.YtmdgmnaaopineaaCurBad
import Derived.WalkMore
import Derived.ScopeJumps
import Derived.Laws.BitsAllLaws
namespace Go.Proofs.Ytmdgmnaaopineaa
open Go.ChangeShapes Go.WideShapes Go.ChangeAt Go.RowKit
set_option linter.unusedVariables false
theorem wp_scope_jumps2 {P : Program} {a : Act} {w : World} {Q : Exit → Act → World → Prop} {c X : Code} (l : Nat) (J : Act → World → Prop) (μ : Act → World → Nat) (hf : findLabel c l = some (Code.seq .skip X))
    (pass : ∀ a w, J a w → X.wp P (Exit.jump l (fun a' w' => J a' w' ∧ μ a' w' < μ a w) Q) a w)
    (first : (∀ a w, J a w → X.wp P (Exit.jump l J Q) a w) → c.wp P (Exit.jump l J Q) a w) : (Code.scope c).wp P Q a w :=
  wp_scope_jumps l J μ hf (first fun a w h => Go.wp_mono (pass a w h) (fun e a' w' hq => by
    cases e with
    | goto l' => exact ⟨hq.1, hq.2.1⟩
    | _ => exact hq)) (fun a w h => wp_seq (wp_skip (pass a w h)))
theorem or_apart64 (x y s : Nat) (hx : x < 2 ^ s) : x ||| (y * 2 ^ s) = x + y * 2 ^ s := by
  rw [Nat.mul_comm, Nat.or_comm, ← Nat.two_pow_add_eq_or_of_lt hx, Nat.add_comm]
/-- Seven digits more. -/
theorem bits_place {n x cv : Nat} (hn : n ≤ 9) (hx : x < 128 ^ n) (hc : cv < 256) (h9 : n = 9 → cv ≤ 1) : bits .or .u64 (x : Int) (IntKind.u64.wrap ((cv : Int) % 128 * 2 ^ (7 * n))) = ((x + cv % 128 * 128 ^ n : Nat) : Int) := by
  have hp : (128 : Nat) ^ n = 2 ^ (7 * n) := by rw [Nat.pow_mul]
  have hle : (128 : Nat) ^ n ≤ 128 ^ 9 := Nat.pow_le_pow_right (by decide) hn
  rw [pow_9] at hle
  have hb : cv % 128 * 128 ^ n ≤ 9223372036854775808 := by
    by_cases h : n = 9
    · have := h9 h
      subst h
      rw [pow_9]
      have : cv % 128 ≤ 1 := by omega
      omega
    · have h1 : cv % 128 * 128 ^ n ≤ 127 * 128 ^ n := Nat.mul_le_mul_right _ (by omega)
      have h3 : (128 : Nat) ^ (n + 1) ≤ 128 ^ 9 := Nat.pow_le_pow_right (by decide) (by omega)
      rw [Nat.pow_succ, pow_9] at h3
      omega
  have e : (cv : Int) % 128 * 2 ^ (7 * n) = ((cv % 128 * 128 ^ n : Nat) : Int) := by rw [hp]; simp
  rw [e, IntWalk.u64_in _ (by omega), hp, u64_or_nat x (cv % 128 * 2 ^ (7 * n)) (by omega) (by rw [← hp]; omega), or_apart64 _ _ _ (by rw [← hp]; exact hx)]
section
variable {w : World} {D : Dom} {g : Nat} {l : List UInt8} {p : Nat} {f : Flt}
set_option maxRecDepth 100000 in
set_option maxHeartbeats 4000000 in
theorem vread_at (h : Rd w D g l p (0, 0)) (hl : l.length ≤ 1000000000) : Calls Try.prog 92 #[.pointer (some ⟨g, 0, none⟩)] w fun e w' => e = .returned (.int .u64 ((vrd l p).1 : Int)) ∧ Rd w' D g l (vrd l p).2.1 (vrd l p).2.2 ∧ Chg (one g) w w' := by
  have hp := h.le
  have HAT0 := Lib.hid (cat_at h)
  have HH := Lib.hid h
  clear h
  go_enter Try.func92, Try.ntmps92
  go_wp2_with fail
  refine wp_scope_jumps2 0 (fun a' w' => ∃ (n x : Nat) (u4 u9 u10 u11 u12 u13 u14 u15 u16 u17 u18 u19 u20 u21 u22 u23 u24 u25 u26 u27 u28 u29 u30 u31 u32 u33 u34 u35 u36 u37 u38 u39 u40 u41 u42 u43 u44 u45 u46 u47 u48 u49 u50 u51 u52 u53 : Value), a' = { tmps := #[.pointer (some ⟨g, 0, none⟩), undef, .int .u64 0, .int .u64 (x : Int), u4, .int .i64 ((7 * n : Nat) : Int), .int .i64 (p : Int), .pointer (some ⟨g, 0, none⟩), .int .i64 (p : Int), u9, u10, u11, u12, u13, u14, u15, u16, u17, u18, u19, u20, u21, u22, u23, u24, u25, u26, u27, u28, u29, u30, u31, u32, u33, u34, u35, u36, u37, u38, u39, u40, u41, u42, u43, u44, u45, u46, u47, u48, u49, u50, u51, u52, u53], defers := [] } ∧ n ≤ 9 ∧ x < 128 ^ n ∧ Hid (vgo l p (10 - n) n x = vrd l p) ∧ Hid (Rd w' D g l (p + n) (0, 0)) ∧ Hid (Chg (one g) w w')) (fun a' _ => 70 - (intOf (a'.tmps.getD 5 undef)).toNat) rfl ?_ ?_
  case refine_1 =>
    rintro a' wr ⟨n, x, u4, u9, u10, u11, u12, u13, u14, u15, u16, u17, u18, u19, u20, u21, u22, u23, u24, u25, u26, u27, u28, u29, u30, u31, u32, u33, u34, u35, u36, u37, u38, u39, u40, u41, u42, u43, u44, u45, u46, u47, u48, u49, u50, u51, u52, u53, rfl, hn, hx, hvg, hrd, hch⟩
    have hpl := hrd.out.le
    obtain ⟨q, hq0⟩ : ∃ q, q = p + n := ⟨_, rfl⟩
    rw [← hq0] at hpl
    have hrq : Hid (Rd wr D g l q (0, 0)) := by rw [hq0]; exact hrd.out
    have HQ0 := Lib.hid hq0
    clear hrd
    rcases Nat.lt_or_ge q l.length with hlt | hge
    case inr =>
      -- the bytes end
      have hsk : skipF l.length q (0, 0) 1 = (q, (1, (l.length : Int)), false) := skipF_bad3 rfl (by decide) (by omega)
      have hby : byteB l q (0, 0) = 0 := by unfold byteB; rw [hsk]; rfl
      have hB := cbyte_at hrq.out hl
      rw [hsk, hby] at hB
      have HB := Lib.hid hB
      have hv : vrd l p = (0, q, (1, (l.length : Int))) := by
        rw [← hvg.out, show 10 - n = (9 - n) + 1 by omega, vgo_none (by rw [← hq0]; exact List.getElem?_eq_none hge), ← hq0]
      have HV := Lib.hid hv
      clear hsk hby hB hv hq0
      go_wp2_with fail
      refine HB.out.mono ?_; rintro e w2 ⟨rfl, hr2, hc2⟩
      have HG := Lib.hid (cgood_at hr2)
      have HR2 := Lib.hid hr2
      have HC2 := Lib.hid (hch.out.trans hc2)
      have hq : ((1 : Int) == 0) = false := rfl
      clear hr2 hc2
      go_wp2_with fail
      refine HG.out.mono ?_; rintro e w3 ⟨rfl, hb3⟩
      have HR3 := Lib.hid (HR2.out.below hb3)
      have HC3 := Lib.hid (HC2.out.trans (Chg.of_pure hb3 _))
      clear hb3
      go_wp2_with fail
      simp only [Exit.jump]
      go_ret
      exact ⟨by rw [HV.out]; rfl, by rw [HV.out]; exact HR3.out, HC3.out⟩
    case inl =>
      obtain ⟨c, hc⟩ : ∃ c, l[q]? = some c := ⟨_, List.getElem?_eq_getElem hlt⟩
      have hcl := c.toNat_lt
      have hsk : skipF l.length q (0, 0) 1 = (q + 1, (0, 0), true) := by rw [skipF_ok rfl (by decide) (by omega)]; rfl
      have hby : byteB l q (0, 0) = c.toNat := by unfold byteB; rw [hsk, List.getD_eq_getElem?_getD, hc]; rfl
      have hB := cbyte_at hrq.out hl
      rw [hsk, hby] at hB
      have HB := Lib.hid hB
      rw [hq0] at hc
      have HCC := Lib.hid hc
      have hpq : p ≤ q := by omega
      obtain ⟨cv, hcv⟩ : ∃ cv, cv = c.toNat := ⟨_, rfl⟩
      rw [← hcv] at hcl HB
      have HCV := Lib.hid hcv
      have hfin : Hid (∀ (w' : World) (v q' : Nat) (f' : Flt), vrd l p = (v, q', f') → Rd w' D g l q' f' → Chg (one g) w w' → Ending.returned (.int .u64 (v : Int)) = .returned (.int .u64 ((vrd l p).1 : Int)) ∧ Rd w' D g l (vrd l p).2.1 (vrd l p).2.2 ∧ Chg (one g) w w') := fun w' v q' f' h1 h2 h3 => by rw [h1]; exact ⟨rfl, h2, h3⟩
      clear hsk hby hB hc hq0 hcv
      go_wp2_with fail
      refine HB.out.mono ?_; rintro e w2 ⟨rfl, hr2, hc2⟩
      have HG := Lib.hid (cgood_at hr2)
      have HR2 := Lib.hid hr2
      have HC2 := Lib.hid (hch.out.trans hc2)
      have hq : ((0 : Int) == 0) = true := rfl
      clear hr2 hc2
      go_wp2_with fail
      refine HG.out.mono ?_; rintro e w3 ⟨rfl, hb3⟩
      have HR3 := Lib.hid (HR2.out.below hb3)
      have HC3 := Lib.hid (HC2.out.trans (Chg.of_pure hb3 _))
      have HAT := Lib.hid (cat_at HR3.out)
      clear hb3
      have h10 : Hid (10 - n = (9 - n) + 1) := (by omega : 10 - n = (9 - n) + 1)
      by_cases h9 : n = 9 ∧ 1 < cv
      case pos =>
        obtain ⟨h91, h92⟩ := h9
        have HV : Hid (vrd l p = (0, q + 1, (5, (q : Int)))) := by
          show _ = _
          rw [← hvg.out, h10.out, vgo_over HCC.out h91 (by rw [← HCV.out]; exact h92), ← HQ0.out]
        have hd1 : (((7 * n : Nat) : Int) == 63) = true := by simp; omega
        have hd3 : (7 * (n : Int) == 63) = true := by simp; omega
        have hd2 : decide ((1 : Int) < (cv : Int)) = true := by simp; omega
        have hf := cfail_at HR3.out 5 (q : Int)
        rw [show failF (0, 0) 5 (q : Int) = (5, (q : Int)) from rfl] at hf
        have HF := Lib.hid hf
        clear hf h91 h92
        go_wp2_with fail
        refine HAT.out.mono ?_; rintro e w4 ⟨rfl, rfl⟩
        go_wp2_with fail
        refine HF.out.mono ?_; rintro e w5 ⟨rfl, hr5, hc5⟩
        have HR5 := Lib.hid hr5
        have HC5 := Lib.hid (HC3.out.trans hc5)
        clear hr5 hc5
        go_wp2_with fail
        simp only [Exit.jump]
        go_ret
        exact hfin.out _ _ _ _ HV.out HR5.out HC5.out
      case neg =>
        have hd : ((((7 * n : Nat) : Int) == 63) = false ∧ (7 * (n : Int) == 63) = false) ∨ ((((7 * n : Nat) : Int) == 63) = true ∧ (7 * (n : Int) == 63) = true ∧ decide ((1 : Int) < (cv : Int)) = false) := by
          rcases Nat.lt_or_ge n 9 with h | h
          · left; simp; omega
          · right; simp; omega
        have H9 := Lib.hid h9
        clear h9
        by_cases hz : cv = 0 ∧ 0 < n
        case pos =>
          obtain ⟨hz1, hz2⟩ := hz
          have HV : Hid (vrd l p = (0, q + 1, (4, (q : Int)))) := by
            show _ = _
            rw [← hvg.out, h10.out, vgo_zero HCC.out (by rw [← HCV.out]; exact H9.out) (by rw [← HCV.out]; exact hz1) hz2, ← HQ0.out]
          have hd4 : ((cv : Int) == 0) = true := by simp; omega
          have hd5 : decide (p < q) = true := by have := HQ0.out; simp; omega
          have hf := cfail_at HR3.out 4 (q : Int)
          rw [show failF (0, 0) 4 (q : Int) = (4, (q : Int)) from rfl] at hf
          have HF := Lib.hid hf
          clear hf hz1 hz2
          rcases hd with ⟨hd1, hd2⟩ | ⟨hd1, hd2, hd3⟩
          all_goals
            go_wp2_with fail
            refine HAT.out.mono ?_; rintro e w4 ⟨rfl, rfl⟩
            go_wp2_with fail
            refine HAT.out.mono ?_; rintro e w4 ⟨rfl, rfl⟩
            go_wp2_with fail
            refine HF.out.mono ?_; rintro e w5 ⟨rfl, hr5, hc5⟩
            have HR5 := Lib.hid hr5
            have HC5 := Lib.hid (HC3.out.trans hc5)
            clear hr5 hc5
            go_wp2_with fail
            simp only [Exit.jump]
            go_ret
            exact hfin.out _ _ _ _ HV.out HR5.out HC5.out
        case neg =>
          have HZ := Lib.hid hz
          by_cases hc0 : cv = 0
          case pos =>
            have hn0 : n = 0 := by omega
            subst hn0
            have hd4 : ((cv : Int) == 0) = true := by simp; omega
            have hd5 : decide (p < q) = false := by have := HQ0.out; simp; omega
            clear hz hd
            have hx0 : x = 0 := by simpa using hx
            subst hx0
            have hb0 : bits .or .u64 (((0 : Nat) : Int)) ((cv : Int) % 128) = (((0 : Nat) : Int)) := by subst hc0; decide
            have hb1 : bits .or .u64 0 ((cv : Int) % 128) = 0 := by subst hc0; decide
            have hm : decide ((128 : Int) ≤ (cv : Int)) = false := by simp; omega
            have HV : Hid (vrd l p = (0, q + 1, (0, 0))) := by
              show _ = _
              rw [← hvg.out, h10.out, vgo_last HCC.out (by rw [← HCV.out]; exact H9.out) (by rw [← HCV.out]; exact HZ.out) (by rw [← HCV.out]; omega), ← HCV.out, hc0, ← HQ0.out]
            clear hc0
            go_wp2_with fail
            refine HAT.out.mono ?_; rintro e w4 ⟨rfl, rfl⟩
            go_wp2_with fail
            simp only [Exit.jump]
            go_ret
            exact hfin.out _ _ _ _ HV.out HR3.out HC3.out
          case neg =>
            have hd4 : ((cv : Int) == 0) = false := by simp; omega
            obtain ⟨X, hX⟩ : ∃ X, X = x + cv % 128 * 128 ^ n := ⟨_, rfl⟩
            have hc9 : n = 9 → cv ≤ 1 := fun h => by have := H9.out; omega
            have hbits := bits_place (cv := cv) hn hx hcl hc9
            rw [← hX] at hbits
            have HXX := Lib.hid hX
            by_cases hm : 128 ≤ cv
            case pos =>
              have hn9 : n < 9 := by rcases Nat.lt_or_ge n 9 with h | h; exact h; have := hc9 (by omega); omega
              have HVG : Hid (vgo l p (10 - (n + 1)) (n + 1) X = vrd l p) := by
                show _ = _
                rw [← hvg.out, h10.out, vgo_more HCC.out (by rw [← HCV.out]; exact H9.out) (by rw [← HCV.out]; exact hm), HXX.out, HCV.out, show 10 - (n + 1) = 9 - n by omega]
              have hXl : X < 128 ^ (n + 1) := by
                rw [hX, Nat.pow_succ]
                have : cv % 128 * 128 ^ n ≤ 127 * 128 ^ n := Nat.mul_le_mul_right _ (by omega)
                omega
              have hdm : decide ((128 : Int) ≤ (cv : Int)) = true := by simp; omega
              have HR4 : Hid (Rd w3 D g l (p + (n + 1)) (0, 0)) := by have := HR3.out; rw [HQ0.out] at this; exact this
              have HXL := Lib.hid hXl
              have HBT := Lib.hid hbits
              clear hz hc0 hX hc9 hXl
              rcases hd with ⟨hd1, hd2⟩ | ⟨hd1, hd2, hd3⟩
              case inr =>
                have : n = 9 := by simp at hd2; omega
                omega
              case inl =>
                go_wp2_with fail
                go_step3
                exact ⟨rfl, ⟨n + 1, X, _, _, _, _, _, _, _, _, _, _, _, _, _, _, _, _, _, _, _, _, _, _, _, _, _, _, _, _, _, _, _, _, _, _, _, _, _, _, _, _, _, _, _, _, _, _, by rw [show (((7 * (n + 1) : Nat)) : Int) = 7 * (n : Int) + 7 by omega], by omega, HXL.out, HVG, HR4, HC3⟩, by simp [intOf]; omega⟩
            case neg =>
              have HV : Hid (vrd l p = (X, q + 1, (0, 0))) := by
                show _ = _
                rw [← hvg.out, h10.out, vgo_last HCC.out (by rw [← HCV.out]; exact H9.out) (by rw [← HCV.out]; exact HZ.out) (by rw [← HCV.out]; exact hm), ← HCV.out, ← HQ0.out, HXX.out]
              have hdm : decide ((128 : Int) ≤ (cv : Int)) = false := by simp; omega
              clear hz hc0 hX hc9 hm
              rcases hd with ⟨hd1, hd2⟩ | ⟨hd1, hd2, hd3⟩
              all_goals
                go_wp2_with fail
                simp only [Exit.jump]
                go_ret
                exact hfin.out _ _ _ _ HV.out HR3.out HC3.out
  case refine_2 =>
    intro hrest
    go_wp2_with fail
    refine HAT0.out.mono ?_; rintro e w1 ⟨rfl, rfl⟩
    go_wp2_with fail
    go_step3
    rename_i hk
    refine hk _ _ (hrest _ _ ?_)
    exact ⟨0, 0, _, _, _, _, _, _, _, _, _, _, _, _, _, _, _, _, _, _, _, _, _, _, _, _, _, _, _, _, _, _, _, _, _, _, _, _, _, _, _, _, _, _, _, _, _, _, rfl, by omega, by decide, rfl, HH, Chg.refl _ _⟩
end
end Go.Proofs.Ytmdgmnaaopineaa
