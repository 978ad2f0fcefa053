/- The program's cursor: Take, Byte, End, Part, Since. -/
import Derived.Test.YtmdgmnaaopineaaCur
import Derived.Deep.RegionHeld3
import Derived.IntWalk
namespace Go.Proofs.Ytmdgmnaaopineaa
open Go.ChangeShapes Go.WideShapes Go.ChangeAt Go.RowKit
set_option linter.unusedVariables false

/-- What is taken from a place on. -/
def cutB (l : List UInt8) (p k : Nat) : List UInt8 := (l.take (p + k)).drop p
def takeB (l : List UInt8) (p : Nat) (f : Flt) (n : Int) : List UInt8 := if (skipF l.length p f n).2.2 then cutB l p n.toNat else []
theorem skipF_false {len p : Nat} {f : Flt} {n : Int} (h : (skipF len p f n).2.2 = false) : (skipF len p f n).1 = p := by
  unfold skipF at *
  split
  · rfl
  · split
    · rfl
    · split
      · rfl
      · simp_all
theorem skipF_true {len p : Nat} {f : Flt} {n : Int} (h : (skipF len p f n).2.2 = true) : f.1 = 0 ∧ 0 ≤ n ∧ n ≤ (len : Int) - p ∧ skipF len p f n = (p + n.toNat, f, true) := by
  by_cases h0 : f.1 = 0
  · by_cases h1 : n < 0
    · rw [skipF_bad2 h0 h1] at h; simp at h
    · by_cases h2 : (len : Int) - p < n
      · rw [skipF_bad3 h0 h1 h2] at h; simp at h
      · exact ⟨h0, by omega, by omega, skipF_ok h0 h1 h2⟩
  · rw [skipF_bad1 h0] at h; simp at h

section
variable {w : World} {D : Dom} {g : Nat} {l : List UInt8} {p : Nat} {f : Flt}
def byteB (l : List UInt8) (p : Nat) (f : Flt) : Nat := if (skipF l.length p f 1).2.2 then (l.getD p 0).toNat else 0
theorem cbyte_at (h : Rd w D g l p f) (hl : l.length ≤ 1000000000) : Calls Try.prog 130 #[.pointer (some ⟨g, 0, none⟩)] w fun e w' => e = .returned (.int .u8 (byteB l p f : Int)) ∧ Rd w' D g l (skipF l.length p f 1).1 (skipF l.length p f 1).2.1 ∧ Chg (one g) w w' := by
  have hskip := cskip_at h 1 (by decide) (by decide)
  cases hq : (skipF l.length p f 1).2.2
  · have ht : byteB l p f = 0 := by unfold byteB; rw [hq]; rfl
    rw [ht]
    rw [hq] at hskip
    have HC := Lib.hid hskip
    clear hskip hq ht h
    generalize skipF l.length p f 1 = s at *
    go_enter Try.func130, Try.ntmps130
    go_wp2_with fail
    refine HC.out.mono ?_; rintro e w1 ⟨rfl, hr1, hch⟩
    have HR := Lib.hid hr1
    have HCH := Lib.hid hch
    clear hr1 hch
    go_wp2_with fail
    go_ret
    exact ⟨rfl, HR.out, HCH.out⟩
  · obtain ⟨hf0, hn0, hn1, hs⟩ := skipF_true hq
    have hp := h.le
    obtain ⟨x, hx⟩ : ∃ x, l[p]? = some x := ⟨_, List.getElem?_eq_getElem (show p < l.length by omega)⟩
    have ht : byteB l p f = x.toNat := by unfold byteB; rw [hq, List.getD_eq_getElem?_getD, hx]; rfl
    rw [ht]
    rw [hq] at hskip
    rw [hs] at hskip ⊢
    have HC := Lib.hid hskip
    have HX := Lib.hid hx
    clear hskip hq ht hs h hf0 hx
    go_enter Try.func130, Try.ntmps130
    go_wp2_with fail
    refine HC.out.mono ?_; rintro e w1 ⟨rfl, hr1, hch⟩
    have HR := Lib.hid hr1
    have HCH := Lib.hid hch
    obtain ⟨A, c, hblk, hsl, hg, hd, _⟩ := hr1
    obtain ⟨_, hc1, hc2⟩ := Rp.sl_len hsl
    unfold maxLen at hc2
    obtain ⟨b, off, y, rfl, hbD, hy, hcell⟩ := bytes_at hsl (show p < l.length by omega)
    have exy : y = x := by rw [HX.out] at hy; injection hy with hy; exact hy.symm
    subst exy
    have d0 := hblk.cell 0
    have d1 := hblk.cell 1
    have hw1 : IntKind.i64.wrap ((p : Int) + 1 - 1) = p := by rw [Int.add_sub_cancel]; exact IntWalk.i64_in _ (by omega)
    have hw2 : IntKind.i64.wrap (p : Int) = p := IntWalk.i64_in _ (by omega)
    have hp1 : (p : Int) < (l.length : Int) := by omega
    clear hch hblk hsl hd hy
    go_wp2_with fail
    go_quiet (fail)
    go_wp2_with fail
    go_ret
    exact ⟨rfl, HR.out.below ⟨rfl, rfl, rfl, Nat.le_refl _, fun _ _ => rfl⟩, HCH.out.trans ⟨rfl, rfl, rfl, Nat.le_refl _, fun _ _ _ => rfl⟩⟩
def endF (len p : Nat) (f : Flt) : Flt := if p < len then failF f 9 p else f
theorem cend_at (h : Rd w D g l p f) : Calls Try.prog 78 #[.pointer (some ⟨g, 0, none⟩)] w fun e w' => e = .returned (.tuple #[]) ∧ Rd w' D g l p (endF l.length p f) ∧ Chg (one g) w w' := by
  have hp := h.le
  have HH := Lib.hid h
  have hlm : l.length ≤ 9223372036854775807 := by
    obtain ⟨A, c, hb, hsl, _⟩ := h
    have := Rp.sl_len hsl
    unfold maxLen at this; omega
  clear h
  by_cases hlt : p < l.length
  · have e : endF l.length p f = failF f 9 p := by unfold endF; rw [if_pos hlt]
    rw [e]
    clear e
    go_enter Try.func78, Try.ntmps78
    go_wp2_with fail
    refine (cleft_at HH.out).mono ?_; rintro e w1 ⟨rfl, hb1⟩
    have HR := Lib.hid (HH.out.below hb1)
    have HB := Lib.hid hb1
    obtain ⟨A, c, hblk, hsl, hg, hd, _⟩ := HR.out
    have d1 := hblk.cell 1
    clear hblk hsl hg hd hb1
    go_wp2_with fail
    refine (cfail_at HR.out 9 p).mono ?_; rintro e w2 ⟨rfl, hr2, hch⟩
    have HR2 := Lib.hid hr2
    have HCH := Lib.hid hch
    clear hr2 hch d1
    go_wp2_with fail
    go_end0
    exact ⟨rfl, HR2.out, (Chg.of_pure HB.out _).trans HCH.out⟩
  · have e : endF l.length p f = f := by unfold endF; rw [if_neg hlt]
    rw [e]
    clear e
    go_enter Try.func78, Try.ntmps78
    go_wp2_with fail
    refine (cleft_at HH.out).mono ?_; rintro e w1 ⟨rfl, hb1⟩
    go_wp2_with fail
    go_end0
    exact ⟨rfl, HH.out.below hb1, Chg.of_pure hb1 _⟩
def partE (len p : Nat) (n : Int) : Nat := p + (min (max n 0) ((len : Int) - p)).toNat
end
end Go.Proofs.Ytmdgmnaaopineaa
