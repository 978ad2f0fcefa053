/- A reader with a fault: no call changes anything. -/
import Derived.Test.YtmdgmnaaopineaaCur2
namespace Go.Proofs.Ytmdgmnaaopineaa
open Go.ChangeShapes Go.WideShapes Go.ChangeAt Go.RowKit
set_option linter.unusedVariables false
section
variable {w : World} {D : Dom} {g : Nat} {l : List UInt8} {p : Nat} {f : Flt}
theorem cgood_bad (h : Rd w D g l p f) (hf : f.1 ≠ 0) : Calls Try.prog 56 #[.pointer (some ⟨g, 0, none⟩)] w fun e w' => e = .returned (.bool false) ∧ Below w.heap.size w w' := by
  have := cgood_at h
  rw [show (f.1 == 0) = false by simpa using hf] at this
  exact this
theorem cfail_bad (h : Rd w D g l p f) (hf : f.1 ≠ 0) (c a : Int) : Calls Try.prog 91 #[.pointer (some ⟨g, 0, none⟩), .int .i64 c, .int .i64 a] w fun e w' => e = .returned (.tuple #[]) ∧ Below w.heap.size w w' := by
  have HC := Lib.hid (cgood_bad h hf)
  clear h hf
  go_enter Try.func91, Try.ntmps91
  go_wp2_with fail
  refine HC.out.mono ?_; rintro e w1 ⟨rfl, hb1⟩
  go_wp2_with fail
  go_end0
  exact ⟨rfl, hb1⟩
theorem cskip_bad (h : Rd w D g l p f) (hf : f.1 ≠ 0) (n : Int) : Calls Try.prog 146 #[.pointer (some ⟨g, 0, none⟩), .int .i64 n] w fun e w' => e = .returned (.bool false) ∧ Below w.heap.size w w' := by
  have HC := Lib.hid (cgood_bad h hf)
  clear h hf
  go_enter Try.func146, Try.ntmps146
  go_wp2_with fail
  refine HC.out.mono ?_; rintro e w1 ⟨rfl, hb1⟩
  go_wp2_with fail
  go_ret
  exact ⟨rfl, hb1⟩
theorem cbyte_bad (h : Rd w D g l p f) (hf : f.1 ≠ 0) : Calls Try.prog 130 #[.pointer (some ⟨g, 0, none⟩)] w fun e w' => e = .returned (.int .u8 0) ∧ Below w.heap.size w w' := by
  have HC := Lib.hid (cskip_bad h hf 1)
  clear h hf
  go_enter Try.func130, Try.ntmps130
  go_wp2_with fail
  refine HC.out.mono ?_; rintro e w1 ⟨rfl, hb1⟩
  go_wp2_with fail
  go_ret
  exact ⟨rfl, hb1⟩
theorem cend_bad (h : Rd w D g l p f) (hf : f.1 ≠ 0) : Calls Try.prog 78 #[.pointer (some ⟨g, 0, none⟩)] w fun e w' => e = .returned (.tuple #[]) ∧ Below w.heap.size w w' := by
  have hp := h.le
  have HH := Lib.hid h
  have HF := Lib.hid hf
  have hlm : l.length ≤ 9223372036854775807 := by
    obtain ⟨A, c, hb, hsl, _⟩ := h
    have := Rp.sl_len hsl
    unfold maxLen at this; omega
  clear h hf
  by_cases hlt : p < l.length
  · go_enter Try.func78, Try.ntmps78
    go_wp2_with fail
    refine (cleft_at HH.out).mono ?_; rintro e w1 ⟨rfl, hb1⟩
    have HR := Lib.hid (HH.out.below hb1)
    have HB := Lib.hid hb1
    obtain ⟨A, c, hblk, hsl, hg, hd, _⟩ := HR.out
    have d1 := hblk.cell 1
    clear hblk hsl hg hd hb1
    go_wp2_with fail
    refine (cfail_bad HR.out HF.out 9 p).mono ?_; rintro e w2 ⟨rfl, hb2⟩
    go_wp2_with fail
    go_end0
    exact ⟨rfl, HB.out.trans (hb2.mono HB.out.size)⟩
  · go_enter Try.func78, Try.ntmps78
    go_wp2_with fail
    refine (cleft_at HH.out).mono ?_; rintro e w1 ⟨rfl, hb1⟩
    go_wp2_with fail
    go_end0
    exact ⟨rfl, hb1⟩
end
end Go.Proofs.Ytmdgmnaaopineaa
