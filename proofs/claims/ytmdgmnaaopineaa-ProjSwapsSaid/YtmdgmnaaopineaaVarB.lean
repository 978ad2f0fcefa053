/- varint.Bytes, the reference's Bytes, varint.Read of a reader with a fault. -/
import Derived.Test.YtmdgmnaaopineaaVarM
import Derived.Test.YtmdgmnaaopineaaVar
import Derived.Laws.OwnMore
import Derived.Laws.BitsAllLaws
namespace Go.Proofs.Ytmdgmnaaopineaa
open Go.ChangeShapes Go.WideShapes Go.ChangeAt Go.RowKit
set_option linter.unusedVariables false
theorem vread_bad {w : World} {D : Dom} {g : Nat} {l : List UInt8} {p : Nat} {f : Flt} (h : Rd w D g l p f) (hf : f.1 ≠ 0) : Calls Try.prog 92 #[.pointer (some ⟨g, 0, none⟩)] w fun e w' => e = .returned (.int .u64 0) ∧ Below w.heap.size w w' := by
  have HAT0 := Lib.hid (cat_at h)
  have HB := Lib.hid (cbyte_bad h hf)
  have HH := Lib.hid h
  have HF := Lib.hid hf
  clear h hf
  go_enter Try.func92, Try.ntmps92
  go_wp2_with fail
  go_step3
  go_wp2_with fail
  refine HAT0.out.mono ?_; rintro e w1 ⟨rfl, rfl⟩
  go_wp2_with fail
  go_step3
  go_wp2_with fail
  refine HB.out.mono ?_; rintro e w2 ⟨rfl, hb2⟩
  have HG := Lib.hid (cgood_bad (HH.out.below hb2) HF.out)
  have HB2 := Lib.hid hb2
  clear hb2
  go_wp2_with fail
  refine HG.out.mono ?_; rintro e w3 ⟨rfl, hb3⟩
  have HB3 := Lib.hid (HB2.out.trans (hb3.mono HB2.out.size))
  clear hb3
  go_wp2_with fail
  first | rw [Exit.noGoto_ret] | skip
  go_ret
  exact ⟨rfl, HB3.out⟩
theorem or_128 (y : Nat) : bits .or .u8 ((y : Int) % 256) 128 = (((UInt8.ofNat (128 + y % 128)).toNat : Nat) : Int) := by
  have h1 : ((y : Int) % 256) = ((y % 256 : Nat) : Int) := by simp
  rw [h1, show (128 : Int) = ((128 : Nat) : Int) from rfl, u8_or_nat (y % 256) 128 (by omega) (by omega), ofNat_small (by omega)]
  congr 1
  have h2 : y % 256 = y % 128 + (y / 128 % 2) * 2 ^ 7 := by omega
  have h3 : y % 128 < 2 ^ 7 := by omega
  rcases (show y / 128 % 2 = 0 ∨ y / 128 % 2 = 1 by omega) with h | h
  · rw [h2, h]
    have := or_apart64 (y % 128) 1 7 h3
    simpa [Nat.add_comm] using this
  · rw [h2, h]
    have e := or_apart64 (y % 128) 1 7 h3
    rw [show (1 : Nat) * 2 ^ 7 = 128 from rfl] at e ⊢
    rw [← e, Nat.or_assoc, Nat.or_self, e, Nat.add_comm]
section
variable {w : World}
set_option maxRecDepth 100000 in
set_option maxHeartbeats 4000000 in
theorem vbytes_any (x : Nat) (hx : x < 18446744073709551616) : Calls Try.prog 135 #[.int .u64 (x : Int)] w fun e w' => ∃ A n c, e = .returned (.slice A n c) ∧ w'.ownsRow w.heap.size 5 1 (.slice A n c) n ((vbytes x).map bv) ∧ Below w.heap.size w w' := by
  have hlen10 := vbytes_10 hx
  obtain ⟨V, hV⟩ : ∃ V, V = vbytes x := ⟨_, rfl⟩
  rw [← hV] at hlen10 ⊢
  have HVV := Lib.hid hV
  clear hV
  go_enter Try.func135, Try.ntmps135
  go_wp2_with fail
  go_loopw [0, 3] (fun xx oo wr => ∃ (y n1 : Nat) (pre : List UInt8) (A1 : Option Addr) (c1 : Nat), xx = .int .u64 (y : Int) ∧ oo = .slice A1 n1 c1 ∧ y < 18446744073709551616 ∧ n1 ≤ 10 ∧ Hid (pre.length = n1 ∧ pre ++ vbytes y = V) ∧ Hid (wr.ownsRow w.heap.size 5 1 (.slice A1 n1 c1) n1 (pre.map bv)) ∧ Hid (Below w.heap.size w wr)) (fun xx _ _ => (intOf xx).toNat)
  case atStart => exact ⟨x, 0, [], none, 0, rfl, rfl, hx, by omega, ⟨rfl, HVV.out.symm⟩, World.ownsRow_nil _ _ _ _, Below.refl _ _⟩
  case round =>
    obtain ⟨y, n1, pre, A1, c1, rfl, rfl, hy, hn1, hpre, hrow, hbw⟩ := hrel
    have hzw := hbw.out.size
    have hor := or_128 y
    have hb1 : ((UInt8.ofNat (128 + y % 128)).toNat : Int) = ((128 + y % 128 : Nat) : Int) := by rw [ofNat_small (by omega)]
    have hvp := vbytes_pos y
    have hlt10 : n1 + 1 ≤ 10 := by have h1 := hpre.out.2; have h2 := hpre.out.1; have h3 := congrArg List.length h1; rw [List.length_append] at h3; omega
    obtain ⟨bb, hbb⟩ : ∃ bb : UInt8, bb = UInt8.ofNat (128 + y % 128) := ⟨_, rfl⟩
    obtain ⟨b2, hb2⟩ : ∃ b2 : UInt8, b2 = UInt8.ofNat y := ⟨_, rfl⟩
    have hb2v : ((y : Int) % 256) = (b2.toNat : Int) := by rw [hb2, UInt8.toNat_ofNat']; simp
    rw [← hbb] at hor
    have HBB := Lib.hid hbb
    have HB2 := Lib.hid hb2
    clear hbb hb2 hb1 hvp
    have hor2 : bits .or .u8 ((b2.toNat : Nat) : Int) 128 = (bb.toNat : Int) := by rw [← hb2v]; exact hor
    clear hor
    have hn60 : n1 + 1 ≤ 60000 := by omega
    by_cases hlt : y < 128
    · have hd : decide ((128 : Int) ≤ (y : Int)) = false := by simp; omega
      have HLT := Lib.hid hlt
      clear hlt hor2
      go_wp2_with (refine wpList_app rfl (.tmp 14) (.tmp 17) 36 rfl elemU rfl (hrow.out.alloc _) rfl (Src.new wr (bv b2) _ rfl) (by unfold maxLen; omega) (by omega) (by simp; omega) ?_; intro A2 c2 w3 ho2 hg2 hat2; have HO2 := Lib.hid ho2; have hb3 : Below w.heap.size w w3 := (hbw.out.alloc (show w.heap.size ≤ wr.heap.size from hzw) _).grown hg2 (by simp; omega) (fun k e => (hrow.out.lt k e).1); have HB3 := Lib.hid hb3; clear ho2 hg2 hat2 hb3)
      go_ret
      have e : pre.map bv ++ [bv b2] = (V).map bv := by
        have := hpre.out.2
        rw [vbytes_lt HLT.out, ← HB2.out] at this
        rw [← this, List.map_append]; rfl
      have hV1 : n1 + 1 = V.length := by
        have := congrArg List.length e
        have h1 := hpre.out.1
        simp at this; omega
      exact ⟨A2, _, c2, rfl, by rw [← e]; exact HO2.out, HB3.out⟩
    · have hd : decide ((128 : Int) ≤ (y : Int)) = true := by simp; omega
      have HLT := Lib.hid hlt
      clear hlt
      go_wp2_with (refine wpList_app rfl (.tmp 6) (.tmp 10) 36 rfl elemU rfl (hrow.out.alloc _) rfl (Src.new wr (bv bb) _ rfl) (by unfold maxLen; omega) (by omega) (by simp; omega) ?_; intro A2 c2 w3 ho2 hg2 hat2; have HO2 := Lib.hid ho2; have hb3 : Below w.heap.size w w3 := (hbw.out.alloc (show w.heap.size ≤ wr.heap.size from hzw) _).grown hg2 (by simp; omega) (fun k e => (hrow.out.lt k e).1); have HB3 := Lib.hid hb3; clear ho2 hg2 hat2 hb3)
      have hy2 : y / 128 < 18446744073709551616 := by omega
      go_roundw
      case rel =>
        refine ⟨y / 128, n1 + 1, pre ++ [bb], A2, c2, ?_, rfl, hy2, hlt10, ⟨by rw [List.length_append, hpre.out.1]; rfl, ?_⟩, ?_, HB3.out⟩
        · simp
        · have := hpre.out.2
          rw [vbytes_ge HLT.out, ← HBB.out] at this
          rw [List.append_assoc]; exact this
        · rw [List.map_append]; exact HO2.out
      case measure => have := HLT.out; simp only [intOf]; omega
end
end Go.Proofs.Ytmdgmnaaopineaa
