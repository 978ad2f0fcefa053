/- A row that is dealt out anew, as chance has it. -/
import Derived.Test.YtmdgmnaaopineaaSr5
import Derived.Lib.BitFns
import Derived.Lib.Small
import Derived.Laws.Bits64
import Derived.Laws.Bits64b
import Derived.Laws.Closers25b
import Derived.Deep.DeepCutAuto
import Derived.Deep.CutBlock
namespace Go.Proofs.Ytmdgmnaaopineaa
open Go.ChangeShapes Go.WideShapes Go.ChangeAt Go.RowKit
set_option linter.unusedVariables false
theorem bl_bounds : ∀ (n x : Nat), x ≤ n → 0 < x → x < 2 ^ 64 → x < 2 ^ Lib.bitLen x ∧ 2 ^ Lib.bitLen x ≤ 2 * x
  | 0, x, h, h0, _ => by omega
  | n + 1, x, h, h0, h1 => by
    rw [Lib.bitLen_half x (by omega) h1, Nat.pow_add, Nat.pow_one]
    by_cases h2 : x = 1
    · subst h2
      have e : Lib.bitLen (1 / 2) = 0 := by decide
      rw [e]; decide
    · have ih := bl_bounds n (x / 2) (by omega) (by omega) (by omega)
      omega
theorem tab_size : Lib.len8tab.size = 256 := by decide +kernel
theorem tab_fin : ∀ n : Fin 256, (Lib.len8tab[n.val]'(by rw [tab_size]; exact n.2)).toNat = Lib.bitLen n.val := by decide +kernel
theorem tab_at (x : Nat) (h : x < Lib.len8tab.size) : (Lib.len8tab[x]'h).toNat = Lib.bitLen x := tab_fin ⟨x, by rw [← tab_size]; exact h⟩
theorem bl_le8 (x : Nat) (h : x < 256) : Lib.bitLen x ≤ 8 := Lib.bitLen_le8 ⟨x, h⟩
set_option maxHeartbeats 4000000 in
set_option maxRecDepth 100000 in
theorem len64_any (x : Nat) (w : World) (hx : x < 65536) : Calls Try.prog 158 #[.int .u64 x] w fun e w' => e = .returned (.int .i64 (Lib.bitLen x : Nat)) ∧ w' = w := by
  have d1 : decide ((4294967296 : Int) ≤ (x : Int)) = false := by simp; omega
  have d2 : decide ((65536 : Int) ≤ (x : Int)) = false := by simp; omega
  by_cases h : 256 ≤ x
  · have d3 : decide ((256 : Int) ≤ (x : Int)) = true := by simp; omega
    have s := Lib.bitLen_shift8 x h (by omega)
    have HS := Lib.hid s
    clear s
    go_enter Try.func158, Try.ntmps158
    go_wp2
    · go_ret
      refine ⟨congrArg Ending.returned (congrArg (Value.int IntKind.i64) ?_), rfl⟩
      have hs := HS.out
      have hl := bl_le8 (x / 256) (by omega)
      rw [tab_at]
      unfold wrap64
      omega
    · rename_i hno
      exact absurd ⟨by omega, by rw [tab_size]; omega⟩ hno
  · have d3 : decide ((256 : Int) ≤ (x : Int)) = false := by simp; omega
    have hx2 : (x : Int) < 256 := by omega
    go_enter Try.func158, Try.ntmps158
    go_wp2
    · go_ret
      refine ⟨congrArg Ending.returned (congrArg (Value.int IntKind.i64) ?_), rfl⟩
      have hl := bl_le8 x (by omega)
      rw [tab_at]
      unfold wrap64
      omega
    · rename_i hno
      exact absurd (show x < Lib.len8tab.size by rw [tab_size]; omega) hno
theorem len_any (x : Nat) (w : World) (hx : x < 65536) : Calls Try.prog 144 #[.int .u64 x] w fun e w' => e = .returned (.int .i64 (Lib.bitLen x : Nat)) ∧ w' = w := by
  go_enter Try.func144, Try.ntmps144
  go_wp2_with fail
  refine (len64_any x _ hx).mono ?_; rintro e w' ⟨rfl, rfl⟩
  go_wp2_with fail
  go_ret
  exact ⟨rfl, rfl⟩
/-- The power of two behind a length. -/
def Pow2 (w : World) (x : Nat) (e : Ending) (w' : World) : Prop := ∃ M : Nat, e = .returned (.int .u64 (M : Int)) ∧ 1 ≤ M ∧ M ≤ 2 * x ∧ w' = w
theorem npow_any (x : Nat) (w : World) (h0 : 0 < x) (hx : x < 65536) : Calls Try.prog 160 #[.int .i64 x] w (Pow2 w x) := by
  obtain ⟨k, hk⟩ : ∃ k, k = Lib.bitLen x := ⟨_, rfl⟩
  have hk16 : k ≤ 16 := by rw [hk]; exact Lib.bitLen_le x 16 (by decide) (by omega)
  have hb := (bl_bounds x x (Nat.le_refl _) h0 (by omega)).2
  rw [← hk] at hb
  obtain ⟨M, hM⟩ : ∃ M, M = 2 ^ k := ⟨_, rfl⟩
  have hM1 : 1 ≤ M := by rw [hM]; exact Nat.one_le_two_pow
  have hM2 : M ≤ 131072 := by omega
  have e1 : (2 : Int) ^ k = (M : Int) := by rw [hM]; push_cast; rfl
  have hle : ∀ w, Calls Try.prog 144 #[.int .u64 x] w fun e w' => e = .returned (.int .i64 (k : Int)) ∧ w' = w := fun w => by rw [hk]; exact len_any x w hx
  have HLE := Lib.hid hle
  have HB := Lib.hid hb
  have HM := Lib.hid hM
  have hM2' : (M : Int) ≤ 131072 := by omega
  clear hk hle hb hM
  go_enter Try.func160, Try.ntmps160
  go_wp2_with fail
  refine (HLE.out _).mono ?_; rintro e w' ⟨rfl, rfl⟩
  go_wp2_with fail
  go_ret
  exact ⟨M, rfl, hM1, by rw [HM.out]; exact HB.out, rfl⟩
/-- The next number of chance. -/
def NextN (w : World) (g : Nat) (e : Ending) (w' : World) : Prop := ∃ R : Nat, e = .returned (.int .u64 (R : Int)) ∧ R < 18446744073709551616 ∧ Blk w' g 181 #[.int .u64 (R : Int)] ∧ Chg (fun k => k = g) w w'
set_option maxHeartbeats 1000000 in
theorem xnext_any {w : World} {g X : Nat} (h : Blk w g 181 #[.int .u64 (X : Int)]) (hX : X < 18446744073709551616) :
    Calls Try.prog 161 #[.pointer (some ⟨g, 0, none⟩)] w (NextN w g) := by
  obtain ⟨A, hA⟩ : ∃ A : Nat, (A : Int) = bits .xor .u64 (X : Int) (IntKind.u64.wrap ((X : Int) * 8192)) := ⟨(bits .xor .u64 (X : Int) (IntKind.u64.wrap ((X : Int) * 8192))).toNat, by have := bits_lo_u64 .xor (X : Int) (IntKind.u64.wrap ((X : Int) * 8192)); omega⟩
  obtain ⟨B, hB⟩ : ∃ B : Nat, (B : Int) = bits .xor .u64 (A : Int) ((A : Int) / 128) := ⟨(bits .xor .u64 (A : Int) ((A : Int) / 128)).toNat, by have := bits_lo_u64 .xor (A : Int) ((A : Int) / 128); omega⟩
  obtain ⟨C, hC⟩ : ∃ C : Nat, (C : Int) = bits .xor .u64 (B : Int) (IntKind.u64.wrap ((B : Int) * 131072)) := ⟨(bits .xor .u64 (B : Int) (IntKind.u64.wrap ((B : Int) * 131072))).toNat, by have := bits_lo_u64 .xor (B : Int) (IntKind.u64.wrap ((B : Int) * 131072)); omega⟩
  have hA2 : A < 18446744073709551616 := by have := bits_hi_u64 .xor (X : Int) (IntKind.u64.wrap ((X : Int) * 8192)); omega
  have hB2 : B < 18446744073709551616 := by have := bits_hi_u64 .xor (A : Int) ((A : Int) / 128); omega
  have hC2 : C < 18446744073709551616 := by have := bits_hi_u64 .xor (B : Int) (IntKind.u64.wrap ((B : Int) * 131072)); omega
  have e1 := hA.symm
  have e2 := hB.symm
  have e3 := hC.symm
  have HK := Lib.hid h
  have g0 := h.cell 0
  have z0 := h.frozen 0
  clear hA hB hC h
  go_enter Try.func161, Try.ntmps161
  go_wp2_with fail
  go_region
  all_goals go_wp2_with fail
  have HK1 : Hid (Blk ((w.setCell ⟨g, 0, none⟩ (.int .u64 (A : Int))).drew) g 181 #[.int .u64 (A : Int)]) := HK.out.put 0 _
  have HC1 : Hid (Chg (fun k => k = g) w ((w.setCell ⟨g, 0, none⟩ (.int .u64 (A : Int))).drew)) := ((Chg.refl (fun k => k = g) w).setCell (p := ⟨g, 0, none⟩) (.inl rfl) _).drew
  clear g0 z0
  generalize World.drew (World.setCell w _ _) = w1 at *
  have g0 := (show Blk w1 g 181 _ from HK1.out).cell 0
  have z0 := (show Blk w1 g 181 _ from HK1.out).frozen 0
  go_region
  all_goals go_wp2_with fail
  have HK2 : Hid (Blk ((w1.setCell ⟨g, 0, none⟩ (.int .u64 (B : Int))).drew) g 181 #[.int .u64 (B : Int)]) := Blk.put (show Blk w1 g 181 _ from HK1.out) 0 _
  have HC2 : Hid (Chg (fun k => k = g) w ((w1.setCell ⟨g, 0, none⟩ (.int .u64 (B : Int))).drew)) := ((show Chg (fun k => k = g) w w1 from HC1.out).setCell (p := ⟨g, 0, none⟩) (.inl rfl) _).drew
  clear g0 z0
  generalize World.drew (World.setCell w1 _ _) = w2 at *
  have g0 := (show Blk w2 g 181 _ from HK2.out).cell 0
  have z0 := (show Blk w2 g 181 _ from HK2.out).frozen 0
  go_region
  all_goals go_wp2_with fail
  go_ret
  exact ⟨C, rfl, hC2, Blk.put (show Blk w2 g 181 _ from HK2.out) 0 _, ((show Chg (fun k => k = g) w w2 from HC2.out).setCell (p := ⟨g, 0, none⟩) (.inl rfl) _).drew⟩
set_option maxRecDepth 100000 in
set_option maxHeartbeats 4000000 in
theorem sbreak_any {blk off cap a b n : Nat} {d : Array Int} {w : World} (hH : Sort.Holds eu w blk off d) (hl : blk < w.heap.size) (hn : d.size = n) (hab : a + 13 ≤ b) (hb : b ≤ n) (hsz : n < 65536) :
    Calls Try.prog 150 #[.slice (some ⟨blk, off, none⟩) n cap, .int .i64 a, .int .i64 b] w (Perms w blk off a b d) := by
  have HS := Lib.hid (SW.refl hH hl)
  have HN := Lib.hid hn
  obtain ⟨L, hL⟩ : ∃ L, L = b - a := ⟨_, rfl⟩
  obtain ⟨q, hq⟩ : ∃ q, q = L / 4 := ⟨_, rfl⟩
  obtain ⟨lo, hlo⟩ : ∃ lo, lo = a + q * 2 - 1 := ⟨_, rfl⟩
  obtain ⟨up, hup⟩ : ∃ up, up = a + q * 2 + 1 := ⟨_, rfl⟩
  obtain ⟨z, hz⟩ : ∃ z, z = a + q * 2 := ⟨_, rfl⟩
  have y0 : (b : Int) - (a : Int) = (L : Int) := by omega
  have y1 : (L : Int) / 4 = (q : Int) := by omega
  have y2 : (a : Int) + (q : Int) * 2 = (z : Int) := by omega
  have y3 : (z : Int) - 1 = (lo : Int) := by omega
  have y4 : (z : Int) + 1 = (up : Int) := by omega
  have hL13 : 13 ≤ L := by omega
  have hLn : L ≤ n := by omega
  have hqn : q ≤ n := by omega
  have hzn : z ≤ n := by omega
  have hlo1 : a ≤ lo := by omega
  have hup1 : up < b := by omega
  have hlu : lo ≤ up := by omega
  have haL : a + L = b := by omega
  have d8 : decide (8 ≤ L) = true := by simp; omega
  have hb1 := below1' w (.cells #[.int .u64 (L : Int)] 181)
  have HB1 := Lib.hid hb1
  have HS1 := Lib.hid (HS.out.below hb1)
  have HG := Lib.hid (Blk.new w 181 #[.int .u64 (L : Int)])
  have hgb : w.heap.size ≠ blk := by omega
  clear hn hH hl hL hq hlo hup hz hb1
  go_enter Try.func150, Try.ntmps150
  go_upto_region 3 with (fail)
  generalize World.alloc w _ = w0 at *
  obtain ⟨g, hg⟩ : ∃ g, g = w.heap.size := ⟨_, rfl⟩
  rw [← hg] at HG hgb
  rw [← hg]
  have HGE := Lib.hid hg
  clear hg
  go_wp2_with fail
  refine (npow_any L _ (by omega) (by omega)).mono ?_; rintro e w' ⟨M, rfl, hM1, hM2, rfl⟩
  have hM3 : M ≤ 131072 := by omega
  go_wp2_with fail
  try simp only [y1, y2, y3]
  go_loopw [9] (fun vi wr => ∃ (i R : Nat) (dk : Array Int), lo ≤ i ∧ i ≤ up + 1 ∧ vi = .int .i64 i ∧ R < 18446744073709551616 ∧ Hid (SW w wr blk off d dk) ∧ Hid (Sort.PermIn a b d dk) ∧ Hid (Blk wr g 181 #[.int .u64 (R : Int)])) (fun vi _ => up + 1 - (intOf vi).toNat)
  case atStart => exact ⟨lo, L, d, Nat.le_refl _, by omega, rfl, by omega, HS1, Sort.permIn_refl _ _ _, HG⟩
  case round =>
    obtain ⟨i, R, dk, hi1, hi2, rfl, hR, hsw, hpm, hgk⟩ := hrel
    by_cases hiu : i ≤ up
    case neg =>
      have hd : decide (i ≤ up) = false := by simpa using hiu
      go_wp2_with fail
      go_end0
      exact ⟨dk, rfl, hsw.out, hpm.out⟩
    case pos =>
      have hd : decide (i ≤ up) = true := by simpa using hiu
      go_wp2_with fail
      refine (xnext_any hgk.out hR).mono ?_; rintro e w1 ⟨R', rfl, hR', hk', hc'⟩
      have HSW := Lib.hid (hsw.out.far hc' (fun e => hgb e.symm) (fun k e => by have e' : k = g := e; rw [e', HGE.out]; exact Nat.le_refl _))
      have HK := Lib.hid hk'
      clear hk' hc'
      obtain ⟨O, hO⟩ : ∃ O, O = R' &&& (M - 1) := ⟨_, rfl⟩
      have hO1 : O ≤ M - 1 := by rw [hO]; exact Nat.and_le_right
      have y5 : bits .and .u64 (R' : Int) ((M : Int) - 1) = (O : Int) := by
        rw [show (M : Int) - 1 = ((M - 1 : Nat) : Int) by omega, bits_and_u64_nat _ _ hR' (by omega), hO]
      have hO2 : O < 131072 := by omega
      clear hO
      obtain ⟨T, hT, hTL⟩ : ∃ T, T = (if L ≤ O then O - L else O) ∧ T < L := ⟨_, rfl, by split <;> omega⟩
      obtain ⟨f, hf⟩ : ∃ f, f = a + T := ⟨_, rfl⟩
      have hdn : dk.size = n := hsw.out.sz.trans HN.out
      have hin : i < n := by omega
      have hfn : f < n := by omega
      have hfb : f < b := by omega
      have haf : a ≤ f := by omega
      have hai : a ≤ i := by omega
      have HPM : Hid (Sort.PermIn a b d (Sort.swp dk i f)) := Sort.permIn_trans _ _ _ _ _ hpm.out (Sort.swp_permIn dk a b i f hai (by omega) haf hfb (by omega))
      obtain ⟨X, hX⟩ : ∃ X, X = dk[i]! := ⟨_, rfl⟩
      obtain ⟨Y, hY⟩ : ∃ X, X = dk[f]! := ⟨_, rfl⟩
      have c1 := HSW.out.cell (t := i) (by omega)
      have c2 := HSW.out.cell (t := f) (by omega)
      have z1 := HSW.out.frozen (t := i) (by omega)
      have z2 := HSW.out.frozen (t := f) (by omega)
      rw [← hX] at c1
      rw [← hY] at c2
      obtain ⟨Z, hZ⟩ := cell?_setCell_some (p := ⟨blk, off + i, none⟩) (x := .int .u64 Y) c2
      have HX := Lib.hid hX
      have HY := Lib.hid hY
      have HDN := Lib.hid hdn
      have y6 : IntKind.i64.wrap ((a : Int) + (T : Int)) = (f : Int) := by rw [IntWalk.i64_in _ (by omega)]; omega
      by_cases hOL : L ≤ O
      case pos =>
        have hd2 : decide (L ≤ O) = true := by simpa using hOL
        rw [if_pos hOL] at hT
        have y7 : (O : Int) - (L : Int) = (T : Int) := by omega
        clear hX hY hdn hf hT
        go_wp2_with fail
        go_region
        all_goals go_wp2_with fail
        all_goals go_roundw
        case rel => exact ⟨i + 1, R', Sort.swp dk i f, Nat.le_succ_of_le hi1, Nat.succ_le_succ hiu, by go_num, hR', SW.same (HSW.out.swpv (w := w1) (by rw [HDN.out]; exact hin) (by rw [HDN.out]; exact hfn) HX.out HY.out rfl rfl rfl rfl) rfl rfl rfl rfl, HPM, ((Blk.far (show Blk w1 g 181 _ from HK.out) (p := ⟨blk, off + i, none⟩) hgb _).far (p := ⟨blk, off + f, none⟩) hgb _)⟩
        case measure => clear y0 y1 y2 y3 y4 y5 y6; simp [intOf]; omega
      case neg =>
        have hd2 : decide (L ≤ O) = false := by simpa using hOL
        rw [if_neg hOL] at hT
        subst hT
        clear hX hY hdn hf
        go_wp2_with fail
        go_region
        all_goals go_wp2_with fail
        all_goals go_roundw
        case rel => exact ⟨i + 1, R', Sort.swp dk i f, Nat.le_succ_of_le hi1, Nat.succ_le_succ hiu, by go_num, hR', SW.same (HSW.out.swpv (w := w1) (by rw [HDN.out]; exact hin) (by rw [HDN.out]; exact hfn) HX.out HY.out rfl rfl rfl rfl) rfl rfl rfl rfl, HPM, ((Blk.far (show Blk w1 g 181 _ from HK.out) (p := ⟨blk, off + i, none⟩) hgb _).far (p := ⟨blk, off + f, none⟩) hgb _)⟩
        case measure => clear y0 y1 y2 y3 y4 y5 y6; simp [intOf]; omega
end Go.Proofs.Ytmdgmnaaopineaa
