/-
  The law of this claim, a further part of its proof (1): the parts Sr5, Sr6, Sr7, Sr8, Sr9, Sr10.
-/
import Derived.Test.YtcbmnfjbmkpfiaaSr3
import Derived.Test.YtcbmnfjbmkpfiaaSr4
import Derived.Lib.BitFns
import Derived.Lib.Small
import Derived.Laws.Bits64
import Derived.Laws.Bits64b
import Derived.Laws.Closers25b
import Derived.Deep.DeepCutAuto
import Derived.Deep.CutBlock
/- The choice of a pivot; a row turned round. -/
namespace Go.Proofs.Ytcbmnfjbmkpfiaa
open Go.ChangeShapes Go.WideShapes Go.ChangeAt Go.RowKit
set_option linter.unusedVariables false
set_option maxRecDepth 100000 in
set_option maxHeartbeats 4000000 in
theorem pivot_any {blk off cap n a b : Nat} {w : World} (hr : Rw w blk off n) (hl : blk < w.heap.size) (hn : n < 1152921504606846976) (hab : a + 13 ≤ b) (hb : b ≤ n) :
    Calls Try.prog 84 #[.slice (some ⟨blk, off, none⟩) n cap, .int .i64 a, .int .i64 b] w (Piv w a b) := by
  obtain ⟨l, hl0⟩ : ∃ l, l = b - a := ⟨_, rfl⟩
  obtain ⟨q, hq⟩ : ∃ q, q = l / 4 := ⟨_, rfl⟩
  obtain ⟨i, hi⟩ : ∃ i, i = a + q := ⟨_, rfl⟩
  obtain ⟨j, hj⟩ : ∃ j, j = a + q * 2 := ⟨_, rfl⟩
  obtain ⟨k, hk⟩ : ∃ k, k = a + q * 3 := ⟨_, rfl⟩
  have y0 : (b : Int) - (a : Int) = (l : Int) := by omega
  have y1 : (l : Int) / 4 = (q : Int) := by omega
  have y2 : (a : Int) + (q : Int) = (i : Int) := by omega
  have y3 : (a : Int) + (q : Int) * 2 = (j : Int) := by omega
  have y4 : (a : Int) + (q : Int) * 3 = (k : Int) := by omega
  have hl13 : 13 ≤ l := by omega
  have hln : l ≤ n := by omega
  have hqn : q ≤ n := by omega
  have hi1 : a ≤ i ∧ i < b := by omega
  have hj1 : a ≤ j ∧ j < b := by omega
  have hk1 : a ≤ k ∧ k < b := by omega
  have d8 : decide (8 ≤ l) = true := by simp; omega
  have HR0 := Lib.hid (hr.keep hl (Chg.of_pure (below1' w (.cells #[.int .i64 0] 3)) (fun _ => False)) id)
  have hg0 := Lib.hid (Blk.new w 3 #[.int .i64 0])
  have HBL := Lib.hid (below1' w (.cells #[.int .i64 0] 3))
  obtain ⟨g, hg⟩ : ∃ g, g = w.heap.size := ⟨_, rfl⟩
  rw [← hg] at hg0
  have hgb : g ≠ blk := by omega
  have hl1 : blk < (w.alloc (.cells #[.int .i64 0] 3)).heap.size := by simp; omega
  have HG := Lib.hid hg
  have HQ := Lib.hid hq
  have HL0 := Lib.hid hl0
  have HI := Lib.hid hi
  have HJ := Lib.hid hj
  have HK := Lib.hid hk
  clear hr hl hq hl0 hi hj hk
  by_cases h50 : 50 ≤ l
  case neg =>
    have d50 : decide (50 ≤ l) = false := by simpa using h50
    go_enter Try.func84, Try.ntmps84
    go_wp2_with fail
    rw [← hg]
    clear hg
    generalize World.alloc w _ = w0 at *
    refine (median_any (w := w0) HR0.out hl1 hn hgb ⟨_, hg0.out⟩ (p := i) (q := j) (r := k) (by omega) (by omega) (by omega)).mono ?_; rintro e w1 ⟨u, rfl, hu, hc⟩
    have hu1 : a ≤ u ∧ u < b := by rcases hu with rfl | rfl | rfl <;> assumption
    obtain ⟨s, hs⟩ := hc.blk
    have HC := Lib.hid hc
    have g0 := hs.cell 0
    have HBZ := Lib.hid (Cnt.below HBL.out (Nat.le_of_eq HG.out.symm) hc)
    clear hc hs hu
    by_cases h0 : s = 0
    case pos =>
      have e0 : (s == 0) = true := by simpa using h0
      clear h0
      go_wp2_with fail
      go_ret2
      exact ⟨u, 1, rfl, hu1.1, hu1.2, HBZ.out⟩
    case neg =>
      have e0 : (s == 0) = false := by simpa using h0
      by_cases h12 : s = 12
      case pos =>
        have e12 : (s == 12) = true := by simpa using h12
        clear h0 h12
        go_wp2_with fail
        go_ret2
        exact ⟨u, 2, rfl, hu1.1, hu1.2, HBZ.out⟩
      case neg =>
        have e12 : (s == 12) = false := by simpa using h12
        clear h0 h12
        go_wp2_with fail
        go_ret2
        exact ⟨u, 0, rfl, hu1.1, hu1.2, HBZ.out⟩
  case pos =>
    have d50 : decide (50 ≤ l) = true := by simpa using h50
    have hq12 : 12 ≤ q := by have := HQ.out; omega
    have hib : i + 1 < b ∧ a + 1 ≤ i := by have := HI.out; have := HQ.out; have := HL0.out; omega
    have hjb : j + 1 < b ∧ a + 1 ≤ j := by have := HJ.out; have := HQ.out; have := HL0.out; omega
    have hkb : k + 1 < b ∧ a + 1 ≤ k := by have := HK.out; have := HQ.out; have := HL0.out; omega
    go_enter Try.func84, Try.ntmps84
    go_wp2_with fail
    rw [← hg]
    clear hg
    generalize World.alloc w _ = w0 at *
    refine (medadj_any (w := w0) HR0.out hl1 hn hgb ⟨_, hg0.out⟩ (p := i) (by omega) (by omega)).mono ?_; rintro e wa ⟨ui, rfl, hui, hca⟩
    have hui1 : a ≤ ui ∧ ui < b := by omega
    have HRA := Lib.hid (HR0.out.keep hl1 hca.ch (fun e => hgb e.symm))
    have hla : blk < wa.heap.size := Nat.lt_of_lt_of_le hl1 hca.ch.size
    have HCA := Lib.hid hca
    clear hui hca
    go_wp2_with fail
    refine (medadj_any (w := wa) HRA.out hla hn hgb HCA.out.blk (p := j) (by omega) (by omega)).mono ?_; rintro e wb ⟨uj, rfl, huj, hcb⟩
    have huj1 : a ≤ uj ∧ uj < b := by omega
    have HRB := Lib.hid (HRA.out.keep hla hcb.ch (fun e => hgb e.symm))
    have hlb : blk < wb.heap.size := Nat.lt_of_lt_of_le hla hcb.ch.size
    have HCB := Lib.hid (HCA.out.trans hcb)
    clear huj hcb
    go_wp2_with fail
    refine (medadj_any (w := wb) HRB.out hlb hn hgb HCB.out.blk (p := k) (by omega) (by omega)).mono ?_; rintro e wc ⟨uk, rfl, huk, hcc⟩
    have huk1 : a ≤ uk ∧ uk < b := by omega
    have HRC := Lib.hid (HRB.out.keep hlb hcc.ch (fun e => hgb e.symm))
    have hlc : blk < wc.heap.size := Nat.lt_of_lt_of_le hlb hcc.ch.size
    have HCC := Lib.hid (HCB.out.trans hcc)
    clear huk hcc
    go_wp2_with fail
    refine (median_any (w := wc) HRC.out hlc hn hgb HCC.out.blk (p := ui) (q := uj) (r := uk) (by omega) (by omega) (by omega)).mono ?_; rintro e w1 ⟨u, rfl, hu, hc0⟩
    have hu1 : a ≤ u ∧ u < b := by rcases hu with rfl | rfl | rfl <;> assumption
    have hc := HCC.out.trans hc0
    clear hc0
    obtain ⟨s, hs⟩ := hc.blk
    have HC := Lib.hid hc
    have g0 := hs.cell 0
    have HBZ := Lib.hid (Cnt.below HBL.out (Nat.le_of_eq HG.out.symm) hc)
    clear hc hs hu
    by_cases h0 : s = 0
    case pos =>
      have e0 : (s == 0) = true := by simpa using h0
      clear h0
      go_wp2_with fail
      go_ret2
      exact ⟨u, 1, rfl, hu1.1, hu1.2, HBZ.out⟩
    case neg =>
      have e0 : (s == 0) = false := by simpa using h0
      by_cases h12 : s = 12
      case pos =>
        have e12 : (s == 12) = true := by simpa using h12
        clear h0 h12
        go_wp2_with fail
        go_ret2
        exact ⟨u, 2, rfl, hu1.1, hu1.2, HBZ.out⟩
      case neg =>
        have e12 : (s == 12) = false := by simpa using h12
        clear h0 h12
        go_wp2_with fail
        go_ret2
        exact ⟨u, 0, rfl, hu1.1, hu1.2, HBZ.out⟩
/-- What turns a row round, or deals it out anew. -/
def Perms (w : World) (blk off a b : Nat) (d : Array Int) (e : Ending) (w' : World) : Prop := ∃ d', e = .returned (.tuple #[]) ∧ SW w w' blk off d d' ∧ Sort.PermIn a b d d'
set_option maxHeartbeats 4000000 in
theorem srev_any {blk off cap a b n : Nat} {d : Array Int} {w : World} (hH : Sort.Holds eu w blk off d) (hl : blk < w.heap.size) (hn : d.size = n) (hab : a < b) (hb : b ≤ n) (hsz : n < 1152921504606846976) :
    Calls Try.prog 85 #[.slice (some ⟨blk, off, none⟩) n cap, .int .i64 a, .int .i64 b] w (Perms w blk off a b d) := by
  have HS := Lib.hid (SW.refl hH hl)
  have HN := Lib.hid hn
  obtain ⟨m, hm⟩ : ∃ m, m = b - 1 := ⟨_, rfl⟩
  have y0 : (b : Int) - 1 = (m : Int) := by omega
  have hmb : m < b := by omega
  clear hn hH hl hm
  go_enter Try.func85, Try.ntmps85
  go_wp2_with fail
  try simp only [y0]
  go_loopw [6, 7] (fun vi vj wr => ∃ (i j : Nat) (dk : Array Int), a ≤ i ∧ i ≤ n ∧ j < b ∧ vi = .int .i64 i ∧ vj = .int .i64 j ∧ Hid (SW w wr blk off d dk) ∧ Hid (Sort.PermIn a b d dk)) (fun _ vj _ => (intOf vj).toNat)
  case atStart => exact ⟨a, m, d, Nat.le_refl _, by omega, hmb, rfl, rfl, HS, Sort.permIn_refl _ _ _⟩
  case round =>
    obtain ⟨i, j, dk, hi1, hi2, hj1, rfl, rfl, hsw, hpm⟩ := hrel
    by_cases hij : i < j
    case neg =>
      have hd : decide (i < j) = false := by simpa using hij
      go_wp2_with fail
      go_end0
      exact ⟨dk, rfl, hsw.out, hpm.out⟩
    case pos =>
      have hd : decide (i < j) = true := by simpa using hij
      have hdn : dk.size = n := hsw.out.sz.trans HN.out
      have hin : i < n := by omega
      have hjn : j < n := by omega
      have HPM : Hid (Sort.PermIn a b d (Sort.swp dk i j)) := Sort.permIn_trans _ _ _ _ _ hpm.out (Sort.swp_permIn dk a b i j hi1 (by omega) (by omega) hj1 (by omega))
      obtain ⟨k, hk⟩ : ∃ k, k = j - 1 := ⟨_, rfl⟩
      have hkb : k < b := by omega
      have hkj : k < j := by omega
      have y1 : (j : Int) - 1 = (k : Int) := by omega
      obtain ⟨X, hX⟩ : ∃ X, X = dk[i]! := ⟨_, rfl⟩
      obtain ⟨Y, hY⟩ : ∃ X, X = dk[j]! := ⟨_, rfl⟩
      have c1 := hsw.out.cell (t := i) (by omega)
      have c2 := hsw.out.cell (t := j) (by omega)
      have z1 := hsw.out.frozen (t := i) (by omega)
      have z2 := hsw.out.frozen (t := j) (by omega)
      rw [← hX] at c1
      rw [← hY] at c2
      have HX := Lib.hid hX
      have HY := Lib.hid hY
      have HDN := Lib.hid hdn
      clear hX hY hdn hk
      go_wp2_with fail
      go_region
      all_goals go_wp2_with fail
      all_goals go_roundw
      case rel => exact ⟨i + 1, k, Sort.swp dk i j, by omega, by omega, hkb, by go_num, rfl, SW.same (hsw.out.swpv (w := wr) (by rw [HDN.out]; exact hin) (by rw [HDN.out]; exact hjn) HX.out HY.out rfl rfl rfl rfl) rfl rfl rfl rfl, HPM⟩
      case measure => clear y1; simp [intOf]; omega
end Go.Proofs.Ytcbmnfjbmkpfiaa
/- A row that is dealt out anew, as chance has it. -/
namespace Go.Proofs.Ytcbmnfjbmkpfiaa
open Go.ChangeShapes Go.WideShapes Go.ChangeAt Go.RowKit
set_option linter.unusedVariables false
theorem bl_bounds : ∀ (n x : Nat), x ≤ n → 0 < x → x < 2 ^ 64 → x < 2 ^ Lib.bitLen x ∧ 2 ^ Lib.bitLen x ≤ 2 * x
  | 0, x, h, h0, _ => by omega
  | n + 1, x, h, h0, h1 => by
    rw [Lib.bitLen_half x (by omega) h1, Nat.pow_add, Nat.pow_one]
    by_cases h2 : x = 1
    · subst h2
      have e : Lib.bitLen (1 / 2) = 0 := by decide
      rw [e]; decide
    · have ih := bl_bounds n (x / 2) (by omega) (by omega) (by omega)
      omega
theorem tab_size : Lib.len8tab.size = 256 := by decide +kernel
theorem tab_fin : ∀ n : Fin 256, (Lib.len8tab[n.val]'(by rw [tab_size]; exact n.2)).toNat = Lib.bitLen n.val := by decide +kernel
theorem tab_at (x : Nat) (h : x < Lib.len8tab.size) : (Lib.len8tab[x]'h).toNat = Lib.bitLen x := tab_fin ⟨x, by rw [← tab_size]; exact h⟩
theorem bl_le8 (x : Nat) (h : x < 256) : Lib.bitLen x ≤ 8 := Lib.bitLen_le8 ⟨x, h⟩
set_option maxHeartbeats 4000000 in
set_option maxRecDepth 100000 in
theorem len64_any (x : Nat) (w : World) (hx : x < 65536) : Calls Try.prog 91 #[.int .u64 x] w fun e w' => e = .returned (.int .i64 (Lib.bitLen x : Nat)) ∧ w' = w := by
  have d1 : decide ((4294967296 : Int) ≤ (x : Int)) = false := by simp; omega
  have d2 : decide ((65536 : Int) ≤ (x : Int)) = false := by simp; omega
  by_cases h : 256 ≤ x
  · have d3 : decide ((256 : Int) ≤ (x : Int)) = true := by simp; omega
    have s := Lib.bitLen_shift8 x h (by omega)
    have HS := Lib.hid s
    clear s
    go_enter Try.func91, Try.ntmps91
    go_wp2
    · go_ret
      refine ⟨congrArg Ending.returned (congrArg (Value.int IntKind.i64) ?_), rfl⟩
      have hs := HS.out
      have hl := bl_le8 (x / 256) (by omega)
      rw [tab_at]
      unfold wrap64
      omega
    · rename_i hno
      exact absurd ⟨by omega, by rw [tab_size]; omega⟩ hno
  · have d3 : decide ((256 : Int) ≤ (x : Int)) = false := by simp; omega
    have hx2 : (x : Int) < 256 := by omega
    go_enter Try.func91, Try.ntmps91
    go_wp2
    · go_ret
      refine ⟨congrArg Ending.returned (congrArg (Value.int IntKind.i64) ?_), rfl⟩
      have hl := bl_le8 x (by omega)
      rw [tab_at]
      unfold wrap64
      omega
    · rename_i hno
      exact absurd (show x < Lib.len8tab.size by rw [tab_size]; omega) hno
theorem len_any (x : Nat) (w : World) (hx : x < 65536) : Calls Try.prog 75 #[.int .u64 x] w fun e w' => e = .returned (.int .i64 (Lib.bitLen x : Nat)) ∧ w' = w := by
  go_enter Try.func75, Try.ntmps75
  go_wp2_with fail
  refine (len64_any x _ hx).mono ?_; rintro e w' ⟨rfl, rfl⟩
  go_wp2_with fail
  go_ret
  exact ⟨rfl, rfl⟩
/-- The power of two behind a length. -/
def Pow2 (w : World) (x : Nat) (e : Ending) (w' : World) : Prop := ∃ M : Nat, e = .returned (.int .u64 (M : Int)) ∧ 1 ≤ M ∧ M ≤ 2 * x ∧ w' = w
theorem npow_any (x : Nat) (w : World) (h0 : 0 < x) (hx : x < 65536) : Calls Try.prog 98 #[.int .i64 x] w (Pow2 w x) := by
  obtain ⟨k, hk⟩ : ∃ k, k = Lib.bitLen x := ⟨_, rfl⟩
  have hk16 : k ≤ 16 := by rw [hk]; exact Lib.bitLen_le x 16 (by decide) (by omega)
  have hb := (bl_bounds x x (Nat.le_refl _) h0 (by omega)).2
  rw [← hk] at hb
  obtain ⟨M, hM⟩ : ∃ M, M = 2 ^ k := ⟨_, rfl⟩
  have hM1 : 1 ≤ M := by rw [hM]; exact Nat.one_le_two_pow
  have hM2 : M ≤ 131072 := by omega
  have e1 : (2 : Int) ^ k = (M : Int) := by rw [hM]; push_cast; rfl
  have hle : ∀ w, Calls Try.prog 75 #[.int .u64 x] w fun e w' => e = .returned (.int .i64 (k : Int)) ∧ w' = w := fun w => by rw [hk]; exact len_any x w hx
  have HLE := Lib.hid hle
  have HB := Lib.hid hb
  have HM := Lib.hid hM
  have hM2' : (M : Int) ≤ 131072 := by omega
  clear hk hle hb hM
  go_enter Try.func98, Try.ntmps98
  go_wp2_with fail
  refine (HLE.out _).mono ?_; rintro e w' ⟨rfl, rfl⟩
  go_wp2_with fail
  go_ret
  exact ⟨M, rfl, hM1, by rw [HM.out]; exact HB.out, rfl⟩
/-- The next number of chance. -/
def NextN (w : World) (g : Nat) (e : Ending) (w' : World) : Prop := ∃ R : Nat, e = .returned (.int .u64 (R : Int)) ∧ R < 18446744073709551616 ∧ Blk w' g 108 #[.int .u64 (R : Int)] ∧ Chg (fun k => k = g) w w'
set_option maxHeartbeats 1000000 in
theorem xnext_any {w : World} {g X : Nat} (h : Blk w g 108 #[.int .u64 (X : Int)]) (hX : X < 18446744073709551616) :
    Calls Try.prog 99 #[.pointer (some ⟨g, 0, none⟩)] w (NextN w g) := by
  obtain ⟨A, hA⟩ : ∃ A : Nat, (A : Int) = bits .xor .u64 (X : Int) (IntKind.u64.wrap ((X : Int) * 8192)) := ⟨(bits .xor .u64 (X : Int) (IntKind.u64.wrap ((X : Int) * 8192))).toNat, by have := bits_lo_u64 .xor (X : Int) (IntKind.u64.wrap ((X : Int) * 8192)); omega⟩
  obtain ⟨B, hB⟩ : ∃ B : Nat, (B : Int) = bits .xor .u64 (A : Int) ((A : Int) / 128) := ⟨(bits .xor .u64 (A : Int) ((A : Int) / 128)).toNat, by have := bits_lo_u64 .xor (A : Int) ((A : Int) / 128); omega⟩
  obtain ⟨C, hC⟩ : ∃ C : Nat, (C : Int) = bits .xor .u64 (B : Int) (IntKind.u64.wrap ((B : Int) * 131072)) := ⟨(bits .xor .u64 (B : Int) (IntKind.u64.wrap ((B : Int) * 131072))).toNat, by have := bits_lo_u64 .xor (B : Int) (IntKind.u64.wrap ((B : Int) * 131072)); omega⟩
  have hA2 : A < 18446744073709551616 := by have := bits_hi_u64 .xor (X : Int) (IntKind.u64.wrap ((X : Int) * 8192)); omega
  have hB2 : B < 18446744073709551616 := by have := bits_hi_u64 .xor (A : Int) ((A : Int) / 128); omega
  have hC2 : C < 18446744073709551616 := by have := bits_hi_u64 .xor (B : Int) (IntKind.u64.wrap ((B : Int) * 131072)); omega
  have e1 := hA.symm
  have e2 := hB.symm
  have e3 := hC.symm
  have HK := Lib.hid h
  have g0 := h.cell 0
  have z0 := h.frozen 0
  clear hA hB hC h
  go_enter Try.func99, Try.ntmps99
  go_wp2_with fail
  go_region
  all_goals go_wp2_with fail
  have HK1 : Hid (Blk ((w.setCell ⟨g, 0, none⟩ (.int .u64 (A : Int))).drew) g 108 #[.int .u64 (A : Int)]) := HK.out.put 0 _
  have HC1 : Hid (Chg (fun k => k = g) w ((w.setCell ⟨g, 0, none⟩ (.int .u64 (A : Int))).drew)) := ((Chg.refl (fun k => k = g) w).setCell (p := ⟨g, 0, none⟩) (.inl rfl) _).drew
  clear g0 z0
  generalize World.drew (World.setCell w _ _) = w1 at *
  have g0 := (show Blk w1 g 108 _ from HK1.out).cell 0
  have z0 := (show Blk w1 g 108 _ from HK1.out).frozen 0
  go_region
  all_goals go_wp2_with fail
  have HK2 : Hid (Blk ((w1.setCell ⟨g, 0, none⟩ (.int .u64 (B : Int))).drew) g 108 #[.int .u64 (B : Int)]) := Blk.put (show Blk w1 g 108 _ from HK1.out) 0 _
  have HC2 : Hid (Chg (fun k => k = g) w ((w1.setCell ⟨g, 0, none⟩ (.int .u64 (B : Int))).drew)) := ((show Chg (fun k => k = g) w w1 from HC1.out).setCell (p := ⟨g, 0, none⟩) (.inl rfl) _).drew
  clear g0 z0
  generalize World.drew (World.setCell w1 _ _) = w2 at *
  have g0 := (show Blk w2 g 108 _ from HK2.out).cell 0
  have z0 := (show Blk w2 g 108 _ from HK2.out).frozen 0
  go_region
  all_goals go_wp2_with fail
  go_ret
  exact ⟨C, rfl, hC2, Blk.put (show Blk w2 g 108 _ from HK2.out) 0 _, ((show Chg (fun k => k = g) w w2 from HC2.out).setCell (p := ⟨g, 0, none⟩) (.inl rfl) _).drew⟩
set_option maxRecDepth 100000 in
set_option maxHeartbeats 4000000 in
theorem sbreak_any {blk off cap a b n : Nat} {d : Array Int} {w : World} (hH : Sort.Holds eu w blk off d) (hl : blk < w.heap.size) (hn : d.size = n) (hab : a + 13 ≤ b) (hb : b ≤ n) (hsz : n < 65536) :
    Calls Try.prog 83 #[.slice (some ⟨blk, off, none⟩) n cap, .int .i64 a, .int .i64 b] w (Perms w blk off a b d) := by
  have HS := Lib.hid (SW.refl hH hl)
  have HN := Lib.hid hn
  obtain ⟨L, hL⟩ : ∃ L, L = b - a := ⟨_, rfl⟩
  obtain ⟨q, hq⟩ : ∃ q, q = L / 4 := ⟨_, rfl⟩
  obtain ⟨lo, hlo⟩ : ∃ lo, lo = a + q * 2 - 1 := ⟨_, rfl⟩
  obtain ⟨up, hup⟩ : ∃ up, up = a + q * 2 + 1 := ⟨_, rfl⟩
  obtain ⟨z, hz⟩ : ∃ z, z = a + q * 2 := ⟨_, rfl⟩
  have y0 : (b : Int) - (a : Int) = (L : Int) := by omega
  have y1 : (L : Int) / 4 = (q : Int) := by omega
  have y2 : (a : Int) + (q : Int) * 2 = (z : Int) := by omega
  have y3 : (z : Int) - 1 = (lo : Int) := by omega
  have y4 : (z : Int) + 1 = (up : Int) := by omega
  have hL13 : 13 ≤ L := by omega
  have hLn : L ≤ n := by omega
  have hqn : q ≤ n := by omega
  have hzn : z ≤ n := by omega
  have hlo1 : a ≤ lo := by omega
  have hup1 : up < b := by omega
  have hlu : lo ≤ up := by omega
  have haL : a + L = b := by omega
  have d8 : decide (8 ≤ L) = true := by simp; omega
  have hb1 := below1' w (.cells #[.int .u64 (L : Int)] 108)
  have HB1 := Lib.hid hb1
  have HS1 := Lib.hid (HS.out.below hb1)
  have HG := Lib.hid (Blk.new w 108 #[.int .u64 (L : Int)])
  have hgb : w.heap.size ≠ blk := by omega
  clear hn hH hl hL hq hlo hup hz hb1
  go_enter Try.func83, Try.ntmps83
  go_upto_region 3 with (fail)
  generalize World.alloc w _ = w0 at *
  obtain ⟨g, hg⟩ : ∃ g, g = w.heap.size := ⟨_, rfl⟩
  rw [← hg] at HG hgb
  rw [← hg]
  have HGE := Lib.hid hg
  clear hg
  go_wp2_with fail
  refine (npow_any L _ (by omega) (by omega)).mono ?_; rintro e w' ⟨M, rfl, hM1, hM2, rfl⟩
  have hM3 : M ≤ 131072 := by omega
  go_wp2_with fail
  try simp only [y1, y2, y3]
  go_loopw [9] (fun vi wr => ∃ (i R : Nat) (dk : Array Int), lo ≤ i ∧ i ≤ up + 1 ∧ vi = .int .i64 i ∧ R < 18446744073709551616 ∧ Hid (SW w wr blk off d dk) ∧ Hid (Sort.PermIn a b d dk) ∧ Hid (Blk wr g 108 #[.int .u64 (R : Int)])) (fun vi _ => up + 1 - (intOf vi).toNat)
  case atStart => exact ⟨lo, L, d, Nat.le_refl _, by omega, rfl, by omega, HS1, Sort.permIn_refl _ _ _, HG⟩
  case round =>
    obtain ⟨i, R, dk, hi1, hi2, rfl, hR, hsw, hpm, hgk⟩ := hrel
    by_cases hiu : i ≤ up
    case neg =>
      have hd : decide (i ≤ up) = false := by simpa using hiu
      go_wp2_with fail
      go_end0
      exact ⟨dk, rfl, hsw.out, hpm.out⟩
    case pos =>
      have hd : decide (i ≤ up) = true := by simpa using hiu
      go_wp2_with fail
      refine (xnext_any hgk.out hR).mono ?_; rintro e w1 ⟨R', rfl, hR', hk', hc'⟩
      have HSW := Lib.hid (hsw.out.far hc' (fun e => hgb e.symm) (fun k e => by have e' : k = g := e; rw [e', HGE.out]; exact Nat.le_refl _))
      have HK := Lib.hid hk'
      clear hk' hc'
      obtain ⟨O, hO⟩ : ∃ O, O = R' &&& (M - 1) := ⟨_, rfl⟩
      have hO1 : O ≤ M - 1 := by rw [hO]; exact Nat.and_le_right
      have y5 : bits .and .u64 (R' : Int) ((M : Int) - 1) = (O : Int) := by
        rw [show (M : Int) - 1 = ((M - 1 : Nat) : Int) by omega, bits_and_u64_nat _ _ hR' (by omega), hO]
      have hO2 : O < 131072 := by omega
      clear hO
      obtain ⟨T, hT, hTL⟩ : ∃ T, T = (if L ≤ O then O - L else O) ∧ T < L := ⟨_, rfl, by split <;> omega⟩
      obtain ⟨f, hf⟩ : ∃ f, f = a + T := ⟨_, rfl⟩
      have hdn : dk.size = n := hsw.out.sz.trans HN.out
      have hin : i < n := by omega
      have hfn : f < n := by omega
      have hfb : f < b := by omega
      have haf : a ≤ f := by omega
      have hai : a ≤ i := by omega
      have HPM : Hid (Sort.PermIn a b d (Sort.swp dk i f)) := Sort.permIn_trans _ _ _ _ _ hpm.out (Sort.swp_permIn dk a b i f hai (by omega) haf hfb (by omega))
      obtain ⟨X, hX⟩ : ∃ X, X = dk[i]! := ⟨_, rfl⟩
      obtain ⟨Y, hY⟩ : ∃ X, X = dk[f]! := ⟨_, rfl⟩
      have c1 := HSW.out.cell (t := i) (by omega)
      have c2 := HSW.out.cell (t := f) (by omega)
      have z1 := HSW.out.frozen (t := i) (by omega)
      have z2 := HSW.out.frozen (t := f) (by omega)
      rw [← hX] at c1
      rw [← hY] at c2
      obtain ⟨Z, hZ⟩ := cell?_setCell_some (p := ⟨blk, off + i, none⟩) (x := .int .u64 Y) c2
      have HX := Lib.hid hX
      have HY := Lib.hid hY
      have HDN := Lib.hid hdn
      have y6 : IntKind.i64.wrap ((a : Int) + (T : Int)) = (f : Int) := by rw [IntWalk.i64_in _ (by omega)]; omega
      by_cases hOL : L ≤ O
      case pos =>
        have hd2 : decide (L ≤ O) = true := by simpa using hOL
        rw [if_pos hOL] at hT
        have y7 : (O : Int) - (L : Int) = (T : Int) := by omega
        clear hX hY hdn hf hT
        go_wp2_with fail
        go_region
        all_goals go_wp2_with fail
        all_goals go_roundw
        case rel => exact ⟨i + 1, R', Sort.swp dk i f, Nat.le_succ_of_le hi1, Nat.succ_le_succ hiu, by go_num, hR', SW.same (HSW.out.swpv (w := w1) (by rw [HDN.out]; exact hin) (by rw [HDN.out]; exact hfn) HX.out HY.out rfl rfl rfl rfl) rfl rfl rfl rfl, HPM, ((Blk.far (show Blk w1 g 108 _ from HK.out) (p := ⟨blk, off + i, none⟩) hgb _).far (p := ⟨blk, off + f, none⟩) hgb _)⟩
        case measure => clear y0 y1 y2 y3 y4 y5 y6; simp [intOf]; omega
      case neg =>
        have hd2 : decide (L ≤ O) = false := by simpa using hOL
        rw [if_neg hOL] at hT
        subst hT
        clear hX hY hdn hf
        go_wp2_with fail
        go_region
        all_goals go_wp2_with fail
        all_goals go_roundw
        case rel => exact ⟨i + 1, R', Sort.swp dk i f, Nat.le_succ_of_le hi1, Nat.succ_le_succ hiu, by go_num, hR', SW.same (HSW.out.swpv (w := w1) (by rw [HDN.out]; exact hin) (by rw [HDN.out]; exact hfn) HX.out HY.out rfl rfl rfl rfl) rfl rfl rfl rfl, HPM, ((Blk.far (show Blk w1 g 108 _ from HK.out) (p := ⟨blk, off + i, none⟩) hgb _).far (p := ⟨blk, off + f, none⟩) hgb _)⟩
        case measure => clear y0 y1 y2 y3 y4 y5 y6; simp [intOf]; omega
end Go.Proofs.Ytcbmnfjbmkpfiaa
/- The insertion sort of a row that is nearly sorted. -/
namespace Go.Proofs.Ytcbmnfjbmkpfiaa
open Go.ChangeShapes Go.WideShapes Go.ChangeAt Go.RowKit
set_option linter.unusedVariables false
section
variable {a b s i I : Nat} {d : Array Int}
theorem pins_sorted (h : Sort.scanSorted lti d b i = b) : Sort.partialIns lti a b (s + 1) i d = (d, true) := by
  rw [Sort.partialIns]
  simp only [h, if_true]
theorem pins_short (h : Sort.scanSorted lti d b i = I) (hI : I ≠ b) (hs : b - a < 50) : Sort.partialIns lti a b (s + 1) i d = (d, false) := by
  rw [Sort.partialIns]
  simp only [h]
  rw [if_neg hI, if_pos hs]
/-- What is shifted down, and up. -/
def downOf (a I : Nat) (d : Array Int) : Array Int := if 2 ≤ I - a then Sort.shiftDown lti (I - 1) d else d
def upOf (b I : Nat) (d : Array Int) : Array Int := if 2 ≤ b - I then Sort.shiftUp lti b (I + 1) d else d
theorem pins_go (h : Sort.scanSorted lti d b i = I) (hI : I ≠ b) (hs : ¬ b - a < 50) : Sort.partialIns lti a b (s + 1) i d = Sort.partialIns lti a b s I (upOf b I (downOf a I (Sort.swp d I (I - 1)))) := by
  rw [Sort.partialIns]
  simp only [h]
  rw [if_neg hI, if_neg hs]
  rfl
theorem scan_go {j : Nat} (h : i < b) (hj : i = j + 1) (hl : lti d[i]! d[j]! = false) : Sort.scanSorted lti d b i = Sort.scanSorted lti d b (i + 1) := by
  subst hj
  rw [Sort.scanSorted, if_pos (by simp only [Nat.add_sub_cancel, hl]; simp [h])]
theorem scan_end (h : ¬ i < b) : Sort.scanSorted lti d b i = i := by rw [Sort.scanSorted, if_neg (by simp [h])]
theorem scan_less {j : Nat} (hj : i = j + 1) (hl : lti d[i]! d[j]! = true) : Sort.scanSorted lti d b i = i := by
  subst hj
  rw [Sort.scanSorted, if_neg (by simp only [Nat.add_sub_cancel, hl]; simp)]
theorem down_go {j k : Nat} (hj : j = k + 1) (hl : lti d[j]! d[k]! = true) : Sort.shiftDown lti j d = Sort.shiftDown lti k (Sort.swp d j k) := by
  subst hj
  rw [Sort.shiftDown, hl, if_neg (by decide)]
theorem down_end {j k : Nat} (hj : j = k + 1) (hl : lti d[j]! d[k]! = false) : Sort.shiftDown lti j d = d := by
  subst hj
  rw [Sort.shiftDown, hl, if_pos (by decide)]
theorem up_go {j k : Nat} (hj : j = k + 1) (h : j < b) (hl : lti d[j]! d[k]! = true) : Sort.shiftUp lti b j d = Sort.shiftUp lti b (j + 1) (Sort.swp d j k) := by
  subst hj
  rw [Sort.shiftUp, if_pos h]
  simp only [Nat.add_sub_cancel, hl]
  rfl
theorem up_end {j k : Nat} (hj : j = k + 1) (hl : lti d[j]! d[k]! = false) : Sort.shiftUp lti b j d = d := by
  subst hj
  rw [Sort.shiftUp]
  simp only [Nat.add_sub_cancel, hl]
  split <;> rfl
theorem up_out {j : Nat} (h : ¬ j < b) : Sort.shiftUp lti b j d = d := by rw [Sort.shiftUp, if_neg h]
end
/-- A partial sort's end: whether the row is sorted now. -/
def Pins (w : World) (blk off a b : Nat) (d : Array Int) (e : Ending) (w' : World) : Prop := ∃ d' q, e = .returned (.bool q) ∧ SW w w' blk off d d' ∧ Sort.PermIn a b d d' ∧ (q = true → Sort.SortedIn lti a b d')
set_option maxRecDepth 100000 in
set_option maxHeartbeats 8000000 in
theorem spins_any {blk off cap a b n : Nat} {d : Array Int} {w : World} (hH : Sort.Holds eu w blk off d) (hl : blk < w.heap.size) (hn : d.size = n) (hab : a + 13 ≤ b) (hb : b ≤ n) (hsz : n < 65536) (hbel : Sort.Below lti a b d) :
    Calls Try.prog 86 #[.slice (some ⟨blk, off, none⟩) n cap, .int .i64 a, .int .i64 b] w (Pins w blk off a b d) := by
  have HS := Lib.hid (SW.refl hH hl)
  have HP := Lib.hid (Sort.partialInsertionSort_holds (lt := lti) Sort.swo_ltInt d a b (by omega) (by omega) hbel)
  have HN := Lib.hid hn
  clear hn hH hl hbel
  go_enter Try.func86, Try.ntmps86
  go_wp2_with fail
  go_loopw [7, 8] (fun vi vj wr => ∃ (i s j : Nat) (dk : Array Int), a < i ∧ i ≤ b ∧ s + j = 5 ∧ vi = .int .i64 i ∧ vj = .int .i64 j ∧ Hid (SW w wr blk off d dk) ∧ Hid (Sort.partialIns lti a b s i dk = Sort.partialInsertionSort lti d a b)) (fun _ vj _ => 5 - (intOf vj).toNat)
  case atStart => exact ⟨a + 1, 5, 0, d, by omega, by omega, rfl, by go_num, rfl, HS, rfl⟩
  case round =>
    obtain ⟨i, s, j, dk, hi1, hi2, hsj, rfl, rfl, hsw, hpi⟩ := hrel
    by_cases hj5 : j < 5
    case neg =>
      have hd : decide ((j : Int) < 5) = false := by simp; omega
      obtain rfl : s = 0 := by omega
      have HE : Hid ((dk, false) = Sort.partialInsertionSort lti d a b) := hpi.out
      go_wp2_with fail
      go_ret
      exact ⟨dk, false, rfl, hsw.out, by have h := HP.out.1; rw [← HE.out] at h; exact h, fun h => by cases h⟩
    case pos =>
      have hd : decide ((j : Int) < 5) = true := by simp; omega
      obtain ⟨t, rfl⟩ : ∃ t, s = t + 1 := ⟨s - 1, by omega⟩
      have HJ : Hid (t + (j + 1) = 5) := by show t + (j + 1) = 5; omega
      go_wp2_with fail
      obtain ⟨ws, hws⟩ : ∃ ws, ws = wr := ⟨_, rfl⟩
      subst hws
      go_loopw [7] (fun vi wr => ∃ (i' : Nat), i ≤ i' ∧ i' ≤ b ∧ vi = .int .i64 i' ∧ Hid (SW w wr blk off d dk) ∧ Hid (Sort.scanSorted lti dk b i' = Sort.scanSorted lti dk b i)) (fun vi _ => b - (intOf vi).toNat)
      case atStart => exact ⟨i, Nat.le_refl _, hi2, rfl, hsw, rfl⟩
      case round =>
        obtain ⟨i', hi3, hi4, rfl, hsw', hsc⟩ := hrel
        by_cases hib : i' < b
        case neg =>
          obtain rfl : i' = b := by omega
          have hd2 : decide (i' < i') = false := by simp
          have HE : Hid ((dk, true) = Sort.partialInsertionSort lti d a i') := (pins_sorted (hsc.out.symm.trans (scan_end hib))).symm.trans hpi.out
          go_wp2_with fail
          go_quiet (fail)
          go_wp2_with fail
          go_ret
          exact ⟨dk, true, rfl, hsw'.out.same rfl rfl rfl rfl, by have h := HP.out.1; rw [← HE.out] at h; exact h, fun _ => by have h := HP.out.2; rw [← HE.out] at h; exact h rfl⟩
        case pos =>
          have hd2 : decide (i' < b) = true := by simpa using hib
          obtain ⟨k, hk⟩ : ∃ k, i' = k + 1 := ⟨i' - 1, by omega⟩
          have hdn : dk.size = n := hsw'.out.sz.trans HN.out
          have hin : i' < n := by omega
          have hkn : k < n := by omega
          obtain ⟨X, hX⟩ : ∃ X, X = dk[i']! := ⟨_, rfl⟩
          obtain ⟨Y, hY⟩ : ∃ X, X = dk[k]! := ⟨_, rfl⟩
          have c1 := hsw'.out.cell (t := i') (by omega)
          have c2 := hsw'.out.cell (t := k) (by omega)
          rw [← hX] at c1
          rw [← hY] at c2
          have hki : k < i' := by omega
          have hak : a ≤ k := by omega
          have hai' : a < i' := by omega
          have y1 : IntKind.i64.wrap ((i' : Int) - 1) = (k : Int) := by rw [IntWalk.i64_in _ (by omega)]; omega
          have y1' : (i' : Int) - 1 = (k : Int) := by omega
          have HX := Lib.hid hX
          have HY := Lib.hid hY
          have HDN := Lib.hid hdn
          have HK := Lib.hid hk
          clear hX hY hdn hk
          cases hless : lti X Y
          case false =>
            have HL : Hid (∀ w, Calls Try.prog 87 #[.int .u64 X, .int .u64 Y] w fun e w' => e = .returned (.bool false) ∧ w' = w) := fun w => less_is hless w
            have HE : Hid (Sort.scanSorted lti dk b (i' + 1) = Sort.scanSorted lti dk b i) := (scan_go hib HK.out (by rw [← HX.out, ← HY.out]; exact hless)).symm.trans hsc.out
            clear hless
            go_wp2_with fail
            go_quiet ((go_at_call 87; exact Calls.quiet_of_same (HL.out _)))
            go_wp2_with fail
            go_roundw
            case rel => exact ⟨i' + 1, Nat.le_succ_of_le hi3, hib, by go_num, hsw'.out.same rfl rfl rfl rfl, HE⟩
            case measure => clear y1 y1'; simp [intOf]; omega
          case true =>
            have HL : Hid (∀ w, Calls Try.prog 87 #[.int .u64 X, .int .u64 Y] w fun e w' => e = .returned (.bool true) ∧ w' = w) := fun w => less_is hless w
            have HI : Hid (Sort.scanSorted lti dk b i = i') := hsc.out.symm.trans (scan_less HK.out (by rw [← HX.out, ← HY.out]; exact hless))
            clear hless
            have hne : ((i' : Int) == (b : Int)) = false := by simp; omega
            obtain ⟨L, hL⟩ : ∃ L, L = b - a := ⟨_, rfl⟩
            have y2 : (b : Int) - (a : Int) = (L : Int) := by clear y1 y1'; omega
            by_cases h50 : L < 50
            case pos =>
              have hd3 : decide ((L : Int) < 50) = true := by clear y1; simp; omega
              have HE : Hid ((dk, false) = Sort.partialInsertionSort lti d a b) := (pins_short HI.out (by omega) (by omega)).symm.trans hpi.out
              clear hL
              go_wp2_with fail
              go_quiet ((go_at_call 87; exact Calls.quiet_of_same (HL.out _)))
              go_wp2_with fail
              go_ret
              exact ⟨dk, false, rfl, hsw'.out.same rfl rfl rfl rfl, by have h := HP.out.1; rw [← HE.out] at h; exact h, fun h => by cases h⟩
            case neg =>
              have hd3 : decide ((L : Int) < 50) = false := by clear y1; simp; omega
              have HE : Hid (Sort.partialIns lti a b t i' (upOf b i' (downOf a i' (Sort.swp dk i' k))) = Sort.partialInsertionSort lti d a b) := by
                have h := pins_go (a := a) (s := t) HI.out (by omega) (by omega)
                rw [show i' - 1 = k by omega] at h
                exact h.symm.trans hpi.out
              obtain ⟨P, hP⟩ : ∃ P, P = i' - a := ⟨_, rfl⟩
              obtain ⟨Q, hQ⟩ : ∃ Q, Q = b - i' := ⟨_, rfl⟩
              have y3 : (i' : Int) - (a : Int) = (P : Int) := by clear y1 y1' y2; omega
              have y4 : (b : Int) - (i' : Int) = (Q : Int) := by clear y1 y1' y2; omega
              have HPP := Lib.hid hP
              have HQQ := Lib.hid hQ
              clear hL hP hQ
              go_wp2_with fail
              go_quiet ((go_at_call 87; exact Calls.quiet_of_same (HL.out _)))
              have HSW1 := Lib.hid (hsw'.out.same (w := wr.drewN nq) rfl rfl rfl rfl)
              clear c1 c2
              generalize World.drewN wr nq = w1 at *
              have c1 := HSW1.out.cell (t := i') (by rw [HDN.out]; exact hin)
              have c2 := HSW1.out.cell (t := k) (by rw [HDN.out]; exact hkn)
              have z1 := HSW1.out.frozen (t := i') (by rw [HDN.out]; exact hin)
              have z2 := HSW1.out.frozen (t := k) (by rw [HDN.out]; exact hkn)
              rw [← HX.out] at c1
              rw [← HY.out] at c2
              go_wp2_with fail
              go_region
              have HSW2 : Hid (SW w (World.drew ((w1.setCell ⟨blk, off + i', none⟩ (.int .u64 Y)).setCell ⟨blk, off + k, none⟩ (.int .u64 X))) blk off d (Sort.swp dk i' k)) :=
                SW.same (HSW1.out.swpv (w := w1) (by rw [HDN.out]; exact hin) (by rw [HDN.out]; exact hkn) HX.out HY.out rfl rfl rfl rfl) rfl rfl rfl rfl
              clear c1 c2 z1 z2
              try change Code.wp _ _ _ _ (World.drew ((w1.setCell ⟨blk, off + i', none⟩ (.int .u64 Y)).setCell ⟨blk, off + k, none⟩ (.int .u64 X)))
              generalize World.drew (World.setCell (World.setCell w1 _ _) _ _) = w2 at *
              obtain ⟨d1, hd1⟩ : ∃ d1, d1 = Sort.swp dk i' k := ⟨_, rfl⟩
              rw [← hd1] at HSW2 HE
              clear hd1
              have HJ2 := HJ
              go_upto_if 61 with (fail)
              go_cut [9] from 13 to 132 (fun s9 wx => Hid (SW w wx blk off d (downOf a i' d1)))
              case first =>
                by_cases hP2 : 2 ≤ P
                case neg =>
                  have hd4 : decide ((2 : Int) ≤ (P : Int)) = false := by clear y1 y1' y2 y3 y4; simp; omega
                  go_wp2_with fail
                  go_meet
                  have h : downOf a i' d1 = d1 := by unfold downOf; rw [if_neg (by rw [← HPP.out]; exact hP2)]
                  rw [h]; exact HSW2
                case pos =>
                  have hd4 : decide ((2 : Int) ≤ (P : Int)) = true := by clear y1 y1' y2 y3 y4; simp; omega
                  have HDO : Hid (downOf a i' d1 = Sort.shiftDown lti k d1) := by
                    show downOf a i' d1 = _
                    unfold downOf; rw [if_pos (by rw [← HPP.out]; exact hP2), show i' - 1 = k by have := HK.out; omega]
                  go_wp2_with fail
                  obtain ⟨ws2, hws2⟩ : ∃ ws, ws = w2 := ⟨_, rfl⟩
                  go_loopw [9] (fun vj wr => ∃ (q : Nat) (dq : Array Int), q < n ∧ vj = .int .i64 q ∧ Hid (SW w wr blk off d dq) ∧ Hid (Sort.shiftDown lti q dq = Sort.shiftDown lti k d1)) (fun vj _ => (intOf vj).toNat)
                  case atStart => exact ⟨k, d1, hkn, rfl, HSW2, rfl⟩
                  case round =>
                    obtain ⟨q, dq, hqn, rfl, hsq, hsd⟩ := hrel
                    clear y1 y1' y2 y3 y4
                    by_cases hq0 : q = 0
                    · subst hq0
                      go_wp2_with fail
                      go_meet
                      rw [HDO.out, ← hsd.out]
                      exact hsq
                    · obtain ⟨r, hr⟩ : ∃ r, q = r + 1 := ⟨q - 1, by omega⟩
                      have h1q : (1 : Int) ≤ (q : Int) := by omega
                      have hdq : dq.size = n := hsq.out.sz.trans HN.out
                      have hQn : q < n := by omega
                      have hrn : r < n := by omega
                      have hrq : r < q := by omega
                      obtain ⟨X2, hX2⟩ : ∃ X, X = dq[q]! := ⟨_, rfl⟩
                      obtain ⟨Y2, hY2⟩ : ∃ X, X = dq[r]! := ⟨_, rfl⟩
                      have c1 := hsq.out.cell (t := q) (by omega)
                      have c2 := hsq.out.cell (t := r) (by omega)
                      rw [← hX2] at c1
                      rw [← hY2] at c2
                      have x1 : IntKind.i64.wrap ((q : Nat) - 1 : Int) = (r : Int) := by rw [IntWalk.i64_in _ (by omega)]; omega
                      have x1' : ((q : Nat) : Int) - 1 = (r : Int) := by omega
                      have HX2 := Lib.hid hX2
                      have HY2 := Lib.hid hY2
                      have HDQ := Lib.hid hdq
                      have HRQ : Hid (q = r + 1) := hr
                      clear hX2 hY2 hdq hr
                      cases hless : lti X2 Y2
                      case false =>
                        have HL2 : Hid (∀ w, Calls Try.prog 87 #[.int .u64 X2, .int .u64 Y2] w fun e w' => e = .returned (.bool false) ∧ w' = w) := fun w => less_is hless w
                        have HE2 : Hid (downOf a i' d1 = dq) := by
                          show downOf a i' d1 = dq
                          rw [HDO.out, ← hsd.out]
                          exact down_end HRQ.out (by rw [← HX2.out, ← HY2.out]; exact hless)
                        clear hless
                        go_wp2_with fail
                        go_quiet ((go_at_call 87; exact Calls.quiet_of_same (HL2.out _)))
                        go_wp2_with fail
                        go_meet
                        rw [HE2.out]
                        exact hsq.out.same rfl rfl rfl rfl
                      case true =>
                        have HL2 : Hid (∀ w, Calls Try.prog 87 #[.int .u64 X2, .int .u64 Y2] w fun e w' => e = .returned (.bool true) ∧ w' = w) := fun w => less_is hless w
                        have HE2 : Hid (Sort.shiftDown lti r (Sort.swp dq q r) = Sort.shiftDown lti k d1) := by
                          show Sort.shiftDown lti r (Sort.swp dq q r) = _
                          rw [← hsd.out]
                          exact (down_go HRQ.out (by rw [← HX2.out, ← HY2.out]; exact hless)).symm
                        clear hless
                        go_wp2_with fail
                        go_quiet ((go_at_call 87; exact Calls.quiet_of_same (HL2.out _)))
                        have HSW3 := Lib.hid (hsq.out.same (w := wr.drewN nq) rfl rfl rfl rfl)
                        clear c1 c2
                        generalize World.drewN wr nq = w3 at *
                        have c1 := HSW3.out.cell (t := q) (by rw [HDQ.out]; exact hQn)
                        have c2 := HSW3.out.cell (t := r) (by rw [HDQ.out]; exact hrn)
                        have z1 := HSW3.out.frozen (t := q) (by rw [HDQ.out]; exact hQn)
                        have z2 := HSW3.out.frozen (t := r) (by rw [HDQ.out]; exact hrn)
                        rw [← HX2.out] at c1
                        rw [← HY2.out] at c2
                        go_wp2_with fail
                        go_region
                        all_goals go_wp2_with fail
                        all_goals go_roundw
                        case rel => exact ⟨r, _, hrn, rfl, SW.same (HSW3.out.swpv (w := w3) (by rw [HDQ.out]; exact hQn) (by rw [HDQ.out]; exact hrn) HX2.out HY2.out rfl rfl rfl rfl) rfl rfl rfl rfl, HE2⟩
                        case measure => clear x1 x1'; simp [intOf]; omega
              case rest =>
                obtain ⟨d2, hd2'⟩ : ∃ d2, d2 = downOf a i' d1 := ⟨_, rfl⟩
                rw [← hd2'] at hcut HE
                clear hd2'
                by_cases hQ2 : 2 ≤ Q
                case neg =>
                  have hd4 : decide ((2 : Int) ≤ (Q : Int)) = false := by clear y1 y1' y2 y3 y4; simp; omega
                  go_wp2_with fail
                  have h : upOf b i' d2 = d2 := by unfold upOf; rw [if_neg (by rw [← HQQ.out]; exact hQ2)]
                  rw [h] at HE
                  go_roundw
                  case rel => exact ⟨i', t, j + 1, _, hai', hi4, HJ.out, rfl, by go_num, hcut, HE⟩
                  case measure => clear y1 y1' y2 y3 y4; simp [intOf]; omega
                case pos =>
                  have hd4 : decide ((2 : Int) ≤ (Q : Int)) = true := by clear y1 y1' y2 y3 y4; simp; omega
                  have HUO : Hid (upOf b i' d2 = Sort.shiftUp lti b (i' + 1) d2) := by
                    show upOf b i' d2 = _
                    unfold upOf; rw [if_pos (by rw [← HQQ.out]; exact hQ2)]
                  go_wp2_with fail
                  go_loopw [10] (fun vj wr => ∃ (q : Nat) (dq : Array Int), i' < q ∧ q ≤ b ∧ vj = .int .i64 q ∧ Hid (SW w wr blk off d dq) ∧ Hid (Sort.shiftUp lti b q dq = Sort.shiftUp lti b (i' + 1) d2)) (fun vj _ => b - (intOf vj).toNat)
                  case atStart => exact ⟨i' + 1, d2, Nat.lt_succ_self _, hib, by go_num, hcut, rfl⟩
                  case round =>
                    clear y1 y1' y2 y3 y4
                    obtain ⟨q, dq, hq1, hq2, rfl, hsq, hsd⟩ := hrel
                    by_cases hqb : q < b
                    case neg =>
                      have hd5 : decide (q < b) = false := by simpa using hqb
                      go_wp2_with fail
                      rw [HUO.out, ← hsd.out, up_out hqb] at HE
                      go_roundw
                      case rel => exact ⟨i', t, j + 1, _, hai', hi4, HJ.out, rfl, by go_num, hsq, HE⟩
                      case measure => clear hd5; simp [intOf]; omega
                    case pos =>
                      have hd5 : decide (q < b) = true := by simpa using hqb
                      obtain ⟨r, hr⟩ : ∃ r, q = r + 1 := ⟨q - 1, by omega⟩
                      have hdq : dq.size = n := hsq.out.sz.trans HN.out
                      have hQn : q < n := by omega
                      have hrn : r < n := by omega
                      have hrq : r < q := by omega
                      obtain ⟨X2, hX2⟩ : ∃ X, X = dq[q]! := ⟨_, rfl⟩
                      obtain ⟨Y2, hY2⟩ : ∃ X, X = dq[r]! := ⟨_, rfl⟩
                      have c1 := hsq.out.cell (t := q) (by omega)
                      have c2 := hsq.out.cell (t := r) (by omega)
                      rw [← hX2] at c1
                      rw [← hY2] at c2
                      have x1 : IntKind.i64.wrap ((q : Nat) - 1 : Int) = (r : Int) := by rw [IntWalk.i64_in _ (by omega)]; omega
                      have x1' : ((q : Nat) : Int) - 1 = (r : Int) := by omega
                      have HX2 := Lib.hid hX2
                      have HY2 := Lib.hid hY2
                      have HDQ := Lib.hid hdq
                      have HRQ : Hid (q = r + 1) := hr
                      clear hX2 hY2 hdq hr
                      cases hless : lti X2 Y2
                      case false =>
                        have HL2 : Hid (∀ w, Calls Try.prog 87 #[.int .u64 X2, .int .u64 Y2] w fun e w' => e = .returned (.bool false) ∧ w' = w) := fun w => less_is hless w
                        have HE2 : Hid (upOf b i' d2 = dq) := by
                          show upOf b i' d2 = dq
                          rw [HUO.out, ← hsd.out]
                          exact up_end HRQ.out (by rw [← HX2.out, ← HY2.out]; exact hless)
                        clear hless
                        go_wp2_with fail
                        go_quiet ((go_at_call 87; exact Calls.quiet_of_same (HL2.out _)))
                        go_wp2_with fail
                        rw [HE2.out] at HE
                        go_roundw
                        case rel => exact ⟨i', t, j + 1, _, hai', hi4, HJ.out, rfl, by go_num, hsq.out.same rfl rfl rfl rfl, HE⟩
                        case measure => clear x1 x1'; simp [intOf]; omega
                      case true =>
                        have HL2 : Hid (∀ w, Calls Try.prog 87 #[.int .u64 X2, .int .u64 Y2] w fun e w' => e = .returned (.bool true) ∧ w' = w) := fun w => less_is hless w
                        have HE2 : Hid (Sort.shiftUp lti b (q + 1) (Sort.swp dq q r) = Sort.shiftUp lti b (i' + 1) d2) := by
                          show Sort.shiftUp lti b (q + 1) (Sort.swp dq q r) = _
                          rw [← hsd.out]
                          exact (up_go HRQ.out hqb (by rw [← HX2.out, ← HY2.out]; exact hless)).symm
                        clear hless
                        go_wp2_with fail
                        go_quiet ((go_at_call 87; exact Calls.quiet_of_same (HL2.out _)))
                        have HSW3 := Lib.hid (hsq.out.same (w := wr.drewN nq) rfl rfl rfl rfl)
                        clear c1 c2
                        generalize World.drewN wr nq = w3 at *
                        have c1 := HSW3.out.cell (t := q) (by rw [HDQ.out]; exact hQn)
                        have c2 := HSW3.out.cell (t := r) (by rw [HDQ.out]; exact hrn)
                        have z1 := HSW3.out.frozen (t := q) (by rw [HDQ.out]; exact hQn)
                        have z2 := HSW3.out.frozen (t := r) (by rw [HDQ.out]; exact hrn)
                        rw [← HX2.out] at c1
                        rw [← HY2.out] at c2
                        go_wp2_with fail
                        go_region
                        all_goals go_wp2_with fail
                        all_goals go_roundw
                        case rel => exact ⟨q + 1, _, Nat.lt_succ_of_lt hq1, hqb, by go_num, SW.same (HSW3.out.swpv (w := w3) (by rw [HDQ.out]; exact hQn) (by rw [HDQ.out]; exact hrn) HX2.out HY2.out rfl rfl rfl rfl) rfl rfl rfl rfl, HE2⟩
                        case measure => clear x1 x1'; simp [intOf]; omega
end Go.Proofs.Ytcbmnfjbmkpfiaa
/- A row parted in what is as small as the pivot and what is greater. -/
namespace Go.Proofs.Ytcbmnfjbmkpfiaa
open Go.ChangeShapes Go.WideShapes Go.ChangeAt Go.RowKit
set_option linter.unusedVariables false
section
variable {p : Int → Bool} {d : Array Int} {i j q r : Nat}
theorem scanUp_go (h : q ≤ j) (hp : p d[q]! = true) : Sort.scanUp p d j q = Sort.scanUp p d j (q + 1) := by
  rw [Sort.scanUp, if_pos (by simp [h, hp])]
theorem scanUp_stop (h : ¬ q ≤ j ∨ p d[q]! = false) : Sort.scanUp p d j q = q := by
  rw [Sort.scanUp, if_neg]
  rcases h with h | h
  · simp [h]
  · simp [h]
theorem scanDown_go (hq : q = r + 1) (h : i ≤ q) (hp : p d[q]! = true) : Sort.scanDown p d i q = Sort.scanDown p d i r := by
  subst hq
  rw [Sort.scanDown, if_pos (by simp [h, hp])]
theorem scanDown_stop (h : ¬ i ≤ q ∨ p d[q]! = false) : Sort.scanDown p d i q = q := by
  cases q with
  | zero => rfl
  | succ r =>
    rw [Sort.scanDown, if_neg]
    rcases h with h | h
    · simp [h]
    · simp [h]
/-- Where the two scans stop, unless they have passed one another. -/
theorem scans_part {p' : Int → Bool} (hp : ∀ x, p' x = !p x) {I2 J2 : Nat} (hI : Sort.scanUp p d j i = I2) (hJ : Sort.scanDown p' d I2 j = J2) (h1 : I2 ≤ J2) (h0 : 0 < I2) : I2 < J2 := by
  have hu := Sort.scanUp_spec p d j _ i rfl
  have hd := Sort.scanDown_spec p' d I2 j
  rw [hI] at hu
  rw [hJ] at hd
  rcases Nat.lt_or_ge I2 J2 with h | h
  · exact h
  · obtain rfl : I2 = J2 := by omega
    have e1 := hu.2.2.2 (by have := hd.1; omega)
    have e2 := hd.2.2.2 (Nat.le_refl _) h0
    rw [hp, e1] at e2
    cases e2
end
/-- A row of numbers, its pivot parted off: where, and what is known. -/
def ParEq (w : World) (blk off a b : Nat) (d : Array Int) (pivot : Nat) (e : Ending) (w' : World) : Prop :=
  e = .returned (.int .i64 ((Sort.partitionEqual lti d a b pivot).1 : Int)) ∧ SW w w' blk off d (Sort.partitionEqual lti d a b pivot).2
set_option maxRecDepth 100000 in
set_option maxHeartbeats 8000000 in
theorem spareq_any {blk off cap a b n pivot : Nat} {d : Array Int} {w : World} (hH : Sort.Holds eu w blk off d) (hl : blk < w.heap.size) (hn : d.size = n) (hap : a ≤ pivot) (hpb : pivot < b) (hb : b ≤ n) (hsz : n < 65536) :
    Calls Try.prog 88 #[.slice (some ⟨blk, off, none⟩) n cap, .int .i64 a, .int .i64 b, .int .i64 pivot] w (ParEq w blk off a b d pivot) := by
  have HS := Lib.hid (SW.refl hH hl)
  have HN := Lib.hid hn
  obtain ⟨m, hm⟩ : ∃ m, m = b - 1 := ⟨_, rfl⟩
  have y0 : (b : Int) - 1 = (m : Int) := by omega
  have hmb : m < b := by omega
  have ham : a ≤ m := by omega
  have han : a < n := by omega
  have hpivotn : pivot < n := by omega
  have HM := Lib.hid hm
  clear hn hH hl hm
  go_enter Try.func88, Try.ntmps88
  go_upto_region 1 with (fail)
  have hdn : d.size = n := HS.out.sz.trans HN.out
  obtain ⟨X, hX⟩ : ∃ X, X = d[a]! := ⟨_, rfl⟩
  obtain ⟨Y, hY⟩ : ∃ X, X = d[pivot]! := ⟨_, rfl⟩
  have c1 := HS.out.cell (t := a) (by omega)
  have c2 := HS.out.cell (t := pivot) (by omega)
  have z1 := HS.out.frozen (t := a) (by omega)
  have z2 := HS.out.frozen (t := pivot) (by omega)
  rw [← hX] at c1
  rw [← hY] at c2
  obtain ⟨Z, hZ⟩ := cell?_setCell_some (p := ⟨blk, off + a, none⟩) (x := .int .u64 Y) c2
  have HX := Lib.hid hX
  have HY := Lib.hid hY
  have HDN := Lib.hid hdn
  clear hX hY hdn
  go_wp2_with fail
  go_region
  have HS1 : Hid (SW w (World.drew ((w.setCell ⟨blk, off + a, none⟩ (.int .u64 Y)).setCell ⟨blk, off + pivot, none⟩ (.int .u64 X))) blk off d (Sort.swp d a pivot)) :=
    SW.same (HS.out.swpv (w := w) (by rw [HDN.out]; exact han) (by rw [HDN.out]; exact hpivotn) HX.out HY.out rfl rfl rfl rfl) rfl rfl rfl rfl
  clear c1 c2 z1 z2 hZ
  try change Code.wp _ _ _ _ (World.drew ((w.setCell ⟨blk, off + a, none⟩ (.int .u64 Y)).setCell ⟨blk, off + pivot, none⟩ (.int .u64 X)))
  generalize World.drew (World.setCell (World.setCell w _ _) _ _) = w1 at *
  clear HX HY HDN
  obtain ⟨d1, hd1⟩ : ∃ d1, d1 = Sort.swp d a pivot := ⟨_, rfl⟩
  rw [← hd1] at HS1
  have HD1 := Lib.hid hd1
  clear hd1
  go_wp2_with fail
  try simp only [y0]
  go_loopw [9, 10] (fun vi vj wr => ∃ (i j : Nat) (dk : Array Int), a < i ∧ i ≤ j + 1 ∧ j < b ∧ vi = .int .i64 i ∧ vj = .int .i64 j ∧ Hid (SW w wr blk off d dk) ∧ Hid (Sort.partEqLoop lti a i j dk = Sort.partEqLoop lti a (a + 1) m d1)) (fun vi vj _ => (intOf vj + 1 - intOf vi).toNat)
  case atStart => exact ⟨a + 1, m, d1, Nat.lt_succ_self _, by omega, hmb, by go_num, rfl, HS1, rfl⟩
  case round =>
    obtain ⟨i, j, dk, hai, hij, hjb, rfl, rfl, HSW, hpl⟩ := hrel
    clear y0
    obtain ⟨I2, hI2⟩ : ∃ I2, Sort.scanUp (fun x => !lti dk[a]! x) dk j i = I2 := ⟨_, rfl⟩
    obtain ⟨J2, hJ2⟩ : ∃ J2, Sort.scanDown (fun x => lti dk[a]! x) dk I2 j = J2 := ⟨_, rfl⟩
    have su := Sort.scanUp_spec (fun x => !lti dk[a]! x) dk j _ i rfl
    have sd := Sort.scanDown_spec (fun x => lti dk[a]! x) dk I2 j
    rw [hI2] at su
    rw [hJ2] at sd
    have hI2a : i ≤ I2 := su.1
    have hI2b : I2 ≤ j + 1 := su.2.1 hij
    have hJ2a : J2 ≤ j := sd.1
    have hJ2b : I2 ≤ J2 + 1 := sd.2.1 hI2b
    have HPT : Hid (I2 ≤ J2 → I2 < J2) := fun h => scans_part (p' := (fun x => lti dk[a]! x)) (fun x => by simp) hI2 hJ2 h (by omega)
    have HIJ2 := Lib.hid hI2b
    have HEQ := Lib.hid (Sort.partEqLoop_eq lti a i j dk)
    have HI2 := Lib.hid hI2
    have HJ2 := Lib.hid hJ2
    clear su sd hI2 hJ2
    go_upto_block 2 with (fail)
    go_cut [9] from 29 to 82 (fun sv wx => sv = .int .i64 (I2 : Int) ∧ Hid (SW w wx blk off d dk))
    case first =>
      go_wp2_with fail
      go_loopw [9] (fun vi wr => ∃ q : Nat, i ≤ q ∧ q ≤ j + 1 ∧ vi = .int .i64 q ∧ Hid (SW w wr blk off d dk) ∧ Hid (Sort.scanUp (fun x => !lti dk[a]! x) dk j q = I2)) (fun vi _ => j + 1 - (intOf vi).toNat)
      case atStart => exact ⟨i, Nat.le_refl _, hij, rfl, HSW, HI2⟩
      case round =>
        obtain ⟨q, h1, h2, rfl, hs', hsc⟩ := hrel
        by_cases hle : q ≤ j
        case neg =>
          have hdl : decide (q ≤ j) = false := by simpa using hle
          have HE : Hid (q = I2) := (scanUp_stop (.inl hle)).symm.trans hsc.out
          go_wp2_with fail
          go_quiet (fail)
          go_wp2_with fail
          go_meet
          exact ⟨by rw [HE.out], hs'.out.same rfl rfl rfl rfl⟩
        case pos =>
          have hdl : decide (q ≤ j) = true := by simpa using hle
          have hdn : dk.size = n := hs'.out.sz.trans HN.out
          have hqn : q < n := by omega
          obtain ⟨X, hX⟩ : ∃ X, X = dk[q]! := ⟨_, rfl⟩
          obtain ⟨V, hV⟩ : ∃ X, X = dk[a]! := ⟨_, rfl⟩
          have c1 := hs'.out.cell (t := q) (by omega)
          have c2 := hs'.out.cell (t := a) (by omega)
          rw [← hX] at c1
          rw [← hV] at c2
          have HX := Lib.hid hX
          have HV := Lib.hid hV
          clear hX hV hdn
          cases hless : lti V X
          case true =>
            have HL : Hid (∀ w, Calls Try.prog 87 #[.int .u64 V, .int .u64 X] w fun e w' => e = .returned (.bool true) ∧ w' = w) := fun w => less_is hless w
            have HE : Hid (q = I2) := (scanUp_stop (.inr (by show (!lti dk[a]! dk[q]!) = false; rw [← HX.out, ← HV.out, hless]; rfl))).symm.trans hsc.out
            clear hless
            go_wp2_with fail
            go_quiet ((go_at_call 87; exact Calls.quiet_of_same (HL.out _)))
            go_wp2_with fail
            go_meet
            exact ⟨by rw [HE.out], hs'.out.same rfl rfl rfl rfl⟩
          case false =>
            have HL : Hid (∀ w, Calls Try.prog 87 #[.int .u64 V, .int .u64 X] w fun e w' => e = .returned (.bool false) ∧ w' = w) := fun w => less_is hless w
            have HE : Hid (Sort.scanUp (fun x => !lti dk[a]! x) dk j (q + 1) = I2) := (scanUp_go hle (by show (!lti dk[a]! dk[q]!) = true; rw [← HX.out, ← HV.out, hless]; rfl)).symm.trans hsc.out
            clear hless
            go_wp2_with fail
            go_quiet ((go_at_call 87; exact Calls.quiet_of_same (HL.out _)))
            go_wp2_with fail
            go_roundw
            case rel => exact ⟨q + 1, Nat.le_succ_of_le h1, Nat.succ_le_succ hle, by go_num, hs'.out.same rfl rfl rfl rfl, HE⟩
            case measure =>  simp [intOf]; omega
    case rest =>
      obtain ⟨rfl, hcw⟩ := hcut

      have HSW := hcw
      go_upto_block 4 with (fail)
      go_cut [10] from 29 to 82 (fun sv wx => sv = .int .i64 (J2 : Int) ∧ Hid (SW w wx blk off d dk))
      case first =>
        go_wp2_with fail
        go_loopw [10] (fun vj wr => ∃ q : Nat, I2 ≤ q + 1 ∧ q ≤ j ∧ vj = .int .i64 q ∧ Hid (SW w wr blk off d dk) ∧ Hid (Sort.scanDown (fun x => lti dk[a]! x) dk I2 q = J2)) (fun vj _ => (intOf vj).toNat)
        case atStart => exact ⟨j, HIJ2.out, Nat.le_refl _, rfl, HSW, HJ2⟩
        case round =>
          obtain ⟨q, h1, h2, rfl, hs', hsc⟩ := hrel
          by_cases hle : I2 ≤ q
          case neg =>
            have hdl : decide (I2 ≤ q) = false := by simpa using hle
            have HE : Hid (q = J2) := (scanDown_stop (.inl hle)).symm.trans hsc.out
            go_wp2_with fail
            go_quiet (fail)
            go_wp2_with fail
            go_meet
            exact ⟨by rw [HE.out], hs'.out.same rfl rfl rfl rfl⟩
          case pos =>
            have hdl : decide (I2 ≤ q) = true := by simpa using hle
            have hdn : dk.size = n := hs'.out.sz.trans HN.out
            have hqn : q < n := by omega
            obtain ⟨X, hX⟩ : ∃ X, X = dk[q]! := ⟨_, rfl⟩
            obtain ⟨V, hV⟩ : ∃ X, X = dk[a]! := ⟨_, rfl⟩
            have c1 := hs'.out.cell (t := q) (by omega)
            have c2 := hs'.out.cell (t := a) (by omega)
            rw [← hX] at c1
            rw [← hV] at c2
            have HX := Lib.hid hX
            have HV := Lib.hid hV
            obtain ⟨r, hr⟩ : ∃ r, q = r + 1 := ⟨q - 1, by omega⟩
            have hrI : I2 ≤ r + 1 := by omega
            have hrj : r ≤ j := by omega
            have hrq : r < q := by omega
            have x1 : (q : Int) - 1 = (r : Int) := by omega
            have HR := Lib.hid hr
            clear hX hV hdn hr
            cases hless : lti V X
            case false =>
              have HL : Hid (∀ w, Calls Try.prog 87 #[.int .u64 V, .int .u64 X] w fun e w' => e = .returned (.bool false) ∧ w' = w) := fun w => less_is hless w
              have HE : Hid (q = J2) := (scanDown_stop (.inr (by show lti dk[a]! dk[q]! = false; rw [← HX.out, ← HV.out, hless]))).symm.trans hsc.out
              clear hless
              go_wp2_with fail
              go_quiet ((go_at_call 87; exact Calls.quiet_of_same (HL.out _)))
              go_wp2_with fail
              go_meet
              exact ⟨by rw [HE.out], hs'.out.same rfl rfl rfl rfl⟩
            case true =>
              have HL : Hid (∀ w, Calls Try.prog 87 #[.int .u64 V, .int .u64 X] w fun e w' => e = .returned (.bool true) ∧ w' = w) := fun w => less_is hless w
              have HE : Hid (Sort.scanDown (fun x => lti dk[a]! x) dk I2 r = J2) := (scanDown_go HR.out hle (by show lti dk[a]! dk[q]! = true; rw [← HX.out, ← HV.out, hless])).symm.trans hsc.out
              clear hless
              go_wp2_with fail
              go_quiet ((go_at_call 87; exact Calls.quiet_of_same (HL.out _)))
              go_wp2_with fail
              go_roundw
              case rel => exact ⟨r, hrI, hrj, rfl, hs'.out.same rfl rfl rfl rfl, HE⟩
              case measure => clear x1; simp [intOf]; omega
      case rest =>
        obtain ⟨rfl, hcw⟩ := hcut

        have HSW := hcw
        by_cases hgt : J2 < I2
        case pos =>
          have hdg : decide (J2 < I2) = true := by simpa using hgt
          have HE : Hid ((I2, dk) = Sort.partEqLoop lti a (a + 1) m d1) := by
            have h := HEQ.out
            rw [HI2.out, HJ2.out, if_pos hgt] at h
            exact h.symm.trans hpl.out
          go_wp2_with fail
          go_ret
          have hz : Sort.partitionEqual lti d a b pivot = (I2, dk) := by
            unfold Sort.partitionEqual
            rw [← HM.out, ← HD1.out]; exact HE.out.symm
          unfold ParEq
          rw [hz]
          exact ⟨rfl, HSW.out⟩
        case neg =>
          have hdg : decide (J2 < I2) = false := by simpa using hgt
          have hlt : I2 < J2 := HPT.out (by omega)
          have hI2n : I2 < n := by omega
          have hJ2n : J2 < n := by omega
          have HE : Hid (Sort.partEqLoop lti a (I2 + 1) (J2 - 1) (Sort.swp dk I2 J2) = Sort.partEqLoop lti a (a + 1) m d1) := by
            have h := HEQ.out
            rw [HI2.out, HJ2.out, if_neg (by omega)] at h
            exact h.symm.trans hpl.out
          obtain ⟨k, hk⟩ : ∃ k, k = J2 - 1 := ⟨_, rfl⟩
          rw [← hk] at HE
          have y1 : (J2 : Int) - 1 = (k : Int) := by omega
          have hkb : k < b := by omega
          have hik : I2 + 1 ≤ k + 1 := by omega
          have hkj : k < j := by omega
          have haI : a < I2 + 1 := by omega
          clear hk
          go_upto_region 8 with (fail)
          have hdn : dk.size = n := HSW.out.sz.trans HN.out
          obtain ⟨X, hX⟩ : ∃ X, X = dk[I2]! := ⟨_, rfl⟩
          obtain ⟨Y, hY⟩ : ∃ X, X = dk[J2]! := ⟨_, rfl⟩
          have c1 := HSW.out.cell (t := I2) (by omega)
          have c2 := HSW.out.cell (t := J2) (by omega)
          have z1 := HSW.out.frozen (t := I2) (by omega)
          have z2 := HSW.out.frozen (t := J2) (by omega)
          rw [← hX] at c1
          rw [← hY] at c2
          obtain ⟨Z, hZ⟩ := cell?_setCell_some (p := ⟨blk, off + I2, none⟩) (x := .int .u64 Y) c2
          have HX := Lib.hid hX
          have HY := Lib.hid hY
          have HDN := Lib.hid hdn
          clear hX hY hdn
          go_wp2_with fail
          go_region
          have HS2 : Hid (SW w (World.drew ((wc.setCell ⟨blk, off + I2, none⟩ (.int .u64 Y)).setCell ⟨blk, off + J2, none⟩ (.int .u64 X))) blk off d (Sort.swp dk I2 J2)) :=
            SW.same (HSW.out.swpv (w := wc) (by rw [HDN.out]; exact hI2n) (by rw [HDN.out]; exact hJ2n) HX.out HY.out rfl rfl rfl rfl) rfl rfl rfl rfl
          clear c1 c2 z1 z2 hZ
          try change Code.wp _ _ _ _ (World.drew ((wc.setCell ⟨blk, off + I2, none⟩ (.int .u64 Y)).setCell ⟨blk, off + J2, none⟩ (.int .u64 X)))
          generalize World.drew (World.setCell (World.setCell wc _ _) _ _) = w2 at *
          clear HX HY HDN
          go_wp2_with fail
          go_roundw
          case rel => exact ⟨I2 + 1, k, _, haI, hik, hkb, by go_num, rfl, HS2, HE⟩
          case measure => clear y1; simp [intOf]; omega
end Go.Proofs.Ytcbmnfjbmkpfiaa
/- A row parted by a pivot. -/
namespace Go.Proofs.Ytcbmnfjbmkpfiaa
open Go.ChangeShapes Go.WideShapes Go.ChangeAt Go.RowKit
set_option linter.unusedVariables false
/-- A row of numbers parted: where the pivot stands, whether it was parted before. -/
def ParT (w : World) (blk off a b : Nat) (d : Array Int) (pivot : Nat) (e : Ending) (w' : World) : Prop :=
  e = .returned (.tuple #[.int .i64 ((Sort.partition lti d a b pivot).1 : Int), .bool (Sort.partition lti d a b pivot).2.1]) ∧ SW w w' blk off d (Sort.partition lti d a b pivot).2.2
set_option maxRecDepth 100000 in
set_option maxHeartbeats 8000000 in
theorem spart_any {blk off cap a b n pivot : Nat} {d : Array Int} {w : World} (hH : Sort.Holds eu w blk off d) (hl : blk < w.heap.size) (hn : d.size = n) (hap : a ≤ pivot) (hpb : pivot < b) (hb : b ≤ n) (hsz : n < 65536) :
    Calls Try.prog 89 #[.slice (some ⟨blk, off, none⟩) n cap, .int .i64 a, .int .i64 b, .int .i64 pivot] w (ParT w blk off a b d pivot) := by
  have HS := Lib.hid (SW.refl hH hl)
  have HN := Lib.hid hn
  obtain ⟨j, hj⟩ : ∃ j, j = b - 1 := ⟨_, rfl⟩
  obtain ⟨i, hi⟩ : ∃ i, i = a + 1 := ⟨_, rfl⟩
  have y0 : (b : Int) - 1 = (j : Int) := by omega
  have y1 : (a : Int) + 1 = (i : Int) := by omega
  have hjb : j < b := by omega
  have haj : a ≤ j := by omega
  have han : a < n := by omega
  have hai : a < i := by omega
  have hij : i ≤ j + 1 := by omega
  have hpivotn : pivot < n := by omega
  have HJ := Lib.hid hj
  have HI := Lib.hid hi
  clear hn hH hl hj hi
  go_enter Try.func89, Try.ntmps89
  go_upto_region 1 with (fail)
  have hdn : d.size = n := HS.out.sz.trans HN.out
  obtain ⟨X, hX⟩ : ∃ X, X = d[a]! := ⟨_, rfl⟩
  obtain ⟨Y, hY⟩ : ∃ X, X = d[pivot]! := ⟨_, rfl⟩
  have c1 := HS.out.cell (t := a) (by omega)
  have c2 := HS.out.cell (t := pivot) (by omega)
  have z1 := HS.out.frozen (t := a) (by omega)
  have z2 := HS.out.frozen (t := pivot) (by omega)
  rw [← hX] at c1
  rw [← hY] at c2
  obtain ⟨Z, hZ⟩ := cell?_setCell_some (p := ⟨blk, off + a, none⟩) (x := .int .u64 Y) c2
  have HX := Lib.hid hX
  have HY := Lib.hid hY
  have HDN := Lib.hid hdn
  clear hX hY hdn
  go_wp2_with fail
  go_region
  have HS1 : Hid (SW w (World.drew ((w.setCell ⟨blk, off + a, none⟩ (.int .u64 Y)).setCell ⟨blk, off + pivot, none⟩ (.int .u64 X))) blk off d (Sort.swp d a pivot)) :=
    SW.same (HS.out.swpv (w := w) (by rw [HDN.out]; exact han) (by rw [HDN.out]; exact hpivotn) HX.out HY.out rfl rfl rfl rfl) rfl rfl rfl rfl
  clear c1 c2 z1 z2 hZ
  try change Code.wp _ _ _ _ (World.drew ((w.setCell ⟨blk, off + a, none⟩ (.int .u64 Y)).setCell ⟨blk, off + pivot, none⟩ (.int .u64 X)))
  generalize World.drew (World.setCell (World.setCell w _ _) _ _) = w1 at *
  clear HX HY HDN
  obtain ⟨dk, hd1⟩ : ∃ d1, d1 = Sort.swp d a pivot := ⟨_, rfl⟩
  rw [← hd1] at HS1
  have HD1 := Lib.hid hd1
  clear hd1
  have HSW := HS1
  obtain ⟨I2, hI2⟩ : ∃ I2, Sort.scanUp (fun x => lti x dk[a]!) dk j i = I2 := ⟨_, rfl⟩
  obtain ⟨J2, hJ2⟩ : ∃ J2, Sort.scanDown (fun x => !lti x dk[a]!) dk I2 j = J2 := ⟨_, rfl⟩
  have su := Sort.scanUp_spec (fun x => lti x dk[a]!) dk j _ i rfl
  have sd := Sort.scanDown_spec (fun x => !lti x dk[a]!) dk I2 j
  rw [hI2] at su
  rw [hJ2] at sd
  have hI2a : i ≤ I2 := su.1
  have hI2b : I2 ≤ j + 1 := su.2.1 hij
  have hJ2a : J2 ≤ j := sd.1
  have hJ2b : I2 ≤ J2 + 1 := sd.2.1 hI2b
  have HPT : Hid (I2 ≤ J2 → I2 < J2) := fun h => scans_part (p' := (fun x => !lti x dk[a]!)) (fun x => by simp) hI2 hJ2 h (by omega)
  have HIJ2 := Lib.hid hI2b
  have HI2 := Lib.hid hI2
  have HJ2 := Lib.hid hJ2
  clear su sd hI2 hJ2
  have HPD : Hid (Sort.partition lti d a b pivot = if J2 < I2 then (J2, true, Sort.swp dk J2 a) else ((Sort.partLoop lti a (I2 + 1) (J2 - 1) (Sort.swp dk I2 J2)).1, false, Sort.swp (Sort.partLoop lti a (I2 + 1) (J2 - 1) (Sort.swp dk I2 J2)).2 (Sort.partLoop lti a (I2 + 1) (J2 - 1) (Sort.swp dk I2 J2)).1 a)) := by
    show Sort.partition lti d a b pivot = _
    unfold Sort.partition
    simp only []
    rw [← HD1.out, ← HJ.out, ← HI.out, HI2.out, HJ2.out]
  clear HI HJ
  go_upto_block 0 with (fail)
  try simp only [y0, y1]
  go_upto_block 0 with (fail)
  go_cut [10] from 30 to 167 (fun sv wx => sv = .int .i64 (I2 : Int) ∧ Hid (SW w wx blk off d dk))
  case first =>
    go_wp2_with fail
    go_loopw [10] (fun vi wr => ∃ q : Nat, i ≤ q ∧ q ≤ j + 1 ∧ vi = .int .i64 q ∧ Hid (SW w wr blk off d dk) ∧ Hid (Sort.scanUp (fun x => lti x dk[a]!) dk j q = I2)) (fun vi _ => j + 1 - (intOf vi).toNat)
    case atStart => exact ⟨i, Nat.le_refl _, hij, rfl, HSW, HI2⟩
    case round =>
      obtain ⟨q, h1, h2, rfl, hs', hsc⟩ := hrel
      by_cases hle : q ≤ j
      case neg =>
        have hdl : decide (q ≤ j) = false := by simpa using hle
        have HE : Hid (q = I2) := (scanUp_stop (.inl hle)).symm.trans hsc.out
        go_wp2_with fail
        go_quiet (fail)
        go_wp2_with fail
        go_meet
        exact ⟨by rw [HE.out], hs'.out.same rfl rfl rfl rfl⟩
      case pos =>
        have hdl : decide (q ≤ j) = true := by simpa using hle
        have hdn : dk.size = n := hs'.out.sz.trans HN.out
        have hqn : q < n := by omega
        obtain ⟨X, hX⟩ : ∃ X, X = dk[q]! := ⟨_, rfl⟩
        obtain ⟨V, hV⟩ : ∃ X, X = dk[a]! := ⟨_, rfl⟩
        have c1 := hs'.out.cell (t := q) (by omega)
        have c2 := hs'.out.cell (t := a) (by omega)
        rw [← hX] at c1
        rw [← hV] at c2
        have HX := Lib.hid hX
        have HV := Lib.hid hV
        clear hX hV hdn
        cases hless : lti X V
        case false =>
          have HL : Hid (∀ w, Calls Try.prog 87 #[.int .u64 X, .int .u64 V] w fun e w' => e = .returned (.bool false) ∧ w' = w) := fun w => less_is hless w
          have HE : Hid (q = I2) := (scanUp_stop (.inr (by show lti dk[q]! dk[a]! = false; rw [← HX.out, ← HV.out, hless]))).symm.trans hsc.out
          clear hless
          go_wp2_with fail
          go_quiet ((go_at_call 87; exact Calls.quiet_of_same (HL.out _)))
          go_wp2_with fail
          go_meet
          exact ⟨by rw [HE.out], hs'.out.same rfl rfl rfl rfl⟩
        case true =>
          have HL : Hid (∀ w, Calls Try.prog 87 #[.int .u64 X, .int .u64 V] w fun e w' => e = .returned (.bool true) ∧ w' = w) := fun w => less_is hless w
          have HE : Hid (Sort.scanUp (fun x => lti x dk[a]!) dk j (q + 1) = I2) := (scanUp_go hle (by show lti dk[q]! dk[a]! = true; rw [← HX.out, ← HV.out, hless])).symm.trans hsc.out
          clear hless
          go_wp2_with fail
          go_quiet ((go_at_call 87; exact Calls.quiet_of_same (HL.out _)))
          go_wp2_with fail
          go_roundw
          case rel => exact ⟨q + 1, Nat.le_succ_of_le h1, Nat.succ_le_succ hle, by go_num, hs'.out.same rfl rfl rfl rfl, HE⟩
          case measure =>  simp [intOf]; omega
  case rest =>
    obtain ⟨rfl, hcw⟩ := hcut

    have HSW := hcw
    go_upto_block 2 with (fail)
    go_cut [11] from 30 to 167 (fun sv wx => sv = .int .i64 (J2 : Int) ∧ Hid (SW w wx blk off d dk))
    case first =>
      go_wp2_with fail
      go_loopw [11] (fun vj wr => ∃ q : Nat, I2 ≤ q + 1 ∧ q ≤ j ∧ vj = .int .i64 q ∧ Hid (SW w wr blk off d dk) ∧ Hid (Sort.scanDown (fun x => !lti x dk[a]!) dk I2 q = J2)) (fun vj _ => (intOf vj).toNat)
      case atStart => exact ⟨j, HIJ2.out, Nat.le_refl _, rfl, HSW, HJ2⟩
      case round =>
        obtain ⟨q, h1, h2, rfl, hs', hsc⟩ := hrel
        by_cases hle : I2 ≤ q
        case neg =>
          have hdl : decide (I2 ≤ q) = false := by simpa using hle
          have HE : Hid (q = J2) := (scanDown_stop (.inl hle)).symm.trans hsc.out
          go_wp2_with fail
          go_quiet (fail)
          go_wp2_with fail
          go_meet
          exact ⟨by rw [HE.out], hs'.out.same rfl rfl rfl rfl⟩
        case pos =>
          have hdl : decide (I2 ≤ q) = true := by simpa using hle
          have hdn : dk.size = n := hs'.out.sz.trans HN.out
          have hqn : q < n := by omega
          obtain ⟨X, hX⟩ : ∃ X, X = dk[q]! := ⟨_, rfl⟩
          obtain ⟨V, hV⟩ : ∃ X, X = dk[a]! := ⟨_, rfl⟩
          have c1 := hs'.out.cell (t := q) (by omega)
          have c2 := hs'.out.cell (t := a) (by omega)
          rw [← hX] at c1
          rw [← hV] at c2
          have HX := Lib.hid hX
          have HV := Lib.hid hV
          obtain ⟨r, hr⟩ : ∃ r, q = r + 1 := ⟨q - 1, by omega⟩
          have hrI : I2 ≤ r + 1 := by omega
          have hrj : r ≤ j := by omega
          have hrq : r < q := by omega
          have x1 : (q : Int) - 1 = (r : Int) := by omega
          have HR := Lib.hid hr
          clear hX hV hdn hr
          cases hless : lti X V
          case true =>
            have HL : Hid (∀ w, Calls Try.prog 87 #[.int .u64 X, .int .u64 V] w fun e w' => e = .returned (.bool true) ∧ w' = w) := fun w => less_is hless w
            have HE : Hid (q = J2) := (scanDown_stop (.inr (by show (!lti dk[q]! dk[a]!) = false; rw [← HX.out, ← HV.out, hless]; rfl))).symm.trans hsc.out
            clear hless
            go_wp2_with fail
            go_quiet ((go_at_call 87; exact Calls.quiet_of_same (HL.out _)))
            go_wp2_with fail
            go_meet
            exact ⟨by rw [HE.out], hs'.out.same rfl rfl rfl rfl⟩
          case false =>
            have HL : Hid (∀ w, Calls Try.prog 87 #[.int .u64 X, .int .u64 V] w fun e w' => e = .returned (.bool false) ∧ w' = w) := fun w => less_is hless w
            have HE : Hid (Sort.scanDown (fun x => !lti x dk[a]!) dk I2 r = J2) := (scanDown_go HR.out hle (by show (!lti dk[q]! dk[a]!) = true; rw [← HX.out, ← HV.out, hless]; rfl)).symm.trans hsc.out
            clear hless
            go_wp2_with fail
            go_quiet ((go_at_call 87; exact Calls.quiet_of_same (HL.out _)))
            go_wp2_with fail
            go_roundw
            case rel => exact ⟨r, hrI, hrj, rfl, hs'.out.same rfl rfl rfl rfl, HE⟩
            case measure => clear x1; simp [intOf]; omega
    case rest =>
      obtain ⟨rfl, hcw⟩ := hcut

      have HSW := hcw
      clear y0 y1
      by_cases hgt : J2 < I2
      case pos =>
        have hdg : decide (J2 < I2) = true := by simpa using hgt
        have hJ2n : J2 < n := by omega
        have HE : Hid (Sort.partition lti d a b pivot = (J2, true, Sort.swp dk J2 a)) := by
          have h := HPD.out
          rw [if_pos hgt] at h
          exact h
        go_upto_region 8 with (fail)
        have hdn : dk.size = n := HSW.out.sz.trans HN.out
        obtain ⟨X, hX⟩ : ∃ X, X = dk[J2]! := ⟨_, rfl⟩
        obtain ⟨Y, hY⟩ : ∃ X, X = dk[a]! := ⟨_, rfl⟩
        have c1 := HSW.out.cell (t := J2) (by omega)
        have c2 := HSW.out.cell (t := a) (by omega)
        have z1 := HSW.out.frozen (t := J2) (by omega)
        have z2 := HSW.out.frozen (t := a) (by omega)
        rw [← hX] at c1
        rw [← hY] at c2
        obtain ⟨Z, hZ⟩ := cell?_setCell_some (p := ⟨blk, off + J2, none⟩) (x := .int .u64 Y) c2
        have HX := Lib.hid hX
        have HY := Lib.hid hY
        have HDN := Lib.hid hdn
        clear hX hY hdn
        go_wp2_with fail
        go_region
        have HS3 : Hid (SW w (World.drew ((wc.setCell ⟨blk, off + J2, none⟩ (.int .u64 Y)).setCell ⟨blk, off + a, none⟩ (.int .u64 X))) blk off d (Sort.swp dk J2 a)) :=
          SW.same (HSW.out.swpv (w := wc) (by rw [HDN.out]; exact hJ2n) (by rw [HDN.out]; exact han) HX.out HY.out rfl rfl rfl rfl) rfl rfl rfl rfl
        clear c1 c2 z1 z2 hZ
        try change Code.wp _ _ _ _ (World.drew ((wc.setCell ⟨blk, off + J2, none⟩ (.int .u64 Y)).setCell ⟨blk, off + a, none⟩ (.int .u64 X)))
        generalize World.drew (World.setCell (World.setCell wc _ _) _ _) = w3 at *
        clear HX HY HDN
        go_wp2_with fail
        go_ret2
        unfold ParT
        rw [HE.out]
        exact ⟨rfl, HS3.out⟩
      case neg =>
        have hdg : decide (J2 < I2) = false := by simpa using hgt
        have hlt : I2 < J2 := HPT.out (by omega)
        have hI2n : I2 < n := by omega
        have hJ2n : J2 < n := by omega
        obtain ⟨k, hk⟩ : ∃ k, k = J2 - 1 := ⟨_, rfl⟩
        have HE : Hid (Sort.partition lti d a b pivot = ((Sort.partLoop lti a (I2 + 1) k (Sort.swp dk I2 J2)).1, false, Sort.swp (Sort.partLoop lti a (I2 + 1) k (Sort.swp dk I2 J2)).2 (Sort.partLoop lti a (I2 + 1) k (Sort.swp dk I2 J2)).1 a)) := by
          have h := HPD.out
          rw [if_neg hgt, ← hk] at h
          exact h
        have y2 : (J2 : Int) - 1 = (k : Int) := by omega
        have hkb : k < b := by omega
        have hik : I2 + 1 ≤ k + 1 := by omega
        have haI : a < I2 + 1 := by omega
        clear hk
        go_upto_region 10 with (fail)
        have hdn : dk.size = n := HSW.out.sz.trans HN.out
        obtain ⟨X, hX⟩ : ∃ X, X = dk[I2]! := ⟨_, rfl⟩
        obtain ⟨Y, hY⟩ : ∃ X, X = dk[J2]! := ⟨_, rfl⟩
        have c1 := HSW.out.cell (t := I2) (by omega)
        have c2 := HSW.out.cell (t := J2) (by omega)
        have z1 := HSW.out.frozen (t := I2) (by omega)
        have z2 := HSW.out.frozen (t := J2) (by omega)
        rw [← hX] at c1
        rw [← hY] at c2
        obtain ⟨Z, hZ⟩ := cell?_setCell_some (p := ⟨blk, off + I2, none⟩) (x := .int .u64 Y) c2
        have HX := Lib.hid hX
        have HY := Lib.hid hY
        have HDN := Lib.hid hdn
        clear hX hY hdn
        go_wp2_with fail
        go_region
        have HS2 : Hid (SW w (World.drew ((wc.setCell ⟨blk, off + I2, none⟩ (.int .u64 Y)).setCell ⟨blk, off + J2, none⟩ (.int .u64 X))) blk off d (Sort.swp dk I2 J2)) :=
          SW.same (HSW.out.swpv (w := wc) (by rw [HDN.out]; exact hI2n) (by rw [HDN.out]; exact hJ2n) HX.out HY.out rfl rfl rfl rfl) rfl rfl rfl rfl
        clear c1 c2 z1 z2 hZ
        try change Code.wp _ _ _ _ (World.drew ((wc.setCell ⟨blk, off + I2, none⟩ (.int .u64 Y)).setCell ⟨blk, off + J2, none⟩ (.int .u64 X)))
        generalize World.drew (World.setCell (World.setCell wc _ _) _ _) = w2 at *
        clear HX HY HDN
        obtain ⟨d0, hd0⟩ : ∃ d1, d1 = Sort.swp dk I2 J2 := ⟨_, rfl⟩
        rw [← hd0] at HS2 HE
        clear hd0
        obtain ⟨r0, hr0⟩ : ∃ r0, r0 = Sort.partLoop lti a (I2 + 1) k d0 := ⟨_, rfl⟩
        rw [← hr0] at HE
        have HR0 := Lib.hid hr0
        clear hr0 HI2 HJ2 HIJ2 HPT HPD HSW HS1 HD1
        go_wp2_with fail
        try simp only [y2]
        go_loopw [10, 11] (fun vi vj wr => ∃ (i j : Nat) (dk : Array Int), a < i ∧ i ≤ j + 1 ∧ j < b ∧ vi = .int .i64 i ∧ vj = .int .i64 j ∧ Hid (SW w wr blk off d dk) ∧ Hid (Sort.partLoop lti a i j dk = r0)) (fun vi vj _ => (intOf vj + 1 - intOf vi).toNat)
        case atStart => exact ⟨I2 + 1, k, d0, haI, hik, hkb, by go_num, rfl, HS2, HR0.out.symm⟩
        case round =>
          clear y2 hI2a hI2b hJ2a hJ2b hlt hdg hgt hI2n hJ2n hkb hik haI hij hai haj hjb
          obtain ⟨i, j, dk, hai, hij, hjb, rfl, rfl, HSW, hpl⟩ := hrel
          obtain ⟨I2, hI2⟩ : ∃ I2, Sort.scanUp (fun x => lti x dk[a]!) dk j i = I2 := ⟨_, rfl⟩
          obtain ⟨J2, hJ2⟩ : ∃ J2, Sort.scanDown (fun x => !lti x dk[a]!) dk I2 j = J2 := ⟨_, rfl⟩
          have su := Sort.scanUp_spec (fun x => lti x dk[a]!) dk j _ i rfl
          have sd := Sort.scanDown_spec (fun x => !lti x dk[a]!) dk I2 j
          rw [hI2] at su
          rw [hJ2] at sd
          have hI2a : i ≤ I2 := su.1
          have hI2b : I2 ≤ j + 1 := su.2.1 hij
          have hJ2a : J2 ≤ j := sd.1
          have hJ2b : I2 ≤ J2 + 1 := sd.2.1 hI2b
          have HPT : Hid (I2 ≤ J2 → I2 < J2) := fun h => scans_part (p' := (fun x => !lti x dk[a]!)) (fun x => by simp) hI2 hJ2 h (by omega)
          have HIJ2 := Lib.hid hI2b
          have HI2 := Lib.hid hI2
          have HJ2 := Lib.hid hJ2
          clear su sd hI2 hJ2
          have HEQ := Lib.hid (Sort.partLoop_eq lti a i j dk)
          go_upto_block 6 with (fail)
          go_cut [10] from 99 to 152 (fun sv wx => sv = .int .i64 (I2 : Int) ∧ Hid (SW w wx blk off d dk))
          case first =>
            go_wp2_with fail
            go_loopw [10] (fun vi wr => ∃ q : Nat, i ≤ q ∧ q ≤ j + 1 ∧ vi = .int .i64 q ∧ Hid (SW w wr blk off d dk) ∧ Hid (Sort.scanUp (fun x => lti x dk[a]!) dk j q = I2)) (fun vi _ => j + 1 - (intOf vi).toNat)
            case atStart => exact ⟨i, Nat.le_refl _, hij, rfl, HSW, HI2⟩
            case round =>
              obtain ⟨q, h1, h2, rfl, hs', hsc⟩ := hrel
              by_cases hle : q ≤ j
              case neg =>
                have hdl : decide (q ≤ j) = false := by simpa using hle
                have HE : Hid (q = I2) := (scanUp_stop (.inl hle)).symm.trans hsc.out
                go_wp2_with fail
                go_quiet (fail)
                go_wp2_with fail
                go_meet
                exact ⟨by rw [HE.out], hs'.out.same rfl rfl rfl rfl⟩
              case pos =>
                have hdl : decide (q ≤ j) = true := by simpa using hle
                have hdn : dk.size = n := hs'.out.sz.trans HN.out
                have hqn : q < n := by omega
                obtain ⟨X, hX⟩ : ∃ X, X = dk[q]! := ⟨_, rfl⟩
                obtain ⟨V, hV⟩ : ∃ X, X = dk[a]! := ⟨_, rfl⟩
                have c1 := hs'.out.cell (t := q) (by omega)
                have c2 := hs'.out.cell (t := a) (by omega)
                rw [← hX] at c1
                rw [← hV] at c2
                have HX := Lib.hid hX
                have HV := Lib.hid hV
                clear hX hV hdn
                cases hless : lti X V
                case false =>
                  have HL : Hid (∀ w, Calls Try.prog 87 #[.int .u64 X, .int .u64 V] w fun e w' => e = .returned (.bool false) ∧ w' = w) := fun w => less_is hless w
                  have HE : Hid (q = I2) := (scanUp_stop (.inr (by show lti dk[q]! dk[a]! = false; rw [← HX.out, ← HV.out, hless]))).symm.trans hsc.out
                  clear hless
                  go_wp2_with fail
                  go_quiet ((go_at_call 87; exact Calls.quiet_of_same (HL.out _)))
                  go_wp2_with fail
                  go_meet
                  exact ⟨by rw [HE.out], hs'.out.same rfl rfl rfl rfl⟩
                case true =>
                  have HL : Hid (∀ w, Calls Try.prog 87 #[.int .u64 X, .int .u64 V] w fun e w' => e = .returned (.bool true) ∧ w' = w) := fun w => less_is hless w
                  have HE : Hid (Sort.scanUp (fun x => lti x dk[a]!) dk j (q + 1) = I2) := (scanUp_go hle (by show lti dk[q]! dk[a]! = true; rw [← HX.out, ← HV.out, hless])).symm.trans hsc.out
                  clear hless
                  go_wp2_with fail
                  go_quiet ((go_at_call 87; exact Calls.quiet_of_same (HL.out _)))
                  go_wp2_with fail
                  go_roundw
                  case rel => exact ⟨q + 1, Nat.le_succ_of_le h1, Nat.succ_le_succ hle, by go_num, hs'.out.same rfl rfl rfl rfl, HE⟩
                  case measure =>  simp [intOf]; omega
          case rest =>
            obtain ⟨rfl, hcw⟩ := hcut

            have HSW := hcw
            go_upto_block 8 with (fail)
            go_cut [11] from 99 to 152 (fun sv wx => sv = .int .i64 (J2 : Int) ∧ Hid (SW w wx blk off d dk))
            case first =>
              go_wp2_with fail
              go_loopw [11] (fun vj wr => ∃ q : Nat, I2 ≤ q + 1 ∧ q ≤ j ∧ vj = .int .i64 q ∧ Hid (SW w wr blk off d dk) ∧ Hid (Sort.scanDown (fun x => !lti x dk[a]!) dk I2 q = J2)) (fun vj _ => (intOf vj).toNat)
              case atStart => exact ⟨j, HIJ2.out, Nat.le_refl _, rfl, HSW, HJ2⟩
              case round =>
                obtain ⟨q, h1, h2, rfl, hs', hsc⟩ := hrel
                by_cases hle : I2 ≤ q
                case neg =>
                  have hdl : decide (I2 ≤ q) = false := by simpa using hle
                  have HE : Hid (q = J2) := (scanDown_stop (.inl hle)).symm.trans hsc.out
                  go_wp2_with fail
                  go_quiet (fail)
                  go_wp2_with fail
                  go_meet
                  exact ⟨by rw [HE.out], hs'.out.same rfl rfl rfl rfl⟩
                case pos =>
                  have hdl : decide (I2 ≤ q) = true := by simpa using hle
                  have hdn : dk.size = n := hs'.out.sz.trans HN.out
                  have hqn : q < n := by omega
                  obtain ⟨X, hX⟩ : ∃ X, X = dk[q]! := ⟨_, rfl⟩
                  obtain ⟨V, hV⟩ : ∃ X, X = dk[a]! := ⟨_, rfl⟩
                  have c1 := hs'.out.cell (t := q) (by omega)
                  have c2 := hs'.out.cell (t := a) (by omega)
                  rw [← hX] at c1
                  rw [← hV] at c2
                  have HX := Lib.hid hX
                  have HV := Lib.hid hV
                  obtain ⟨r, hr⟩ : ∃ r, q = r + 1 := ⟨q - 1, by omega⟩
                  have hrI : I2 ≤ r + 1 := by omega
                  have hrj : r ≤ j := by omega
                  have hrq : r < q := by omega
                  have x1 : (q : Int) - 1 = (r : Int) := by omega
                  have HR := Lib.hid hr
                  clear hX hV hdn hr
                  cases hless : lti X V
                  case true =>
                    have HL : Hid (∀ w, Calls Try.prog 87 #[.int .u64 X, .int .u64 V] w fun e w' => e = .returned (.bool true) ∧ w' = w) := fun w => less_is hless w
                    have HE : Hid (q = J2) := (scanDown_stop (.inr (by show (!lti dk[q]! dk[a]!) = false; rw [← HX.out, ← HV.out, hless]; rfl))).symm.trans hsc.out
                    clear hless
                    go_wp2_with fail
                    go_quiet ((go_at_call 87; exact Calls.quiet_of_same (HL.out _)))
                    go_wp2_with fail
                    go_meet
                    exact ⟨by rw [HE.out], hs'.out.same rfl rfl rfl rfl⟩
                  case false =>
                    have HL : Hid (∀ w, Calls Try.prog 87 #[.int .u64 X, .int .u64 V] w fun e w' => e = .returned (.bool false) ∧ w' = w) := fun w => less_is hless w
                    have HE : Hid (Sort.scanDown (fun x => !lti x dk[a]!) dk I2 r = J2) := (scanDown_go HR.out hle (by show (!lti dk[q]! dk[a]!) = true; rw [← HX.out, ← HV.out, hless]; rfl)).symm.trans hsc.out
                    clear hless
                    go_wp2_with fail
                    go_quiet ((go_at_call 87; exact Calls.quiet_of_same (HL.out _)))
                    go_wp2_with fail
                    go_roundw
                    case rel => exact ⟨r, hrI, hrj, rfl, hs'.out.same rfl rfl rfl rfl, HE⟩
                    case measure => clear x1; simp [intOf]; omega
            case rest =>
              obtain ⟨rfl, hcw⟩ := hcut

              have HSW := hcw
              by_cases hgt : J2 < I2
              case pos =>
                have hdg : decide (J2 < I2) = true := by simpa using hgt
                have hJ2n : J2 < n := by omega
                have HF : Hid ((J2, dk) = r0) := by
                  have h := HEQ.out
                  rw [HI2.out, HJ2.out, if_pos hgt] at h
                  exact h.symm.trans hpl.out
                go_upto_region 21 with (fail)
                have hdn : dk.size = n := HSW.out.sz.trans HN.out
                obtain ⟨X, hX⟩ : ∃ X, X = dk[J2]! := ⟨_, rfl⟩
                obtain ⟨Y, hY⟩ : ∃ X, X = dk[a]! := ⟨_, rfl⟩
                have c1 := HSW.out.cell (t := J2) (by omega)
                have c2 := HSW.out.cell (t := a) (by omega)
                have z1 := HSW.out.frozen (t := J2) (by omega)
                have z2 := HSW.out.frozen (t := a) (by omega)
                rw [← hX] at c1
                rw [← hY] at c2
                obtain ⟨Z, hZ⟩ := cell?_setCell_some (p := ⟨blk, off + J2, none⟩) (x := .int .u64 Y) c2
                have HX := Lib.hid hX
                have HY := Lib.hid hY
                have HDN := Lib.hid hdn
                clear hX hY hdn
                go_wp2_with fail
                go_region
                have HS4 : Hid (SW w (World.drew ((wc.setCell ⟨blk, off + J2, none⟩ (.int .u64 Y)).setCell ⟨blk, off + a, none⟩ (.int .u64 X))) blk off d (Sort.swp dk J2 a)) :=
                  SW.same (HSW.out.swpv (w := wc) (by rw [HDN.out]; exact hJ2n) (by rw [HDN.out]; exact han) HX.out HY.out rfl rfl rfl rfl) rfl rfl rfl rfl
                clear c1 c2 z1 z2 hZ
                try change Code.wp _ _ _ _ (World.drew ((wc.setCell ⟨blk, off + J2, none⟩ (.int .u64 Y)).setCell ⟨blk, off + a, none⟩ (.int .u64 X)))
                generalize World.drew (World.setCell (World.setCell wc _ _) _ _) = w4 at *
                clear HX HY HDN
                go_wp2_with fail
                go_ret2
                unfold ParT
                rw [HE.out, ← HF.out]
                exact ⟨rfl, HS4.out⟩
              case neg =>
                have hdg : decide (J2 < I2) = false := by simpa using hgt
                have hlt : I2 < J2 := HPT.out (by omega)
                have hI2n : I2 < n := by omega
                have hJ2n : J2 < n := by omega
                have HF : Hid (Sort.partLoop lti a (I2 + 1) (J2 - 1) (Sort.swp dk I2 J2) = r0) := by
                  have h := HEQ.out
                  rw [HI2.out, HJ2.out, if_neg (by omega)] at h
                  exact h.symm.trans hpl.out
                obtain ⟨k, hk⟩ : ∃ k, k = J2 - 1 := ⟨_, rfl⟩
                rw [← hk] at HF
                have y1 : (J2 : Int) - 1 = (k : Int) := by omega
                have hkb : k < b := by omega
                have hik : I2 + 1 ≤ k + 1 := by omega
                have hkj : k < j := by omega
                have haI : a < I2 + 1 := by omega
                clear hk
                go_upto_region 18 with (fail)
                have hdn : dk.size = n := HSW.out.sz.trans HN.out
                obtain ⟨X, hX⟩ : ∃ X, X = dk[I2]! := ⟨_, rfl⟩
                obtain ⟨Y, hY⟩ : ∃ X, X = dk[J2]! := ⟨_, rfl⟩
                have c1 := HSW.out.cell (t := I2) (by omega)
                have c2 := HSW.out.cell (t := J2) (by omega)
                have z1 := HSW.out.frozen (t := I2) (by omega)
                have z2 := HSW.out.frozen (t := J2) (by omega)
                rw [← hX] at c1
                rw [← hY] at c2
                obtain ⟨Z, hZ⟩ := cell?_setCell_some (p := ⟨blk, off + I2, none⟩) (x := .int .u64 Y) c2
                have HX := Lib.hid hX
                have HY := Lib.hid hY
                have HDN := Lib.hid hdn
                clear hX hY hdn
                go_wp2_with fail
                go_region
                have HS5 : Hid (SW w (World.drew ((wc.setCell ⟨blk, off + I2, none⟩ (.int .u64 Y)).setCell ⟨blk, off + J2, none⟩ (.int .u64 X))) blk off d (Sort.swp dk I2 J2)) :=
                  SW.same (HSW.out.swpv (w := wc) (by rw [HDN.out]; exact hI2n) (by rw [HDN.out]; exact hJ2n) HX.out HY.out rfl rfl rfl rfl) rfl rfl rfl rfl
                clear c1 c2 z1 z2 hZ
                try change Code.wp _ _ _ _ (World.drew ((wc.setCell ⟨blk, off + I2, none⟩ (.int .u64 Y)).setCell ⟨blk, off + J2, none⟩ (.int .u64 X)))
                generalize World.drew (World.setCell (World.setCell wc _ _) _ _) = w5 at *
                clear HX HY HDN
                go_wp2_with fail
                go_roundw
                case rel => exact ⟨I2 + 1, k, _, haI, hik, hkb, by go_num, rfl, HS5, HF⟩
                case measure => clear y1; simp [intOf]; omega
end Go.Proofs.Ytcbmnfjbmkpfiaa
/- The sort of a row of numbers. -/
namespace Go.Proofs.Ytcbmnfjbmkpfiaa
open Go.ChangeShapes Go.WideShapes Go.ChangeAt Go.RowKit
set_option linter.unusedVariables false
/-- What is still to be sorted, and that the whole is then. -/
structure Inv (a b : Nat) (d : Array Int) (a' b' : Nat) (dk : Array Int) : Prop where
  be : Sort.Below lti a' b' dk
  fin : ∀ R, Sort.PermIn a' b' dk R → Sort.SortedIn lti a' b' R → Sort.PermIn a b d R ∧ Sort.SortedIn lti a b R
theorem Inv.perm {a b a' b' : Nat} {d dk d1 : Array Int} (h : Inv a b d a' b' dk) (hb : b' ≤ dk.size) (hp : Sort.PermIn a' b' dk d1) : Inv a b d a' b' d1 :=
  ⟨h.be.perm hb hp, fun R h1 h2 => h.fin R (Sort.permIn_trans _ _ _ _ _ hp h1) h2⟩
set_option maxRecDepth 100000 in
set_option maxHeartbeats 16000000 in
theorem spdq_ind (n : Nat) (hsz : n < 65536) (blk off cap : Nat) : ∀ (m : Nat) (w : World) (d : Array Int) (a b limit : Nat), b - a ≤ m → Sort.Holds eu w blk off d → blk < w.heap.size → d.size = n → a ≤ b → b ≤ n → limit ≤ 64 → Sort.Below lti a b d →
    Calls Try.prog 74 #[.slice (some ⟨blk, off, none⟩) n cap, .int .i64 a, .int .i64 b, .int .i64 limit] w (SortsIn w blk off a b d) := by
  intro m
  induction m using Nat.strongRecOn with
  | _ m ih => ?_
  intro w d a b limit hm hH hl hn hab hb hlim hbel
  have IH : Hid (∀ (w : World) (d : Array Int) (a' b' limit : Nat), b' - a' < b - a → Sort.Holds eu w blk off d → blk < w.heap.size → d.size = n → a' ≤ b' → b' ≤ n → limit ≤ 64 → Sort.Below lti a' b' d →
    Calls Try.prog 74 #[.slice (some ⟨blk, off, none⟩) n cap, .int .i64 a', .int .i64 b', .int .i64 limit] w (SortsIn w blk off a' b' d)) :=
    fun w d a' b' limit hlt => ih (b' - a') (Nat.lt_of_lt_of_le hlt hm) w d a' b' limit (Nat.le_refl _)
  have HS := Lib.hid (SW.refl hH hl)
  have HN := Lib.hid hn
  have HINV : Hid (Inv a b d a b d) := ⟨hbel, fun R h1 h2 => ⟨h1, h2⟩⟩
  clear ih hm hH hl hn hbel
  go_enter Try.func74, Try.ntmps74
  go_wp2_with fail
  go_loopw [1, 2, 3, 8, 9] (fun va vb vl vwb vwp wr => ∃ (a' b' l : Nat) (wb wp : Bool) (dk : Array Int), a ≤ a' ∧ a' ≤ b' ∧ b' ≤ b ∧ l ≤ 64 ∧ va = .int .i64 a' ∧ vb = .int .i64 b' ∧ vl = .int .i64 l ∧ vwb = .bool wb ∧ vwp = .bool wp ∧ Hid (SW w wr blk off d dk) ∧ Hid (Inv a b d a' b' dk)) (fun va vb _ _ _ _ => (intOf vb - intOf va).toNat)
  case atStart => exact ⟨a, b, limit, true, true, d, Nat.le_refl _, hab, Nat.le_refl _, hlim, rfl, rfl, rfl, rfl, rfl, HS, HINV⟩
  case round =>
    obtain ⟨a', b', l, wb, wp, dk, ha1, hab', hb1, hl64, rfl, rfl, rfl, rfl, rfl, hsw, hinv⟩ := hrel
    have hb'n : b' ≤ n := Nat.le_trans hb1 hb
    have HDK : Hid (dk.size = n) := hsw.out.sz.trans HN.out
    obtain ⟨L, hL⟩ : ∃ L, L = b' - a' := ⟨_, rfl⟩
    have y0 : (b' : Int) - (a' : Int) = (L : Int) := by omega
    have HL := Lib.hid hL
    by_cases h12 : L ≤ 12
    case pos =>
      have hd : decide ((L : Int) ≤ 12) = true := by simp; omega
      have hi := sins_any (cap := cap) hsw.out.holds hsw.out.lt' hab' (by rw [HDK.out]; exact hb'n) (by rw [HDK.out]; omega)
      rw [HDK.out] at hi
      have HI := Lib.hid hi
      clear hi hL
      go_wp2_with fail
      refine HI.out.mono ?_; rintro e w1 ⟨d1, rfl, h1, h2, h3⟩
      have H1 := Lib.hid (hsw.out.trans h1)
      have H2 := Lib.hid (hinv.out.fin d1 h2 h3)
      clear h1 h2 h3
      go_wp2_with fail
      go_end0
      exact ⟨d1, rfl, H1.out, H2.out.1, H2.out.2⟩
    case neg =>
      have hd : decide ((L : Int) ≤ 12) = false := by simp; omega
      have hL13 : 13 ≤ L := by omega
      have hab13 : a' + 13 ≤ b' := by omega
      have hab1 : a' < b' := by omega
      clear hL
      by_cases hl0 : l = 0
      case pos =>
        have hdl : ((l : Int) == 0) = true := by simp; omega
        have hi := sheap_any (cap := cap) hsw.out.holds hsw.out.lt' HDK.out hab1 hb'n (by omega)
        have HI := Lib.hid hi
        clear hi hl0
        go_wp2_with fail
        refine HI.out.mono ?_; rintro e w1 ⟨d1, rfl, h1, h2, h3⟩
        have H1 := Lib.hid (hsw.out.trans h1)
        have H2 := Lib.hid (hinv.out.fin d1 h2 h3)
        clear h1 h2 h3
        go_wp2_with fail
        go_end0
        exact ⟨d1, rfl, H1.out, H2.out.1, H2.out.2⟩
      case neg =>
        have hdl : ((l : Int) == 0) = false := by simp; omega
        have hl1 : 1 ≤ l := by omega
        clear hl0
        go_upto_if 35 with (fail)
        go_cut [3] from 19 to 133 (fun s3 wx => ∃ (l' : Nat) (d1 : Array Int), s3 = .int .i64 (l' : Int) ∧ l' ≤ 64 ∧ Hid (SW w wx blk off d d1) ∧ Hid (Inv a b d a' b' d1))
        case first =>
          cases wb
          case true =>
            go_wp2_with fail
            go_meet
            exact ⟨l, dk, rfl, hl64, hsw, hinv⟩
          case false =>
            have hi := sbreak_any (cap := cap) hsw.out.holds hsw.out.lt' HDK.out hab13 hb'n hsz
            have HI := Lib.hid hi
            obtain ⟨l', hl'⟩ : ∃ l', l' = l - 1 := ⟨_, rfl⟩
            have y1 : (l : Int) - 1 = (l' : Int) := by clear y0; omega
            have hl'64 : l' ≤ 64 := by clear y0 y1; omega
            clear hi hl'
            go_wp2_with fail
            refine HI.out.mono ?_; rintro e w1 ⟨d1, rfl, h1, h2⟩
            have H1 := Lib.hid (hsw.out.trans h1)
            have H2 := Lib.hid (hinv.out.perm (by rw [HDK.out]; exact hb'n) h2)
            clear h1 h2
            go_wp2_with fail
            go_meet
            exact ⟨l', d1, rfl, hl'64, H1, H2⟩
        case rest =>
          obtain ⟨l', d1, rfl, hl'64, hs1, hv1⟩ := hcut
          have HD1 : Hid (d1.size = n) := hs1.out.sz.trans HN.out
          have hr1 := rw_holds hs1.out.holds
          rw [HD1.out] at hr1
          have hp := pivot_any (cap := cap) (a := a') (b := b') hr1 hs1.out.lt' (by omega) hab13 hb'n
          have HP := Lib.hid hp
          clear hr1 hp
          go_wp2_with fail
          refine HP.out.mono ?_; rintro e w1 ⟨u, h, rfl, hu1, hu2, hbw⟩
          have HS1 := Lib.hid (hs1.out.below hbw)
          clear hbw
          go_upto_if 50 with (fail)
          go_cut [11, 12] from 19 to 133 (fun s11 s12 wx => ∃ (v : Nat) (h' : Int) (d2 : Array Int), s11 = .int .i64 (v : Int) ∧ s12 = .int .i64 h' ∧ a' ≤ v ∧ v < b' ∧ Hid (SW w wx blk off d d2) ∧ Hid (Inv a b d a' b' d2))
          case first =>
            by_cases hh : h = 2
            case pos =>
              subst hh
              have hi := srev_any (cap := cap) HS1.out.holds HS1.out.lt' HD1.out hab1 hb'n (by omega)
              have HI := Lib.hid hi
              obtain ⟨c, hc⟩ : ∃ c, c = b' - 1 := ⟨_, rfl⟩
              obtain ⟨f, hf⟩ : ∃ f, f = u - a' := ⟨_, rfl⟩
              obtain ⟨v, hv⟩ : ∃ v, v = c - f := ⟨_, rfl⟩
              have y1 : (b' : Int) - 1 = (c : Int) := by clear y0; omega
              have y2 : (u : Int) - (a' : Int) = (f : Int) := by clear y0; omega
              have y3 : (c : Int) - (f : Int) = (v : Int) := by clear y0 y1 y2; omega
              have hv1' : a' ≤ v ∧ v < b' := by clear y0 y1 y2 y3; omega
              clear hi hc hf hv
              go_wp2_with fail
              refine HI.out.mono ?_; rintro e w2 ⟨d2, rfl, h1, h2⟩
              have H1 := Lib.hid (HS1.out.trans h1)
              have H2 := Lib.hid (hv1.out.perm (by rw [HD1.out]; exact hb'n) h2)
              clear h1 h2
              go_wp2_with fail
              go_meet
              exact ⟨v, 1, d2, rfl, rfl, hv1'.1, hv1'.2, H1, H2⟩
            case neg =>
              have hdh : (h == 2) = false := by simpa using hh
              clear hh
              go_wp2_with fail
              go_meet
              exact ⟨u, h, d1, rfl, rfl, hu1, hu2, HS1, hv1⟩
          case rest =>
            obtain ⟨v, h', d2, rfl, rfl, hva, hvb, hs2, hv2⟩ := hcut
            have HD2 : Hid (d2.size = n) := hs2.out.sz.trans HN.out
            go_upto_region 15 with (fail)
            go_cut [68] from 19 to 133 (fun s68 wx => ∃ (q : Bool), s68 = .bool q ∧ Hid (SW w wx blk off d d2))
            case first =>
              cases wb <;> cases wp <;> by_cases hh : h' = 1
              all_goals (first | (have hdh : (h' == 1) = true := by simpa using hh) | (have hdh : (h' == 1) = false := by simpa using hh))
              all_goals clear hh
              all_goals go_wp2_with fail
              all_goals go_meet
              all_goals exact ⟨_, rfl, hs2⟩
            case rest =>
              obtain ⟨q, rfl, hs2'⟩ := hcut
              go_upto_if 68 with (fail)
              go_cut [] from 19 to 133 (fun wx => ∃ (d3 : Array Int), Hid (SW w wx blk off d d3) ∧ Hid (Inv a b d a' b' d3))
              case first =>
                cases q
                case false =>
                  go_wp2_with fail
                  go_meet
                  exact ⟨d2, hs2', hv2⟩
                case true =>
                  have hi := spins_any (cap := cap) hs2'.out.holds hs2'.out.lt' HD2.out hab13 hb'n hsz hv2.out.be
                  have HI := Lib.hid hi
                  clear hi
                  go_wp2_with fail
                  refine HI.out.mono ?_; rintro e w2 ⟨d3, q, rfl, h1, h2, h3⟩
                  have H1 := Lib.hid (hs2'.out.trans h1)
                  have H2 := Lib.hid h2
                  have H3 := Lib.hid h3
                  clear h1 h2 h3
                  cases q
                  case false =>
                    have H4 := Lib.hid (hv2.out.perm (by rw [HD2.out]; exact hb'n) H2.out)
                    go_wp2_with fail
                    go_meet
                    exact ⟨d3, H1, H4⟩
                  case true =>
                    have H4 := Lib.hid (hv2.out.fin d3 H2.out (H3.out rfl))
                    go_wp2_with fail
                    go_end0
                    exact ⟨d3, rfl, H1.out, H4.out.1, H4.out.2⟩
              case rest =>
                obtain ⟨d3, hs3, hv3⟩ := hcut
                have HD3 : Hid (d3.size = n) := hs3.out.sz.trans HN.out
                go_upto_region 17 with (fail)
                go_cut [87] from 19 to 133 (fun s87 wx => ∃ (q : Bool), s87 = .bool q ∧ Hid (q = true → 0 < a' ∧ lti d3[a' - 1]! d3[v]! = false) ∧ Hid (SW w wx blk off d d3))
                case first =>
                  by_cases ha0 : 0 < a'
                  case neg =>
                    have hda : decide ((0 : Int) < (a' : Int)) = false := by simp; omega
                    go_quiet (fail)
                    go_wp2_with fail
                    go_meet
                    exact ⟨false, rfl, (fun h => by cases h), hs3.out.same rfl rfl rfl rfl⟩
                  case pos =>
                    have hda : decide ((0 : Int) < (a' : Int)) = true := by simp; omega
                    obtain ⟨k, hk⟩ : ∃ k, k = a' - 1 := ⟨_, rfl⟩
                    have y1 : IntKind.i64.wrap ((a' : Int) - 1) = (k : Int) := by clear y0; rw [IntWalk.i64_in _ (by omega)]; omega
                    have hd3n := HD3.out
                    have hkn : k < n := by clear y0 y1; omega
                    have hvn : v < n := by clear y0 y1; omega
                    obtain ⟨X, hX⟩ : ∃ X, X = d3[k]! := ⟨_, rfl⟩
                    obtain ⟨Y, hY⟩ : ∃ X, X = d3[v]! := ⟨_, rfl⟩
                    have c1 := hs3.out.cell (t := k) (by clear y0 y1; omega)
                    have c2 := hs3.out.cell (t := v) (by clear y0 y1; omega)
                    rw [← hX] at c1
                    rw [← hY] at c2
                    have HX := Lib.hid hX
                    have HY := Lib.hid hY
                    have HK := Lib.hid hk
                    clear hX hY hk hd3n
                    cases hless : lti X Y
                    case true =>
                      have HLS : Hid (∀ w, Calls Try.prog 87 #[.int .u64 X, .int .u64 Y] w fun e w' => e = .returned (.bool true) ∧ w' = w) := fun w => less_is hless w
                      clear hless
                      go_quiet ((go_at_call 87; exact Calls.quiet_of_same (HLS.out _)))
                      go_wp2_with fail
                      go_meet
                      exact ⟨false, rfl, (fun h => by cases h), hs3.out.same rfl rfl rfl rfl⟩
                    case false =>
                      have HLS : Hid (∀ w, Calls Try.prog 87 #[.int .u64 X, .int .u64 Y] w fun e w' => e = .returned (.bool false) ∧ w' = w) := fun w => less_is hless w
                      have HQ : Hid (0 < a' ∧ lti d3[a' - 1]! d3[v]! = false) := ⟨ha0, by rw [← HK.out, ← HX.out, ← HY.out]; exact hless⟩
                      clear hless
                      go_quiet ((go_at_call 87; exact Calls.quiet_of_same (HLS.out _)))
                      go_wp2_with fail
                      go_meet
                      exact ⟨true, rfl, (fun _ => HQ.out), hs3.out.same rfl rfl rfl rfl⟩
                case rest =>
                  obtain ⟨q, rfl, hq, hs3'⟩ := hcut
                  cases q
                  case true =>
                    obtain ⟨ha0, hless⟩ := hq.out rfl
                    rcases hx : Sort.partitionEqual lti d3 a' b' v with ⟨mid, d4⟩
                    obtain ⟨r1, r2, r3, r4, r5⟩ := Sort.round_eq Sort.swo_ltInt (Sort.partitionEqual_holds lti) ha0 hva hvb (by rw [HD3.out]; exact hb'n) hv3.out.be hless hx
                    have hi := spareq_any (cap := cap) hs3'.out.holds hs3'.out.lt' HD3.out hva hvb hb'n hsz
                    unfold ParEq at hi
                    rw [hx] at hi
                    have HI := Lib.hid hi
                    have HV : Hid (Inv a b d mid b' d4) := ⟨r4, fun R h1 h2 => by
                      have h3 := r5 R h1 h2
                      exact hv3.out.fin R h3.1 h3.2⟩
                    clear hi hx r3 r4 r5 hless
                    go_wp2_with fail
                    refine HI.out.mono ?_; rintro e w2 ⟨rfl, h1⟩
                    have H1 := Lib.hid (hs3'.out.trans h1)
                    clear h1
                    go_wp2_with fail
                    go_roundw
                    case rel => exact ⟨mid, b', l', wb, wp, d4, by clear y0; omega, r2, hb1, hl'64, rfl, rfl, rfl, rfl, rfl, H1, HV⟩
                    case measure => clear y0; simp [intOf]; omega
                  case false =>
                    clear hq
                    rcases hx : Sort.partition lti d3 a' b' v with ⟨mid, ap, d4⟩
                    obtain ⟨r1, r2, r3, r4, r5, r6, r7⟩ := Sort.round_part Sort.swo_ltInt (Sort.partition_holds lti) hva hvb (by rw [HD3.out]; exact hb'n) hv3.out.be hx
                    have hi := spart_any (cap := cap) hs3'.out.holds hs3'.out.lt' HD3.out hva hvb hb'n hsz
                    unfold ParT at hi
                    rw [hx] at hi
                    have HI := Lib.hid hi
                    have HD4 : Hid (d4.size = n) := r3.trans HD3.out
                    obtain ⟨A, hA⟩ : ∃ A, A = mid - a' := ⟨_, rfl⟩
                    obtain ⟨B, hB⟩ : ∃ B, B = b' - mid := ⟨_, rfl⟩
                    obtain ⟨E, hE⟩ : ∃ E, E = L / 8 := ⟨_, rfl⟩
                    have y1 : (mid : Int) - (a' : Int) = (A : Int) := by clear y0; omega
                    have y2 : (b' : Int) - (mid : Int) = (B : Int) := by clear y0 y1; omega
                    have y3 : (L : Int) / 8 = (E : Int) := by clear y0 y1 y2; omega
                    have HR4 := Lib.hid r4
                    have HR5 := Lib.hid r5
                    have HR6 := Lib.hid r6
                    have HR7 := Lib.hid r7
                    have hHA := Lib.hid hA
                    have hHB := Lib.hid hB
                    have hAn : A ≤ n := by clear y0 y1 y2 y3; omega
                    have hBn : B ≤ n := by clear y0 y1 y2 y3; omega
                    have hmidn : mid < n := by clear y0 y1 y2 y3; omega
                    clear hi hx r3 r4 r5 r6 r7 hA hB hE
                    by_cases hAB : A < B
                    case pos =>
                      have hdAB : decide (A < B) = true := by simpa using hAB
                      go_wp2_with fail
                      refine HI.out.mono ?_; rintro e w2 ⟨rfl, h1⟩
                      have H1 := Lib.hid (hs3'.out.trans h1)
                      clear h1
                      go_wp2_with fail
                      have hrec := IH.out w2 d4 a' mid l' (by clear y0 y1 y2 y3; omega) H1.out.holds H1.out.lt' HD4.out r1 (by clear y0 y1 y2 y3; omega) hl'64 HR4.out
                      refine hrec.mono ?_; rintro e w3 ⟨d5, rfl, h1, h2, h3⟩
                      have H2 := Lib.hid (H1.out.trans h1)
                      have h4 := HR6.out d5 h2 h3
                      have HV : Hid (Inv a b d (mid + 1) b' d5) := ⟨h4.1, fun R e1 e2 => by
                        have e3 := h4.2 R e1 e2
                        exact hv3.out.fin R e3.1 e3.2⟩
                      clear h1 h2 h3 h4 hrec
                      go_wp2_with fail
                      go_roundw
                      case rel => exact ⟨mid + 1, b', l', _, _, d5, by clear y0 y1 y2 y3; omega, by clear y0 y1 y2 y3; omega, hb1, hl'64, by go_num, rfl, rfl, rfl, rfl, H2, HV⟩
                      case measure => clear y0 y1 y2 y3; simp [intOf]; omega
                    case neg =>
                      have hdAB : decide (A < B) = false := by simpa using hAB
                      obtain ⟨M1, hM1⟩ : ∃ M1, M1 = mid + 1 := ⟨_, rfl⟩
                      have y4 : (mid : Int) + 1 = (M1 : Int) := by clear y0 y1 y2 y3; omega
                      rw [← hM1] at HR5 HR7
                      have HM1 := Lib.hid hM1
                      have hM1b : M1 ≤ b' := by clear y0 y1 y2 y3 y4; omega
                      have hM1a : b' - M1 < b - a := by clear y0 y1 y2 y3 y4; omega
                      clear hM1
                      go_wp2_with fail
                      refine HI.out.mono ?_; rintro e w2 ⟨rfl, h1⟩
                      have H1 := Lib.hid (hs3'.out.trans h1)
                      clear h1
                      go_wp2_with fail
                      have hrec := IH.out w2 d4 M1 b' l' hM1a H1.out.holds H1.out.lt' HD4.out hM1b hb'n hl'64 HR5.out
                      refine hrec.mono ?_; rintro e w3 ⟨d5, rfl, h1, h2, h3⟩
                      have H2 := Lib.hid (H1.out.trans h1)
                      have h4 := HR7.out d5 h2 h3
                      have HV : Hid (Inv a b d a' mid d5) := ⟨h4.1, fun R e1 e2 => by
                        have e3 := h4.2 R e1 e2
                        exact hv3.out.fin R e3.1 e3.2⟩
                      clear h1 h2 h3 h4 hrec
                      go_wp2_with fail
                      go_roundw
                      case rel => exact ⟨a', mid, l', _, _, d5, ha1, r1, by clear y0 y1 y2 y3 y4; omega, hl'64, rfl, rfl, rfl, rfl, rfl, H2, HV⟩
                      case measure => clear y0 y1 y2 y3 y4; simp [intOf]; omega
end Go.Proofs.Ytcbmnfjbmkpfiaa
