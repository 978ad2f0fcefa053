/- A reader in its block, and what each of its calls makes of it: the contracts of the program's cursor. -/
import Derived.Test.YtmdgmnaaopineaaStep
import Derived.Test.YtmdgmnaaopineaaRows
import Derived.StillTailTactics
namespace Go.Proofs.Ytmdgmnaaopineaa
open Go.ChangeShapes Go.WideShapes Go.ChangeAt Go.RowKit
set_option linter.unusedVariables false

theorem elemU : Elem Try.prog 36 5 1 1 := Elem.of (z := .int .u8 0) Try.underlying36 (by kernel_rfl) rfl (by decide)
abbrev Flt := Int × Int
/-- A reader stands in block g: the bytes l (in the blocks of D), the place p, the fault f. -/
def Rd (w : World) (D : Dom) (g : Nat) (l : List UInt8) (p : Nat) (f : Flt) : Prop :=
  ∃ A c, Blk w g 122 #[.slice A l.length c, .int .i64 p, .int .i64 f.1, .int .i64 f.2] ∧ rpU8.sl w D A l.length c l ∧ ¬ D g ∧ (∀ k, D k → k < w.heap.size) ∧ p ≤ l.length
def one (g : Nat) : Dom := fun k => k = g
section
variable {w w' : World} {D : Dom} {g : Nat} {l : List UInt8} {p : Nat} {f : Flt}
theorem Rd.lt (h : Rd w D g l p f) : g < w.heap.size := by obtain ⟨A, c, hb, _⟩ := h; exact hb.lt
theorem Rd.dom (h : Rd w D g l p f) : ∀ k, D k → k < w.heap.size := by obtain ⟨A, c, _, _, _, hd, _⟩ := h; exact hd
theorem Rd.le (h : Rd w D g l p f) : p ≤ l.length := by obtain ⟨A, c, _, _, _, _, hp⟩ := h; exact hp
theorem Rd.keep (h : Rd w D g l p f) (hs : Same (fun k => k = g ∨ D k) w w') (hz : w.heap.size ≤ w'.heap.size) : Rd w' D g l p f := by
  obtain ⟨A, c, hb, hsl, hg, hd, hp⟩ := h
  exact ⟨A, c, (hs g (.inl rfl)).trans hb, Rp.sl_keep hsl (fun k hk => hs k (.inr hk)), hg, fun k hk => Nat.lt_of_lt_of_le (hd k hk) hz, hp⟩
theorem Rd.below (h : Rd w D g l p f) (hb : Below w.heap.size w w') : Rd w' D g l p f :=
  h.keep (Same.of_below hb (fun k hk => by rcases hk with rfl | hk; exact h.lt; exact h.dom k hk)) hb.size
end

def failF (f : Flt) (c a : Int) : Flt := if f.1 = 0 then (if c = 0 then (0, 0) else (c, a)) else f
def skipF (len p : Nat) (f : Flt) (n : Int) : Nat × Flt × Bool :=
  if f.1 ≠ 0 then (p, f, false) else if n < 0 then (p, (17, (p : Int)), false) else if (len : Int) - p < n then (p, (1, (len : Int)), false) else (p + n.toNat, f, true)
theorem skipF_le {len p : Nat} {f : Flt} {n : Int} (h : p ≤ len) : (skipF len p f n).1 ≤ len := by
  unfold skipF
  split
  · exact h
  · split
    · exact h
    · split
      · exact h
      · show p + n.toNat ≤ len; omega

theorem fat_any (c a : Int) (w : World) : Calls Try.prog 100 #[.int .i64 c, .int .i64 a] w fun e w' => e = .returned (.agg #[.int .i64 (failF (0, 0) c a).1, .int .i64 (failF (0, 0) c a).2]) ∧ Below w.heap.size w w' := by
  by_cases h : c = 0
  · subst h
    have e : failF (0, 0) 0 a = (0, 0) := rfl
    rw [e]
    clear e
    go_enter Try.func100, Try.ntmps100
    go_wp2_with fail
    refine bodyPost_ret (v := .agg #[.int .i64 0, .int .i64 0]) (by simp [results, Try.results100, go_sem]) rfl ⟨rfl, ?_⟩
    exact (Below.refl _ _).alloc (Nat.le_refl _) _
  · have e : failF (0, 0) c a = (c, a) := by unfold failF; rw [if_pos rfl, if_neg h]
    rw [e]
    have hd : (c == 0) = false := by simpa using h
    clear e
    go_enter Try.func100, Try.ntmps100
    go_wp2_with fail
    refine bodyPost_ret (v := .agg #[.int .i64 c, .int .i64 a]) (by simp [results, Try.results100, go_sem]) rfl ⟨rfl, ?_⟩
    exact (Below.refl _ _).alloc (Nat.le_refl _) _
theorem fgood_any (c a : Int) (w : World) : Calls Try.prog 111 #[.agg #[.int .i64 c, .int .i64 a]] w fun e w' => e = .returned (.bool (c == 0)) ∧ Below w.heap.size w w' := by
  go_enter Try.func111, Try.ntmps111
  go_wp2_with fail
  go_ret
  exact ⟨rfl, (Below.refl _ _).alloc (Nat.le_refl _) _⟩

theorem Rd.next {w w' : World} {D : Dom} {g c p' : Nat} {A : Option Addr} {l : List UInt8} {f' : Flt} (hsl : rpU8.sl w D A l.length c l) (hg : ¬ D g) (hd : ∀ k, D k → k < w.heap.size) (chg : Chg (one g) w w')
    (hb : Blk w' g 122 #[.slice A l.length c, .int .i64 p', .int .i64 f'.1, .int .i64 f'.2]) (hp : p' ≤ l.length) : Rd w' D g l p' f' :=
  ⟨A, c, hb, Rp.sl_keep hsl (chg.same hd (fun k hk e => hg (e ▸ hk))), hg, fun k hk => Nat.lt_of_lt_of_le (hd k hk) chg.size, hp⟩

theorem cnew_any {w : World} {D : Dom} {A : Option Addr} {n c : Nat} {l : List UInt8} (h : rpU8.sl w D A n c l) (hD : ∀ k, D k → k < w.heap.size) :
    Calls Try.prog 40 #[.slice A n c] w fun e w' => e = .returned (.pointer (some ⟨w.heap.size, 0, none⟩)) ∧ Rd w' D w.heap.size l 0 (0, 0) ∧ Below w.heap.size w w' := by
  obtain ⟨hlen, hnc, hcm⟩ := Rp.sl_len h
  unfold maxLen at hcm
  obtain ⟨A', hcut, hsl⟩ := run_cut_hm elemU h rfl (n : Int) (n : Int) (by omega) (by omega) (by omega) (by omega)
  have hcut1 := hcut w
  rw [List.take_of_length_le (by omega)] at hsl
  rw [Int.toNat_natCast] at hcut1 hsl
  have HS := Lib.hid hsl
  have HN := Lib.hid hlen
  have HD := Lib.hid hD
  clear h hcut hsl hlen hD
  go_enter Try.func40, Try.ntmps40
  go_wp2_with fail
  go_ret
  have hb : Below w.heap.size w (w.alloc (.cells #[.slice A' n n, .int .i64 0, .int .i64 0, .int .i64 0] 122)) := (Below.refl _ _).alloc (Nat.le_refl _) _
  have hbk := Blk.new w 122 #[.slice A' n n, .int .i64 0, .int .i64 0, .int .i64 0]
  refine ⟨rfl, ⟨A', n, by rw [HN.out]; exact hbk, by rw [HN.out]; exact Rp.sl_below HS.out hb HD.out, fun h => Nat.lt_irrefl _ (HD.out _ h), fun k hk => Nat.lt_of_lt_of_le (HD.out k hk) hb.size, Nat.zero_le _⟩, hb⟩

section
variable {w : World} {D : Dom} {g : Nat} {l : List UInt8} {p : Nat} {f : Flt}
theorem cgood_at (h : Rd w D g l p f) : Calls Try.prog 56 #[.pointer (some ⟨g, 0, none⟩)] w fun e w' => e = .returned (.bool (f.1 == 0)) ∧ Below w.heap.size w w' := by
  obtain ⟨A, c, hb, hsl, hg, hd, hp⟩ := h
  have c2 := hb.cell 2
  have c3 := hb.cell 3
  clear hb hsl hg hd hp
  go_enter Try.func56, Try.ntmps56
  go_wp2_with fail
  refine (fgood_any _ _ _).mono ?_; rintro e w1 ⟨rfl, hb1⟩
  go_wp2_with fail
  go_ret
  exact ⟨rfl, hb1⟩
theorem cfault_at (h : Rd w D g l p f) : Calls Try.prog 44 #[.pointer (some ⟨g, 0, none⟩)] w fun e w' => e = .returned (.agg #[.int .i64 f.1, .int .i64 f.2]) ∧ Below w.heap.size w w' := by
  obtain ⟨A, c, hb, hsl, hg, hd, hp⟩ := h
  have hb2 := hb.alloc (.cells #[.int .i64 0, .int .i64 0] 40)
  have c2 := hb2.cell 2
  have c3 := hb2.cell 3
  clear hb hb2 hsl hg hd hp
  go_enter Try.func44, Try.ntmps44
  go_wp2_with fail
  refine bodyPost_ret (v := .agg #[.int .i64 f.1, .int .i64 f.2]) (by simp [results, Try.results44, go_sem]) rfl ⟨rfl, ?_⟩
  exact (Below.refl _ _).alloc (Nat.le_refl _) _
theorem cat_at (h : Rd w D g l p f) : Calls Try.prog 45 #[.pointer (some ⟨g, 0, none⟩)] w fun e w' => e = .returned (.int .i64 (p : Int)) ∧ w = w' := by
  obtain ⟨A, c, hb, hsl, hg, hd, hp⟩ := h
  have c1 := hb.cell 1
  clear hb hsl hg hd hp
  go_enter Try.func45, Try.ntmps45
  go_wp2
  go_ret
  exact ⟨rfl, rfl⟩
theorem cleft_at (h : Rd w D g l p f) : Calls Try.prog 129 #[.pointer (some ⟨g, 0, none⟩)] w fun e w' => e = .returned (.int .i64 ((l.length : Int) - p)) ∧ Below w.heap.size w w' := by
  obtain ⟨A, c, hb, hsl, hg, hd, hp⟩ := h
  have c0 := hb.cell 0
  have c1 := hb.cell 1
  obtain ⟨_, h1, h2⟩ := Rp.sl_len hsl
  unfold maxLen at h2
  clear hb hsl hg hd
  go_enter Try.func129, Try.ntmps129
  go_wp2_with fail
  go_quiet (fail)
  go_wp2_with fail
  go_ret
  exact ⟨rfl, ⟨rfl, rfl, rfl, Nat.le_refl _, fun _ _ => rfl⟩⟩
theorem cfail_at (h : Rd w D g l p f) (c a : Int) : Calls Try.prog 91 #[.pointer (some ⟨g, 0, none⟩), .int .i64 c, .int .i64 a] w fun e w' => e = .returned (.tuple #[]) ∧ Rd w' D g l p (failF f c a) ∧ Chg (one g) w w' := by
  have hgood := cgood_at h
  have HP := Lib.hid h
  obtain ⟨A, cc, hb, hsl, hg, hd, hp⟩ := h
  have HB := Lib.hid hb
  have HS := Lib.hid hsl
  have HD := Lib.hid hd
  have HG := Lib.hid hg
  clear hb hsl hd hg
  by_cases h0 : f.1 = 0
  · have e : failF f c a = failF (0, 0) c a := by unfold failF; rw [if_pos h0, if_pos rfl]
    rw [e]
    rw [show (f.1 == 0) = true by simpa using h0] at hgood
    have HC := Lib.hid hgood
    have hfat := fun w => fat_any c a w
    clear e hgood h0
    generalize failF (0, 0) c a = f' at *
    have HFAT := Lib.hid hfat
    clear hfat
    go_enter Try.func91, Try.ntmps91
    go_wp2_with fail
    refine HC.out.mono ?_; rintro e w1 ⟨rfl, hb1⟩
    go_wp2_with fail
    refine (HFAT.out _).mono ?_; rintro e w2 ⟨rfl, hb2⟩
    have hb12 := hb1.trans (hb2.mono hb1.size)
    have hblk2 := HB.out.below hb12 HB.out.lt
    have f2 := hblk2.frozen 2
    have f3 := hblk2.frozen 3
    have c2 := hblk2.cell 2
    have c3 := hblk2.cell 3
    have HB2 := Lib.hid hblk2
    have HB12 := Lib.hid hb12
    clear hb1 hb2 hb12 hblk2
    go_wp2_with fail
    go_end0
    have chg : Chg (one g) w _ := ((Chg.of_pure HB12.out (one g)).setCell (p := ⟨g, 2, none⟩) (.inl rfl) (.int .i64 f'.1)).setCell (p := ⟨g, 3, none⟩) (.inl rfl) (.int .i64 f'.2)
    exact ⟨rfl, Rd.next HS.out HG.out HD.out chg ((HB2.out.put 2 _).put 3 _) hp, chg⟩
  · have e : failF f c a = f := by unfold failF; rw [if_neg h0]
    rw [e]
    rw [show (f.1 == 0) = false by simpa using h0] at hgood
    have HC := Lib.hid hgood
    clear e hgood h0
    go_enter Try.func91, Try.ntmps91
    go_wp2_with fail
    refine HC.out.mono ?_; rintro e w1 ⟨rfl, hb1⟩
    go_wp2_with fail
    go_end0
    exact ⟨rfl, HP.out.below hb1, Chg.of_pure hb1 _⟩
theorem skipF_bad1 {len p : Nat} {f : Flt} {n : Int} (h : f.1 ≠ 0) : skipF len p f n = (p, f, false) := if_pos h
theorem skipF_bad2 {len p : Nat} {f : Flt} {n : Int} (h : f.1 = 0) (h2 : n < 0) : skipF len p f n = (p, (17, (p : Int)), false) := by unfold skipF; rw [if_neg (by simpa using h), if_pos h2]
theorem skipF_bad3 {len p : Nat} {f : Flt} {n : Int} (h : f.1 = 0) (h2 : ¬ n < 0) (h3 : (len : Int) - p < n) : skipF len p f n = (p, (1, (len : Int)), false) := by unfold skipF; rw [if_neg (by simpa using h), if_neg h2, if_pos h3]
theorem skipF_ok {len p : Nat} {f : Flt} {n : Int} (h : f.1 = 0) (h2 : ¬ n < 0) (h3 : ¬ (len : Int) - p < n) : skipF len p f n = (p + n.toNat, f, true) := by unfold skipF; rw [if_neg (by simpa using h), if_neg h2, if_neg h3]
theorem failF_set {f : Flt} {c a : Int} (h : f.1 = 0) (hc : c ≠ 0) : failF f c a = (c, a) := by unfold failF; rw [if_pos h, if_neg hc]
theorem cskip_at (h : Rd w D g l p f) (n : Int) (n0 : -9223372036854775808 ≤ n) (n1 : n ≤ 9223372036854775807) : Calls Try.prog 146 #[.pointer (some ⟨g, 0, none⟩), .int .i64 n] w fun e w' => e = .returned (.bool (skipF l.length p f n).2.2) ∧ Rd w' D g l (skipF l.length p f n).1 (skipF l.length p f n).2.1 ∧ Chg (one g) w w' := by
  have hgood := cgood_at h
  have HP := Lib.hid h
  have hp := h.le
  have hlm : l.length ≤ 9223372036854775807 := by
    obtain ⟨A, c, hb, hsl, _⟩ := h
    have := Rp.sl_len hsl
    unfold maxLen at this; omega
  clear h
  by_cases h0 : f.1 = 0
  · rw [show (f.1 == 0) = true by simpa using h0] at hgood
    have HC := Lib.hid hgood
    have H0 := Lib.hid h0
    clear hgood h0
    by_cases hneg : n < 0
    · rw [skipF_bad2 H0.out hneg]
      go_enter Try.func146, Try.ntmps146
      go_wp2_with fail
      refine HC.out.mono ?_; rintro e w1 ⟨rfl, hb1⟩
      have HP1 := Lib.hid (HP.out.below hb1)
      have HB1 := Lib.hid hb1
      have HC1 : Hid (∃ A c, Blk w1 g 122 #[.slice A l.length c, .int .i64 p, .int .i64 f.1, .int .i64 f.2]) := by obtain ⟨A, c, hb, _⟩ := HP1.out; exact ⟨A, c, hb⟩
      obtain ⟨A, c, hblk⟩ := HC1.out
      have c1 := hblk.cell 1
      clear hblk hb1
      go_wp2_with fail
      refine (cfail_at HP1.out 17 p).mono ?_; rintro e w2 ⟨rfl, hr2, hch2⟩
      rw [failF_set H0.out (by decide)] at hr2
      have HR2 := Lib.hid hr2
      have HCH := Lib.hid hch2
      clear hr2 hch2 c1
      go_wp2_with fail
      go_ret
      exact ⟨rfl, HR2.out, (Chg.of_pure HB1.out _).trans HCH.out⟩
    · by_cases hbig : (l.length : Int) - p < n
      · rw [skipF_bad3 H0.out hneg hbig]
        go_enter Try.func146, Try.ntmps146
        go_wp2_with fail
        refine HC.out.mono ?_; rintro e w1 ⟨rfl, hb1⟩
        have HP1 := Lib.hid (HP.out.below hb1)
        have HB1 := Lib.hid hb1
        clear hb1
        go_wp2_with fail
        refine (cleft_at HP1.out).mono ?_; rintro e w2 ⟨rfl, hb2⟩
        have HP2 := Lib.hid (HP1.out.below hb2)
        have HB2 := Lib.hid (HB1.out.trans (hb2.mono HB1.out.size))
        have HC1 : Hid (∃ A c, Blk w2 g 122 #[.slice A l.length c, .int .i64 p, .int .i64 f.1, .int .i64 f.2]) := by obtain ⟨A, c, hb, _⟩ := HP2.out; exact ⟨A, c, hb⟩
        obtain ⟨A, c, hblk⟩ := HC1.out
        have c0 := hblk.cell 0
        clear hblk hb2
        go_wp2_with fail
        refine (cfail_at HP2.out 1 l.length).mono ?_; rintro e w3 ⟨rfl, hr2, hch2⟩
        rw [failF_set H0.out (by decide)] at hr2
        have HR2 := Lib.hid hr2
        have HCH := Lib.hid hch2
        clear hr2 hch2 c0
        go_wp2_with fail
        go_ret
        exact ⟨rfl, HR2.out, (Chg.of_pure HB2.out _).trans HCH.out⟩
      · rw [skipF_ok H0.out hneg hbig]
        obtain ⟨k, rfl⟩ : ∃ k : Nat, n = k := ⟨n.toNat, by omega⟩
        rw [Int.toNat_natCast]
        go_enter Try.func146, Try.ntmps146
        go_wp2_with fail
        refine HC.out.mono ?_; rintro e w1 ⟨rfl, hb1⟩
        have HP1 := Lib.hid (HP.out.below hb1)
        have HB1 := Lib.hid hb1
        clear hb1
        go_wp2_with fail
        refine (cleft_at HP1.out).mono ?_; rintro e w2 ⟨rfl, hb2⟩
        have HB2 := Lib.hid (HB1.out.trans (hb2.mono HB1.out.size))
        obtain ⟨A, c, hblk, hsl, hg, hd, _⟩ := HP1.out.below hb2
        have c1 := hblk.cell 1
        have f1 := hblk.frozen 1
        have HK := Lib.hid hblk
        have HS := Lib.hid hsl
        have HG := Lib.hid hg
        have HD := Lib.hid hd
        clear hblk hb2 hsl hg hd
        go_wp2_with fail
        go_ret
        have chg : Chg (one g) w2 _ := (Chg.refl (one g) w2).setCell (p := ⟨g, 1, none⟩) (.inl rfl) (.int .i64 ((p : Int) + k))
        refine ⟨rfl, Rd.next HS.out HG.out HD.out chg (p' := p + k) ?_ (by omega), (Chg.of_pure HB2.out _).trans chg⟩
        have := HK.out.put 1 (.int .i64 ((p : Int) + k))
        simpa using this
  · rw [skipF_bad1 h0]
    rw [show (f.1 == 0) = false by simpa using h0] at hgood
    have HC := Lib.hid hgood
    clear hgood h0
    go_enter Try.func146, Try.ntmps146
    go_wp2_with fail
    refine HC.out.mono ?_; rintro e w1 ⟨rfl, hb1⟩
    go_wp2_with fail
    go_ret
    exact ⟨rfl, HP.out.below hb1, Chg.of_pure hb1 _⟩
end
end Go.Proofs.Ytmdgmnaaopineaa
