/- The program's cursor: Take, Byte, End, Part, Since. -/
import Derived.Test.YtjgcgedjpppfmaaCur
import Derived.Deep.RegionHeld3
import Derived.IntWalk
namespace Go.Proofs.Ytjgcgedjpppfmaa
open Go.ChangeShapes Go.WideShapes Go.ChangeAt Go.RowKit
set_option linter.unusedVariables false

/-- What is taken from a place on. -/
def cutB (l : List UInt8) (p k : Nat) : List UInt8 := (l.take (p + k)).drop p
def takeB (l : List UInt8) (p : Nat) (f : Flt) (n : Int) : List UInt8 := if (skipF l.length p f n).2.2 then cutB l p n.toNat else []
theorem skipF_false {len p : Nat} {f : Flt} {n : Int} (h : (skipF len p f n).2.2 = false) : (skipF len p f n).1 = p := by
  unfold skipF at *
  split
  · rfl
  · split
    · rfl
    · split
      · rfl
      · simp_all
theorem skipF_true {len p : Nat} {f : Flt} {n : Int} (h : (skipF len p f n).2.2 = true) : f.1 = 0 ∧ 0 ≤ n ∧ n ≤ (len : Int) - p ∧ skipF len p f n = (p + n.toNat, f, true) := by
  by_cases h0 : f.1 = 0
  · by_cases h1 : n < 0
    · rw [skipF_bad2 h0 h1] at h; simp at h
    · by_cases h2 : (len : Int) - p < n
      · rw [skipF_bad3 h0 h1 h2] at h; simp at h
      · exact ⟨h0, by omega, by omega, skipF_ok h0 h1 h2⟩
  · rw [skipF_bad1 h0] at h; simp at h

section
variable {w : World} {D : Dom} {g : Nat} {l : List UInt8} {p : Nat} {f : Flt}
theorem ctake_at (h : Rd w D g l p f) (n : Int) (n0 : -9223372036854775808 ≤ n) (n1 : n ≤ 9223372036854775807) (hl : l.length ≤ 1000000000) : Calls Try.prog 34 #[.pointer (some ⟨g, 0, none⟩), .int .i64 n] w fun e w' => ∃ A n' c, e = .returned (.slice A n' c) ∧ w'.ownsRow w.heap.size 5 1 (.slice A n' c) n' ((takeB l p f n).map bv) ∧ Rd w' D g l (skipF l.length p f n).1 (skipF l.length p f n).2.1 ∧ Chg (one g) w w' := by
  have hskip := cskip_at h n n0 n1
  cases hq : (skipF l.length p f n).2.2
  · have ht : takeB l p f n = [] := by unfold takeB; rw [hq]; rfl
    rw [ht]
    rw [hq] at hskip
    have HC := Lib.hid hskip
    clear hskip hq ht h
    generalize skipF l.length p f n = s at *
    go_enter Try.func34, Try.ntmps34
    go_wp2_with fail
    refine HC.out.mono ?_; rintro e w1 ⟨rfl, hr1, hch⟩
    have HR := Lib.hid hr1
    have HCH := Lib.hid hch
    clear hr1 hch
    go_wp2_with fail
    go_ret
    exact ⟨none, 0, 0, rfl, World.ownsRow_nil _ _ _ _, HR.out, HCH.out⟩
  · obtain ⟨hf0, hn0, hn1, hs⟩ := skipF_true hq
    obtain ⟨k, rfl⟩ : ∃ k : Nat, n = k := ⟨n.toNat, by omega⟩
    have ht : takeB l p f k = cutB l p k := by unfold takeB; rw [hq]; rfl
    rw [ht]
    rw [hq] at hskip
    rw [hs] at hskip ⊢
    rw [Int.toNat_natCast] at hskip ⊢
    have hp := h.le
    have HH := Lib.hid h
    have HC := Lib.hid hskip
    have HF := Lib.hid hf0
    clear hskip hq ht hs h hf0
    go_enter Try.func34, Try.ntmps34
    go_wp2_with fail
    refine HC.out.mono ?_; rintro e w1 ⟨rfl, hr1, hch⟩
    have HR := Lib.hid hr1
    have HCH := Lib.hid hch
    obtain ⟨A, c, hblk, hsl, hg, hd, _⟩ := hr1
    obtain ⟨_, hc1, hc2⟩ := Rp.sl_len hsl
    unfold maxLen at hc2
    obtain ⟨A', hcut, hsl2⟩ := run_cut_lh elemU hsl rfl (p : Int) ((p : Int) + k) (by omega) (by omega) (by omega)
    have e1 : ((p : Int) + k).toNat = p + k := by omega
    rw [e1] at hcut hsl2
    rw [Int.toNat_natCast, show p + k - p = k by omega] at hcut hsl2
    have HS2 := Lib.hid hsl2
    have HD := Lib.hid hd
    have HK := Lib.hid hblk
    have d0 := hblk.cell 0
    have d1 := hblk.cell 1
    have hgl := hblk.lt
    have hw1 : IntKind.i64.wrap ((p : Int) + k - k) = p := by rw [Int.add_sub_cancel]; exact IntWalk.i64_in _ (by omega)
    have hw2 : IntKind.i64.wrap (p : Int) = p := IntWalk.i64_in _ (by omega)
    clear hch hblk hsl hsl2 e1 hd
    go_wp2_with fail
    have hz1 := HCH.out.size
    have hbd : Below w1.heap.size w1 (w1.drew.alloc (.cells #[] 5)) := ((Below.refl _ w1).drew).alloc (Nat.le_refl _) _
    have hm := World.ownsRow_made (e := 5) (size := 1) (base := w.heap.size) w1.drew #[] 0 hz1 (by decide) rfl
    have HM := Lib.hid hm
    have HSR := Lib.hid (Src.bytes (Rp.sl_below HS2.out hbd HD.out))
    have HK2 := Lib.hid (HK.out.below hbd hgl)
    have HBD := Lib.hid hbd
    clear hm hbd
    go_region_held3 (fun w' => w'.cell? ⟨g, 0, none⟩ = some (.slice A l.length c) ∧ w'.cell? ⟨g, 1, none⟩ = some (.int .i64 ((p : Int) + k)))
      (first | go_keep | exact ⟨k0, k1⟩)
      ((refine step_app rfl (.tmp 9) (.tmp 24) _ rfl elemU (by rfl) HM.out (by rfl) HSR.out (by unfold maxLen; omega) (by omega) (by simp; omega) ?_; intro A1 c1 w2 ho2 hg2 hat2
        have hblk2 := HK2.out.grown hg2 (by show some g ≠ some w1.heap.size; intro e; injection e with e; omega)
        have k0 := hblk2.cell 0
        have k1 := hblk2.cell 1
        have HG2 := Lib.hid hg2
        have HO2 := Lib.hid ho2
        clear hg2 ho2 hat2 hblk2))
    go_wp2_with fail
    go_ret
    have hb2 : Below w1.heap.size w1 w2 := HBD.out.grown HG2.out HBD.out.size (fun q hq => by have e : q = w1.heap.size := (by injection hq with hq; exact hq.symm); exact Nat.le_of_eq e.symm)
    have ho := HO2.out
    rw [Nat.zero_add, List.nil_append] at ho
    exact ⟨A1, k, c1, by simp, ho, HR.out.below hb2, HCH.out.trans (Chg.of_pure hb2 _)⟩
def byteB (l : List UInt8) (p : Nat) (f : Flt) : Nat := if (skipF l.length p f 1).2.2 then (l.getD p 0).toNat else 0
theorem cbyte_at (h : Rd w D g l p f) (hl : l.length ≤ 1000000000) : Calls Try.prog 35 #[.pointer (some ⟨g, 0, none⟩)] w fun e w' => e = .returned (.int .u8 (byteB l p f : Int)) ∧ Rd w' D g l (skipF l.length p f 1).1 (skipF l.length p f 1).2.1 ∧ Chg (one g) w w' := by
  have hskip := cskip_at h 1 (by decide) (by decide)
  cases hq : (skipF l.length p f 1).2.2
  · have ht : byteB l p f = 0 := by unfold byteB; rw [hq]; rfl
    rw [ht]
    rw [hq] at hskip
    have HC := Lib.hid hskip
    clear hskip hq ht h
    generalize skipF l.length p f 1 = s at *
    go_enter Try.func35, Try.ntmps35
    go_wp2_with fail
    refine HC.out.mono ?_; rintro e w1 ⟨rfl, hr1, hch⟩
    have HR := Lib.hid hr1
    have HCH := Lib.hid hch
    clear hr1 hch
    go_wp2_with fail
    go_ret
    exact ⟨rfl, HR.out, HCH.out⟩
  · obtain ⟨hf0, hn0, hn1, hs⟩ := skipF_true hq
    have hp := h.le
    obtain ⟨x, hx⟩ : ∃ x, l[p]? = some x := ⟨_, List.getElem?_eq_getElem (show p < l.length by omega)⟩
    have ht : byteB l p f = x.toNat := by unfold byteB; rw [hq, List.getD_eq_getElem?_getD, hx]; rfl
    rw [ht]
    rw [hq] at hskip
    rw [hs] at hskip ⊢
    have HC := Lib.hid hskip
    have HX := Lib.hid hx
    clear hskip hq ht hs h hf0 hx
    go_enter Try.func35, Try.ntmps35
    go_wp2_with fail
    refine HC.out.mono ?_; rintro e w1 ⟨rfl, hr1, hch⟩
    have HR := Lib.hid hr1
    have HCH := Lib.hid hch
    obtain ⟨A, c, hblk, hsl, hg, hd, _⟩ := hr1
    obtain ⟨_, hc1, hc2⟩ := Rp.sl_len hsl
    unfold maxLen at hc2
    obtain ⟨b, off, y, rfl, hbD, hy, hcell⟩ := bytes_at hsl (show p < l.length by omega)
    have exy : y = x := by rw [HX.out] at hy; injection hy with hy; exact hy.symm
    subst exy
    have d0 := hblk.cell 0
    have d1 := hblk.cell 1
    have hw1 : IntKind.i64.wrap ((p : Int) + 1 - 1) = p := by rw [Int.add_sub_cancel]; exact IntWalk.i64_in _ (by omega)
    have hw2 : IntKind.i64.wrap (p : Int) = p := IntWalk.i64_in _ (by omega)
    have hp1 : (p : Int) < (l.length : Int) := by omega
    clear hch hblk hsl hd hy
    go_wp2_with fail
    go_quiet (fail)
    go_wp2_with fail
    go_ret
    exact ⟨rfl, HR.out.below ⟨rfl, rfl, rfl, Nat.le_refl _, fun _ _ => rfl⟩, HCH.out.trans ⟨rfl, rfl, rfl, Nat.le_refl _, fun _ _ _ => rfl⟩⟩
def endF (len p : Nat) (f : Flt) : Flt := if p < len then failF f 9 p else f
theorem cend_at (h : Rd w D g l p f) : Calls Try.prog 33 #[.pointer (some ⟨g, 0, none⟩)] w fun e w' => e = .returned (.tuple #[]) ∧ Rd w' D g l p (endF l.length p f) ∧ Chg (one g) w w' := by
  have hp := h.le
  have HH := Lib.hid h
  have hlm : l.length ≤ 9223372036854775807 := by
    obtain ⟨A, c, hb, hsl, _⟩ := h
    have := Rp.sl_len hsl
    unfold maxLen at this; omega
  clear h
  by_cases hlt : p < l.length
  · have e : endF l.length p f = failF f 9 p := by unfold endF; rw [if_pos hlt]
    rw [e]
    clear e
    go_enter Try.func33, Try.ntmps33
    go_wp2_with fail
    refine (cleft_at HH.out).mono ?_; rintro e w1 ⟨rfl, hb1⟩
    have HR := Lib.hid (HH.out.below hb1)
    have HB := Lib.hid hb1
    obtain ⟨A, c, hblk, hsl, hg, hd, _⟩ := HR.out
    have d1 := hblk.cell 1
    clear hblk hsl hg hd hb1
    go_wp2_with fail
    refine (cfail_at HR.out 9 p).mono ?_; rintro e w2 ⟨rfl, hr2, hch⟩
    have HR2 := Lib.hid hr2
    have HCH := Lib.hid hch
    clear hr2 hch d1
    go_wp2_with fail
    go_end0
    exact ⟨rfl, HR2.out, (Chg.of_pure HB.out _).trans HCH.out⟩
  · have e : endF l.length p f = f := by unfold endF; rw [if_neg hlt]
    rw [e]
    clear e
    go_enter Try.func33, Try.ntmps33
    go_wp2_with fail
    refine (cleft_at HH.out).mono ?_; rintro e w1 ⟨rfl, hb1⟩
    go_wp2_with fail
    go_end0
    exact ⟨rfl, HH.out.below hb1, Chg.of_pure hb1 _⟩
theorem csince_at (h : Rd w D g l p f) (n : Int) (n0 : -9223372036854775808 ≤ n) (n1 : n ≤ 9223372036854775807) (hl : l.length ≤ 1000000000) : Calls Try.prog 39 #[.pointer (some ⟨g, 0, none⟩), .int .i64 n] w fun e w' => ∃ A n' c, e = .returned (.slice A n' c) ∧ w'.ownsRow w.heap.size 5 1 (.slice A n' c) n' ((if 0 ≤ n ∧ n ≤ p then (l.take p).drop n.toNat else []).map bv) ∧ Below w.heap.size w w' := by
  have hp := h.le
  have HH := Lib.hid h
  obtain ⟨A, c, hblk, hsl, hg, hd, _⟩ := h
  have d0 := hblk.cell 0
  have d1 := hblk.cell 1
  by_cases hneg : n < 0
  · rw [if_neg (by omega)]
    have hd1 : decide (n < 0) = true := by simpa using hneg
    clear hblk hsl hg hd d0
    go_enter Try.func39, Try.ntmps39
    go_wp2_with fail
    go_ret
    exact ⟨none, 0, 0, rfl, World.ownsRow_nil _ _ _ _, Below.refl _ _⟩
  · have hd1 : decide (n < 0) = false := by simpa using hneg
    by_cases hbig : (p : Int) < n
    · rw [if_neg (by omega)]
      have hd2 : decide ((p : Int) < n) = true := by simpa using hbig
      clear hblk hsl hg hd d0
      go_enter Try.func39, Try.ntmps39
      go_wp2_with fail
      go_ret
      exact ⟨none, 0, 0, rfl, World.ownsRow_nil _ _ _ _, Below.refl _ _⟩
    · have hd2 : decide ((p : Int) < n) = false := by simpa using hbig
      rw [if_pos (by omega)]
      obtain ⟨k, rfl⟩ : ∃ k : Nat, n = k := ⟨n.toNat, by omega⟩
      obtain ⟨_, hc1, hc2⟩ := Rp.sl_len hsl
      unfold maxLen at hc2
      obtain ⟨A', hcut, hsl2⟩ := run_cut_lh elemU hsl rfl (k : Int) (p : Int) (by omega) (by omega) (by omega)
      rw [Int.toNat_natCast, Int.toNat_natCast] at hcut hsl2
      rw [Int.toNat_natCast]
      have HS2 := Lib.hid hsl2
      have HD := Lib.hid hd
      have HK := Lib.hid hblk
      have hgl := hblk.lt
      have hbd : Below w.heap.size w (w.drew.alloc (.cells #[] 5)) := ((Below.refl _ w).drew).alloc (Nat.le_refl _) _
      have hm := World.ownsRow_made (e := 5) (size := 1) (base := w.heap.size) w.drew #[] 0 (Nat.le_refl _) (by decide) rfl
      have HM := Lib.hid hm
      have HSR := Lib.hid (Src.bytes (Rp.sl_below HS2.out hbd HD.out))
      have HK2 := Lib.hid (HK.out.below hbd hgl)
      have HBD := Lib.hid hbd
      clear hm hbd hblk hsl hg hd hsl2
      go_enter Try.func39, Try.ntmps39
      go_wp2_with fail
      go_region_held3 (fun w' => w'.cell? ⟨g, 0, none⟩ = some (.slice A l.length c) ∧ w'.cell? ⟨g, 1, none⟩ = some (.int .i64 (p : Int)))
        (first | go_keep | exact ⟨k0, k1⟩)
        ((refine step_app rfl (.tmp 19) (.tmp 29) _ rfl elemU (by rfl) HM.out (by rfl) HSR.out (by unfold maxLen; omega) (by omega) (by simp) ?_; intro A1 c1 w2 ho2 hg2 hat2
          have hblk2 := HK2.out.grown hg2 (by show some g ≠ some w.heap.size; intro e; injection e with e; omega)
          have k0 := hblk2.cell 0
          have k1 := hblk2.cell 1
          have HG2 := Lib.hid hg2
          have HO2 := Lib.hid ho2
          clear hg2 ho2 hat2 hblk2))
      go_wp2_with fail
      go_ret
      have hb2 : Below w.heap.size w w2 := HBD.out.grown HG2.out HBD.out.size (fun q hq => by have e : q = w.heap.size := (by injection hq with hq; exact hq.symm); exact Nat.le_of_eq e.symm)
      have ho := HO2.out
      rw [Nat.zero_add, List.nil_append] at ho
      exact ⟨A1, p - k, c1, by simp, ho, hb2⟩
def partE (len p : Nat) (n : Int) : Nat := p + (min (max n 0) ((len : Int) - p)).toNat
theorem cpart_at (h : Rd w D g l p f) (n : Int) (n0 : -9223372036854775808 ≤ n) (n1 : n ≤ 9223372036854775807) : Calls Try.prog 41 #[.pointer (some ⟨g, 0, none⟩), .int .i64 n] w fun e w' => ∃ g', e = .returned (.pointer (some ⟨g', 0, none⟩)) ∧ w.heap.size ≤ g' ∧ Rd w' D g' (l.take (partE l.length p n)) p (0, 0) ∧ Below w.heap.size w w' := by
  have hp := h.le
  have HH := Lib.hid h
  obtain ⟨A, c, hblk, hsl, hg, hd, _⟩ := h
  have d1 := hblk.cell 1
  have d0 := hblk.cell 0
  obtain ⟨_, hc1, hc2⟩ := Rp.sl_len hsl
  unfold maxLen at hc2
  clear hblk hsl hg hd
  have CL : Hid (∀ q : Gr w.heap.size w, Calls Try.prog 37 #[.pointer (some ⟨g, 0, none⟩)] q.val fun e w' => e = .returned (.int .i64 ((l.length : Int) - p)) ∧ Below q.val.heap.size q.val w') := fun q => cleft_at (HH.out.below q.is)
  have hgl := HH.out.lt
  have hc1' : ∀ q : Gr w.heap.size w, q.val.cell? ⟨g, 1, none⟩ = some (.int .i64 (p : Int)) := fun q => (q.is.cell (p := ⟨g, 1, none⟩) hgl).trans d1
  obtain ⟨M, hM⟩ : ∃ M, M = max n 0 := ⟨_, rfl⟩
  obtain ⟨m, hm⟩ : ∃ m, m = min M ((l.length : Int) - p) := ⟨_, rfl⟩
  have q1 : (if n < 0 then (0 : Int) else n) = M := by rw [hM]; split <;> omega
  have q2 : (if (l.length : Int) - p < M then (l.length : Int) - p else M) = m := by rw [hm]; split <;> omega
  obtain ⟨E, hE⟩ : ∃ E : Nat, (E : Int) = p + m := ⟨(p + m).toNat, by omega⟩
  have hEl : E ≤ l.length := by omega
  have hpE : p ≤ E := by omega
  have q3 : IntKind.i64.wrap ((p : Int) + m) = E := by rw [hE]; exact IntWalk.i64_in _ (by omega)
  have hpe : partE l.length p n = E := by unfold partE; omega
  rw [hpe]
  clear d1 d0 hM hm hE hpe
  go_enter Try.func41, Try.ntmps41
  go_wp2_with fail
  refine wp_region_grow (by kernel_rfl) (by kernel_rfl) w.heap.size ?_
  repeat (quiet_step (((go_at_call 37; exact Gr.call _ (Nat.le_refl _) (CL.out _)))))
  refine wpQuiet_nil ?_
  rintro w3 ⟨⟨_, hb3⟩, rfl⟩
  have HB3 := Lib.hid hb3
  obtain ⟨A, c, hblk, hsl, hg, hd, _⟩ := HH.out.below hb3
  obtain ⟨_, hc1, hc2⟩ := Rp.sl_len hsl
  unfold maxLen at hc2
  have d0 := hblk.cell 0
  have d1 := hblk.cell 1
  obtain ⟨A', hcut, hsl2⟩ := run_cut_hm elemU hsl rfl (E : Int) (E : Int) (by omega) (by omega) (by omega) (by omega)
  rw [Int.toNat_natCast] at hcut hsl2
  have HS2 := Lib.hid hsl2
  have HD := Lib.hid hd
  have hz3 := hb3.size
  clear hb3 hblk hsl hg hd hsl2 q1 q2 q3 hc1'
  go_wp2_with fail
  go_still_tail 12, (by kernel_rfl)
  change wpList _ _ _ _ _ w3.drew
  have hbd := Lib.hid ((Below.refl w3.heap.size w3).drew)
  go_wp2_with fail
  go_ret
  have hblk4 := Blk.new w3.drew 78 #[.slice A' E E, .int .i64 p, .int .i64 0, .int .i64 0]
  have hb4 : Below w3.heap.size w3 (w3.drew.alloc (.cells #[.slice A' E E, .int .i64 p, .int .i64 0, .int .i64 0] 78)) := hbd.out.alloc (Nat.le_refl _) _
  have hln : (l.take E).length = E := by rw [List.length_take]; omega
  refine ⟨w3.heap.size, rfl, hz3, ⟨A', E, by rw [hln]; exact hblk4, by rw [hln]; exact Rp.sl_below HS2.out hb4 HD.out, fun h => Nat.lt_irrefl _ (HD.out _ h), fun k hk => Nat.lt_of_lt_of_le (HD.out k hk) hb4.size, by rw [hln]; exact hpE⟩, HB3.out.trans (hb4.mono hz3)⟩
end
end Go.Proofs.Ytjgcgedjpppfmaa
