/- The walk of the law CursorFirst. -/
import Derived.Test.YtjgcgedjpppfmaaCLive
namespace Go.Proofs.Ytjgcgedjpppfmaa
open Go.ChangeShapes Go.WideShapes Go.ChangeAt Go.RowKit
set_option linter.unusedVariables false
abbrev Do3 := Int × Int × Int
abbrev rpDo3 : Rp Do3 := rpPair rpInt (rpPair rpInt rpInt)
theorem do3_at {w : World} {D : Dom} {A : Option Addr} {n c : Nat} {l : List Do3} (h : rpDo3.sl w D A n c l) {k : Nat} (hk : k < n) :
    ∃ b off kd m x, A = some ⟨b, off, none⟩ ∧ D b ∧ l[k]? = some (kd, m, x) ∧ w.cell? ⟨b, off + k * 3, none⟩ = some (.int .i64 kd) ∧ w.cell? ⟨b, off + k * 3 + 1, none⟩ = some (.int .i64 m) ∧ w.cell? ⟨b, off + k * 3 + 2, none⟩ = some (.int .i64 x) ∧
      (-9223372036854775808 ≤ kd ∧ kd ≤ 9223372036854775807) ∧ (-9223372036854775808 ≤ m ∧ m ≤ 9223372036854775807) ∧ (-9223372036854775808 ≤ x ∧ x ≤ 9223372036854775807) := by
  obtain ⟨b, off, ⟨kd, m, x⟩, cs, hA, hb, hx, hc, hg⟩ := Rp.sl_at h hk
  obtain ⟨cs1, cs2, rfl, ⟨rfl, q1⟩, cs3, cs4, rfl, ⟨rfl, q2⟩, ⟨rfl, q3⟩⟩ := hc
  have e : rpDo3.size = 3 := by kernel_rfl
  rw [e] at hg
  dsimp only at q1 q2 q3
  exact ⟨b, off, kd, m, x, hA, hb, hx, by simpa using hg 0 _ rfl, hg 1 _ rfl, hg 2 _ rfl, by omega, by omega, by omega⟩

set_option maxRecDepth 100000 in
set_option maxHeartbeats 4000000 in
theorem cursorFirst_any (A0 : Option Addr) (n0 c0 : Nat) (b : List UInt8) (qn qc qa : Int) (A : Option Addr) (n c : Nat) (l : List Do3) (w : World) (hb : rpU8.sl w (lt w.heap.size) A0 n0 c0 b) (hq : -9223372036854775808 ≤ qn ∧ qn ≤ 9223372036854775807) (hl : rpDo3.sl w (lt w.heap.size) A n c l) :
    Calls Try.prog 7 #[.slice A0 n0 c0, .agg #[.int .i64 qn, .int .i64 qc, .int .i64 qa], .slice A n c] w fun e w' => e = .returned (.bool true) ∧ Below w.heap.size w w' := by
  obtain ⟨hlen, hnc, hcm⟩ := Rp.sl_len hl
  obtain ⟨hlen0, hnc0, hcm0⟩ := Rp.sl_len hb
  unfold maxLen at hcm hcm0
  obtain ⟨hq0, hq1⟩ := hq
  subst hlen0
  have HL := Lib.hid hl
  have HN := Lib.hid hlen
  have HB := Lib.hid hb
  clear hl hlen hb
  go_enter Try.func7, Try.ntmps7
  go_wp2_with fail
  go_region_held3 (fun w' => w'.cell? ⟨w.heap.size, 0, none⟩ = some (.int .i64 qn) ∧ w'.cell? ⟨w.heap.size, 1, none⟩ = some (.int .i64 qc) ∧ w'.cell? ⟨w.heap.size, 2, none⟩ = some (.int .i64 qa)) (go_keep) (first | fail)
  have hb0 : Below w.heap.size w (((w.alloc (.cells #[.int .i64 qn, .int .i64 qc, .int .i64 qa] 55)).alloc (.cells #[.int .i64 qc, .int .i64 qa] 53)).drew) := (cbelow_two w _ _).drew
  have hk0 : Blk (((w.alloc (.cells #[.int .i64 qn, .int .i64 qc, .int .i64 qa] 55)).alloc (.cells #[.int .i64 qc, .int .i64 qa] 53)).drew) (w.heap.size + 1) 53 #[.int .i64 qc, .int .i64 qa] := cblk_top w _ _ _ _
  generalize World.drew _ = w0 at *
  have HB0 := Lib.hid hb0
  have HK0 := Lib.hid hk0
  have hz0 := hb0.size
  have hgl0 := hk0.lt
  have k0 := hk0.cell 0
  have k1 := hk0.cell 1
  clear hb0 hk0
  have hlive := fun w' => clive_any w'
  have HLIVE := Lib.hid hlive
  clear hlive
  by_cases hbig : 300 < b.length
  · have hd : decide ((300 : Int) < (b.length : Int)) = true := by simp; omega
    go_wp2_with fail
    refine (HLIVE.out _).mono ?_; rintro e w1 ⟨rfl, hb1⟩
    go_wp2_with fail
    go_ret
    exact ⟨rfl, HB0.out.trans (hb1.mono hz0)⟩
  have hd : decide ((300 : Int) < (b.length : Int)) = false := by simp; omega
  by_cases hmany : 100 < n
  · have hd2 : decide ((100 : Int) < (n : Int)) = true := by simp; omega
    go_wp2_with fail
    refine (HLIVE.out _).mono ?_; rintro e w1 ⟨rfl, hb1⟩
    go_wp2_with fail
    go_ret
    exact ⟨rfl, HB0.out.trans (hb1.mono hz0)⟩
  have hd2 : decide ((100 : Int) < (n : Int)) = false := by simp; omega
  by_cases hc0 : qc = 0
  · have hd3 : (qc == 0) = true := by simpa using hc0
    go_wp2_with fail
    refine (HLIVE.out _).mono ?_; rintro e w1 ⟨rfl, hb1⟩
    go_wp2_with fail
    go_ret
    exact ⟨rfl, HB0.out.trans (hb1.mono hz0)⟩
  have hd3 : (qc == 0) = false := by simpa using hc0
  obtain ⟨M, hM⟩ : ∃ M, M = max qn 0 := ⟨_, rfl⟩
  obtain ⟨K, hK⟩ : ∃ K : Nat, (K : Int) = min M b.length := ⟨(min M b.length).toNat, by omega⟩
  have q1 : (if qn < 0 then (0 : Int) else qn) = M := by rw [hM]; split <;> omega
  have q2 : (if (b.length : Int) < M then (b.length : Int) else M) = K := by rw [hK]; split <;> omega
  have hKb : K ≤ b.length := by omega
  have HC0 := Lib.hid hc0
  clear hM hK hc0
  go_wp2_with fail
  refine (cnew_any (Rp.sl_below HB.out HB0.out (fun k hk => hk)) (fun k hk => Nat.lt_of_lt_of_le hk hz0)).mono ?_; rintro e w1 ⟨rfl, hr1, hb1⟩
  have HR1 := Lib.hid hr1
  have HK1 := Lib.hid (HK0.out.below hb1 hgl0)
  have HB1 := Lib.hid (HB0.out.trans (hb1.mono hz0))
  clear hr1 hb1 k0 k1
  go_wp2_with fail
  refine (cskip_at HR1.out K (by omega) (by omega)).mono ?_; rintro e w2 ⟨rfl, hr2, hch2⟩
  have e2 : skipF b.length 0 (0, 0) K = (K, (0, 0), true) := by rw [skipF_ok rfl (by omega) (by omega)]; simp
  rw [e2] at hr2
  have HR2 := Lib.hid hr2
  have HK2 := Lib.hid ((hch2.block _ HK1.out.lt (fun h => by have : w.heap.size + 1 = w0.heap.size := h; omega)).trans HK1.out)
  have HB2 := Lib.hid (HB1.out.trans (hch2.below HB1.out.size (fun k hk => by have : k = w0.heap.size := hk; omega)))
  clear hr2 hch2 e2 q1 q2
  go_wp2_with fail
  refine (cat_at HR2.out).mono ?_; rintro e w3 ⟨rfl, rfl⟩
  have hk2 := (show Blk w2 _ _ _ from HK2.out)
  have k0 := hk2.cell 0
  have k1 := hk2.cell 1
  clear hk2
  go_wp2_with fail
  refine (cfail_at HR2.out qc qa).mono ?_; rintro e w3 ⟨rfl, hr3, hch3⟩
  rw [failF_set rfl HC0.out] at hr3
  have HR3 := Lib.hid hr3
  have HK3 : Hid (Blk w3 (w.heap.size + 1) 53 #[.int .i64 qc, .int .i64 qa]) := ((hch3.block _ (show Blk w2 _ _ _ from HK2.out).lt (fun h => by have : w.heap.size + 1 = w0.heap.size := h; omega)).trans HK2.out)
  have HB3 := Lib.hid (HB2.out.trans (hch3.below HB2.out.size (fun k hk => by have : k = w0.heap.size := hk; omega)))
  clear hr3 hch3 k0 k1
  go_wp2_with fail
  generalize w0.heap.size = g at *
  have hz3 := HB3.out.size
  have hg3 := HR3.out.lt
  have hgl3 := (show Blk w3 _ _ _ from HK3.out).lt
  go_loopw [11] (fun i wr => ∃ j : Nat, j ≤ n ∧ i = .int .i64 j ∧ Below w3.heap.size w3 wr) (fun i _ => n - (intOf i).toNat)
  case atStart => exact ⟨0, by omega, rfl, Below.refl _ _⟩
  case round =>
    obtain ⟨j, hj, rfl, hbr⟩ := hrel
    have HBR := Lib.hid hbr
    have hzr := hbr.size
    have HRR := Lib.hid (HR3.out.below hbr)
    by_cases hjn : j < n
    · have hdj : decide ((j : Int) < (n : Int)) = true := by simp; omega
      clear hbr
      go_wp2_with fail
      refine (cfail_bad HRR.out HC0.out 6 j).mono ?_; rintro e w4 ⟨rfl, hb4⟩
      have HB4 := Lib.hid (HBR.out.trans (hb4.mono hzr))
      clear hb4
      go_wp2_with fail
      refine (cend_bad (HR3.out.below HB4.out) HC0.out).mono ?_; rintro e w5 ⟨rfl, hb5⟩
      have hb5' := HB4.out.trans (hb5.mono HB4.out.size)
      have HB5 := Lib.hid hb5'
      have hz5 := hb5'.size
      obtain ⟨bb, off, kd, m, x, rfl, hDb, hx, g0, g1, g2, _, ⟨hm0, hm1⟩, _⟩ := do3_at (Rp.sl_below HL.out (HB3.out.trans (hb5'.mono hz3)) (fun k hk => hk)) hjn
      have hgc : ∀ q : Gr w5.heap.size w5, q.val.cell? ⟨bb, off + j * 3 + 1, none⟩ = some (.int .i64 m) := fun q => (q.is.cell (p := ⟨bb, off + j * 3 + 1, none⟩) (show bb < _ by have : bb < w.heap.size := hDb; omega)).trans g1
      have hkb : ∀ q : Gr w5.heap.size w5, Blk q.val (w.heap.size + 1) 53 #[.int .i64 qc, .int .i64 qa] := fun q => Blk.below (HK3.out.below hb5' hgl3) q.is (by omega)
      have hk0 : ∀ q : Gr w5.heap.size w5, q.val.cell? ⟨w.heap.size + 1, 0, none⟩ = some (.int .i64 qc) := fun q => (hkb q).cell 0
      have hk1 : ∀ q : Gr w5.heap.size w5, q.val.cell? ⟨w.heap.size + 1, 1, none⟩ = some (.int .i64 qa) := fun q => (hkb q).cell 1
      have HRQ : Hid (∀ q : Gr w5.heap.size w5, Rd q.val (lt w.heap.size) g b K (qc, qa)) := fun q => (HR3.out.below hb5').below q.is
      clear hb5 hb5' g0 g1 g2 hkb hx
      go_wp2_with fail
      refine wp_region_grow (by kernel_rfl) (by kernel_rfl) w5.heap.size ?_
      repeat (quiet_step ((first
        | (go_at_call 34; exact Gr.call _ (Nat.le_refl _) (ctake_bad (HRQ.out _) HC0.out _))
        | (go_at_call 30; exact Gr.call _ (Nat.le_refl _) (cskip_bad (HRQ.out _) HC0.out _))
        | (go_at_call 35; exact Gr.call _ (Nat.le_refl _) (cbyte_bad (HRQ.out _) HC0.out))
        | (go_at_call 31; exact Gr.same _ (cat_at (HRQ.out _)))
        | (go_at_call 36; exact Gr.call _ (Nat.le_refl _) (cfault_at (HRQ.out _))))))
      refine wpQuiet_nil ?_
      rintro w6 ⟨⟨_, hb6⟩, rfl⟩
      clear hgc hk0 hk1
      go_wp2_with fail
      go_roundw
      case rel => exact ⟨j + 1, by omega, by go_num, HB5.out.trans (hb6.mono hz5)⟩
      case measure => simp [intOf]; omega
    · obtain rfl : j = n := by omega
      have hdj : decide ((j : Int) < (j : Int)) = false := by simp
      clear hbr
      go_wp2_with fail
      refine (cleft_at HRR.out).mono ?_; rintro e w4 ⟨rfl, hb4⟩
      have HR4 := Lib.hid (HRR.out.below hb4)
      have HB4 := Lib.hid (HBR.out.trans (hb4.mono hzr))
      clear hb4
      go_wp2_with fail
      refine (cgood_bad HR4.out HC0.out).mono ?_; rintro e w5 ⟨rfl, hb5⟩
      have HB5 := Lib.hid (HB4.out.trans (hb5.mono HB4.out.size))
      clear hb5
      go_wp2_with fail
      refine (HLIVE.out _).mono ?_; rintro e w6 ⟨rfl, hb6⟩
      go_wp2_with fail
      go_ret
      have hbz := HB3.out.trans (HB5.out.mono hz3)
      exact ⟨rfl, hbz.trans (hb6.mono hbz.size)⟩
theorem cursorFirst_st (A0 : Option Addr) (n0 c0 : Nat) (b : List UInt8) (cs : Array Value) (x : Do3) (A : Option Addr) (n c : Nat) (l : List Do3) (w : World) (hb : rpU8.sl w (lt w.heap.size) A0 n0 c0 b) (hx : rpDo3.ok w (lt w.heap.size) x cs.toList) (hl : rpDo3.sl w (lt w.heap.size) A n c l) :
    Calls Try.prog 7 #[.slice A0 n0 c0, .agg cs, .slice A n c] w fun e w' => e = .returned (.bool true) ∧ Below w.heap.size w w' := by
  obtain ⟨x1, x2, x3⟩ := x
  obtain ⟨cs1, cs2, e, ⟨rfl, q1⟩, cs3, cs4, rfl, ⟨rfl, q2⟩, ⟨rfl, q3⟩⟩ := hx
  have e' : cs = #[.int .i64 x1, .int .i64 x2, .int .i64 x3] := by
    have : cs.toList.toArray = cs := by simp
    rw [← this, e]; rfl
  subst e'
  dsimp only at q1
  exact cursorFirst_any A0 n0 c0 b x1 x2 x3 A n c l w hb (by omega) hl
end Go.Proofs.Ytjgcgedjpppfmaa
