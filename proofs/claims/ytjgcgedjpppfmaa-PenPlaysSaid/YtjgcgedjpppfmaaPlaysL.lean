/- The walk of the law PenPlays. -/
import Derived.Test.YtjgcgedjpppfmaaDo
import Derived.StillTailTactics
import Derived.Deep.DeepCutAuto
import Derived.Deep.CutBlock
import Derived.IntWalk
import Derived.Deep.LoopGhost
namespace Go.Proofs.Ytjgcgedjpppfmaa
open Go.ChangeShapes Go.WideShapes Go.ChangeAt Go.RowKit
set_option linter.unusedVariables false

/-- Where both writers stand: the program's in block g, the reference's in block gr. -/
def PJ (w : World) (g gr : Nat) (M : Int) (j : Nat) (wr : World) : Prop :=
  ∃ (b : List UInt8) (F D : Dom) (A1 : Option Addr) (n1 c1 : Nat) (code : Int), b.length ≤ 200 * j ∧ Pen wr F g M b code ∧ Blk wr gr 41 #[.int .i64 M, .slice A1 n1 c1, .int .i64 code] ∧ rpU8.sl wr D A1 n1 c1 b ∧ (∀ k, F k → w.heap.size ≤ k ∧ k ≠ gr ∧ ¬ D k) ∧ (∀ k, D k → k < wr.heap.size ∧ k ≠ gr) ∧ Below w.heap.size w wr ∧ gr < wr.heap.size ∧ w.heap.size ≤ gr
theorem putB_len {most code : Int} {b new : List UInt8} (j : Nat) (h1 : b.length ≤ 200 * j) (h2 : new.length ≤ 200) : (putB most b code new).1.length ≤ 200 * (j + 1) := by
  unfold putB
  split
  · show b.length ≤ _; omega
  · split
    · show b.length ≤ _; omega
    · show (b ++ new).length ≤ _
      rw [List.length_append]; omega
theorem PJ.mono {w wr : World} {g gr j j' : Nat} {M : Int} (hj : j ≤ j') (h : PJ w g gr M j wr) : PJ w g gr M j' wr := by
  obtain ⟨b, F, D, A1, n1, c1, code, hb, r⟩ := h
  exact ⟨b, F, D, A1, n1, c1, code, by omega, r⟩
theorem PJ.below {w wr wr' : World} {g gr j : Nat} {M : Int} (h : PJ w g gr M j wr) (hb : Below wr.heap.size wr wr') : PJ w g gr M j wr' := by
  obtain ⟨b, F, D, A1, n1, c1, code, h1, h2, h3, h4, h5, h6, h7, h8, h9⟩ := h
  exact ⟨b, F, D, A1, n1, c1, code, h1, h2.below hb, h3.below hb h8, Rp.sl_below h4 hb (fun k hk => (h6 k hk).1), h5, fun k hk => ⟨Nat.lt_of_lt_of_le (h6 k hk).1 hb.size, (h6 k hk).2⟩, h7.trans (hb.mono h7.size), Nat.lt_of_lt_of_le h8 hb.size, h9⟩
theorem PJ.next {w wr w3 w4 w5 : World} {F F2 D D2 : Dom} {g gr n2 c2 j : Nat} {M code' : Int} {b' : List UInt8} {A2 : Option Addr} (hbel : Below w.heap.size w wr)
    (hF : ∀ k, F k → w.heap.size ≤ k ∧ k ≠ gr ∧ ¬ D k) (hD : ∀ k, D k → k < wr.heap.size ∧ k ≠ gr) (hg1 : w.heap.size ≤ gr) (hg2 : gr < wr.heap.size) (hch : Chg F wr w3) (hp : Pen w3 F2 g M b' code')
    (hF2 : ∀ k, F2 k → F k ∨ wr.heap.size ≤ k) (hb4 : Below w3.heap.size w3 w4) (hs : rpU8.sl w4 D2 A2 n2 c2 b') (hD2 : ∀ k, D2 k → k < w4.heap.size ∧ (D k ∨ w3.heap.size ≤ k))
    (hblk : Blk w5 gr 41 #[.int .i64 M, .slice A2 n2 c2, .int .i64 code']) (h5 : w4.grownBy w5 (some gr)) (hlen : b'.length ≤ 200 * j) : PJ w g gr M j w5 := by
  have z3 := hch.size
  have z4 := hb4.size
  have z5 := h5.size
  have z0 := hbel.size
  have hplt := hp.lt
  have hFg : ∀ k, F2 k → w.heap.size ≤ k ∧ k ≠ gr ∧ ¬ D2 k := by
    intro k hk
    have hk3 := hplt k hk
    have hnd : ¬ D2 k := fun hd => by
      rcases (hD2 k hd).2 with h | h
      · rcases hF2 k hk with h' | h'
        · exact (hF k h').2.2 h
        · exact absurd (hD k h).1 (by omega)
      · omega
    rcases hF2 k hk with h | h
    · exact ⟨(hF k h).1, (hF k h).2.1, hnd⟩
    · exact ⟨by omega, by omega, hnd⟩
  have b1 : Below w.heap.size wr w3 := hch.below z0 (fun k hk => (hF k hk).1)
  have b2 : Below w.heap.size w w4 := (hbel.trans b1).trans (hb4.mono (by omega))
  have b3 : Below w.heap.size w w5 := b2.grown h5 (by omega) (fun k hk => by injection hk with hk; omega)
  have hp4 := hp.below hb4
  have hp5 : Pen w5 F2 g M b' code' := hp4.keep (fun k hk => h5.block k (by have := hplt k hk; omega) (fun e => by injection e with e; exact (hFg k hk).2.1 e)) z5
  have hD2g : ∀ k, D2 k → k ≠ gr := fun k hk => by
    rcases (hD2 k hk).2 with h | h
    · exact (hD k h).2
    · omega
  refine ⟨b', F2, D2, A2, n2, c2, code', hlen, hp5, hblk, Rp.sl_keep hs (fun k hk => h5.block k (hD2 k hk).1 (fun e => by injection e with e; exact hD2g k hk e)), hFg, fun k hk => ⟨by have := (hD2 k hk).1; omega, hD2g k hk⟩, b3, by omega, hg1⟩

set_option maxRecDepth 100000 in
set_option maxHeartbeats 4000000 in
theorem penPlays_any (most : Int) (A : Option Addr) (n c : Nat) (l : List Do) (w : World) (m0 : -9223372036854775808 ≤ most) (m1 : most ≤ 9223372036854775807) (hl : rpDo.sl w (lt w.heap.size) A n c l) :
    Calls Try.prog 5 #[.int .i64 most, .slice A n c] w fun e w' => e = .returned (.bool true) ∧ Below w.heap.size w w' := by
  have H : Hid ((Try.prog.info? 41).map (·.size) = some 3) := by unfold Hid; kernel_rfl
  obtain ⟨hlen, hnc, hcm⟩ := Rp.sl_len hl
  unfold maxLen at hcm
  have HL := Lib.hid hl
  have HN := Lib.hid hlen
  clear hl hlen
  obtain ⟨M, hM⟩ : ∃ M, M = max most 0 := ⟨_, rfl⟩
  have hM0 : 0 ≤ M := by omega
  have hM1 : M ≤ 9223372036854775807 := by omega
  have HM := Lib.hid hM
  clear hM
  go_enter Try.func5, Try.ntmps5
  go_wp2_with fail
  refine (long_any A n c l _ _ HL.out).mono ?_; rintro e w1 ⟨t, rfl, hsh, rfl⟩
  cases t
  · have HSH := Lib.hid (hsh rfl)
    clear hsh
    go_wp2_with fail
    refine (new_any _ _).mono ?_; rintro e w1 ⟨rfl, hp, hb⟩
    rw [← HM.out] at hp
    have HP := Lib.hid hp
    have HB := Lib.hid hb
    clear hp hb
    go_wp2_with fail
    refine (ref_new_any _ _).mono ?_; rintro e w2 ⟨rfl, hb2⟩
    rw [← HM.out]
    have HB2 := Lib.hid hb2
    clear hb2
    go_wp2_with fail
    have hz1 := HB.out.size
    have hz2 := HB2.out.size
    obtain ⟨gr, hgr⟩ : ∃ gr, gr = w2.heap.size := ⟨_, rfl⟩
    have hpen0 := (HP.out.below HB2.out).below ((Below.refl _ w2).alloc (Nat.le_refl _) (.cells #[.int .i64 M, .slice none 0 0, .int .i64 0] 41))
    have hblk0 := Blk.new w2 41 #[.int .i64 M, .slice none 0 0, .int .i64 0]
    have hall0 : Below w.heap.size w (w2.alloc (.cells #[.int .i64 M, .slice none 0 0, .int .i64 0] 41)) := (HB.out.trans (HB2.out.mono hz1)).alloc (by omega) _
    have hJ0 : Hid (PJ w w.heap.size w2.heap.size M 0 (w2.alloc (.cells #[.int .i64 M, .slice none 0 0, .int .i64 0] 41))) :=
      ⟨[], _, fun _ => False, none, 0, 0, 0, by simp, hpen0, hblk0, Rp.sl_nil _ _ _ _ _ (by decide), fun k hk => ⟨by omega, by have := HP.out.lt k hk; omega, id⟩, fun k hk => hk.elim, hall0, by simp, by omega⟩
    clear hpen0 hblk0 hall0
    go_loopg [7] n (fun k i wr => ∃ (j : Nat), j ≤ n ∧ k = n - j ∧ i = .int .i64 j ∧ Hid (PJ w w.heap.size w2.heap.size M j wr)) 
    case atStart => exact ⟨0, by omega, by omega, rfl, hJ0⟩
    case round =>
      obtain ⟨j, hj, hk, rfl, hJ⟩ := hrel
      have HK := Lib.hid hk
      clear hk hJ0 hz1 hz2 HP HB HB2 hgr
      generalize w2.heap.size = gr at *
      by_cases hjn : j < n
      · have hn100 := HSH.out.1
        have hlt1 : decide ((j : Int) < (n : Int)) = true := by simp; omega
        have HJ := hJ
        obtain ⟨b, F, D, A1, n1, c1, code, hbl, hpen, hblk, hsl, hF, hD, hbel, hg2, hg1⟩ := hJ.out
        have hz0 := hbel.size
        obtain ⟨bb, off, kd, m, x, xs, A', c', rfl, hDb, hx, g0, g1, g2, g3, hrow, q3, q2, q1⟩ := do_at (Rp.sl_below HL.out hbel (fun k hk => hk)) hjn
        have hxl : xs.length ≤ 200 := HSH.out.2 j _ hx
        have HR := Lib.hid hrow
        have HPEN := Lib.hid hpen
        have HBLK := Lib.hid hblk
        have HSL := Lib.hid hsl
        have HF := Lib.hid hF
        have HD := Lib.hid hD
        have HX := Lib.hid hx
        have HG := Lib.hid (And.intro g0 (And.intro g1 (And.intro g2 g3)))
        have hsln := Lib.hid (Rp.sl_len hsl)
        clear hrow hpen hblk hsl hF hD hx g1 g2 g3 hJ
        go_upto_block 2 with (fail)
        clear g0
        go_cut [] (fun wx => Hid (PJ w w.heap.size gr M (j + 1) wx))
        case first =>
          obtain ⟨g0, g1, g2, g3⟩ := HG.out
          by_cases k0 : kd = 0
          · subst k0
            have HG2 := HG
            go_wp2_with fail
            refine (put_at HPEN.out hM0 hM1 (by omega) HR.out (fun k hk => Nat.lt_of_lt_of_le hk hz0) (by omega)).mono ?_; rintro e w3 ⟨rfl, F2, hp2, hch2, hF2⟩
            have hch3 : Chg F wr w3 := hch2
            have hb3 : Below w.heap.size wr w3 := hch3.below hz0 (fun k hk => (HF.out k hk).1)
            have hbl3 : Blk w3 gr _ _ := (hch3.block gr hg2 (fun h => (HF.out gr h).2.1 rfl)).trans HBLK.out
            have hsl3 : rpU8.sl w3 D A1 n1 c1 b := Rp.sl_keep HSL.out (hch3.same (fun k hk => (HD.out k hk).1) (fun k hk h => (HF.out k h).2.2 hk))
            have c0 := hbl3.cell 0
            have c1' := hbl3.cell 1
            have c2' := hbl3.cell 2
            have e3 := (hb3.cell (p := ⟨bb, off + j * 4 + 3, none⟩) hDb).trans g3
            have e2 := (hb3.cell (p := ⟨bb, off + j * 4 + 2, none⟩) hDb).trans g2
            have e1 := (hb3.cell (p := ⟨bb, off + j * 4 + 1, none⟩) hDb).trans g1
            have HP2 := Lib.hid hp2
            have HCH := Lib.hid hch3
            have HF2 := Lib.hid hF2
            have HB3 := Lib.hid hb3
            have HBL3 := Lib.hid hbl3
            have HSL3 := Lib.hid hsl3
            have hz3 := hch3.size
            have HR3 := Lib.hid (Rp.sl_below HR.out hb3 (fun k hk => hk))
            clear hp2 hch2 hF2 hch3 hb3 hbl3 hsl3 g0 g1 g2 g3
            clear e1 e2
            go_wp2_with fail
            go_still_tail 6, (by kernel_rfl)
            obtain ⟨w4, hw4⟩ : ∃ w4, w4 = w3.drew := ⟨_, rfl⟩
            change wpList _ _ _ _ _ w3.drew
            rw [← hw4]
            have hb4 : Below w3.heap.size w3 w4 := by rw [hw4]; exact (Below.refl _ _).drew
            have hbl4 := Lib.hid (HBL3.out.below hb4 (by omega))
            have hsl4 := Lib.hid (Rp.sl_below HSL3.out hb4 (fun k hk => by have := (HD.out k hk).1; omega))
            have HB4 := Lib.hid hb4
            have hz4 := hb4.size
            clear hw4 hb4 c0 c1' c2'
            have HBL4 := hbl4
            go_wp2_with fail
            refine (ref_put_any M A1 n1 c1 b code _ _ _ xs D _ _ hM0 hM1 hsl4.out (by have := hsln.out.1; omega) (fun k hk => by have := (HD.out k hk).1; omega) (Rp.sl_below HR3.out HB4.out (fun k hk => Nat.lt_of_lt_of_le hk (by omega))) (by omega) (fun k hk => Nat.lt_of_lt_of_le hk (by omega))).mono ?_
            rintro e w5 ⟨A2, n2, c2, D2, rfl, hs5, hD5, hb5⟩
            have hbz := Lib.hid (HBL4.out.below hb5 (by omega))
            have HB5 := Lib.hid hb5
            have HS5 := Lib.hid hs5
            have HD5 := Lib.hid hD5
            clear hb5 hs5 hD5
            go_wp2_with (refine wpList_put_row rfl 41 (.tmp 6) (.tmp 44) rfl gr _ rfl rfl 41 _ hbz.out H.out rfl (by simp [Value.oneCell']) ?_; intro w6 hblk6 hgr6)
            go_meet
            exact Lib.hid (PJ.next hbel HF.out HD.out hg1 hg2 HCH.out HP2.out HF2.out (HB4.out.trans (HB5.out.mono (by omega))) HS5.out (fun k hk => ⟨(HD5.out k hk).1, by rcases (HD5.out k hk).2 with h | h; exact .inl h; exact .inr (by omega)⟩) hblk6 hgr6 (putB_len _ (by omega) (by omega)))
          · by_cases k1 : kd = 1
            · subst k1
              have HG2 := HG
              go_wp2_with fail
              have kr := fun (w' : World) (hb : Below w.heap.size w w') => run_bytes_string (P := Try.prog) (w := wr) HR.out 23 9 5 Try.underlying23 Try.underlying5 Try.underlying9
              have kr1 := kr wr hbel
              clear kr
              go_wp2_with fail
              rw [kr1]
              go_wp2_with fail
              refine (text_at HPEN.out hM0 hM1 (by omega) xs (by omega)).mono ?_; rintro e w3 ⟨rfl, F2, hp2, hch2, hF2⟩
              clear kr1
              have hch3 : Chg F wr w3 := hch2
              have hb3 : Below w.heap.size wr w3 := hch3.below hz0 (fun k hk => (HF.out k hk).1)
              have hbl3 : Blk w3 gr _ _ := (hch3.block gr hg2 (fun h => (HF.out gr h).2.1 rfl)).trans HBLK.out
              have hsl3 : rpU8.sl w3 D A1 n1 c1 b := Rp.sl_keep HSL.out (hch3.same (fun k hk => (HD.out k hk).1) (fun k hk h => (HF.out k h).2.2 hk))
              have c0 := hbl3.cell 0
              have c1' := hbl3.cell 1
              have c2' := hbl3.cell 2
              have e3 := (hb3.cell (p := ⟨bb, off + j * 4 + 3, none⟩) hDb).trans g3
              have e2 := (hb3.cell (p := ⟨bb, off + j * 4 + 2, none⟩) hDb).trans g2
              have e1 := (hb3.cell (p := ⟨bb, off + j * 4 + 1, none⟩) hDb).trans g1
              have HP2 := Lib.hid hp2
              have HCH := Lib.hid hch3
              have HF2 := Lib.hid hF2
              have HB3 := Lib.hid hb3
              have HBL3 := Lib.hid hbl3
              have HSL3 := Lib.hid hsl3
              have hz3 := hch3.size
              have HR3 := Lib.hid (Rp.sl_below HR.out hb3 (fun k hk => hk))
              clear hp2 hch2 hF2 hch3 hb3 hbl3 hsl3 g0 g1 g2 g3
              clear e1 e2
              go_wp2_with fail
              go_still_tail 6, (by kernel_rfl)
              obtain ⟨w4, hw4⟩ : ∃ w4, w4 = w3.drew := ⟨_, rfl⟩
              change wpList _ _ _ _ _ w3.drew
              rw [← hw4]
              have hb4 : Below w3.heap.size w3 w4 := by rw [hw4]; exact (Below.refl _ _).drew
              have hbl4 := Lib.hid (HBL3.out.below hb4 (by omega))
              have hsl4 := Lib.hid (Rp.sl_below HSL3.out hb4 (fun k hk => by have := (HD.out k hk).1; omega))
              have HB4 := Lib.hid hb4
              have hz4 := hb4.size
              clear hw4 hb4 c0 c1' c2'
              have HBL4 := hbl4
              go_wp2_with fail
              refine (ref_put_any M A1 n1 c1 b code _ _ _ xs D _ _ hM0 hM1 hsl4.out (by have := hsln.out.1; omega) (fun k hk => by have := (HD.out k hk).1; omega) (Rp.sl_below HR3.out HB4.out (fun k hk => Nat.lt_of_lt_of_le hk (by omega))) (by omega) (fun k hk => Nat.lt_of_lt_of_le hk (by omega))).mono ?_
              rintro e w5 ⟨A2, n2, c2, D2, rfl, hs5, hD5, hb5⟩
              have hbz := Lib.hid (HBL4.out.below hb5 (by omega))
              have HB5 := Lib.hid hb5
              have HS5 := Lib.hid hs5
              have HD5 := Lib.hid hD5
              clear hb5 hs5 hD5
              go_wp2_with (refine wpList_put_row rfl 41 (.tmp 6) (.tmp 61) rfl gr _ rfl rfl 41 _ hbz.out H.out rfl (by simp [Value.oneCell']) ?_; intro w6 hblk6 hgr6)
              go_meet
              exact Lib.hid (PJ.next hbel HF.out HD.out hg1 hg2 HCH.out HP2.out HF2.out (HB4.out.trans (HB5.out.mono (by omega))) HS5.out (fun k hk => ⟨(HD5.out k hk).1, by rcases (HD5.out k hk).2 with h | h; exact .inl h; exact .inr (by omega)⟩) hblk6 hgr6 (putB_len _ (by omega) (by omega)))
            · by_cases k2 : kd = 2
              · subst k2
                have HG2 := HG
                go_wp2_with fail
                go_still_tail 11, (by kernel_rfl)
                change wpList _ _ _ _ _ wr.drew
                have hbd : Below wr.heap.size wr wr.drew := (Below.refl _ _).drew
                go_wp2_with fail
                refine (fixedm_at (HPEN.out.below hbd) hM0 hM1 (by omega) x m q3).mono ?_; rintro e w3 ⟨rfl, F2, hp2, hch2', hF2⟩
                have hch2 : Chg F wr w3 := (Chg.of_pure hbd F).trans hch2'
                clear hch2' hbd
                have hch3 : Chg F wr w3 := hch2
                have hb3 : Below w.heap.size wr w3 := hch3.below hz0 (fun k hk => (HF.out k hk).1)
                have hbl3 : Blk w3 gr _ _ := (hch3.block gr hg2 (fun h => (HF.out gr h).2.1 rfl)).trans HBLK.out
                have hsl3 : rpU8.sl w3 D A1 n1 c1 b := Rp.sl_keep HSL.out (hch3.same (fun k hk => (HD.out k hk).1) (fun k hk h => (HF.out k h).2.2 hk))
                have c0 := hbl3.cell 0
                have c1' := hbl3.cell 1
                have c2' := hbl3.cell 2
                have e3 := (hb3.cell (p := ⟨bb, off + j * 4 + 3, none⟩) hDb).trans g3
                have e2 := (hb3.cell (p := ⟨bb, off + j * 4 + 2, none⟩) hDb).trans g2
                have e1 := (hb3.cell (p := ⟨bb, off + j * 4 + 1, none⟩) hDb).trans g1
                have HP2 := Lib.hid hp2
                have HCH := Lib.hid hch3
                have HF2 := Lib.hid hF2
                have HB3 := Lib.hid hb3
                have HBL3 := Lib.hid hbl3
                have HSL3 := Lib.hid hsl3
                have hz3 := hch3.size
                have HR3 := Lib.hid (Rp.sl_below HR.out hb3 (fun k hk => hk))
                clear hp2 hch2 hF2 hch3 hb3 hbl3 hsl3 g0 g1 g2 g3
                clear e3
                go_wp2_with fail
                go_region_with
                  (first
                    | (go_at_call 13; refine (ref_fixed_any x m _ q3 (by omega)).mono ?_; rintro e w4 ⟨A5, c5, rfl, ho5, hb4b⟩
                       have hb4 : Below w3.heap.size w3 w4 := ((Below.refl _ _).drew).trans hb4b
                       have hbl4 := HBL3.out.below hb4 (by omega)
                       have k0 := hbl4.cell 0
                       have k1' := hbl4.cell 1
                       have k2' := hbl4.cell 2
                       have k3' := (hb4.cell (p := ⟨bb, off + j * 4 + 1, none⟩) (Nat.lt_of_lt_of_le hDb (by omega))).trans e1
                       have k4' := (hb4.cell (p := ⟨bb, off + j * 4 + 2, none⟩) (Nat.lt_of_lt_of_le hDb (by omega))).trans e2
                       have HO5 := Lib.hid ho5
                       have HB4 := Lib.hid hb4
                       have HBL4 := Lib.hid hbl4
                       have hz4 := hb4.size
                       have hlw := Lib.hid (low_length x (many m))
                       have hmm := many_le m
                       clear ho5 hb4b hb4 hbl4)
                    | (go_at_call 22; refine (ref_put_any M A1 n1 c1 b code _ _ _ (low (many m) x) D _ _ hM0 hM1 (Rp.sl_below HSL3.out HB4.out (fun k hk => by have := (HD.out k hk).1; omega)) (by have := hsln.out.1; omega) (fun k hk => by have := (HD.out k hk).1; omega) (own_bytes HO5.out) (by omega) (fun k hk => own_lt HO5.out hk)).mono ?_
                       rintro e w5 ⟨A2, n2, c2, D2, rfl, hs5, hD5, hb5⟩
                       clear k0 k1' k2' k3' k4'
                       have hbl5 := HBL4.out.below hb5 (by omega)
                       have k0 := hbl5.cell 0
                       have k1' := hbl5.cell 1
                       have k2' := hbl5.cell 2
                       have f0 := hbl5.frozen 0
                       have f1 := hbl5.frozen 1
                       have f2 := hbl5.frozen 2
                       have hb45 := HB4.out.trans (hb5.mono hz4)
                       have k3' := (hb45.cell (p := ⟨bb, off + j * 4 + 1, none⟩) (Nat.lt_of_lt_of_le hDb (by omega))).trans e1
                       have k4' := (hb45.cell (p := ⟨bb, off + j * 4 + 2, none⟩) (Nat.lt_of_lt_of_le hDb (by omega))).trans e2
                       have HB45 := Lib.hid hb45
                       have HBL5 := Lib.hid hbl5
                       have HS5 := Lib.hid hs5
                       have HD5 := Lib.hid hD5
                       clear hb5 hs5 hD5 hb45 hbl5))
                all_goals
                  go_wp2_with fail
                  go_meet
                  have hz5 := HB45.out.size
                  have hblk6 : Blk _ gr _ _ := ((HBL5.out.put 0 (.int .i64 M)).put 1 (.slice A2 n2 c2)).put 2 (.int .i64 (putB M b code (low (many m) x)).2)
                  have hgr6 := ((grown_setCell w5 ⟨gr, 0, none⟩ (.int .i64 M)).trans (grown_setCell _ ⟨gr, 1, none⟩ (.slice A2 n2 c2))).trans (grown_setCell _ ⟨gr, 2, none⟩ (.int .i64 (putB M b code (low (many m) x)).2))
                  exact Lib.hid (PJ.next hbel HF.out HD.out hg1 hg2 HCH.out HP2.out HF2.out HB45.out HS5.out (fun k hk => ⟨(HD5.out k hk).1, by rcases (HD5.out k hk).2 with h | h; exact .inl h; exact .inr (by omega)⟩) hblk6 hgr6 (putB_len _ (by omega) (by rw [low_length]; have := many_le m; omega)))
              · by_cases k3 : kd = 3
                · subst k3
                  have HG2 := HG
                  go_wp2_with fail
                  refine (fail_at HPEN.out m).mono ?_; rintro e w3 ⟨rfl, hp2, hch2⟩
                  obtain ⟨code3, hcode3⟩ : ∃ q, q = (if code = 0 then m else code) := ⟨_, rfl⟩
                  rw [← hcode3] at hp2
                  have HC3 := Lib.hid hcode3
                  clear hcode3
                  have hF2 : ∀ k, F k → F k ∨ wr.heap.size ≤ k := fun k hk => .inl hk
                  have hch3 : Chg F wr w3 := hch2
                  have hb3 : Below w.heap.size wr w3 := hch3.below hz0 (fun k hk => (HF.out k hk).1)
                  have hbl3 : Blk w3 gr _ _ := (hch3.block gr hg2 (fun h => (HF.out gr h).2.1 rfl)).trans HBLK.out
                  have hsl3 : rpU8.sl w3 D A1 n1 c1 b := Rp.sl_keep HSL.out (hch3.same (fun k hk => (HD.out k hk).1) (fun k hk h => (HF.out k h).2.2 hk))
                  have c0 := hbl3.cell 0
                  have c1' := hbl3.cell 1
                  have c2' := hbl3.cell 2
                  have e3 := (hb3.cell (p := ⟨bb, off + j * 4 + 3, none⟩) hDb).trans g3
                  have e2 := (hb3.cell (p := ⟨bb, off + j * 4 + 2, none⟩) hDb).trans g2
                  have e1 := (hb3.cell (p := ⟨bb, off + j * 4 + 1, none⟩) hDb).trans g1
                  have HP2 := Lib.hid hp2
                  have HCH := Lib.hid hch3
                  have HF2 := Lib.hid hF2
                  have HB3 := Lib.hid hb3
                  have HBL3 := Lib.hid hbl3
                  have HSL3 := Lib.hid hsl3
                  have hz3 := hch3.size
                  have HR3 := Lib.hid (Rp.sl_below HR.out hb3 (fun k hk => hk))
                  clear hp2 hch2 hF2 hch3 hb3 hbl3 hsl3 g0 g1 g2 g3
                  clear e2 e3
                  go_wp2_with fail
                  go_still_tail 6, (by kernel_rfl)
                  obtain ⟨w4, hw4⟩ : ∃ w4, w4 = w3.drew := ⟨_, rfl⟩
                  change wpList _ _ _ _ _ w3.drew
                  rw [← hw4]
                  have hb4 : Below w3.heap.size w3 w4 := by rw [hw4]; exact (Below.refl _ _).drew
                  have hbl4 := Lib.hid (HBL3.out.below hb4 (by omega))
                  have hsl4 := Lib.hid (Rp.sl_below HSL3.out hb4 (fun k hk => by have := (HD.out k hk).1; omega))
                  have HB4 := Lib.hid hb4
                  have hz4 := hb4.size
                  clear hw4 hb4 c0 c1' c2'
                  have HBL4 := hbl4
                  go_wp2_with fail
                  refine (ref_fail_any M A1 n1 c1 code m _).mono ?_
                  rintro e w5 ⟨rfl, hb5⟩
                  rw [← HC3.out]
                  have hs5 := Rp.sl_below hsl4.out hb5 (fun k hk => by have := (HD.out k hk).1; omega)
                  have hD5 : ∀ k, D k → k < w5.heap.size ∧ (D k ∨ w4.heap.size ≤ k) := fun k hk => ⟨by have := (HD.out k hk).1; have := hb5.size; omega, .inl hk⟩
                  have hbz := Lib.hid (HBL4.out.below hb5 (by omega))
                  have HB5 := Lib.hid hb5
                  have HS5 := Lib.hid hs5
                  have HD5 := Lib.hid hD5
                  clear hb5 hs5 hD5
                  go_wp2_with (refine wpList_put_row rfl 41 (.tmp 6) (.tmp 104) rfl gr _ rfl rfl 41 _ hbz.out H.out rfl (by simp [Value.oneCell']) ?_; intro w6 hblk6 hgr6)
                  go_meet
                  exact Lib.hid (PJ.next hbel HF.out HD.out hg1 hg2 HCH.out HP2.out HF2.out (HB4.out.trans (HB5.out.mono (by omega))) HS5.out (fun k hk => ⟨(HD5.out k hk).1, by rcases (HD5.out k hk).2 with h | h; exact .inl h; exact .inr (by omega)⟩) hblk6 hgr6 (by omega))
                · have h0 : (kd == 0) = false := by simpa using k0
                  have h1 : (kd == 1) = false := by simpa using k1
                  have h2 : (kd == 2) = false := by simpa using k2
                  have h3 : (kd == 3) = false := by simpa using k3
                  clear k0 k1 k2 k3 g1 g2 g3
                  go_wp2_with fail
                  go_meet
                  exact Lib.hid (PJ.mono (Nat.le_succ j) HJ.out)
        case rest =>
          obtain ⟨b2, F2, D2, A2, n2, c2, code2, hbl2, hpen2, hblk2, hsl2, hF2, hD2, hbel2, hg22, hg12⟩ := hcut.out
          have hz2 := hbel2.size
          have hn2 := (Rp.sl_len hsl2).1
          have HN2 := Lib.hid hn2
          have hn2b : n2 ≤ 200 * (j + 1) := by omega
          have HP2 := Lib.hid hpen2
          have HS2 := Lib.hid hsl2
          have HK2 := Lib.hid hblk2
          have HD2 := Lib.hid hD2
          have HJ2 := Lib.hid hcut.out
          have hk0 := hblk2.cell 0
          have hk1 := hblk2.cell 1
          have hk2 := hblk2.cell 2
          clear hcut hpen2 hsl2 hblk2 hD2 hF2 hn2
          by_cases hc0 : code2 = 0
          · subst hc0
            go_wp2_with fail
            refine (bytes_ok HP2.out (by omega)).mono ?_; rintro e w3 ⟨Ab, nb, cb, rfl, ho3, hb3⟩
            have HO3 := Lib.hid ho3
            have HB3 := Lib.hid hb3
            have hz3 := hb3.size
            have hblk2c := HK2.out.below hb3 hg22
            have hl0 := hblk2c.cell 0
            have hl1 := hblk2c.cell 1
            have hl2 := hblk2c.cell 2
            clear hblk2c
            clear ho3 hb3
            go_wp2_with fail
            have hblk3 := HK2.out.below HB3.out hg22
            have hq0 : ∀ q : Gr w3.heap.size w3, q.val.cell? ⟨gr, 0, none⟩ = some (.int .i64 M) ∧ q.val.cell? ⟨gr, 1, none⟩ = some (.slice A2 n2 c2) ∧ q.val.cell? ⟨gr, 2, none⟩ = some (.int .i64 0) := fun q =>
              ⟨(q.is.cell (p := ⟨gr, 0, none⟩) (by show gr < _; omega)).trans (hblk3.cell 0), (q.is.cell (p := ⟨gr, 1, none⟩) (by show gr < _; omega)).trans (hblk3.cell 1), (q.is.cell (p := ⟨gr, 2, none⟩) (by show gr < _; omega)).trans (hblk3.cell 2)⟩
            have hc0' := fun q => (hq0 q).1
            have hc1' := fun q => (hq0 q).2.1
            have hc2' := fun q => (hq0 q).2.2
            have HP3 : ∀ q : Gr w3.heap.size w3, Pen q.val F2 w.heap.size M b2 0 := fun q => (HP2.out.below HB3.out).below q.is
            have CLEN : Hid (∀ q : Gr w3.heap.size w3, Calls Try.prog 17 #[.pointer (some ⟨w.heap.size, 0, none⟩)] q.val fun e w' => e = .returned (.int .i64 (n2 : Int)) ∧ q.val = w') := fun q => by have := len_at (HP3 q); rw [HN2.out] at this; exact this
            have CCODE : Hid (∀ q : Gr w3.heap.size w3, Calls Try.prog 18 #[.pointer (some ⟨w.heap.size, 0, none⟩)] q.val fun e w' => e = .returned (.int .i64 0) ∧ q.val = w') := fun q => code_at (HP3 q)
            have CROOM : Hid (∀ q : Gr w3.heap.size w3, Calls Try.prog 27 #[.pointer (some ⟨w.heap.size, 0, none⟩)] q.val fun e w' => e = .returned (.int .i64 (M - n2)) ∧ Below q.val.heap.size q.val w') := fun q => by have := room_at (HP3 q) hM0 hM1 (by omega); rw [HN2.out] at this; exact this
            have CSAME : Hid (∀ q : Gr w3.heap.size w3, Calls Try.prog 12 #[.slice Ab nb cb, .slice A2 n2 c2] q.val fun e w' => e = .returned (.bool true) ∧ q.val = w') := fun q => by
              have h := same_any _ _ _ _ _ _ _ _ _ _ q.val (Rp.sl_below (own_bytes HO3.out) q.is (fun k hk => own_lt HO3.out hk)) (Rp.sl_below (Rp.sl_below HS2.out HB3.out (fun k hk => (HD2.out k hk).1)) q.is (fun k hk => Nat.lt_of_lt_of_le (HD2.out k hk).1 hz3))
              rw [beq_self_eq_true] at h
              exact h
            have hbw3 : Below w.heap.size w w3 := hbel2.trans ((HB3.out).mono hz2)
            clear hq0 HP3 hblk3
            have hwrap : IntKind.i64.wrap (M - (n2 : Int)) = M - (n2 : Int) := IntWalk.i64_in _ (by omega)
            refine wp_region_grow (by kernel_rfl) (by kernel_rfl) w3.heap.size ?_
            repeat (quiet_step ((first
              | (go_at_call 17; exact Gr.same _ (CLEN.out _))
              | (go_at_call 18; exact Gr.same _ (CCODE.out _))
              | (go_at_call 27; exact Gr.call _ (Nat.le_refl _) (CROOM.out _))
              | (go_at_call 12; exact Gr.same _ (CSAME.out _)))))
            refine wpQuiet_nil ?_
            rintro w4 ⟨⟨_, hb4⟩, rfl⟩
            have HBF := Lib.hid (HB3.out.trans (hb4.mono hz3))
            clear hb4
            clear hwrap hc0' hc1' hc2' CLEN CCODE CROOM CSAME
            go_wp2_with fail
            go_roundg (n - (j + 1))
            case measure => have := HK.out; omega
            case rel => exact ⟨j + 1, by omega, rfl, by go_num, Lib.hid (PJ.below HJ2.out HBF.out)⟩
          · have hne : (code2 != 0) = true := bne_iff_ne.2 hc0
            go_wp2_with fail
            refine (bytes_bad HP2.out hc0).mono ?_; rintro e w3 ⟨rfl, rfl⟩
            go_wp2_with fail
            have hblk3 := HK2.out.below (Below.refl _ wc) hg22
            have hq0 : ∀ q : Gr wc.heap.size wc, q.val.cell? ⟨gr, 0, none⟩ = some (.int .i64 M) ∧ q.val.cell? ⟨gr, 1, none⟩ = some (.slice A2 n2 c2) ∧ q.val.cell? ⟨gr, 2, none⟩ = some (.int .i64 code2) := fun q =>
              ⟨(q.is.cell (p := ⟨gr, 0, none⟩) (by show gr < _; omega)).trans (hblk3.cell 0), (q.is.cell (p := ⟨gr, 1, none⟩) (by show gr < _; omega)).trans (hblk3.cell 1), (q.is.cell (p := ⟨gr, 2, none⟩) (by show gr < _; omega)).trans (hblk3.cell 2)⟩
            have hc0' := fun q => (hq0 q).1
            have hc1' := fun q => (hq0 q).2.1
            have hc2' := fun q => (hq0 q).2.2
            have HP3 : ∀ q : Gr wc.heap.size wc, Pen q.val F2 w.heap.size M b2 code2 := fun q => (HP2.out.below (Below.refl _ wc)).below q.is
            have CLEN : Hid (∀ q : Gr wc.heap.size wc, Calls Try.prog 17 #[.pointer (some ⟨w.heap.size, 0, none⟩)] q.val fun e w' => e = .returned (.int .i64 (n2 : Int)) ∧ q.val = w') := fun q => by have := len_at (HP3 q); rw [HN2.out] at this; exact this
            have CCODE : Hid (∀ q : Gr wc.heap.size wc, Calls Try.prog 18 #[.pointer (some ⟨w.heap.size, 0, none⟩)] q.val fun e w' => e = .returned (.int .i64 code2) ∧ q.val = w') := fun q => code_at (HP3 q)
            have CROOM : Hid (∀ q : Gr wc.heap.size wc, Calls Try.prog 27 #[.pointer (some ⟨w.heap.size, 0, none⟩)] q.val fun e w' => e = .returned (.int .i64 (M - n2)) ∧ Below q.val.heap.size q.val w') := fun q => by have := room_at (HP3 q) hM0 hM1 (by omega); rw [HN2.out] at this; exact this
            have CSAME : Hid (∀ q : Gr wc.heap.size wc, Calls Try.prog 12 #[.slice none 0 0, .slice none 0 0] q.val fun e w' => e = .returned (.bool true) ∧ q.val = w') := fun q => by
              exact same_any _ _ _ _ _ _ _ _ (fun _ => False) (fun _ => False) q.val (Rp.sl_nil _ _ _ _ _ (by decide)) (Rp.sl_nil _ _ _ _ _ (by decide))
            have hbwc : Below w.heap.size w wc := hbel2.trans (((Below.refl _ wc)).mono hz2)
            clear hq0 HP3 hblk3
            have hwrap : IntKind.i64.wrap (M - (n2 : Int)) = M - (n2 : Int) := IntWalk.i64_in _ (by omega)
            refine wp_region_grow (by kernel_rfl) (by kernel_rfl) wc.heap.size ?_
            repeat (quiet_step ((first
              | (go_at_call 17; exact Gr.same _ (CLEN.out _))
              | (go_at_call 18; exact Gr.same _ (CCODE.out _))
              | (go_at_call 27; exact Gr.call _ (Nat.le_refl _) (CROOM.out _))
              | (go_at_call 12; exact Gr.same _ (CSAME.out _)))))
            refine wpQuiet_nil ?_
            rintro w4 ⟨⟨_, hb4⟩, rfl⟩
            have HBF := Lib.hid hb4
            clear hb4
            clear hwrap hc0' hc1' hc2' CLEN CCODE CROOM CSAME
            go_wp2_with fail
            go_roundg (n - (j + 1))
            case measure => have := HK.out; omega
            case rel => exact ⟨j + 1, by omega, rfl, by go_num, Lib.hid (PJ.below HJ2.out HBF.out)⟩
      · obtain rfl : j = n := by omega
        have hbel := hJ.out
        obtain ⟨b, F, D, A1, n1, c1, code, hbl, hpen, hblk, hsl, hF, hD, hbel, hg2, hg1⟩ := hJ.out
        clear hpen hblk hsl hF hD hJ
        go_wp2_with fail
        refine (live_any _).mono ?_; rintro e w4 ⟨rfl, hb4⟩
        go_wp2_with fail
        go_ret
        exact ⟨rfl, hbel.trans (hb4.mono hbel.size)⟩
  · clear hsh
    go_wp2_with fail
    refine (live_any _).mono ?_; rintro e w1 ⟨rfl, hb⟩
    go_wp2_with fail
    go_ret
    exact ⟨rfl, hb⟩
end Go.Proofs.Ytjgcgedjpppfmaa
