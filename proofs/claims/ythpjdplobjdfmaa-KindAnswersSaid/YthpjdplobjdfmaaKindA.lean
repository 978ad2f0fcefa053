/- The walk of the law KindAnswers. -/
import Derived.Test.YthpjdplobjdfmaaKind3
import Derived.Test.YthpjdplobjdfmaaKindR
namespace Go.Proofs.Ythpjdplobjdfmaa
open Go.ChangeShapes Go.WideShapes Go.ChangeAt Go.RowKit
set_option linter.unusedVariables false

set_option maxHeartbeats 2000000 in
theorem answers_walk (k a : Int) (w : World) (k0 : -9223372036854775808 ≤ k) (k1 : k ≤ 9223372036854775807) (a0 : -9223372036854775808 ≤ a) (a1 : a ≤ 9223372036854775807) :
    Calls Try.prog 3 #[.int .i64 k, .int .i64 a] w fun e w' => e = .returned (.bool true) ∧ Below w.heap.size w w' := by
  have hbd := Kd.by_rows (p := fun i => 0 ≤ (Kd.rowAt i).2.1 ∧ (Kd.rowAt i).2.1 ≤ 128 ∧ 0 ≤ (Kd.rowAt i).2.2 ∧ (Kd.rowAt i).2.2 ≤ 13) Kd.row_bd k
  have hcnt := Kd.by_rows (p := fun i => Kd.cnt i 20 = if (Kd.rowAt i).2.2 = 0 then 0 else 2) Kd.cnt_all k
  have haa := Kd.by_rows (p := fun i => ∀ a : Fin 20, Kd.ansI i (a.val : Int) = true → Kd.an (a.val : Int) = 0 ∧ Kd.right (a.val : Int) = true) Kd.ans_ans k
  have hans : ∀ b : Int, Kd.ansI (Kd.idx k) b = Kd.ans k b := fun _ => rfl
  have han : (Kd.rowAt (Kd.idx k)).2.2 = Kd.an k := rfl
  rw [han] at hbd hcnt
  have h14 : Kd.an k ≠ 0 → Kd.ans k 14 = true := fun h => by
    unfold Kd.ans
    rw [show (Kd.an k != 0) = true from bne_iff_ne.2 h]; simp
  have hz0 : 0 ≤ Kd.an k := hbd.2.2.1
  have hz1 : Kd.an k ≤ 13 := hbd.2.2.2
  have hA : Kd.ans k a = (decide (0 < Kd.an k) && (a == Kd.an k || a == 14)) := by
    unfold Kd.ans
    congr 1
    rw [Bool.eq_iff_iff, bne_iff_ne, decide_eq_true_iff]; omega
  have cof := ref_of_any k
  have cans := answers_any k
  have creq := request_any k
  generalize Kd.wd k = x at *
  generalize Kd.pt k = y at *
  generalize Kd.an k = z at *
  have HC := Lib.hid hcnt
  have HAA := Lib.hid haa
  have HAN := Lib.hid hans
  have H14 := Lib.hid h14
  have HA := Lib.hid hA
  have COF := Lib.hid cof
  have CANS := Lib.hid cans
  have CREQ := Lib.hid creq
  clear hbd hcnt haa hans han h14 hA cof cans creq
  have il' : (Try.prog.info? 23).map (·.size) = some 3 := il
  have IL := Lib.hid il'
  clear il'
  go_enter Try.func3, Try.ntmps3
  go_wp2_with (first
    | (go_at_call 7; refine (COF.out _).mono ?_; rintro e w1 ⟨rfl, hb1⟩)
    | (refine wpList_put_row rfl 23 (.tmp 5) (.tmp 9) rfl w1.heap.size #[.string x, .int .i64 y, .int .i64 z] rfl rfl 23 _ (Blk.new w1 23 _) IL.out rfl (by simp [Value.oneCell']) ?_; intro w2 hblk hgr))
  have hbel : Below w.heap.size w w2 := (hb1.alloc hb1.size _).grown hgr (by have := hb1.size; simp; omega) (by intro k hk; injection hk with hk; have := hb1.size; omega)
  have hg : w1.heap.size < w2.heap.size := hblk.lt
  have hc2 : w2.cell? ⟨w1.heap.size, 2, none⟩ = some (.int .i64 z) := hblk.cell 2
  clear hgr
  obtain ⟨r, hr, hcase⟩ : ∃ r, Kd.ans k a = r ∧ ((0 < z ∧ a = z ∧ r = true) ∨ (0 < z ∧ a ≠ z ∧ a = 14 ∧ r = true) ∨ (0 < z ∧ a ≠ z ∧ a ≠ 14 ∧ r = false) ∨ (z = 0 ∧ r = false)) := by
    refine ⟨_, rfl, ?_⟩
    rw [HA.out]
    by_cases h0 : 0 < z
    · rw [decide_eq_true h0]
      by_cases h1 : a = z
      · exact .inl ⟨h0, h1, by simp [h1]⟩
      · by_cases h2 : a = 14
        · exact .inr (.inl ⟨h0, h1, h2, by simp [h2]⟩)
        · exact .inr (.inr (.inl ⟨h0, h1, h2, by simp [h1, h2]⟩))
    · exact .inr (.inr (.inr ⟨by omega, by simp [h0]⟩))
  have cans := CANS.out a
  rw [hr] at cans
  have CA := Lib.hid cans
  clear cans hr
  have hcx : ∀ x : Gr w2.heap.size w2, x.val.cell? ⟨w1.heap.size, 2, none⟩ = some (.int .i64 z) := fun x => (x.is.cell (p := ⟨w1.heap.size, 2, none⟩) hg).trans hc2
  clear hz0 hblk hc2 HA
  rcases hcase with ⟨h0, h1, rfl⟩ | ⟨h0, h1, h2, rfl⟩ | ⟨h0, h1, h2, rfl⟩ | ⟨h0, rfl⟩
  · have hb : (a == z) = true := by rw [h1]; simp
    have HH := Lib.hid h1
    clear h1
    go_wp2_with fail
    refine wp_region_grow (by kernel_rfl) (by kernel_rfl) w2.heap.size ?_
    repeat (quiet_step ((go_at_call 8; exact Gr.call _ (Nat.le_refl _) (CA.out _))))
    refine wpQuiet_nil ?_
    rintro w3 ⟨⟨_, hb3⟩, rfl⟩
    have hbel3 : Below w.heap.size w w3 := hbel.trans (hb3.mono hbel.size)
    clear hcx hb3
    go_wp2_with fail
    go_loopw [6, 7] (fun s i wr => ∃ (n : Nat), n ≤ 20 ∧ i = .int .i64 n ∧ s = .int .i64 (Kd.cnt (Kd.idx k) n) ∧ Below w.heap.size w wr) (fun _ i _ => 20 - (intOf i).toNat)
    case atStart => exact ⟨0, by omega, rfl, rfl, hbel3⟩
    case round =>
      obtain ⟨n, hn, rfl, rfl, hbr⟩ := hrel
      have hcb := Kd.cnt_bd (Kd.idx k) n
      by_cases hlt : n < 20
      · have hd : decide ((n : Int) < 20) = true := by simp; omega
        have hst : Kd.cnt (Kd.idx k) (n + 1) = if Kd.ansI (Kd.idx k) (n : Int) then Kd.cnt (Kd.idx k) n + 1 else Kd.cnt (Kd.idx k) n := rfl
        have hi := HAA.out ⟨n, hlt⟩
        dsimp only at hi
        rw [HAN.out] at hst hi
        generalize hs1 : Kd.cnt (Kd.idx k) (n + 1) = s1 at *
        generalize Kd.cnt (Kd.idx k) n = s at *
        have HS1 := Lib.hid hs1
        clear hs1
        have cn := CANS.out (n : Int)
        have crq := request_any (n : Int)
        have crt := right_any (n : Int)
        by_cases hh : Kd.ans k (n : Int) = true
        · rw [if_pos hh] at hst
          obtain ⟨i1, i2⟩ := hi hh
          rw [hh] at cn
          rw [i1] at crq
          rw [i2] at crt
          have HST := Lib.hid hst
          have CN := Lib.hid cn
          have CRQ := Lib.hid crq
          have CRT := Lib.hid crt
          clear hst cn crq crt i1 i2 hh hi
          go_wp2_with fail
          refine (CN.out _).mono ?_; rintro e w4 ⟨rfl, hb4⟩
          have hbr4 := hbr.trans (hb4.mono hbr.size)
          go_wp2_with fail
          refine (CRQ.out _).mono ?_; rintro e w5 ⟨rfl, hb5⟩
          have hbr5 := hbr4.trans (hb5.mono hbr4.size)
          go_wp2_with fail
          refine (CRT.out _).mono ?_; rintro e w6 ⟨rfl, rfl⟩
          go_wp2_with fail
          go_roundw
          case rel => exact ⟨n + 1, by omega, by go_num, by rw [HS1.out, HST.out], hbr5⟩
          case measure => simp [intOf]; omega
        · rw [if_neg hh] at hst
          have hh' : Kd.ans k (n : Int) = false := by simpa using hh
          rw [hh'] at cn
          have HST := Lib.hid hst
          have CN := Lib.hid cn
          clear hst cn crq crt hh hh' hi
          go_wp2_with fail
          refine (CN.out _).mono ?_; rintro e w4 ⟨rfl, hb4⟩
          have hbr4 := hbr.trans (hb4.mono hbr.size)
          go_wp2_with fail
          go_roundw
          case rel => exact ⟨n + 1, by omega, by go_num, by rw [HS1.out, HST.out], hbr4⟩
          case measure => simp [intOf]; omega
      · obtain rfl : n = 20 := by omega
        have hc := HC.out
        by_cases hz : z = 0
        · rw [if_pos hz] at hc
          rw [hc]
          have hne : (z != 0) = false := by rw [hz]; rfl
          have HZ := Lib.hid hz
          clear hc hz hcb
          go_wp2_with fail
          refine (CREQ.out _).mono ?_; rintro e w4 ⟨rfl, hb4⟩
          have hbr4 := hbr.trans (hb4.mono hbr.size)
          go_wp2_with fail
          refine (live_any _).mono ?_; rintro e w5 ⟨rfl, hb5⟩
          go_wp2_with fail
          go_ret
          exact ⟨rfl, hbr4.trans (hb5.mono hbr4.size)⟩
        · rw [if_neg hz] at hc
          rw [hc]
          have hne : (z != 0) = true := bne_iff_ne.2 hz
          have c14 := CANS.out 14
          rw [H14.out hz] at c14
          have C14 := Lib.hid c14
          have HZ := Lib.hid hz
          clear hc hz hcb c14
          go_wp2_with fail
          refine (CREQ.out _).mono ?_; rintro e w4 ⟨rfl, hb4⟩
          have hbr4 := hbr.trans (hb4.mono hbr.size)
          go_wp2_with fail
          refine (C14.out _).mono ?_; rintro e w5 ⟨rfl, hb5⟩
          have hbr5 := hbr4.trans (hb5.mono hbr4.size)
          go_wp2_with fail
          refine (live_any _).mono ?_; rintro e w6 ⟨rfl, hb6⟩
          go_wp2_with fail
          go_ret
          exact ⟨rfl, hbr5.trans (hb6.mono hbr5.size)⟩
  · have hb : (a == z) = false := by simp; exact h1
    have hb2 : (a == 14) = true := by rw [h2]; simp
    have HH := Lib.hid h2
    clear h1 h2
    go_wp2_with fail
    refine wp_region_grow (by kernel_rfl) (by kernel_rfl) w2.heap.size ?_
    repeat (quiet_step ((go_at_call 8; exact Gr.call _ (Nat.le_refl _) (CA.out _))))
    refine wpQuiet_nil ?_
    rintro w3 ⟨⟨_, hb3⟩, rfl⟩
    have hbel3 : Below w.heap.size w w3 := hbel.trans (hb3.mono hbel.size)
    clear hcx hb3
    go_wp2_with fail
    go_loopw [6, 7] (fun s i wr => ∃ (n : Nat), n ≤ 20 ∧ i = .int .i64 n ∧ s = .int .i64 (Kd.cnt (Kd.idx k) n) ∧ Below w.heap.size w wr) (fun _ i _ => 20 - (intOf i).toNat)
    case atStart => exact ⟨0, by omega, rfl, rfl, hbel3⟩
    case round =>
      obtain ⟨n, hn, rfl, rfl, hbr⟩ := hrel
      have hcb := Kd.cnt_bd (Kd.idx k) n
      by_cases hlt : n < 20
      · have hd : decide ((n : Int) < 20) = true := by simp; omega
        have hst : Kd.cnt (Kd.idx k) (n + 1) = if Kd.ansI (Kd.idx k) (n : Int) then Kd.cnt (Kd.idx k) n + 1 else Kd.cnt (Kd.idx k) n := rfl
        have hi := HAA.out ⟨n, hlt⟩
        dsimp only at hi
        rw [HAN.out] at hst hi
        generalize hs1 : Kd.cnt (Kd.idx k) (n + 1) = s1 at *
        generalize Kd.cnt (Kd.idx k) n = s at *
        have HS1 := Lib.hid hs1
        clear hs1
        have cn := CANS.out (n : Int)
        have crq := request_any (n : Int)
        have crt := right_any (n : Int)
        by_cases hh : Kd.ans k (n : Int) = true
        · rw [if_pos hh] at hst
          obtain ⟨i1, i2⟩ := hi hh
          rw [hh] at cn
          rw [i1] at crq
          rw [i2] at crt
          have HST := Lib.hid hst
          have CN := Lib.hid cn
          have CRQ := Lib.hid crq
          have CRT := Lib.hid crt
          clear hst cn crq crt i1 i2 hh hi
          go_wp2_with fail
          refine (CN.out _).mono ?_; rintro e w4 ⟨rfl, hb4⟩
          have hbr4 := hbr.trans (hb4.mono hbr.size)
          go_wp2_with fail
          refine (CRQ.out _).mono ?_; rintro e w5 ⟨rfl, hb5⟩
          have hbr5 := hbr4.trans (hb5.mono hbr4.size)
          go_wp2_with fail
          refine (CRT.out _).mono ?_; rintro e w6 ⟨rfl, rfl⟩
          go_wp2_with fail
          go_roundw
          case rel => exact ⟨n + 1, by omega, by go_num, by rw [HS1.out, HST.out], hbr5⟩
          case measure => simp [intOf]; omega
        · rw [if_neg hh] at hst
          have hh' : Kd.ans k (n : Int) = false := by simpa using hh
          rw [hh'] at cn
          have HST := Lib.hid hst
          have CN := Lib.hid cn
          clear hst cn crq crt hh hh' hi
          go_wp2_with fail
          refine (CN.out _).mono ?_; rintro e w4 ⟨rfl, hb4⟩
          have hbr4 := hbr.trans (hb4.mono hbr.size)
          go_wp2_with fail
          go_roundw
          case rel => exact ⟨n + 1, by omega, by go_num, by rw [HS1.out, HST.out], hbr4⟩
          case measure => simp [intOf]; omega
      · obtain rfl : n = 20 := by omega
        have hc := HC.out
        by_cases hz : z = 0
        · rw [if_pos hz] at hc
          rw [hc]
          have hne : (z != 0) = false := by rw [hz]; rfl
          have HZ := Lib.hid hz
          clear hc hz hcb
          go_wp2_with fail
          refine (CREQ.out _).mono ?_; rintro e w4 ⟨rfl, hb4⟩
          have hbr4 := hbr.trans (hb4.mono hbr.size)
          go_wp2_with fail
          refine (live_any _).mono ?_; rintro e w5 ⟨rfl, hb5⟩
          go_wp2_with fail
          go_ret
          exact ⟨rfl, hbr4.trans (hb5.mono hbr4.size)⟩
        · rw [if_neg hz] at hc
          rw [hc]
          have hne : (z != 0) = true := bne_iff_ne.2 hz
          have c14 := CANS.out 14
          rw [H14.out hz] at c14
          have C14 := Lib.hid c14
          have HZ := Lib.hid hz
          clear hc hz hcb c14
          go_wp2_with fail
          refine (CREQ.out _).mono ?_; rintro e w4 ⟨rfl, hb4⟩
          have hbr4 := hbr.trans (hb4.mono hbr.size)
          go_wp2_with fail
          refine (C14.out _).mono ?_; rintro e w5 ⟨rfl, hb5⟩
          have hbr5 := hbr4.trans (hb5.mono hbr4.size)
          go_wp2_with fail
          refine (live_any _).mono ?_; rintro e w6 ⟨rfl, hb6⟩
          go_wp2_with fail
          go_ret
          exact ⟨rfl, hbr5.trans (hb6.mono hbr5.size)⟩
  · have hb : (a == z) = false := by simp; exact h1
    have hb2 : (a == 14) = false := by simp; exact h2
    clear h1 h2
    go_wp2_with fail
    refine wp_region_grow (by kernel_rfl) (by kernel_rfl) w2.heap.size ?_
    repeat (quiet_step ((go_at_call 8; exact Gr.call _ (Nat.le_refl _) (CA.out _))))
    refine wpQuiet_nil ?_
    rintro w3 ⟨⟨_, hb3⟩, rfl⟩
    have hbel3 : Below w.heap.size w w3 := hbel.trans (hb3.mono hbel.size)
    clear hcx hb3
    go_wp2_with fail
    go_loopw [6, 7] (fun s i wr => ∃ (n : Nat), n ≤ 20 ∧ i = .int .i64 n ∧ s = .int .i64 (Kd.cnt (Kd.idx k) n) ∧ Below w.heap.size w wr) (fun _ i _ => 20 - (intOf i).toNat)
    case atStart => exact ⟨0, by omega, rfl, rfl, hbel3⟩
    case round =>
      obtain ⟨n, hn, rfl, rfl, hbr⟩ := hrel
      have hcb := Kd.cnt_bd (Kd.idx k) n
      by_cases hlt : n < 20
      · have hd : decide ((n : Int) < 20) = true := by simp; omega
        have hst : Kd.cnt (Kd.idx k) (n + 1) = if Kd.ansI (Kd.idx k) (n : Int) then Kd.cnt (Kd.idx k) n + 1 else Kd.cnt (Kd.idx k) n := rfl
        have hi := HAA.out ⟨n, hlt⟩
        dsimp only at hi
        rw [HAN.out] at hst hi
        generalize hs1 : Kd.cnt (Kd.idx k) (n + 1) = s1 at *
        generalize Kd.cnt (Kd.idx k) n = s at *
        have HS1 := Lib.hid hs1
        clear hs1
        have cn := CANS.out (n : Int)
        have crq := request_any (n : Int)
        have crt := right_any (n : Int)
        by_cases hh : Kd.ans k (n : Int) = true
        · rw [if_pos hh] at hst
          obtain ⟨i1, i2⟩ := hi hh
          rw [hh] at cn
          rw [i1] at crq
          rw [i2] at crt
          have HST := Lib.hid hst
          have CN := Lib.hid cn
          have CRQ := Lib.hid crq
          have CRT := Lib.hid crt
          clear hst cn crq crt i1 i2 hh hi
          go_wp2_with fail
          refine (CN.out _).mono ?_; rintro e w4 ⟨rfl, hb4⟩
          have hbr4 := hbr.trans (hb4.mono hbr.size)
          go_wp2_with fail
          refine (CRQ.out _).mono ?_; rintro e w5 ⟨rfl, hb5⟩
          have hbr5 := hbr4.trans (hb5.mono hbr4.size)
          go_wp2_with fail
          refine (CRT.out _).mono ?_; rintro e w6 ⟨rfl, rfl⟩
          go_wp2_with fail
          go_roundw
          case rel => exact ⟨n + 1, by omega, by go_num, by rw [HS1.out, HST.out], hbr5⟩
          case measure => simp [intOf]; omega
        · rw [if_neg hh] at hst
          have hh' : Kd.ans k (n : Int) = false := by simpa using hh
          rw [hh'] at cn
          have HST := Lib.hid hst
          have CN := Lib.hid cn
          clear hst cn crq crt hh hh' hi
          go_wp2_with fail
          refine (CN.out _).mono ?_; rintro e w4 ⟨rfl, hb4⟩
          have hbr4 := hbr.trans (hb4.mono hbr.size)
          go_wp2_with fail
          go_roundw
          case rel => exact ⟨n + 1, by omega, by go_num, by rw [HS1.out, HST.out], hbr4⟩
          case measure => simp [intOf]; omega
      · obtain rfl : n = 20 := by omega
        have hc := HC.out
        by_cases hz : z = 0
        · rw [if_pos hz] at hc
          rw [hc]
          have hne : (z != 0) = false := by rw [hz]; rfl
          have HZ := Lib.hid hz
          clear hc hz hcb
          go_wp2_with fail
          refine (CREQ.out _).mono ?_; rintro e w4 ⟨rfl, hb4⟩
          have hbr4 := hbr.trans (hb4.mono hbr.size)
          go_wp2_with fail
          refine (live_any _).mono ?_; rintro e w5 ⟨rfl, hb5⟩
          go_wp2_with fail
          go_ret
          exact ⟨rfl, hbr4.trans (hb5.mono hbr4.size)⟩
        · rw [if_neg hz] at hc
          rw [hc]
          have hne : (z != 0) = true := bne_iff_ne.2 hz
          have c14 := CANS.out 14
          rw [H14.out hz] at c14
          have C14 := Lib.hid c14
          have HZ := Lib.hid hz
          clear hc hz hcb c14
          go_wp2_with fail
          refine (CREQ.out _).mono ?_; rintro e w4 ⟨rfl, hb4⟩
          have hbr4 := hbr.trans (hb4.mono hbr.size)
          go_wp2_with fail
          refine (C14.out _).mono ?_; rintro e w5 ⟨rfl, hb5⟩
          have hbr5 := hbr4.trans (hb5.mono hbr4.size)
          go_wp2_with fail
          refine (live_any _).mono ?_; rintro e w6 ⟨rfl, hb6⟩
          go_wp2_with fail
          go_ret
          exact ⟨rfl, hbr5.trans (hb6.mono hbr5.size)⟩
  · have hb : decide (0 < z) = false := by simp; omega
    have HH := Lib.hid h0
    clear h0
    go_wp2_with fail
    refine wp_region_grow (by kernel_rfl) (by kernel_rfl) w2.heap.size ?_
    repeat (quiet_step ((go_at_call 8; exact Gr.call _ (Nat.le_refl _) (CA.out _))))
    refine wpQuiet_nil ?_
    rintro w3 ⟨⟨_, hb3⟩, rfl⟩
    have hbel3 : Below w.heap.size w w3 := hbel.trans (hb3.mono hbel.size)
    clear hcx hb3
    go_wp2_with fail
    go_loopw [6, 7] (fun s i wr => ∃ (n : Nat), n ≤ 20 ∧ i = .int .i64 n ∧ s = .int .i64 (Kd.cnt (Kd.idx k) n) ∧ Below w.heap.size w wr) (fun _ i _ => 20 - (intOf i).toNat)
    case atStart => exact ⟨0, by omega, rfl, rfl, hbel3⟩
    case round =>
      obtain ⟨n, hn, rfl, rfl, hbr⟩ := hrel
      have hcb := Kd.cnt_bd (Kd.idx k) n
      by_cases hlt : n < 20
      · have hd : decide ((n : Int) < 20) = true := by simp; omega
        have hst : Kd.cnt (Kd.idx k) (n + 1) = if Kd.ansI (Kd.idx k) (n : Int) then Kd.cnt (Kd.idx k) n + 1 else Kd.cnt (Kd.idx k) n := rfl
        have hi := HAA.out ⟨n, hlt⟩
        dsimp only at hi
        rw [HAN.out] at hst hi
        generalize hs1 : Kd.cnt (Kd.idx k) (n + 1) = s1 at *
        generalize Kd.cnt (Kd.idx k) n = s at *
        have HS1 := Lib.hid hs1
        clear hs1
        have cn := CANS.out (n : Int)
        have crq := request_any (n : Int)
        have crt := right_any (n : Int)
        by_cases hh : Kd.ans k (n : Int) = true
        · rw [if_pos hh] at hst
          obtain ⟨i1, i2⟩ := hi hh
          rw [hh] at cn
          rw [i1] at crq
          rw [i2] at crt
          have HST := Lib.hid hst
          have CN := Lib.hid cn
          have CRQ := Lib.hid crq
          have CRT := Lib.hid crt
          clear hst cn crq crt i1 i2 hh hi
          go_wp2_with fail
          refine (CN.out _).mono ?_; rintro e w4 ⟨rfl, hb4⟩
          have hbr4 := hbr.trans (hb4.mono hbr.size)
          go_wp2_with fail
          refine (CRQ.out _).mono ?_; rintro e w5 ⟨rfl, hb5⟩
          have hbr5 := hbr4.trans (hb5.mono hbr4.size)
          go_wp2_with fail
          refine (CRT.out _).mono ?_; rintro e w6 ⟨rfl, rfl⟩
          go_wp2_with fail
          go_roundw
          case rel => exact ⟨n + 1, by omega, by go_num, by rw [HS1.out, HST.out], hbr5⟩
          case measure => simp [intOf]; omega
        · rw [if_neg hh] at hst
          have hh' : Kd.ans k (n : Int) = false := by simpa using hh
          rw [hh'] at cn
          have HST := Lib.hid hst
          have CN := Lib.hid cn
          clear hst cn crq crt hh hh' hi
          go_wp2_with fail
          refine (CN.out _).mono ?_; rintro e w4 ⟨rfl, hb4⟩
          have hbr4 := hbr.trans (hb4.mono hbr.size)
          go_wp2_with fail
          go_roundw
          case rel => exact ⟨n + 1, by omega, by go_num, by rw [HS1.out, HST.out], hbr4⟩
          case measure => simp [intOf]; omega
      · obtain rfl : n = 20 := by omega
        have hc := HC.out
        by_cases hz : z = 0
        · rw [if_pos hz] at hc
          rw [hc]
          have hne : (z != 0) = false := by rw [hz]; rfl
          have HZ := Lib.hid hz
          clear hc hz hcb
          go_wp2_with fail
          refine (CREQ.out _).mono ?_; rintro e w4 ⟨rfl, hb4⟩
          have hbr4 := hbr.trans (hb4.mono hbr.size)
          go_wp2_with fail
          refine (live_any _).mono ?_; rintro e w5 ⟨rfl, hb5⟩
          go_wp2_with fail
          go_ret
          exact ⟨rfl, hbr4.trans (hb5.mono hbr4.size)⟩
        · rw [if_neg hz] at hc
          rw [hc]
          have hne : (z != 0) = true := bne_iff_ne.2 hz
          have c14 := CANS.out 14
          rw [H14.out hz] at c14
          have C14 := Lib.hid c14
          have HZ := Lib.hid hz
          clear hc hz hcb c14
          go_wp2_with fail
          refine (CREQ.out _).mono ?_; rintro e w4 ⟨rfl, hb4⟩
          have hbr4 := hbr.trans (hb4.mono hbr.size)
          go_wp2_with fail
          refine (C14.out _).mono ?_; rintro e w5 ⟨rfl, hb5⟩
          have hbr5 := hbr4.trans (hb5.mono hbr4.size)
          go_wp2_with fail
          refine (live_any _).mono ?_; rintro e w6 ⟨rfl, hb6⟩
          go_wp2_with fail
          go_ret
          exact ⟨rfl, hbr5.trans (hb6.mono hbr5.size)⟩
end Go.Proofs.Ythpjdplobjdfmaa
