/- The walk of the reference's Has and of the law KindTells. -/
import Derived.Test.YthpjdplobjdfmaaKind3
import Derived.Test.YthpjdplobjdfmaaKindR
namespace Go.Proofs.Ythpjdplobjdfmaa
open Go.ChangeShapes Go.WideShapes Go.ChangeAt Go.RowKit
set_option linter.unusedVariables false

def refU (z p : Int) : Nat → Bool
  | 0 => false
  | n + 1 => refU z p n || (((2 ^ n : Nat) : Int) == p && (z.tdiv ((2 ^ n : Nat) : Int)).tmod 2 == 1)
theorem refU_all (i : Nat) (p : Int) : Kd.refHasI i p = refU (Kd.rowAt i).2.1 p 8 := by
  have e : ∀ n : Nat, ∀ z, refU z p (n + 1) = (refU z p n || (((2 ^ n : Nat) : Int) == p && (z.tdiv ((2 ^ n : Nat) : Int)).tmod 2 == 1)) := fun _ _ => rfl
  unfold Kd.refHasI
  simp only [List.any_cons, List.any_nil, e]
  simp only [refU, Bool.false_or, Bool.or_false, Bool.or_assoc]
  rfl
theorem refU_mono {z p : Int} {n : Nat} (h : refU z p n = true) : ∀ m, n ≤ m → refU z p m = true := by
  intro m hm
  induction m with
  | zero => obtain rfl : n = 0 := by omega
            exact h
  | succ m ih =>
    by_cases e : n = m + 1
    · subst e; exact h
    · rw [refU, ih (by omega)]; rfl
theorem g1 (a : ByteArray) (b c : Int) (w : World) : (Instr.field 23 (.agg #[.string a, .int .i64 b, .int .i64 c]) 1).run Try.prog w = .ok (.int .i64 b) w := rfl
theorem g0 (a : ByteArray) (b c : Int) (w : World) : (Instr.field 23 (.agg #[.string a, .int .i64 b, .int .i64 c]) 0).run Try.prog w = .ok (.string a) w := rfl
theorem ref_has_any (k p : Int) (w : World) :
    Calls Try.prog 14 #[.int .i64 k, .int .i64 p] w fun e w' => e = .returned (.bool (Kd.has k p)) ∧ Below w.heap.size w w' := by
  have hh : Kd.has k p = refU (Kd.pt k) p 8 := (Kd.has_eq k p).trans (refU_all _ _)
  have hbd := Kd.by_rows (p := fun i => 0 ≤ (Kd.rowAt i).2.1 ∧ (Kd.rowAt i).2.1 ≤ 128 ∧ 0 ≤ (Kd.rowAt i).2.2 ∧ (Kd.rowAt i).2.2 ≤ 13) Kd.row_bd k
  have hz0 : 0 ≤ Kd.pt k := hbd.1
  have hz1 : Kd.pt k ≤ 128 := hbd.2.1
  have cof := ref_of_any k
  have hf := g1
  generalize Kd.has k p = r at *
  generalize Kd.wd k = x at *
  generalize Kd.pt k = z at *
  generalize Kd.an k = y at *
  have HH := Lib.hid hh
  have COF := Lib.hid cof
  clear hh hbd cof
  go_enter Try.func14, Try.ntmps14
  go_wp2_with fail
  go_loopw [5] (fun q wr => ∃ (n : Nat), n ≤ 8 ∧ q = .int .i64 ((2 ^ n : Nat) : Int) ∧ Hid (refU z p n = false) ∧ Below w.heap.size w wr) (fun q _ => 1024 - (intOf q).toNat)
  case atStart => exact ⟨0, by omega, rfl, rfl, Below.refl _ _⟩
  case round =>
    obtain ⟨n, hn, rfl, hU, hbel⟩ := hrel
    by_cases hlt : n < 8
    · have hpow : (2 ^ n : Nat) ≤ 128 := by
        have := Nat.pow_le_pow_right (n := 2) (by omega) (show n ≤ 7 by omega)
        simpa using this
      have hpos : 0 < (2 ^ n : Nat) := Nat.pow_pos (by omega)
      have hnext : ((2 ^ (n + 1) : Nat) : Int) = 2 * ((2 ^ n : Nat) : Int) := by rw [Nat.pow_succ]; omega
      have hst : refU z p (n + 1) = (refU z p n || (((2 ^ n : Nat) : Int) == p && (z.tdiv ((2 ^ n : Nat) : Int)).tmod 2 == 1)) := rfl
      rw [hU.out, Bool.false_or] at hst
      generalize hq1 : ((2 ^ (n + 1) : Nat) : Int) = q1 at *
      generalize (2 ^ n : Nat) = q at *
      have HN := Lib.hid hnext
      have HQ1 := Lib.hid hq1
      clear hnext hq1
      by_cases he : ((q : Int) == p) = true
      · rw [he, Bool.true_and] at hst
        have HST := Lib.hid hst
        clear hst
        go_wp2_with fail
        refine (COF.out _).mono ?_; rintro e w1 ⟨rfl, hb1⟩
        have hbel1 := hbel.trans (hb1.mono hbel.size)
        have hq0 : (0 : Int) < (q : Int) := by omega
        have h1 : 0 ≤ z / (q : Int) := Int.ediv_nonneg hz0 (by omega)
        have h2 : z / (q : Int) ≤ z := Int.ediv_le_self _ hz0
        have hmod : (z.tdiv (q : Int)).tmod 2 = z / (q : Int) % 2 := by
          rw [Int.tdiv_eq_ediv_of_nonneg hz0, Int.tmod_eq_emod_of_nonneg h1]
        rw [hmod] at HST
        clear hmod
        by_cases ht : (z / (q : Int) % 2 == 1) = true
        · have hr : r = true := by rw [HH.out]; exact refU_mono (by rw [HST.out]; exact ht) 8 (by omega)
          have HR := Lib.hid hr
          clear hr
          go_wp2_with fail
          go_ret
          exact ⟨by rw [HR.out]; rfl, hbel1⟩
        · have ht' : (z / (q : Int) % 2 == 1) = false := by simpa using ht
          clear ht
          go_wp2_with fail
          go_roundw
          case rel => exact ⟨n + 1, by omega, by rw [HQ1.out, HN.out], by show refU z p (n + 1) = false; rw [HST.out]; exact ht', hbel1⟩
          case measure => simp [intOf]; omega
      · have he' : ((q : Int) == p) = false := by simpa using he
        rw [he', Bool.false_and] at hst
        have HST := Lib.hid hst
        clear hst he
        go_wp2_with fail
        go_roundw
        case rel => exact ⟨n + 1, by omega, by rw [HQ1.out, HN.out], HST.out, hbel⟩
        case measure => simp [intOf]; omega
    · obtain rfl : n = 8 := by omega
      have e8 : ((2 ^ 8 : Nat) : Int) = 256 := rfl
      rw [e8]
      have hr : r = false := by rw [HH.out, hU.out]
      have HR := Lib.hid hr
      clear hr
      go_wp2_with fail
      go_ret
      exact ⟨by rw [HR.out]; rfl, hbel⟩

set_option maxHeartbeats 2000000 in
theorem tells_walk (k p : Int) (w : World) (k0 : -9223372036854775808 ≤ k) (k1 : k ≤ 9223372036854775807) (p0 : -9223372036854775808 ≤ p) (p1 : p ≤ 9223372036854775807) :
    Calls Try.prog 5 #[.int .i64 k, .int .i64 p] w fun e w' => e = .returned (.bool true) ∧ Below w.heap.size w w' := by
  have hbd := Kd.by_rows (p := fun i => 0 ≤ (Kd.rowAt i).2.1 ∧ (Kd.rowAt i).2.1 ≤ 128 ∧ 0 ≤ (Kd.rowAt i).2.2 ∧ (Kd.rowAt i).2.2 ≤ 13) Kd.row_bd k
  have hz : (Kd.an k != 0) = decide (0 < Kd.an k) := by
    have : 0 ≤ Kd.an k := hbd.2.2.1
    rw [Bool.eq_iff_iff, bne_iff_ne, decide_eq_true_iff]; omega
  have hright : Kd.right k = decide (1 ≤ k ∧ k ≤ 14) := rfl
  have cof := ref_of_any k
  have crt := right_any k
  have crq := request_any k
  have cpt := parts_any k
  have chs := fun w => has_any k p w p0 p1
  have crh := ref_has_any k p
  have cwd := word_any k
  rw [hz] at crq
  generalize Kd.wd k = x at *
  generalize Kd.pt k = y at *
  generalize Kd.an k = z at *
  generalize Kd.has k p = h at *
  have COF := Lib.hid cof
  have CRQ := Lib.hid crq
  have CPT := Lib.hid cpt
  have CHS := Lib.hid chs
  have CRH := Lib.hid crh
  have CWD := Lib.hid cwd
  clear hbd hz cof crq cpt chs crh cwd
  have il' : (Try.prog.info? 23).map (·.size) = some 3 := il
  have IL := Lib.hid il'
  clear il'
  have hk : (decide (1 ≤ k) = false ∧ True ∧ Kd.right k = false) ∨ (decide (1 ≤ k) = true ∧ decide (k ≤ 14) = true ∧ Kd.right k = true) ∨ (decide (1 ≤ k) = true ∧ decide (k ≤ 14) = false ∧ Kd.right k = false) := by
    rw [hright]
    by_cases h1 : 1 ≤ k
    · by_cases h2 : k ≤ 14
      · exact .inr (.inl ⟨decide_eq_true h1, decide_eq_true h2, decide_eq_true ⟨h1, h2⟩⟩)
      · exact .inr (.inr ⟨decide_eq_true h1, decide_eq_false h2, decide_eq_false (fun h => h2 h.2)⟩)
    · exact .inl ⟨decide_eq_false h1, trivial, decide_eq_false (fun h => h1 h.1)⟩
  clear hright
  rcases hk with ⟨h1, h2, hr⟩ | ⟨h1, h2, hr⟩ | ⟨h1, h2, hr⟩
  all_goals
    rw [hr] at crt
    have CRT := Lib.hid crt
    clear crt hr
    go_enter Try.func5, Try.ntmps5
    go_wp2_with (first
      | (go_at_call 7; refine (COF.out _).mono ?_; rintro e w1 ⟨rfl, hb1⟩)
      | (refine wpList_put_row rfl 23 (.tmp 5) (.tmp 7) rfl w1.heap.size #[.string x, .int .i64 y, .int .i64 z] rfl rfl 23 _ (Blk.new w1 23 _) IL.out rfl (by simp [Value.oneCell']) ?_; intro w2 hblk hgr))
    have hbel : Below w.heap.size w w2 := (hb1.alloc hb1.size _).grown hgr (by have := hb1.size; simp; omega) (by intro k hk; injection hk with hk; have := hb1.size; omega)
    have hg : w1.heap.size < w2.heap.size := hblk.lt
    have hcx : ∀ q : Gr w2.heap.size w2, q.val.cell? ⟨w1.heap.size, 0, none⟩ = some (.string x) ∧ q.val.cell? ⟨w1.heap.size, 1, none⟩ = some (.int .i64 y) ∧ q.val.cell? ⟨w1.heap.size, 2, none⟩ = some (.int .i64 z) := fun q =>
      ⟨(q.is.cell (p := ⟨w1.heap.size, 0, none⟩) hg).trans (hblk.cell 0), (q.is.cell (p := ⟨w1.heap.size, 1, none⟩) hg).trans (hblk.cell 1), (q.is.cell (p := ⟨w1.heap.size, 2, none⟩) hg).trans (hblk.cell 2)⟩
    have hc0 := fun q => (hcx q).1
    have hc1 := fun q => (hcx q).2.1
    have hc2 := fun q => (hcx q).2.2
    clear hgr hblk hcx
    refine wp_region_grow (by kernel_rfl) (by kernel_rfl) w2.heap.size ?_
    repeat (quiet_step ((first
      | (go_at_call 10; exact Gr.same _ (CRT.out _))
      | (go_at_call 9; exact Gr.call _ (Nat.le_refl _) (CRQ.out _))
      | (go_at_call 13; exact Gr.call _ (Nat.le_refl _) (CPT.out _))
      | (go_at_call 12; exact Gr.call _ (Nat.le_refl _) (CHS.out _))
      | (go_at_call 14; exact Gr.call _ (Nat.le_refl _) (CRH.out _))
      | (go_at_call 15; exact Gr.call _ (Nat.le_refl _) (CWD.out _))
      | (go_at_call 11; exact Gr.call _ (Nat.le_refl _) (live_any _)))))
    refine wpQuiet_nil ?_
    rintro w3 ⟨⟨_, hb3⟩, rfl⟩
    clear hc0 hc1 hc2
    go_wp2_with fail
    go_ret
    exact ⟨rfl, hbel.trans (hb3.mono hbel.size)⟩
end Go.Proofs.Ythpjdplobjdfmaa
