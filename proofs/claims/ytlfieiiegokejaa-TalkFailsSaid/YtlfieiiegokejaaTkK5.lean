/- The walk of the reference's Has and of the law KindTells. -/
import Derived.Test.YtlfieiiegokejaaTkK3
import Derived.Test.YtlfieiiegokejaaTkK4
namespace Go.Proofs.Ytlfieiiegokejaa
open Go.ChangeShapes Go.WideShapes Go.ChangeAt Go.RowKit
set_option linter.unusedVariables false

def krefU (z p : Int) : Nat → Bool
  | 0 => false
  | n + 1 => krefU z p n || (((2 ^ n : Nat) : Int) == p && (z.tdiv ((2 ^ n : Nat) : Int)).tmod 2 == 1)
set_option maxRecDepth 100000 in
theorem krefU_all (i : Nat) (p : Int) : Kd.refHasI i p = krefU (Kd.rowAt i).2.1 p 8 := by
  have e : ∀ n : Nat, ∀ z, krefU z p (n + 1) = (krefU z p n || (((2 ^ n : Nat) : Int) == p && (z.tdiv ((2 ^ n : Nat) : Int)).tmod 2 == 1)) := fun _ _ => rfl
  unfold Kd.refHasI
  simp only [List.any_cons, List.any_nil, e]
  simp only [krefU, Bool.false_or, Bool.or_false, Bool.or_assoc]
  rfl
set_option maxRecDepth 100000 in
theorem krefU_mono {z p : Int} {n : Nat} (h : krefU z p n = true) : ∀ m, n ≤ m → krefU z p m = true := by
  intro m hm
  induction m with
  | zero => obtain rfl : n = 0 := by omega
            exact h
  | succ m ih =>
    by_cases e : n = m + 1
    · subst e; exact h
    · rw [krefU, ih (by omega)]; rfl
set_option maxRecDepth 100000 in
theorem kg1 (a : ByteArray) (b c : Int) (w : World) : (Instr.field 61 (.agg #[.string a, .int .i64 b, .int .i64 c]) 1).run Try.prog w = .ok (.int .i64 b) w := rfl
set_option maxRecDepth 100000 in
theorem kg0 (a : ByteArray) (b c : Int) (w : World) : (Instr.field 61 (.agg #[.string a, .int .i64 b, .int .i64 c]) 0).run Try.prog w = .ok (.string a) w := rfl
set_option maxRecDepth 100000 in
theorem kref_has_any (k p : Int) (w : World) :
    Calls Try.prog 68 #[.int .i64 k, .int .i64 p] w fun e w' => e = .returned (.bool (Kd.has k p)) ∧ Below w.heap.size w w' := by
  have hh : Kd.has k p = krefU (Kd.pt k) p 8 := (Kd.has_eq k p).trans (krefU_all _ _)
  have hbd := Kd.by_rows (p := fun i => 0 ≤ (Kd.rowAt i).2.1 ∧ (Kd.rowAt i).2.1 ≤ 128 ∧ 0 ≤ (Kd.rowAt i).2.2 ∧ (Kd.rowAt i).2.2 ≤ 13) Kd.row_bd k
  have hz0 : 0 ≤ Kd.pt k := hbd.1
  have hz1 : Kd.pt k ≤ 128 := hbd.2.1
  have cof := kref_of_any k
  have hf := kg1
  generalize Kd.has k p = r at *
  generalize Kd.wd k = x at *
  generalize Kd.pt k = z at *
  generalize Kd.an k = y at *
  have HH := Lib.hid hh
  have COF := Lib.hid cof
  clear hh hbd cof
  go_enter Try.func68, Try.ntmps68
  go_wp2_with fail
  go_loopw [5] (fun q wr => ∃ (n : Nat), n ≤ 8 ∧ q = .int .i64 ((2 ^ n : Nat) : Int) ∧ Hid (krefU z p n = false) ∧ Below w.heap.size w wr) (fun q _ => 1024 - (intOf q).toNat)
  case atStart => exact ⟨0, by omega, rfl, rfl, Below.refl _ _⟩
  case round =>
    obtain ⟨n, hn, rfl, hU, hbel⟩ := hrel
    by_cases hlt : n < 8
    · have hpow : (2 ^ n : Nat) ≤ 128 := by
        have := Nat.pow_le_pow_right (n := 2) (by omega) (show n ≤ 7 by omega)
        simpa using this
      have hpos : 0 < (2 ^ n : Nat) := Nat.pow_pos (by omega)
      have hnext : ((2 ^ (n + 1) : Nat) : Int) = 2 * ((2 ^ n : Nat) : Int) := by rw [Nat.pow_succ]; omega
      have hst : krefU z p (n + 1) = (krefU z p n || (((2 ^ n : Nat) : Int) == p && (z.tdiv ((2 ^ n : Nat) : Int)).tmod 2 == 1)) := rfl
      rw [hU.out, Bool.false_or] at hst
      generalize hq1 : ((2 ^ (n + 1) : Nat) : Int) = q1 at *
      generalize (2 ^ n : Nat) = q at *
      have HN := Lib.hid hnext
      have HQ1 := Lib.hid hq1
      clear hnext hq1
      by_cases he : ((q : Int) == p) = true
      · rw [he, Bool.true_and] at hst
        have HST := Lib.hid hst
        clear hst
        go_wp2_with fail
        refine (COF.out _).mono ?_; rintro e w1 ⟨rfl, hb1⟩
        have hbel1 := hbel.trans (hb1.mono hbel.size)
        have hq0 : (0 : Int) < (q : Int) := by omega
        have h1 : 0 ≤ z / (q : Int) := Int.ediv_nonneg hz0 (by omega)
        have h2 : z / (q : Int) ≤ z := Int.ediv_le_self _ hz0
        have hmod : (z.tdiv (q : Int)).tmod 2 = z / (q : Int) % 2 := by
          rw [Int.tdiv_eq_ediv_of_nonneg hz0, Int.tmod_eq_emod_of_nonneg h1]
        rw [hmod] at HST
        clear hmod
        by_cases ht : (z / (q : Int) % 2 == 1) = true
        · have hr : r = true := by rw [HH.out]; exact krefU_mono (by rw [HST.out]; exact ht) 8 (by omega)
          have HR := Lib.hid hr
          clear hr
          go_wp2_with fail
          go_ret
          exact ⟨by rw [HR.out]; rfl, hbel1⟩
        · have ht' : (z / (q : Int) % 2 == 1) = false := by simpa using ht
          clear ht
          go_wp2_with fail
          go_roundw
          case rel => exact ⟨n + 1, by omega, by rw [HQ1.out, HN.out], by show krefU z p (n + 1) = false; rw [HST.out]; exact ht', hbel1⟩
          case measure => simp [intOf]; omega
      · have he' : ((q : Int) == p) = false := by simpa using he
        rw [he', Bool.false_and] at hst
        have HST := Lib.hid hst
        clear hst he
        go_wp2_with fail
        go_roundw
        case rel => exact ⟨n + 1, by omega, by rw [HQ1.out, HN.out], HST.out, hbel⟩
        case measure => simp [intOf]; omega
    · obtain rfl : n = 8 := by omega
      have e8 : ((2 ^ 8 : Nat) : Int) = 256 := rfl
      rw [e8]
      have hr : r = false := by rw [HH.out, hU.out]
      have HR := Lib.hid hr
      clear hr
      go_wp2_with fail
      go_ret
      exact ⟨by rw [HR.out]; rfl, hbel⟩

end Go.Proofs.Ytlfieiiegokejaa
