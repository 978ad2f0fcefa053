/-
  The law of this claim, a further part of its proof (1): the parts TkE, Prj2, TkB, TuD, ToR, ToP, ToDa, ToDb, ToDc, ToDe.
-/
import Derived.Test.YtnihaaifkogpbaaTkP
import Derived.Laws.StructEq
import Derived.Test.YtnihaaifkogpbaaPrj
import Derived.Test.YtnihaaifkogpbaaTuT
import Derived.Test.YtnihaaifkogpbaaTuC
import Derived.Test.YtnihaaifkogpbaaToC
import Derived.Test.YtnihaaifkogpbaaToF
/- '==' of seals. -/
namespace Go.Proofs.Ytnihaaifkogpbaa
open Go.ChangeShapes Go.WideShapes Go.ChangeAt Go.RowKit
set_option linter.unusedVariables false
set_option maxRecDepth 100000 in
theorem seal_equal (x y z : Nat) (w : World) : (Op.equalIn 10000 35 (.agg #[.int .u64 (x : Int), .int .u64 (y : Int), .int .u64 (z : Int)]) (.agg #[.int .u64 0, .int .u64 0, .int .u64 0])).run Try.prog w = .ok ((x : Int) == 0 && ((y : Int) == 0 && (z : Int) == 0)) w := by
  have hS : Try.prog.underlying 35 = some (.struct (Try.prog.fieldsOf 35)) := by kernel_rfl
  have hp : Try.prog.stoodInHeld 35 = false := by kernel_rfl
  have u1 := Try.underlying29
  rw [show (10000 : Nat) = 9999 + 1 from rfl, run_equalIn_agg w 9999 35 _ _ hS hp]
  simp only [Program.fieldsOf, Try.underlying35]
  have z1 : (Go.sizeOf 29).run Try.prog w = .ok 1 w := by kernel_rfl
  go_simp
  by_cases h1 : x = 0 <;> by_cases h2 : y = 0 <;> by_cases h3 : z = 0 <;> simp [h1, h2, h3]
theorem seal_eql (x y z : Nat) (w : World) : (binOp .eql 35 (.agg #[.int .u64 (x : Int), .int .u64 (y : Int), .int .u64 (z : Int)]) (.agg #[.int .u64 0, .int .u64 0, .int .u64 0])).run Try.prog w = .ok (.bool ((x : Int) == 0 && ((y : Int) == 0 && (z : Int) == 0))) w := by
  rw [run_eql_struct, seal_equal]; rfl
theorem seal_neq (x y z : Nat) (w : World) : (binOp .neq 35 (.agg #[.int .u64 (x : Int), .int .u64 (y : Int), .int .u64 (z : Int)]) (.agg #[.int .u64 0, .int .u64 0, .int .u64 0])).run Try.prog w = .ok (.bool (!((x : Int) == 0 && ((y : Int) == 0 && (z : Int) == 0)))) w := by
  rw [run_neq_struct, seal_equal]; rfl
theorem seal_guard : Try.prog.eqGuardType Try.prog.depth 35 = false := by kernel_rfl
end Go.Proofs.Ytnihaaifkogpbaa
/- The walks of the reference's Right of a projection, and whether stripes are too many. -/
namespace Go.Proofs.Ytnihaaifkogpbaa
open Go.ChangeShapes Go.WideShapes Go.ChangeAt Go.RowKit
set_option linter.unusedVariables false
theorem startOf_pos {l : List Stp} {k : Nat} {s : Stp} (hk : 0 < k) (h : l[k - 1]? = some s) : startOf l k = s.2.1 := by
  obtain ⟨j, rfl⟩ : ∃ j, k = j + 1 := ⟨k - 1, by omega⟩
  exact startOf_succ h

def AnyBool (w : World) (e : Ending) (w' : World) : Prop := ∃ b : Bool, e = .returned (.bool b) ∧ Below w.heap.size w w'
theorem plong_any {D : Dom} {A : Option Addr} {n c e : Nat} {l : List Stp} {w : World} (hs : rpStp.sl w D A n c l) (hD : ∀ k, D k → k < w.heap.size) :
    Calls Try.prog 60 #[.agg (prjV e A n c)] w (AnyBool w) := by
  obtain ⟨hlen, hnc, hcm⟩ := Rp.sl_len hs
  unfold maxLen at hcm
  subst hlen
  have hb0 : Below w.heap.size w (w.alloc (.cells (prjV e A l.length c) 38)) := (Below.refl _ _).alloc (Nat.le_refl _) _
  have HS := Lib.hid (Rp.sl_below hs hb0 hD)
  have HB0 := Lib.hid hb0
  have HD := Lib.hid (fun k hk => Nat.lt_of_lt_of_le (hD k hk) hb0.size)
  have HK := Lib.hid (Blk.new w 38 (prjV e A l.length c))
  clear hs hD hb0
  go_enter Try.func60, Try.ntmps60
  go_wp2_with fail
  generalize World.alloc w _ = w0 at *
  have hz0 := HB0.out.size
  have hkl := (show Blk _ _ _ _ from HK.out).lt
  go_loopw [3] (fun i wr => ∃ k : Nat, k ≤ l.length ∧ k ≤ 70 ∧ i = .int .i64 k ∧ Below w0.heap.size w0 wr) (fun i _ => l.length - (intOf i).toNat)
  case atStart => exact ⟨0, by omega, by omega, rfl, Below.refl _ _⟩
  case round =>
    obtain ⟨k, hk, hk70, rfl, hbr⟩ := hrel
    have HBR := Lib.hid hbr
    have hzr := hbr.size
    have hbk := HK.out.below hbr hkl
    have gk : wr.cell? ⟨w.heap.size, 1, none⟩ = some (.slice A l.length c) := hbk.cell 1
    clear hbk
    by_cases hin : k < l.length ∧ k < 70
    · obtain ⟨h1, h2⟩ := hin
      obtain ⟨b, off, s, A2, c2, rfl, hb, hsk, g0, g1, g2, hrow, hs1, hs2⟩ := stps_at (Rp.sl_below HS.out hbr HD.out) h1
      have HR := Lib.hid hrow
      have hd1 : decide ((k : Int) < (l.length : Int)) = true := by simp; omega
      have hd2 : decide ((k : Int) < 70) = true := by simp; omega
      clear hrow hsk hbr
      go_wp2_with fail
      refine (long_any HR.out (fun k hk => Nat.lt_of_lt_of_le (HD.out k hk) hzr)).mono ?_; rintro en w1 ⟨bb, rfl, _, hb1⟩
      clear g0 g1 g2 gk
      cases bb
      · go_wp2_with fail
        go_roundw
        case rel => exact ⟨k + 1, by omega, by omega, by go_num, HBR.out.trans (hb1.mono hzr)⟩
        case measure => simp [intOf]; omega
      · go_wp2_with fail
        go_ret
        exact ⟨true, rfl, HB0.out.trans ((HBR.out.trans (hb1.mono hzr)).mono hz0)⟩
    · have hc : k = l.length ∨ (k < l.length ∧ k = 70) := by omega
      clear hin hbr
      rcases hc with rfl | ⟨h1, rfl⟩
      · have hd1 : decide ((l.length : Int) < (l.length : Int)) = false := by simp
        go_wp2_with fail
        go_ret
        exact ⟨_, rfl, HB0.out.trans (HBR.out.mono hz0)⟩
      · have hd1 : decide ((70 : Int) < (l.length : Int)) = true := by simp; omega
        go_wp2_with fail
        go_ret
        exact ⟨_, rfl, HB0.out.trans (HBR.out.mono hz0)⟩
end Go.Proofs.Ytnihaaifkogpbaa
/- body.Right and rpc.Right. -/
namespace Go.Proofs.Ytnihaaifkogpbaa
open Go.ChangeShapes Go.WideShapes Go.ChangeAt Go.RowKit
set_option linter.unusedVariables false
theorem dec_is {p : Prop} {b : Bool} (h : p ↔ b = true) : dec p = b := by
  cases b
  · exact dec_false fun hp => by have := h.1 hp; cases this
  · exact dec_true (h.2 rfl)
theorem part_q {k p : Int} {R Z : Prop} {H a b q : Bool} (hH : Kd.has k p = H) (ha : dec R = a) (hb : dec Z = b) (hq : q = dec (part k p R Z)) : q = (bif H then a else b) := by
  subst hH; subst ha; subst hb; subst hq
  unfold part
  cases Kd.has k p
  · rw [if_neg (by decide)]; rfl
  · rw [if_pos rfl]; rfl
theorem len_zero {α : Type} {l : List α} {n : Nat} (hn : l.length = n) : l.length = 0 ↔ ((n : Int) == 0) = true := by rw [hn]; simp
theorem has_32 (k : Int) : Kd.has k 32 = decide (k = 2 ∨ k = 9) := by
  have h := Kd.by_rows (p := fun i => Kd.hasI i 32 = (i == 2 || i == 9)) (fun i => has32 i) k
  show Kd.hasI (Kd.idx k) 32 = _
  rw [h]
  unfold Kd.idx
  by_cases hk : 1 ≤ k ∧ k ≤ 14
  · rw [if_pos hk]
    by_cases h2 : k = 2
    · subst h2; rfl
    · by_cases h9 : k = 9
      · subst h9; rfl
      · have e1 : (k.toNat == 2) = false := by simp; omega
        have e2 : (k.toNat == 9) = false := by simp; omega
        rw [e1, e2]; simp [h2, h9]
  · rw [if_neg hk]
    have h2 : k ≠ 2 := by omega
    have h9 : k ≠ 9 := by omega
    simp [h2, h9]
section
variable {D : Dom} {m : Ms} {h : Hd} {w : World}
set_option maxRecDepth 100000 in
theorem khasdata_any (hm : MsIn w D m h) : Calls Try.prog 48 #[.agg (msV m h)] w fun e w' => e = .returned (.bool (dec (Blocked m))) ∧ Below w.heap.size w w' := by
  have HB := Lib.hid (below1 w (.cells (msV m h) 40))
  have HK := Lib.hid (blk11 w 40 (msV m h))
  have HH := Lib.hid (fun u => khas_any m.kd 32 u (by decide) (by decide))
  rw [has_32] at HH
  obtain ⟨b, hb⟩ : ∃ b, b = dec (Blocked m) := ⟨_, rfl⟩
  rw [← hb]
  by_cases h2 : m.kd = 2
  · obtain rfl : b = true := by rw [hb]; exact dec_true (.inl h2)
    have hd : decide (m.kd = 2 ∨ m.kd = 9) = true := by simp [h2]
    rw [hd] at HH
    have h9 : (m.kd != 9) = true := by simp [h2]
    clear hb h2 hd
    go_enter Try.func48, Try.ntmps48
    go_upto_region 1 with (fail)
    generalize World.alloc w _ = w0 at *
    have k0 : w0.cell? ⟨w.heap.size, 0, none⟩ = some (.int .i64 m.kd) := (show Blk w0 w.heap.size 40 _ from HK.out).cell 0
    go_wp2_with fail
    refine (HH.out _).mono ?_; rintro e w1 ⟨rfl, hb1⟩
    have hk1 := keepB (show Blk w0 w.heap.size 40 _ from HK.out) hb1
    clear k0
    have k0 : w1.cell? ⟨w.heap.size, 0, none⟩ = some (.int .i64 m.kd) := hk1.cell 0
    have HB1 := Lib.hid (stepB HB.out hb1)
    clear hk1 hb1
    go_wp2_with fail
    go_ret
    exact ⟨rfl, HB1.out⟩
  · by_cases h9 : m.kd = 9
    · have hd : decide (m.kd = 2 ∨ m.kd = 9) = true := by simp [h9]
      rw [hd] at HH
      obtain ⟨d, hd1⟩ : ∃ d, (m.st == 1) = d := ⟨_, rfl⟩
      obtain rfl : b = d := by
        rw [hb, ← hd1]
        exact dec_is ⟨fun hx => by rcases hx with hx | hx; exact absurd hx h2; simpa using hx.2, fun hx => .inr ⟨h9, by simpa using hx⟩⟩
      have hn9 : (m.kd != 9) = false := by simp [h9]
      clear hb h2 hd h9
      go_enter Try.func48, Try.ntmps48
      go_upto_region 1 with (fail)
      generalize World.alloc w _ = w0 at *
      have k0 : w0.cell? ⟨w.heap.size, 0, none⟩ = some (.int .i64 m.kd) := (show Blk w0 w.heap.size 40 _ from HK.out).cell 0
      go_wp2_with fail
      refine (HH.out _).mono ?_; rintro e w1 ⟨rfl, hb1⟩
      have hk1 := keepB (show Blk w0 w.heap.size 40 _ from HK.out) hb1
      clear k0
      have k0 : w1.cell? ⟨w.heap.size, 0, none⟩ = some (.int .i64 m.kd) := hk1.cell 0
      have k5 : w1.cell? ⟨w.heap.size, 5, none⟩ = some (.int .i64 m.st) := hk1.cell 5
      have HB1 := Lib.hid (stepB HB.out hb1)
      clear hk1 hb1
      go_wp2_with fail
      go_ret
      exact ⟨rfl, HB1.out⟩
    · obtain rfl : b = false := by rw [hb]; exact dec_false fun hx => by rcases hx with hx | hx; exact h2 hx; exact h9 hx.1
      have hd : decide (m.kd = 2 ∨ m.kd = 9) = false := by simp [h2, h9]
      rw [hd] at HH
      clear hb h2 hd h9
      go_enter Try.func48, Try.ntmps48
      go_upto_region 1 with (fail)
      generalize World.alloc w _ = w0 at *
      have k0 : w0.cell? ⟨w.heap.size, 0, none⟩ = some (.int .i64 m.kd) := (show Blk w0 w.heap.size 40 _ from HK.out).cell 0
      go_wp2_with fail
      refine (HH.out _).mono ?_; rintro e w1 ⟨rfl, hb1⟩
      have HB1 := Lib.hid (stepB HB.out hb1)
      clear k0 hb1
      go_wp2_with fail
      go_ret
      exact ⟨rfl, HB1.out⟩
set_option maxRecDepth 100000 in
set_option maxHeartbeats 8000000 in
theorem bright_any (hm : MsIn w D m h) : Calls Try.prog 25 #[.agg (msV m h)] w fun e w' => e = .returned (.bool (dec (BOk m))) ∧ Below w.heap.size w w' := by
  have hb0 := below1 w (.cells (msV m h) 40)
  have HB := Lib.hid hb0
  have HK := Lib.hid (blk11 w 40 (msV m h))
  have HM := Lib.hid (hm.below hb0)
  have HN1 := Lib.hid (Rp.sl_len hm.ss).1
  have HN2 := Lib.hid (Rp.sl_len hm.ls).1
  have HN3 := Lib.hid (Rp.sl_len hm.dt).1
  have HN4 := Lib.hid (Rp.sl_len hm.pr).1
  have hm3 := (Rp.sl_len hm.dt).2
  clear hb0
  obtain ⟨H1, hH1⟩ : ∃ H, Kd.has m.kd 1 = H := ⟨_, rfl⟩
  obtain ⟨a1, ha1⟩ : ∃ a, dec (PosOk m.ps) = a := ⟨_, rfl⟩
  obtain ⟨b1, hb1⟩ : ∃ b, dec (m.ps = 0) = b := ⟨_, rfl⟩
  obtain ⟨q1, hq1⟩ : ∃ q, q = dec (part m.kd 1 (PosOk m.ps) (m.ps = 0)) := ⟨_, rfl⟩
  have HQ1 := Lib.hid (part_q hH1 ha1 hb1 hq1)
  have HD1 := Lib.hid hq1
  have HW1 : Hid (∀ (a b : Bool) (u : World), Calls Try.prog 41 #[.int .i64 m.kd, .int .i64 1, .bool a, .bool b] u fun e w' => e = .returned (.bool (bif H1 then a else b)) ∧ Below u.heap.size u w') := fun a b u => kwithin_any a b u (by decide) (by decide) hH1
  have HA1 := Lib.hid ha1
  have HZ1 := Lib.hid hb1
  clear hH1 hq1 ha1 hb1
  obtain ⟨H2, hH2⟩ : ∃ H, Kd.has m.kd 2 = H := ⟨_, rfl⟩
  obtain ⟨a2, ha2⟩ : ∃ a, dec (1 ≤ m.ct ∧ m.ct ≤ 65536) = a := ⟨_, rfl⟩
  obtain ⟨b2, hb2⟩ : ∃ b, dec (m.ct = 0) = b := ⟨_, rfl⟩
  obtain ⟨q2, hq2⟩ : ∃ q, q = dec (part m.kd 2 (1 ≤ m.ct ∧ m.ct ≤ 65536) (m.ct = 0)) := ⟨_, rfl⟩
  have HQ2 := Lib.hid (part_q hH2 ha2 hb2 hq2)
  have HD2 := Lib.hid hq2
  have HW2 : Hid (∀ (a b : Bool) (u : World), Calls Try.prog 41 #[.int .i64 m.kd, .int .i64 2, .bool a, .bool b] u fun e w' => e = .returned (.bool (bif H2 then a else b)) ∧ Below u.heap.size u w') := fun a b u => kwithin_any a b u (by decide) (by decide) hH2
  have HA2 := Lib.hid ha2
  have HZ2 := Lib.hid hb2
  clear hH2 hq2 ha2 hb2
  obtain ⟨H4, hH4⟩ : ∃ H, Kd.has m.kd 4 = H := ⟨_, rfl⟩
  obtain ⟨a4, ha4⟩ : ∃ a, dec (1 ≤ m.st ∧ m.st ≤ mostS m.kd) = a := ⟨_, rfl⟩
  obtain ⟨b4, hb4⟩ : ∃ b, dec (m.st = 0) = b := ⟨_, rfl⟩
  obtain ⟨q4, hq4⟩ : ∃ q, q = dec (part m.kd 4 (1 ≤ m.st ∧ m.st ≤ mostS m.kd) (m.st = 0)) := ⟨_, rfl⟩
  have HQ4 := Lib.hid (part_q hH4 ha4 hb4 hq4)
  have HD4 := Lib.hid hq4
  have HW4 : Hid (∀ (a b : Bool) (u : World), Calls Try.prog 41 #[.int .i64 m.kd, .int .i64 4, .bool a, .bool b] u fun e w' => e = .returned (.bool (bif H4 then a else b)) ∧ Below u.heap.size u w') := fun a b u => kwithin_any a b u (by decide) (by decide) hH4
  have HA4 := Lib.hid ha4
  have HZ4 := Lib.hid hb4
  clear hH4 hq4 ha4 hb4
  obtain ⟨H8, hH8⟩ : ∃ H, Kd.has m.kd 8 = H := ⟨_, rfl⟩
  obtain ⟨a8, ha8⟩ : ∃ a, dec (m.ss.length ≤ 16 ∧ Rises m.ss) = a := ⟨_, rfl⟩
  obtain ⟨b8, hb8⟩ : ∃ b, dec (m.ss.length = 0) = b := ⟨_, rfl⟩
  obtain ⟨q8, hq8⟩ : ∃ q, q = dec (part m.kd 8 (m.ss.length ≤ 16 ∧ Rises m.ss) (m.ss.length = 0)) := ⟨_, rfl⟩
  have HQ8 := Lib.hid (part_q hH8 ha8 hb8 hq8)
  have HD8 := Lib.hid hq8
  have HW8 : Hid (∀ (a b : Bool) (u : World), Calls Try.prog 41 #[.int .i64 m.kd, .int .i64 8, .bool a, .bool b] u fun e w' => e = .returned (.bool (bif H8 then a else b)) ∧ Below u.heap.size u w') := fun a b u => kwithin_any a b u (by decide) (by decide) hH8
  have HA8 := Lib.hid ha8
  have HZ8 := Lib.hid hb8
  clear hH8 hq8 ha8 hb8
  obtain ⟨H16, hH16⟩ : ∃ H, Kd.has m.kd 16 = H := ⟨_, rfl⟩
  obtain ⟨a16, ha16⟩ : ∃ a, dec (LOk m.ps m.ls) = a := ⟨_, rfl⟩
  obtain ⟨b16, hb16⟩ : ∃ b, dec (m.ls.length = 0) = b := ⟨_, rfl⟩
  obtain ⟨q16, hq16⟩ : ∃ q, q = dec (part m.kd 16 (LOk m.ps m.ls) (m.ls.length = 0)) := ⟨_, rfl⟩
  have HQ16 := Lib.hid (part_q hH16 ha16 hb16 hq16)
  have HD16 := Lib.hid hq16
  have HW16 : Hid (∀ (a b : Bool) (u : World), Calls Try.prog 41 #[.int .i64 m.kd, .int .i64 16, .bool a, .bool b] u fun e w' => e = .returned (.bool (bif H16 then a else b)) ∧ Below u.heap.size u w') := fun a b u => kwithin_any a b u (by decide) (by decide) hH16
  have HA16 := Lib.hid ha16
  have HZ16 := Lib.hid hb16
  clear hH16 hq16 ha16 hb16
  obtain ⟨H64, hH64⟩ : ∃ H, Kd.has m.kd 64 = H := ⟨_, rfl⟩
  obtain ⟨a64, ha64⟩ : ∃ a, dec (SeOk m.se) = a := ⟨_, rfl⟩
  obtain ⟨b64, hb64⟩ : ∃ b, dec (m.se = (0, 0, 0)) = b := ⟨_, rfl⟩
  obtain ⟨q64, hq64⟩ : ∃ q, q = dec (part m.kd 64 (SeOk m.se) (m.se = (0, 0, 0))) := ⟨_, rfl⟩
  have HQ64 := Lib.hid (part_q hH64 ha64 hb64 hq64)
  have HD64 := Lib.hid hq64
  have HW64 : Hid (∀ (a b : Bool) (u : World), Calls Try.prog 41 #[.int .i64 m.kd, .int .i64 64, .bool a, .bool b] u fun e w' => e = .returned (.bool (bif H64 then a else b)) ∧ Below u.heap.size u w') := fun a b u => kwithin_any a b u (by decide) (by decide) hH64
  have HA64 := Lib.hid ha64
  have HZ64 := Lib.hid hb64
  clear hH64 hq64 ha64 hb64
  obtain ⟨H128, hH128⟩ : ∃ H, Kd.has m.kd 128 = H := ⟨_, rfl⟩
  obtain ⟨a128, ha128⟩ : ∃ a, dec (POk m.pr) = a := ⟨_, rfl⟩
  obtain ⟨b128, hb128⟩ : ∃ b, dec (m.pr.1 = 0 ∧ m.pr.2.length = 0) = b := ⟨_, rfl⟩
  obtain ⟨q128, hq128⟩ : ∃ q, q = dec (part m.kd 128 (POk m.pr) (m.pr.1 = 0 ∧ m.pr.2.length = 0)) := ⟨_, rfl⟩
  have HQ128 := Lib.hid (part_q hH128 ha128 hb128 hq128)
  have HD128 := Lib.hid hq128
  have HW128 : Hid (∀ (a b : Bool) (u : World), Calls Try.prog 41 #[.int .i64 m.kd, .int .i64 128, .bool a, .bool b] u fun e w' => e = .returned (.bool (bif H128 then a else b)) ∧ Below u.heap.size u w') := fun a b u => kwithin_any a b u (by decide) (by decide) hH128
  have HA128 := Lib.hid ha128
  have HZ128 := Lib.hid hb128
  clear hH128 hq128 ha128 hb128
  obtain ⟨r0, hr0⟩ : ∃ r, Kd.right m.kd = r := ⟨_, rfl⟩
  have HR0 := Lib.hid hr0
  have HRR : Hid (∀ u, Calls Try.prog 40 #[.int .i64 m.kd] u fun e w' => e = .returned (.bool r0) ∧ u = w') := fun u => by rw [← HR0.out]; exact kright_any m.kd u
  obtain ⟨res, hres⟩ : ∃ r, r = dec (BOk m) := ⟨_, rfl⟩
  rw [← hres]
  have HRES := Lib.hid hres
  clear hres hr0
  go_enter Try.func25, Try.ntmps25
  go_upto_region 1 with (fail)
  generalize World.alloc w _ = w0 at *
  have k0 : w0.cell? ⟨w.heap.size, 0, none⟩ = some (.int .i64 m.kd) := (show Blk w0 w.heap.size 40 _ from HK.out).cell 0
  go_wp2_with fail
  refine (HRR.out _).mono ?_; rintro e wx ⟨rfl, rfl⟩
  clear k0
  cases r0
  case false =>
    obtain rfl : res = false := by rw [HRES.out]; exact dec_false fun hx => by have h1 := hx.1; rw [HR0.out] at h1; cases h1
    go_wp2_with fail
    go_ret
    exact ⟨rfl, HB.out⟩
  case true =>
  obtain ⟨wc, hwc⟩ : ∃ wc, wc = w0 := ⟨_, rfl⟩
  have HBX : Hid (Below w0.heap.size w0 wc) := by rw [hwc]; exact Below.refl _ _
  have HKX : Hid (Blk wc w.heap.size 40 (msV m h)) := by show Blk _ _ _ _; rw [hwc]; exact HK.out
  try rw [← hwc]
  clear hwc
  have HMX : Hid (MsIn wc D m h) := HM.out.below HBX.out
  have hz : ((m.ps : Int) == 0) = b1 := by rw [← HZ1.out]; exact (dec_is ⟨fun h => by simp [h], fun h => by simpa using h⟩).symm
  have HC : Hid (∀ u, Calls Try.prog 42 #[.int .u64 (m.ps : Int)] u fun e w' => e = .returned (.bool a1) ∧ u = w') := fun u => by rw [← HA1.out]; exact epos_any m.ps u HM.out.ps1
  go_upto_region 4 with (fail)
  go_cut [24] (fun sx wx => sx = .bool (!q1) ∧ Hid (Below w0.heap.size w0 wx))
  case first =>
    have k3 : ∀ q : Gr wc.heap.size wc, q.val.cell? ⟨w.heap.size, 3, none⟩ = some (.int .u64 (m.ps : Int)) := fun q => (q.is.cell (p := ⟨w.heap.size, 3, none⟩) (show Blk wc w.heap.size _ _ from HKX.out).lt).trans ((show Blk wc w.heap.size _ (msV m h) from HKX.out).cell 3)
    cases H1
    all_goals
      obtain rfl : q1 = _ := HQ1.out
      refine wp_region_grow (by kernel_rfl) (by kernel_rfl) wc.heap.size ?_
      repeat (first | go_big_quiet_step (first | (go_at_call 42; exact Gr.same _ (HC.out _)) | (go_at_call 41; exact Gr.call _ (Nat.le_refl _) (HW1.out _ _ _))) | quiet_step (first | (go_at_call 42; exact Gr.same _ (HC.out _)) | (go_at_call 41; exact Gr.call _ (Nat.le_refl _) (HW1.out _ _ _))))
      refine wpQuiet_nil ?_
      rintro w5 ⟨⟨_, hb5⟩, rfl⟩
      go_wp2_with fail
      go_meet
      exact ⟨rfl, stepB HBX.out hb5⟩
  case rest =>
  obtain ⟨rfl, hbx⟩ := hcut
  clear HBX HKX HMX hz HC
  have HBX := hbx
  have HKX : Hid (Blk wc w.heap.size 40 (msV m h)) := keepB (show Blk w0 w.heap.size 40 _ from HK.out) hbx.out
  clear hbx
  cases q1
  case false =>
    obtain rfl : res = false := by rw [HRES.out]; exact dec_false fun hx => of_not_dec HD1.out.symm hx.2.1
    go_wp2_with fail
    go_ret
    exact ⟨rfl, stepB HB.out HBX.out⟩
  case true =>
  have HMX : Hid (MsIn wc D m h) := HM.out.below HBX.out
  have hz : (m.ct == 0) = b2 := by rw [← HZ2.out]; exact (dec_is ⟨fun h => by simp [h], fun h => by simpa using h⟩).symm
  obtain ⟨x1, hx1⟩ : ∃ x, decide ((1 : Int) ≤ m.ct) = x := ⟨_, rfl⟩
  obtain ⟨x2, hx2⟩ : ∃ x, decide (m.ct ≤ 65536) = x := ⟨_, rfl⟩
  have hxa : a2 = (x1 && x2) := by rw [← HA2.out, ← hx1, ← hx2]; exact dec_is (by simp)
  go_upto_region 5 with (fail)
  go_cut [34] (fun sx wx => sx = .bool (!q2) ∧ Hid (Below w0.heap.size w0 wx))
  case first =>
    have k4 : wc.cell? ⟨w.heap.size, 4, none⟩ = some (.int .i64 m.ct) := (show Blk wc w.heap.size _ (msV m h) from HKX.out).cell 4
    cases H2 <;> cases x1
    all_goals
      have hqq := HQ2.out
      rw [hxa] at hqq
      simp only [cond_true, cond_false, Bool.true_and, Bool.false_and] at hqq
      subst hqq
      go_wp2_with fail
      refine (HW2.out _ _ _).mono ?_; rintro e w5 ⟨rfl, hb5⟩
      go_wp2_with fail
      go_meet
      exact ⟨rfl, stepB HBX.out hb5⟩
  case rest =>
  obtain ⟨rfl, hbx⟩ := hcut
  clear HBX HKX HMX hz hx1 hx2 hxa
  have HBX := hbx
  have HKX : Hid (Blk wc w.heap.size 40 (msV m h)) := keepB (show Blk w0 w.heap.size 40 _ from HK.out) hbx.out
  clear hbx
  cases q2
  case false =>
    obtain rfl : res = false := by rw [HRES.out]; exact dec_false fun hx => of_not_dec HD2.out.symm hx.2.2.1
    go_wp2_with fail
    go_ret
    exact ⟨rfl, stepB HB.out HBX.out⟩
  case true =>
  have HMX : Hid (MsIn wc D m h) := HM.out.below HBX.out
  have hz : (m.st == 0) = b4 := by rw [← HZ4.out]; exact (dec_is ⟨fun h => by simp [h], fun h => by simpa using h⟩).symm
  obtain ⟨x1, hx1⟩ : ∃ x, decide ((1 : Int) ≤ m.st) = x := ⟨_, rfl⟩
  obtain ⟨x2, hx2⟩ : ∃ x, decide (m.st ≤ mostS m.kd) = x := ⟨_, rfl⟩
  have hxa : a4 = (x1 && x2) := by rw [← HA4.out, ← hx1, ← hx2]; exact dec_is (by simp)
  have HC := Lib.hid (fun u => kmost_any m.kd u)
  go_upto_region 6 with (fail)
  go_cut [49] (fun sx wx => sx = .bool (!q4) ∧ Hid (Below w0.heap.size w0 wx))
  case first =>
    have k5 : ∀ q : Gr wc.heap.size wc, q.val.cell? ⟨w.heap.size, 5, none⟩ = some (.int .i64 m.st) := fun q => (q.is.cell (p := ⟨w.heap.size, 5, none⟩) (show Blk wc w.heap.size _ _ from HKX.out).lt).trans ((show Blk wc w.heap.size _ (msV m h) from HKX.out).cell 5)
    cases H4 <;> cases x1
    all_goals
      have hqq := HQ4.out
      rw [hxa] at hqq
      simp only [cond_true, cond_false, Bool.true_and, Bool.false_and] at hqq
      subst hqq
      refine wp_region_grow (by kernel_rfl) (by kernel_rfl) wc.heap.size ?_
      repeat (first | go_big_quiet_step (first | (go_at_call 43; exact Gr.same _ (HC.out _)) | (go_at_call 41; exact Gr.call _ (Nat.le_refl _) (HW4.out _ _ _))) | quiet_step (first | (go_at_call 43; exact Gr.same _ (HC.out _)) | (go_at_call 41; exact Gr.call _ (Nat.le_refl _) (HW4.out _ _ _))))
      refine wpQuiet_nil ?_
      rintro w5 ⟨⟨_, hb5⟩, rfl⟩
      go_wp2_with fail
      go_meet
      exact ⟨rfl, stepB HBX.out hb5⟩
  case rest =>
  obtain ⟨rfl, hbx⟩ := hcut
  clear HBX HKX HMX hz hx1 hx2 hxa HC
  have HBX := hbx
  have HKX : Hid (Blk wc w.heap.size 40 (msV m h)) := keepB (show Blk w0 w.heap.size 40 _ from HK.out) hbx.out
  clear hbx
  cases q4
  case false =>
    obtain rfl : res = false := by rw [HRES.out]; exact dec_false fun hx => of_not_dec HD4.out.symm hx.2.2.2.1
    go_wp2_with fail
    go_ret
    exact ⟨rfl, stepB HB.out HBX.out⟩
  case true =>
  have HMX : Hid (MsIn wc D m h) := HM.out.below HBX.out
  have hz : ((h.n1 : Int) == 0) = b8 := by rw [← HZ8.out]; exact (dec_is (len_zero HN1.out)).symm
  have HC : Hid (∀ u, Below wc.heap.size wc u → Calls Try.prog 44 #[.slice h.A1 h.n1 h.c1] u fun e w' => e = .returned (.bool a8) ∧ Below u.heap.size u w') := fun u hu => by rw [← HA8.out]; exact kstreams_any (HMX.out.below hu).ss (HMX.out.below hu).dom
  go_upto_region 7 with (fail)
  go_cut [66] (fun sx wx => sx = .bool (!q8) ∧ Hid (Below w0.heap.size w0 wx))
  case first =>
    have k6 : ∀ q : Gr wc.heap.size wc, q.val.cell? ⟨w.heap.size, 6, none⟩ = some (.slice h.A1 h.n1 h.c1) := fun q => (q.is.cell (p := ⟨w.heap.size, 6, none⟩) (show Blk wc w.heap.size _ _ from HKX.out).lt).trans ((show Blk wc w.heap.size _ (msV m h) from HKX.out).cell 6)
    cases H8
    all_goals
      obtain rfl : q8 = _ := HQ8.out
      refine wp_region_grow (by kernel_rfl) (by kernel_rfl) wc.heap.size ?_
      repeat (first | go_big_quiet_step (first | (go_at_call 44; exact Gr.call _ (Nat.le_refl _) (HC.out _ (Gr.is _))) | (go_at_call 41; exact Gr.call _ (Nat.le_refl _) (HW8.out _ _ _))) | quiet_step (first | (go_at_call 44; exact Gr.call _ (Nat.le_refl _) (HC.out _ (Gr.is _))) | (go_at_call 41; exact Gr.call _ (Nat.le_refl _) (HW8.out _ _ _))))
      refine wpQuiet_nil ?_
      rintro w5 ⟨⟨_, hb5⟩, rfl⟩
      go_wp2_with fail
      go_meet
      exact ⟨rfl, stepB HBX.out hb5⟩
  case rest =>
  obtain ⟨rfl, hbx⟩ := hcut
  clear HBX HKX HMX hz HC
  have HBX := hbx
  have HKX : Hid (Blk wc w.heap.size 40 (msV m h)) := keepB (show Blk w0 w.heap.size 40 _ from HK.out) hbx.out
  clear hbx
  cases q8
  case false =>
    obtain rfl : res = false := by rw [HRES.out]; exact dec_false fun hx => of_not_dec HD8.out.symm hx.2.2.2.2.1
    go_wp2_with fail
    go_ret
    exact ⟨rfl, stepB HB.out HBX.out⟩
  case true =>
  have HMX : Hid (MsIn wc D m h) := HM.out.below HBX.out
  have hz : ((h.n2 : Int) == 0) = b16 := by rw [← HZ16.out]; exact (dec_is (len_zero HN2.out)).symm
  have HC : Hid (∀ u, Below wc.heap.size wc u → Calls Try.prog 45 #[.int .u64 (m.ps : Int), .slice h.A2 h.n2 h.c2] u fun e w' => e = .returned (.bool a16) ∧ Below u.heap.size u w') := fun u hu => by rw [← HA16.out]; exact lright_any (HMX.out.below hu).ls (HMX.out.below hu).dom HM.out.ps1
  go_upto_region 8 with (fail)
  go_cut [77] (fun sx wx => sx = .bool (!q16) ∧ Hid (Below w0.heap.size w0 wx))
  case first =>
    have k3 : ∀ q : Gr wc.heap.size wc, q.val.cell? ⟨w.heap.size, 3, none⟩ = some (.int .u64 (m.ps : Int)) := fun q => (q.is.cell (p := ⟨w.heap.size, 3, none⟩) (show Blk wc w.heap.size _ _ from HKX.out).lt).trans ((show Blk wc w.heap.size _ (msV m h) from HKX.out).cell 3)
    have k7 : ∀ q : Gr wc.heap.size wc, q.val.cell? ⟨w.heap.size, 7, none⟩ = some (.slice h.A2 h.n2 h.c2) := fun q => (q.is.cell (p := ⟨w.heap.size, 7, none⟩) (show Blk wc w.heap.size _ _ from HKX.out).lt).trans ((show Blk wc w.heap.size _ (msV m h) from HKX.out).cell 7)
    cases H16
    all_goals
      obtain rfl : q16 = _ := HQ16.out
      refine wp_region_grow (by kernel_rfl) (by kernel_rfl) wc.heap.size ?_
      repeat (first | go_big_quiet_step (first | (go_at_call 45; exact Gr.call _ (Nat.le_refl _) (HC.out _ (Gr.is _))) | (go_at_call 41; exact Gr.call _ (Nat.le_refl _) (HW16.out _ _ _))) | quiet_step (first | (go_at_call 45; exact Gr.call _ (Nat.le_refl _) (HC.out _ (Gr.is _))) | (go_at_call 41; exact Gr.call _ (Nat.le_refl _) (HW16.out _ _ _))))
      refine wpQuiet_nil ?_
      rintro w5 ⟨⟨_, hb5⟩, rfl⟩
      go_wp2_with fail
      go_meet
      exact ⟨rfl, stepB HBX.out hb5⟩
  case rest =>
  obtain ⟨rfl, hbx⟩ := hcut
  clear HBX HKX HMX hz HC
  have HBX := hbx
  have HKX : Hid (Blk wc w.heap.size 40 (msV m h)) := keepB (show Blk w0 w.heap.size 40 _ from HK.out) hbx.out
  clear hbx
  cases q16
  case false =>
    obtain rfl : res = false := by rw [HRES.out]; exact dec_false fun hx => of_not_dec HD16.out.symm hx.2.2.2.2.2.1
    go_wp2_with fail
    go_ret
    exact ⟨rfl, stepB HB.out HBX.out⟩
  case true =>
  have HMX : Hid (MsIn wc D m h) := HM.out.below HBX.out
  have HC : Hid (∀ u, Calls Try.prog 46 #[.agg #[.int .u64 (m.se.1 : Int), .int .u64 (m.se.2.1 : Int), .int .u64 (m.se.2.2 : Int)]] u fun e w' => e = .returned (.bool a64) ∧ Below u.heap.size u w') := fun u => by rw [← HA64.out]; exact kseal_any _ _ _ u HM.out.s11
  have hz : ∀ u, (binOp .eql 35 (.agg #[.int .u64 (m.se.1 : Int), .int .u64 (m.se.2.1 : Int), .int .u64 (m.se.2.2 : Int)]) (.agg #[.int .u64 0, .int .u64 0, .int .u64 0])).run Try.prog u = .ok (.bool b64) u := fun u => by
    rw [seal_eql, ← HZ64.out]
    congr 2
    exact (dec_is ⟨fun h => by rw [h]; rfl, fun h => by
      simp only [Bool.and_eq_true, beq_iff_eq] at h
      obtain ⟨h1, h2, h3⟩ := h
      refine Prod.ext (by simp only; omega) (Prod.ext (by simp only; omega) (by simp only; omega))⟩).symm
  have hsg := seal_guard
  go_upto_region 9 with (fail)
  go_cut [90] (fun sx wx => sx = .bool (!q64) ∧ Hid (Below w0.heap.size w0 wx))
  case first =>
    have k9 : ∀ q : Gr wc.heap.size wc, q.val.cell? ⟨w.heap.size, 9, none⟩ = some (.int .u64 (m.se.1 : Int)) := fun q => (q.is.cell (p := ⟨w.heap.size, 9, none⟩) (show Blk wc w.heap.size _ _ from HKX.out).lt).trans ((show Blk wc w.heap.size _ (msV m h) from HKX.out).cell 9)
    have k10 : ∀ q : Gr wc.heap.size wc, q.val.cell? ⟨w.heap.size, 10, none⟩ = some (.int .u64 (m.se.2.1 : Int)) := fun q => (q.is.cell (p := ⟨w.heap.size, 10, none⟩) (show Blk wc w.heap.size _ _ from HKX.out).lt).trans ((show Blk wc w.heap.size _ (msV m h) from HKX.out).cell 10)
    have k11 : ∀ q : Gr wc.heap.size wc, q.val.cell? ⟨w.heap.size, 11, none⟩ = some (.int .u64 (m.se.2.2 : Int)) := fun q => (q.is.cell (p := ⟨w.heap.size, 11, none⟩) (show Blk wc w.heap.size _ _ from HKX.out).lt).trans ((show Blk wc w.heap.size _ (msV m h) from HKX.out).cell 11)
    cases H64
    all_goals
      obtain rfl : q64 = _ := HQ64.out
      refine wp_region_grow (by kernel_rfl) (by kernel_rfl) wc.heap.size ?_
      repeat (first | go_big_quiet_step (first | (go_at_call 46; exact Gr.call _ (Nat.le_refl _) (HC.out _)) | (go_at_call 41; exact Gr.call _ (Nat.le_refl _) (HW64.out _ _ _))) | quiet_step (first | (go_at_call 46; exact Gr.call _ (Nat.le_refl _) (HC.out _)) | (go_at_call 41; exact Gr.call _ (Nat.le_refl _) (HW64.out _ _ _))))
      refine wpQuiet_nil ?_
      rintro w5 ⟨⟨_, hb5⟩, rfl⟩
      go_wp2_with fail
      go_meet
      exact ⟨rfl, stepB HBX.out hb5⟩
  case rest =>
  obtain ⟨rfl, hbx⟩ := hcut
  clear HBX HKX HMX hsg hz HC
  have HBX := hbx
  have HKX : Hid (Blk wc w.heap.size 40 (msV m h)) := keepB (show Blk w0 w.heap.size 40 _ from HK.out) hbx.out
  clear hbx
  cases q64
  case false =>
    obtain rfl : res = false := by rw [HRES.out]; exact dec_false fun hx => of_not_dec HD64.out.symm hx.2.2.2.2.2.2.1
    go_wp2_with fail
    go_ret
    exact ⟨rfl, stepB HB.out HBX.out⟩
  case true =>
  have HMX : Hid (MsIn wc D m h) := HM.out.below HBX.out
  obtain ⟨x1, hx1⟩ : ∃ x, ((m.pr.1 : Int) == 0) = x := ⟨_, rfl⟩
  obtain ⟨x2, hx2⟩ : ∃ x, ((h.n4 : Int) == 0) = x := ⟨_, rfl⟩
  have hxb : b128 = (x1 && x2) := by rw [← HZ128.out, ← hx1, ← hx2]; exact dec_is (by rw [Bool.and_eq_true]; exact and_congr ⟨fun h => by simp [h], fun h => by simpa using h⟩ (len_zero HN4.out))
  have HC : Hid (∀ u, Below wc.heap.size wc u → Calls Try.prog 47 #[.agg (prjV m.pr.1 h.A4 h.n4 h.c4)] u fun e w' => e = .returned (.bool a128) ∧ Below u.heap.size u w') := fun u hu => by rw [← HA128.out]; exact pright_any (HMX.out.below hu).pr (HMX.out.below hu).dom HM.out.pe1
  go_upto_region 10 with (fail)
  go_cut [101] (fun sx wx => sx = .bool (!q128) ∧ Hid (Below w0.heap.size w0 wx))
  case first =>
    have k12 : ∀ q : Gr wc.heap.size wc, q.val.cell? ⟨w.heap.size, 12, none⟩ = some (.int .u64 (m.pr.1 : Int)) := fun q => (q.is.cell (p := ⟨w.heap.size, 12, none⟩) (show Blk wc w.heap.size _ _ from HKX.out).lt).trans ((show Blk wc w.heap.size _ (msV m h) from HKX.out).cell 12)
    have k13 : ∀ q : Gr wc.heap.size wc, q.val.cell? ⟨w.heap.size, 13, none⟩ = some (.slice h.A4 h.n4 h.c4) := fun q => (q.is.cell (p := ⟨w.heap.size, 13, none⟩) (show Blk wc w.heap.size _ _ from HKX.out).lt).trans ((show Blk wc w.heap.size _ (msV m h) from HKX.out).cell 13)
    cases H128 <;> cases x1
    all_goals
      have hqq := HQ128.out
      rw [hxb] at hqq
      simp only [cond_true, cond_false, Bool.true_and, Bool.false_and] at hqq
      subst hqq
      refine wp_region_grow (by kernel_rfl) (by kernel_rfl) wc.heap.size ?_
      repeat (first | go_big_quiet_step (first | (go_at_call 47; exact Gr.call _ (Nat.le_refl _) (HC.out _ (Gr.is _))) | (go_at_call 41; exact Gr.call _ (Nat.le_refl _) (HW128.out _ _ _))) | quiet_step (first | (go_at_call 47; exact Gr.call _ (Nat.le_refl _) (HC.out _ (Gr.is _))) | (go_at_call 41; exact Gr.call _ (Nat.le_refl _) (HW128.out _ _ _))))
      refine wpQuiet_nil ?_
      rintro w5 ⟨⟨_, hb5⟩, rfl⟩
      go_wp2_with fail
      go_meet
      exact ⟨rfl, stepB HBX.out hb5⟩
  case rest =>
  obtain ⟨rfl, hbx⟩ := hcut
  clear HBX HKX HMX hx1 hx2 hxb HC
  have HBX := hbx
  have HKX : Hid (Blk wc w.heap.size 40 (msV m h)) := keepB (show Blk w0 w.heap.size 40 _ from HK.out) hbx.out
  clear hbx
  cases q128
  case false =>
    obtain rfl : res = false := by rw [HRES.out]; exact dec_false fun hx => of_not_dec HD128.out.symm hx.2.2.2.2.2.2.2.1
    go_wp2_with fail
    go_ret
    exact ⟨rfl, stepB HB.out HBX.out⟩
  case true =>
  obtain ⟨dl, hdl⟩ : ∃ x, ((h.n3 : Int) == 0) = x := ⟨_, rfl⟩
  obtain ⟨hdt, hhd⟩ : ∃ x, dec (Blocked m) = x := ⟨_, rfl⟩
  obtain ⟨le, hle⟩ : ∃ x, decide ((h.n3 : Int) ≤ 1048576) = x := ⟨_, rfl⟩
  have hall : res = (dl || (hdt && le)) := by
    rw [HRES.out, ← hdl, ← hhd, ← hle]
    refine dec_is ⟨fun hx => ?_, fun hx => ⟨HR0.out, of_dec HD1.out.symm, of_dec HD2.out.symm, of_dec HD4.out.symm, of_dec HD8.out.symm, of_dec HD16.out.symm, of_dec HD64.out.symm, of_dec HD128.out.symm, ?_⟩⟩
    · have hn := HN3.out
      rcases hx.2.2.2.2.2.2.2.2 with h1 | ⟨h1, h2⟩
      · rw [(len_zero hn).1 h1]; rfl
      · have e1 := dec_true h1
        have e2 : decide ((h.n3 : Int) ≤ 1048576) = true := by simp; omega
        rw [e1, e2]; simp
    · have hn := HN3.out
      rw [Bool.or_eq_true, Bool.and_eq_true] at hx
      rcases hx with h1 | ⟨h1, h2⟩
      · exact .inl ((len_zero hn).2 h1)
      · have e2 : (h.n3 : Int) ≤ 1048576 := by simpa using h2
        exact .inr ⟨of_dec h1, by omega⟩
  have HHD : Hid (∀ u, Below w0.heap.size w0 u → Calls Try.prog 48 #[.agg (msV m h)] u fun e w' => e = .returned (.bool hdt) ∧ Below u.heap.size u w') := fun u hu => by rw [← hhd]; exact khasdata_any (HM.out.below hu)
  clear hhd
  have k0 : wc.cell? ⟨w.heap.size, 0, none⟩ = some (.int .i64 m.kd) := (show Blk wc w.heap.size _ (msV m h) from HKX.out).cell 0
  have k1 : wc.cell? ⟨w.heap.size, 1, none⟩ = some (.int .u64 (m.ep : Int)) := (show Blk wc w.heap.size _ (msV m h) from HKX.out).cell 1
  have k2 : wc.cell? ⟨w.heap.size, 2, none⟩ = some (.int .u64 (m.sq : Int)) := (show Blk wc w.heap.size _ (msV m h) from HKX.out).cell 2
  have k3 : wc.cell? ⟨w.heap.size, 3, none⟩ = some (.int .u64 (m.ps : Int)) := (show Blk wc w.heap.size _ (msV m h) from HKX.out).cell 3
  have k4 : wc.cell? ⟨w.heap.size, 4, none⟩ = some (.int .i64 m.ct) := (show Blk wc w.heap.size _ (msV m h) from HKX.out).cell 4
  have k5 : wc.cell? ⟨w.heap.size, 5, none⟩ = some (.int .i64 m.st) := (show Blk wc w.heap.size _ (msV m h) from HKX.out).cell 5
  have k6 : wc.cell? ⟨w.heap.size, 6, none⟩ = some (.slice h.A1 h.n1 h.c1) := (show Blk wc w.heap.size _ (msV m h) from HKX.out).cell 6
  have k7 : wc.cell? ⟨w.heap.size, 7, none⟩ = some (.slice h.A2 h.n2 h.c2) := (show Blk wc w.heap.size _ (msV m h) from HKX.out).cell 7
  have k8 : wc.cell? ⟨w.heap.size, 8, none⟩ = some (.slice h.A3 h.n3 h.c3) := (show Blk wc w.heap.size _ (msV m h) from HKX.out).cell 8
  have k9 : wc.cell? ⟨w.heap.size, 9, none⟩ = some (.int .u64 (m.se.1 : Int)) := (show Blk wc w.heap.size _ (msV m h) from HKX.out).cell 9
  have k10 : wc.cell? ⟨w.heap.size, 10, none⟩ = some (.int .u64 (m.se.2.1 : Int)) := (show Blk wc w.heap.size _ (msV m h) from HKX.out).cell 10
  have k11 : wc.cell? ⟨w.heap.size, 11, none⟩ = some (.int .u64 (m.se.2.2 : Int)) := (show Blk wc w.heap.size _ (msV m h) from HKX.out).cell 11
  have k12 : wc.cell? ⟨w.heap.size, 12, none⟩ = some (.int .u64 (m.pr.1 : Int)) := (show Blk wc w.heap.size _ (msV m h) from HKX.out).cell 12
  have k13 : wc.cell? ⟨w.heap.size, 13, none⟩ = some (.slice h.A4 h.n4 h.c4) := (show Blk wc w.heap.size _ (msV m h) from HKX.out).cell 13
  cases dl
  case true =>
    obtain rfl : res = true := by rw [hall]; rfl
    clear hall hle
    go_wp2_with fail
    go_ret
    exact ⟨rfl, stepB HB.out HBX.out⟩
  case false =>
  go_wp2_with fail
  refine (HHD.out _ HBX.out).mono ?_; rintro e w5 ⟨rfl, hb5⟩
  clear k0 k1 k2 k3 k4 k5 k6 k7 k8 k9 k10 k11 k12 k13
  have hk5 := keepB (show Blk wc w.heap.size 40 (msV m h) from HKX.out) hb5
  have k8 : w5.cell? ⟨w.heap.size, 8, none⟩ = some (.slice h.A3 h.n3 h.c3) := hk5.cell 8
  have HB5 := Lib.hid (stepB HBX.out hb5)
  clear hk5 hb5
  cases hdt
  case false =>
    obtain rfl : res = false := by rw [hall]; rfl
    clear hall hle
    go_wp2_with fail
    go_ret
    exact ⟨rfl, stepB HB.out HB5.out⟩
  case true =>
    obtain rfl : res = le := by rw [hall]; rfl
    clear hall
    go_wp2_with fail
    go_ret
    exact ⟨rfl, stepB HB.out HB5.out⟩
set_option maxRecDepth 100000 in
theorem mright_any (hm : MsIn w D m h) : Calls Try.prog 16 #[.agg (msV m h)] w fun e w' => e = .returned (.bool (dec (MOk m))) ∧ Below w.heap.size w w' := by
  have hb0 := below1 w (.cells (msV m h) 40)
  have HB := Lib.hid hb0
  have HK := Lib.hid (blk11 w 40 (msV m h))
  obtain ⟨bb, hbb⟩ : ∃ b, dec (BOk m) = b := ⟨_, rfl⟩
  obtain ⟨ee, hee⟩ : ∃ b, dec (EOk m.ep) = b := ⟨_, rfl⟩
  obtain ⟨res, hres⟩ : ∃ b, dec (MOk m) = b := ⟨_, rfl⟩
  have hall : res = (bb && ee) := by
    rw [← hres, ← hbb, ← hee]
    refine dec_is ?_
    rw [Bool.and_eq_true]
    exact ⟨fun h => ⟨dec_true h.1, dec_true h.2⟩, fun h => ⟨of_dec h.1, of_dec h.2⟩⟩
  have HBR := bright_any (hm.below hb0)
  rw [hbb] at HBR
  have HBR' := Lib.hid HBR
  have HER := Lib.hid (fun u => eright_any m.ep u hm.ep1)
  rw [hee] at HER
  rw [hres]
  clear HBR hbb hee hres hb0
  go_enter Try.func16, Try.ntmps16
  go_upto_region 1 with (fail)
  generalize World.alloc w _ = w0 at *
  have k0 : w0.cell? ⟨w.heap.size, 0, none⟩ = some (.int .i64 m.kd) := (show Blk w0 w.heap.size _ (msV m h) from HK.out).cell 0
  have k1 : w0.cell? ⟨w.heap.size, 1, none⟩ = some (.int .u64 (m.ep : Int)) := (show Blk w0 w.heap.size _ (msV m h) from HK.out).cell 1
  have k2 : w0.cell? ⟨w.heap.size, 2, none⟩ = some (.int .u64 (m.sq : Int)) := (show Blk w0 w.heap.size _ (msV m h) from HK.out).cell 2
  have k3 : w0.cell? ⟨w.heap.size, 3, none⟩ = some (.int .u64 (m.ps : Int)) := (show Blk w0 w.heap.size _ (msV m h) from HK.out).cell 3
  have k4 : w0.cell? ⟨w.heap.size, 4, none⟩ = some (.int .i64 m.ct) := (show Blk w0 w.heap.size _ (msV m h) from HK.out).cell 4
  have k5 : w0.cell? ⟨w.heap.size, 5, none⟩ = some (.int .i64 m.st) := (show Blk w0 w.heap.size _ (msV m h) from HK.out).cell 5
  have k6 : w0.cell? ⟨w.heap.size, 6, none⟩ = some (.slice h.A1 h.n1 h.c1) := (show Blk w0 w.heap.size _ (msV m h) from HK.out).cell 6
  have k7 : w0.cell? ⟨w.heap.size, 7, none⟩ = some (.slice h.A2 h.n2 h.c2) := (show Blk w0 w.heap.size _ (msV m h) from HK.out).cell 7
  have k8 : w0.cell? ⟨w.heap.size, 8, none⟩ = some (.slice h.A3 h.n3 h.c3) := (show Blk w0 w.heap.size _ (msV m h) from HK.out).cell 8
  have k9 : w0.cell? ⟨w.heap.size, 9, none⟩ = some (.int .u64 (m.se.1 : Int)) := (show Blk w0 w.heap.size _ (msV m h) from HK.out).cell 9
  have k10 : w0.cell? ⟨w.heap.size, 10, none⟩ = some (.int .u64 (m.se.2.1 : Int)) := (show Blk w0 w.heap.size _ (msV m h) from HK.out).cell 10
  have k11 : w0.cell? ⟨w.heap.size, 11, none⟩ = some (.int .u64 (m.se.2.2 : Int)) := (show Blk w0 w.heap.size _ (msV m h) from HK.out).cell 11
  have k12 : w0.cell? ⟨w.heap.size, 12, none⟩ = some (.int .u64 (m.pr.1 : Int)) := (show Blk w0 w.heap.size _ (msV m h) from HK.out).cell 12
  have k13 : w0.cell? ⟨w.heap.size, 13, none⟩ = some (.slice h.A4 h.n4 h.c4) := (show Blk w0 w.heap.size _ (msV m h) from HK.out).cell 13
  go_wp2_with fail
  refine HBR'.out.mono ?_; rintro e w1 ⟨rfl, hb1⟩
  have hk1 := keepB (show Blk w0 w.heap.size 40 (msV m h) from HK.out) hb1
  have HB1 := Lib.hid (stepB HB.out hb1)
  clear k0 k1 k2 k3 k4 k5 k6 k7 k8 k9 k10 k11 k12 k13 hb1
  have k1 : w1.cell? ⟨w.heap.size, 1, none⟩ = some (.int .u64 (m.ep : Int)) := hk1.cell 1
  clear hk1
  cases bb
  case false =>
    obtain rfl : res = false := by rw [hall]; rfl
    clear hall
    go_wp2_with fail
    go_ret
    exact ⟨rfl, HB1.out⟩
  case true =>
    obtain rfl : res = ee := by rw [hall]; rfl
    clear hall
    go_wp2_with fail
    refine (HER.out _).mono ?_; rintro e w2 ⟨rfl, rfl⟩
    go_wp2_with fail
    go_ret
    exact ⟨rfl, HB1.out⟩
end
end Go.Proofs.Ytnihaaifkogpbaa
/- A unit's answer to a Take. -/
namespace Go.Proofs.Ytnihaaifkogpbaa
open Go.ChangeShapes Go.WideShapes Go.ChangeAt Go.RowKit
set_option linter.unusedVariables false
theorem MsIn.chg {w w' : World} {D F : Dom} {m : Ms} {h : Hd} (hm : MsIn w D m h) (hc : Chg F w w') (hF : ∀ k, D k → ¬ F k) : MsIn w' D m h :=
  ⟨(chS (show Sl rpU64 w D _ _ _ _ from ⟨hm.ss, hm.dom⟩) hc hF).1, (chS (show Sl rpLnk w D _ _ _ _ from ⟨hm.ls, hm.dom⟩) hc hF).1, (chS (show Sl rpU8 w D _ _ _ _ from ⟨hm.dt, hm.dom⟩) hc hF).1, (chS (show Sl rpStp w D _ _ _ _ from ⟨hm.pr, hm.dom⟩) hc hF).1, fun k hk => Nat.lt_of_lt_of_le (hm.dom k hk) hc.size, hm.kd0, hm.kd1, hm.ct0, hm.ct1, hm.st0, hm.st1, hm.ep1, hm.sq1, hm.ps1, hm.s11, hm.s21, hm.s31, hm.pe1⟩
section
variable {D : Dom} {A At : Option Addr} {nt ct gu ga nd ep tl nx tb M : Nat} {gm pj : Value} {T : List Lnk} {q a : Ms} {h hd : Hd} {w : World}
set_option maxRecDepth 100000 in
theorem admit0_any (w : World) (he : EOk ep) : Calls Try.prog 30 #[.int .u64 (ep : Int), .bool false, .int .u64 (ep : Int)] w fun e w' => e = .returned (.int .i64 0) ∧ w = w' := by
  have hep : ep ≤ 18446744073709551615 := by have := he.2; omega
  have HER : Hid (∀ u, Calls Try.prog 15 #[.int .u64 (ep : Int)] u fun e w' => e = .returned (.bool true) ∧ u = w') := fun u => by
    have h := eright_any ep u hep
    rw [dec_true he] at h
    exact h
  go_enter Try.func30, Try.ntmps30
  go_wp2_with (go_at_call 15; refine (HER.out _).mono ?_; rintro e w' ⟨rfl, hw⟩; subst hw)
  go_ret
  exact ⟨rfl, rfl⟩
set_option maxRecDepth 100000 in
set_option maxHeartbeats 8000000 in
theorem doesTake_any (hu : Blk w gu 60 (unV nd ep false gm tl pj nx At nt ct)) (ho : OLk w tb At nt ct T) (hT : TkOk M T) (hM : M ≤ 80000) (htb : tb ≤ w.heap.size) (hga : Blk w ga 40 (msV a hd)) (h2 : hd.A2 = none ∧ hd.n2 = 0 ∧ hd.c2 = 0)
    (hq : MsIn w D q h) (hDg : ∀ k, D k → ¬ (k = gu ∨ k = ga)) (hn16 : q.ss.length ≤ 16) (hc1 : 1 ≤ q.ct) (hc2 : q.ct ≤ 65536) (hnx : (nx : Int) + q.ct ≤ 4611686018427387904) (hkd : q.kd = 6) (hqe : q.ep = ep) (he : EOk ep) :
    Calls Try.prog 18 #[.pointer (some ⟨gu, 0, none⟩), .agg (msV q h), .pointer (some ⟨ga, 0, none⟩)] w fun e w' => e = .returned (.int .i64 0) ∧
      (∃ At' nt' ct', Blk w' gu 60 (unV nd ep false gm tl pj (nx + q.ct.toNat) At' nt' ct') ∧ OLk w' tb At' nt' ct' (tkK (nx + q.ct.toNat - min q.ct.toNat 4) T q.ss (min q.ct.toNat 4))) ∧
      (∃ Al nl cl, Blk w' ga 40 (msV { a with kd := 12, ps := nx } { hd with A2 := Al, n2 := nl, c2 := cl }) ∧ OLk w' tb Al nl cl (q.ss.map fun s => (s, bk T s))) ∧ Chg (fun k => k = gu ∨ k = ga) w w' := by
  have hb1 := below1 w (.cells (msV q h) 40)
  have HB1 := Lib.hid hb1
  have K1 := Lib.hid (blk11 w 40 (msV q h))
  have U1 := Lib.hid (keepB hu hb1)
  have A1 := Lib.hid (keepB hga hb1)
  have O1 := Lib.hid (OL.below ho hb1)
  have Q1 := Lib.hid (hq.below hb1)
  have HTK := Lib.hid hT
  have HTB := Lib.hid htb
  have HDG := Lib.hid hDg
  have HUL := Lib.hid hu.lt
  have HAL := Lib.hid hga.lt
  have HNE : Hid (gu ≠ ga) := fun e => by subst e; exact absurd (blk_type hu hga) (by decide)
  have HEP := Lib.hid he
  have HH2 := Lib.hid h2
  have HC1 := Lib.hid hc1
  have HC2 := Lib.hid hc2
  have HNX := Lib.hid hnx
  have HKD := Lib.hid hkd
  have HQE := Lib.hid hqe
  have H16 := Lib.hid hn16
  clear hu ho hT htb hga hq hDg hb1 he h2 hc1 hc2 hnx hkd hqe hn16
  go_enter Try.func18, Try.ntmps18
  go_upto_region 1 with (fail)
  obtain ⟨gq, hgq⟩ : ∃ gq, gq = w.heap.size := ⟨_, rfl⟩
  rw [← hgq] at K1 ⊢
  have HGQ := Lib.hid hgq
  clear hgq
  generalize World.alloc w _ = w1 at *
  have a0 := (show Blk w1 ga 40 (msV a hd) from A1.out).cell 0
  have af0 := (show Blk w1 ga 40 (msV a hd) from A1.out).frozen 0
  have c12 : Chg (fun k => k = ga) w1 (w1.setCell ⟨ga, 0, none⟩ (.int .i64 10)) := (Chg.refl (fun k => k = ga) w1).setCell (p := ⟨ga, 0, none⟩) (.inl rfl) _
  have A2 : Hid (Blk (w1.setCell ⟨ga, 0, none⟩ (.int .i64 10)) ga 40 (msV { a with kd := 10 } hd)) := (show Blk w1 ga 40 (msV a hd) from A1.out).put 0 _
  have K2 := Lib.hid (chB (show Blk w1 gq 40 (msV q h) from K1.out) c12 (by have := HGQ.out; have := HAL.out; show ¬ gq = ga; omega))
  have U2 := Lib.hid (chB (show Blk w1 gu 60 (unV nd ep false gm tl pj nx At nt ct) from U1.out) c12 HNE.out)
  have O2 := Lib.hid (OL.chg O1.out c12 (fun k hk _ => ⟨fun h => h, fun cs' t' h' => by
    subst hk
    obtain rfl := blk_type A1.out h'
    exact ⟨by unfold T64; decide, by decide⟩⟩))
  have Q2 : Hid (MsIn (w1.setCell ⟨ga, 0, none⟩ (.int .i64 10)) D q h) := MsIn.chg Q1.out c12 (fun k hk e => HDG.out k hk (.inr e))
  have C2 := Lib.hid (show Chg (fun k => k = gu ∨ k = ga) w _ from (Chg.of_pure HB1.out _).trans (c12.more (fun k _ hk => .inr hk)))
  clear c12
  go_upto_region 2 with (fail)
  clear a0 af0 K1 U1 A1 O1 Q1
  generalize World.setCell w1 _ _ = w2 at *
  have q0 : w2.cell? ⟨gq, 0, none⟩ = some (.int .i64 6) := by
    have hh := (show Blk w2 gq 40 (msV q h) from K2.out).cell 0
    rw [← HKD.out]; exact hh
  go_upto_region 9 with (fail)
  have HAD := Lib.hid (fun u : World => admit0_any (ep := ep) u HEP.out)
  have u1 : ∀ u : Gr w2.heap.size w2, u.val.cell? ⟨gu, 1, none⟩ = some (.int .u64 (ep : Int)) := fun u => (keepB (show Blk w2 gu 60 (unV nd ep false gm tl pj nx At nt ct) from U2.out) u.is).cell 1
  have u2 : ∀ u : Gr w2.heap.size w2, u.val.cell? ⟨gu, 2, none⟩ = some (.bool false) := fun u => (keepB (show Blk w2 gu 60 (unV nd ep false gm tl pj nx At nt ct) from U2.out) u.is).cell 2
  have q1 : ∀ u : Gr w2.heap.size w2, u.val.cell? ⟨gq, 1, none⟩ = some (.int .u64 (ep : Int)) := fun u => by
    have hh := (keepB (show Blk w2 gq 40 (msV q h) from K2.out) u.is).cell 1
    rw [← HQE.out]; exact hh
  refine wp_region_grow (by kernel_rfl) (by kernel_rfl) w2.heap.size ?_
  repeat (first | go_big_quiet_step ((go_at_call 30; exact Gr.same _ (HAD.out _))) | quiet_step ((go_at_call 30; exact Gr.same _ (HAD.out _))))
  refine wpQuiet_nil ?_
  rintro w3 ⟨⟨_, hb3⟩, rfl⟩
  have K3 := Lib.hid (keepB (show Blk w2 gq 40 (msV q h) from K2.out) hb3)
  have U3 := Lib.hid (keepB (show Blk w2 gu 60 (unV nd ep false gm tl pj nx At nt ct) from U2.out) hb3)
  have A3 := Lib.hid (keepB (show Blk w2 ga 40 (msV { a with kd := 10 } hd) from A2.out) hb3)
  have O3 := Lib.hid (OL.below O2.out hb3)
  have Q3 := Lib.hid (Q2.out.below hb3)
  have C3 := Lib.hid (C2.out.trans (Chg.of_pure hb3 _))
  clear u1 u2 q1 hb3 K2 U2 A2 O2 Q2 C2 q0
  have q0 : w3.cell? ⟨gq, 0, none⟩ = some (.int .i64 6) := by
    have hh := (show Blk w3 gq 40 (msV q h) from K3.out).cell 0
    rw [← HKD.out]; exact hh
  have HTA := Lib.hid (take_any U3.out O3.out HTK.out hM (Nat.le_trans HTB.out C3.out.size) A3.out HH2.out Q3.out HDG.out H16.out HC1.out HC2.out HNX.out)
  go_upto_region 21 with (fail)
  clear q0
  have q0 := (show Blk w3 gq 40 (msV q h) from K3.out).cell 0
  have q1 := (show Blk w3 gq 40 (msV q h) from K3.out).cell 1
  have q2 := (show Blk w3 gq 40 (msV q h) from K3.out).cell 2
  have q3 := (show Blk w3 gq 40 (msV q h) from K3.out).cell 3
  have q4 := (show Blk w3 gq 40 (msV q h) from K3.out).cell 4
  have q5 := (show Blk w3 gq 40 (msV q h) from K3.out).cell 5
  have q6 := (show Blk w3 gq 40 (msV q h) from K3.out).cell 6
  have q7 := (show Blk w3 gq 40 (msV q h) from K3.out).cell 7
  have q8 := (show Blk w3 gq 40 (msV q h) from K3.out).cell 8
  have q9 := (show Blk w3 gq 40 (msV q h) from K3.out).cell 9
  have q10 := (show Blk w3 gq 40 (msV q h) from K3.out).cell 10
  have q11 := (show Blk w3 gq 40 (msV q h) from K3.out).cell 11
  have q12 := (show Blk w3 gq 40 (msV q h) from K3.out).cell 12
  have q13 := (show Blk w3 gq 40 (msV q h) from K3.out).cell 13
  go_wp2_with fail
  refine HTA.out.mono ?_; rintro e w4 ⟨rfl, h4u, h4a, h4c⟩
  have HU := Lib.hid h4u
  have HA := Lib.hid h4a
  have HC := Lib.hid (C3.out.trans h4c)
  clear h4u h4a h4c q0 q1 q2 q3 q4 q5 q6 q7 q8 q9 q10 q11 q12 q13
  go_wp2_with fail
  go_ret
  exact ⟨rfl, HU.out, HA.out, HC.out⟩
end
end Go.Proofs.Ytnihaaifkogpbaa
/- What a unit does, in relations. No walk. -/
namespace Go.Proofs.Ytnihaaifkogpbaa
open Go.ChangeShapes Go.WideShapes Go.ChangeAt Go.RowKit
set_option linter.unusedVariables false
abbrev hdZb : Hd := ⟨none, 0, 0, none, 0, 0, none, 0, 0, none, 0, 0⟩
/-- An answer ahead of what is done. -/
abbrev ansY (q : Ms) : Ms := ⟨0, q.ep, q.sq, 0, 0, 0, [], [], [], (0, 0, 0), (0, [])⟩
/-- What a message's copy may be taken of. -/
structure CpOk (w : World) (m : Ms) (h : Hd) : Prop where
  s1 : rpU64.sl w (Lt w) h.A1 h.n1 h.c1 m.ss
  s2 : rpLnk.sl w (Lt w) h.A2 h.n2 h.c2 m.ls
  s3 : rpU8.sl w (Lt w) h.A3 h.n3 h.c3 m.dt
  s4 : rpStp.sl w (Lt w) h.A4 h.n4 h.c4 m.pr.2
  b1 : h.n1 ≤ 1000000
  b2 : h.n2 ≤ 100000
  b3 : h.n3 ≤ 10000000
  b4 : h.n4 ≤ 1000
  l2 : ∀ x ∈ m.ls, x.2.length ≤ 1000000
  l4 : ∀ s ∈ m.pr.2, s.2.2.length ≤ 1000 ∧ ∀ (j : Nat) x, s.2.2[j]? = some x → x.length ≤ 1000
theorem CpOk.plain (w : World) (k : Int) (e s p : Nat) (c t : Int) (se : Nat × Nat × Nat) : CpOk w ⟨k, e, s, p, c, t, [], [], [], se, (0, [])⟩ hdZb :=
  ⟨Rp.sl_nil _ _ _ _ _ (Nat.zero_le _), Rp.sl_nil _ _ _ _ _ (Nat.zero_le _), Rp.sl_nil _ _ _ _ _ (Nat.zero_le _), Rp.sl_nil _ _ _ _ _ (Nat.zero_le _), Nat.zero_le _, Nat.zero_le _, Nat.zero_le _, Nat.zero_le _, (fun x hx => by cases hx), (fun x hx => by cases hx)⟩
/-- A unit, a request, and the answer that is filled in. -/
structure DS (w : World) (gu gm ga tb nd M ep : Nat) (se : Bool) (f : Nat → Option Value) (tl : Nat) (pj : Value) (nx : Nat) (At : Option Addr) (nt ct : Nat) (T : List Lnk) (D : Dom) (q : Ms) (h : Hd) (a : Ms) (hd : Hd) (d : List UInt8) : Prop where
  u : Blk w gu 60 (unV nd ep se (.map (some gm)) tl pj nx At nt ct)
  r : UR w gm tb M f tl pj nx At nt ct T
  a : Blk w ga 40 (msV a hd)
  m : MsIn w D q h
  dg : ∀ k, D k → ¬ (k = gu ∨ k = gm ∨ k = ga)
  dt : ∀ A n c, f q.ps = some (slV 1 A n c) → rpU8.sl w (Tn T8 w) A n c d ∧ n ≤ 1048576
theorem safe3 {w : World} {gu gm ga n : Nat} {cs cs2 : Array Value} {f : Nat → Option Value} (hu : Blk w gu 60 cs) (hm : SMap w gm n f) (ha : Blk w ga 40 cs2) : Safe (fun k => k = gu ∨ k = gm ∨ k = ga) w := fun k hk _ cs' t ht => by
  rcases hk with rfl | rfl | rfl
  · exact .inl (blk_type hu ht)
  · exact absurd ht hm.no
  · exact .inr (blk_type ha ht)
theorem Safe.sub {F G : Dom} {w : World} (h : Safe F w) (hg : ∀ k, G k → F k) : Safe G w := fun k hk => h k (hg k hk)
section
variable {w w' : World} {gu gm ga tb nd M ep tl nx nt ct : Nat} {se : Bool} {f : Nat → Option Value} {pj : Value} {At : Option Addr} {T : List Lnk} {D : Dom} {q a a' : Ms} {h hd hd' : Hd} {d : List UInt8}
theorem DS.below (s : DS w gu gm ga tb nd M ep se f tl pj nx At nt ct T D q h a hd d) (hb : Below w.heap.size w w') : DS w' gu gm ga tb nd M ep se f tl pj nx At nt ct T D q h a hd d :=
  ⟨keepB s.u hb, s.r.below hb, keepB s.a hb, s.m.below hb, s.dg, fun A n c hh => ⟨Rp.sl_more (Rp.sl_below (s.dt A n c hh).1 hb (fun k hk => hk.1)) (fun k hk => Tb.keep (fun k hk => hb.block k hk.1) hb.size hk), (s.dt A n c hh).2⟩⟩
theorem DS.une (s : DS w gu gm ga tb nd M ep se f tl pj nx At nt ct T D q h a hd d) : gu ≠ ga := fun e => by have h1 := s.u; have h2 := s.a; subst e; exact absurd (blk_type h1 h2) (by decide)
theorem DS.unm (s : DS w gu gm ga tb nd M ep se f tl pj nx At nt ct T D q h a hd d) : gu ≠ gm := fun e => s.r.mp.no (by rw [← e]; exact s.u)
theorem DS.anm (s : DS w gu gm ga tb nd M ep se f tl pj nx At nt ct T D q h a hd d) : ga ≠ gm := fun e => s.r.mp.no (by rw [← e]; exact s.a)
theorem DS.safe (s : DS w gu gm ga tb nd M ep se f tl pj nx At nt ct T D q h a hd d) : Safe (fun k => k = gu ∨ k = gm ∨ k = ga) w := safe3 s.u s.r.mp s.a
theorem DS.dtchg {F : Dom} (s : DS w gu gm ga tb nd M ep se f tl pj nx At nt ct T D q h a hd d) (hF : ∀ k, F k → k = gu ∨ k = gm ∨ k = ga) (hc : Chg F w w') : ∀ A n c, f q.ps = some (slV 1 A n c) → rpU8.sl w' (Tn T8 w') A n c d ∧ n ≤ 1048576 := by
  have hkk := (s.safe.sub hF).keep (TS := T8) hc (by unfold T8; decide) (by unfold T8; decide)
  exact fun A n c hh => ⟨Rp.sl_more (Rp.sl_keep (s.dt A n c hh).1 hkk) (fun k hk => Tb.keep hkk hc.size hk), (s.dt A n c hh).2⟩
/-- The answer alone turned. -/
theorem DS.ans (s : DS w gu gm ga tb nd M ep se f tl pj nx At nt ct T D q h a hd d) (hc : Chg (fun k => k = ga) w w') (ha : Blk w' ga 40 (msV a' hd')) : DS w' gu gm ga tb nd M ep se f tl pj nx At nt ct T D q h a' hd' d :=
  ⟨chB s.u hc s.une, s.r.chg (s.safe.sub (fun k hk => .inr (.inr hk))) hc (fun e => s.anm e.symm), ha, s.m.chg hc (fun k hk e => s.dg k hk (.inr (.inr e))), s.dg, s.dtchg (fun k hk => .inr (.inr hk)) hc⟩
theorem DS.ui (s : DS w gu gm ga tb nd M ep se f tl pj nx At nt ct T D q h a hd d) (he : EOk ep) : UI w gu gm tb nd (M + 1) ep se f :=
  (show UI w gu gm tb nd M ep se f from ⟨he, tl, pj, nx, At, nt, ct, T, s.u, s.r⟩).mono (Nat.le_succ _)
theorem UR.put {x : Nat} {v : Value} {F : Dom} (hr : UR w gm tb M f tl pj nx At nt ct T) (hs : Safe F w) (hc : Chg F w w') (hm : SMap w' gm (M + 1) (fset f x v)) (hv : SlOk w' v) (hx : x < 4611686018427387904) : UR w' gm tb (M + 1) (fset f x v) (max tl (x + 1)) pj nx At nt ct T :=
  ⟨hs.olk hc hr.o, ⟨Nat.le_trans hr.tk.1 (by omega), hr.tk.2⟩, hm, (fun y u hy => by
    unfold fset at hy
    split at hy
    · injection hy with hy; subst hy; exact hv
    · exact (hr.so.chg hs hc) y u hy), hr.pj.chg hs hc, Nat.le_trans hr.tb1 hc.size, by have := hr.tl1; omega, Nat.le_trans hr.nx1 (by omega)⟩
/-- What follows for the slots, for a code and the answer's kind, state, data. -/
structure DR (w' : World) (q : Ms) (ep : Nat) (se : Bool) (f : Nat → Option Value) (d : List UInt8) (code : Int) (am : Ms) (f' : Nat → Option Value) : Prop where
  keep : ∀ p st A n c, f p = some (slV st A n c) → st = 1 ∨ st = 3 → (q.kd = 4 ∧ q.ps = p ∧ code = 0 ∧ f' p = some (slV 3 none 0 0)) ∨ (f' p = some (slV st A n c) ∧ ¬ (q.kd = 4 ∧ q.ps = p ∧ code = 0))
  two : q.kd = 2 → ∀ st A n c, f q.ps = some (slV st A n c) → st = 1 ∨ st = 3 → code ≠ 0
  dn : q.kd = 2 ∨ q.kd = 4 → code = 0 → am.kd = 10
  wr : q.kd = 2 → q.ep = ep → se = false → f q.ps = none → code = 0 ∧ ∃ A n c, f' q.ps = some (slV 1 A n c) ∧ rpU8.sl w' (Tn T8 w') A n c q.dt
  rd : q.kd = 1 → q.ep = ep → (se = true → code = 18) ∧ (se = false → ∀ st A n c, f q.ps = some (slV st A n c) → st = 1 ∨ st = 3 → code = 0 ∧ am.kd = 9 ∧ am.st = st ∧ (st = 1 → am.dt = d))
/-- Where the slots stay. -/
theorem DR.stay {code : Int} {am : Ms} (h1 : q.kd = 4 → code ≠ 0) (h2 : q.kd = 2 → code ≠ 0) (h3 : q.kd = 2 → q.ep = ep → se = false → f q.ps = none → False) (h4 : q.kd = 1 → q.ep = ep → (se = true → code = 18) ∧ (se = false → ∀ st A n c, f q.ps = some (slV st A n c) → st = 1 ∨ st = 3 → code = 0 ∧ am.kd = 9 ∧ am.st = st ∧ (st = 1 → am.dt = d))) : DR w' q ep se f d code am f :=
  ⟨fun p st A n c hp hst => .inr ⟨hp, fun ⟨a, _, b⟩ => h1 a b⟩, fun a _ _ _ _ _ _ => h2 a, fun a b => (a.elim (fun a => absurd b (h2 a)) (fun a => absurd b (h1 a))), fun a b c e => (h3 a b c e).elim, h4⟩
/-- What does gives. -/
def DoesIs (w : World) (gu gm ga tb nd M ep : Nat) (se : Bool) (f : Nat → Option Value) (q : Ms) (d : List UInt8) (e : Ending) (w' : World) : Prop :=
  ∃ (code : Int) (am : Ms) (ah : Hd) (ep' : Nat) (se' : Bool) (f' : Nat → Option Value), e = .returned (.int .i64 code) ∧ (0 ≤ code ∧ code ≤ 18) ∧ (code = 0 → Blk w' ga 40 (msV am ah) ∧ CpOk w' am ah) ∧ UI w' gu gm tb nd (M + 1) ep' se' f' ∧ Chg (fun k => k = gu ∨ k = gm ∨ k = ga) w w' ∧ DR w' q ep se f d code am f'
end
theorem adm_bd (ep : Nat) (se : Bool) (e : Nat) : 0 ≤ admC ep se e ∧ admC ep se e ≤ 18 := by
  unfold admC; split
  · exact ⟨by decide, by decide⟩
  · split <;> exact ⟨by decide, by decide⟩
theorem adm_own (ep : Nat) (se : Bool) : (se = true → admC ep se ep = 18) ∧ (se = false → admC ep se ep = 0) := by
  unfold admC
  rw [if_neg (Nat.lt_irrefl _)]
  refine ⟨fun h => if_pos (.inr h), fun h => if_neg ?_⟩
  rintro (h1 | h1)
  · exact Nat.lt_irrefl _ h1
  · rw [h] at h1; cases h1
section
variable {w' : World} {ep : Nat} {se : Bool} {f : Nat → Option Value} {q : Ms} {d : List UInt8} {am : Ms} {z st : Int}
theorem DR.adm (hz : z ≠ 0) (hz2 : z = admC ep se q.ep) : DR w' q ep se f d z am f :=
  DR.stay (fun _ => hz) (fun _ => hz) (fun _ e1 e2 _ => hz (by rw [hz2, e1]; exact (adm_own ep se).2 e2)) (fun _ e1 => ⟨fun e2 => by rw [hz2, e1]; exact (adm_own ep se).1 e2, fun e2 => absurd (by rw [hz2, e1]; exact (adm_own ep se).2 e2) hz⟩)
theorem SlotsOk.stat {w : World} (h : SlotsOk w f) (x : Nat) : ∃ st, St f x st ∧ ((f x = none ∧ st = 4) ∨ ∃ A n c, f x = some (slV st A n c) ∧ 1 ≤ st ∧ st ≤ 3) := by
  cases hf : f x with
  | none => exact ⟨4, .inl ⟨hf, rfl⟩, .inl ⟨rfl, rfl⟩⟩
  | some v =>
    obtain ⟨st, A, n, c, d, rfl, h1, h2, _⟩ := h x v hf
    exact ⟨st, .inr ⟨A, n, c, hf⟩, .inr ⟨A, n, c, rfl, h1, h2⟩⟩
theorem slV_st {st st' : Int} {A A' : Option Addr} {n n' c c' : Nat} (h : slV st A n c = slV st' A' n' c') : st = st' := by
  injection h with h
  have h2 : Value.int .i64 st = .int .i64 st' := by have := congrArg (fun a : Array Value => a[0]?) h; simpa using this
  injection h2
theorem fset_self (f : Nat → Option Value) (x : Nat) (v : Value) : fset f x v x = some v := by unfold fset; rw [if_pos rfl]
theorem fset_ne {f : Nat → Option Value} {x y : Nat} (v : Value) (h : y ≠ x) : fset f x v y = f y := by unfold fset; rw [if_neg h]
theorem DR.fill (hk : q.kd = 5) (hsc : (f q.ps = none ∧ st = 4) ∨ ∃ A n c, f q.ps = some (slV st A n c) ∧ 1 ≤ st ∧ st ≤ 3) (hin : st = 4 ∨ st = 2) : DR w' q ep se f d 0 am (fset f q.ps (slV 2 none 0 0)) := by
  refine ⟨fun p st' A n c hp hst => .inr ⟨?_, fun e => by rw [hk] at e; exact absurd e.1 (by decide)⟩, fun e => by rw [hk] at e; exact absurd e (by decide), fun e => by rw [hk] at e; exact e.elim (fun e => absurd e (by decide)) (fun e => absurd e (by decide)), fun e => by rw [hk] at e; exact absurd e (by decide), fun e => by rw [hk] at e; exact absurd e (by decide)⟩
  have hne : p ≠ q.ps := fun e => by
    subst e
    rcases hsc with ⟨h1, _⟩ | ⟨A', n', c', h1, _, _⟩
    · rw [hp] at h1; cases h1
    · rw [hp] at h1
      injection h1 with h1
      have := slV_st h1
      omega
  rw [fset_ne _ hne]; exact hp
theorem DR.trim (hk : q.kd = 4) (ha : am.kd = 10) : DR w' q ep se f d 0 am (fset f q.ps (slV 3 none 0 0)) := by
  refine ⟨fun p st' A n c hp hst => ?_, fun e => by rw [hk] at e; exact absurd e (by decide), fun _ _ => ha, fun e => by rw [hk] at e; exact absurd e (by decide), fun e => by rw [hk] at e; exact absurd e (by decide)⟩
  by_cases e : p = q.ps
  · subst e
    exact .inl ⟨hk, rfl, rfl, fset_self _ _ _⟩
  · exact .inr ⟨by rw [fset_ne _ e]; exact hp, fun h => e h.2.1.symm⟩
theorem DR.write {A : Option Addr} {n c : Nat} (hk : q.kd = 2) (ha : am.kd = 10) (hf : f q.ps = none) (hrd : rpU8.sl w' (Tn T8 w') A n c q.dt) : DR w' q ep se f d 0 am (fset f q.ps (slV 1 A n c)) := by
  refine ⟨fun p st' A n c hp hst => .inr ⟨?_, fun e => by rw [hk] at e; exact absurd e.1 (by decide)⟩, fun _ st A n c h => (by rw [hf] at h; cases h), fun _ _ => ha, fun _ _ _ _ => ⟨rfl, A, n, c, fset_self _ _ _, hrd⟩, fun e => by rw [hk] at e; exact absurd e (by decide)⟩
  have hne : p ≠ q.ps := fun e => by subst e; rw [hf] at hp; cases hp
  rw [fset_ne _ hne]; exact hp
end
/-- What change gives, for a Write. -/
structure WD (wc : World) (gu gm ga tb nd M ep : Nat) (se : Bool) (f : Nat → Option Value) (q : Ms) (d : List UInt8) (a : Ms) (hd : Hd) (code : Int) (w' : World) : Prop where
  bd : 0 ≤ code ∧ code ≤ 18
  ma : Blk w' ga 40 (msV a hd)
  ui : ∃ f', UI w' gu gm tb nd (M + 1) ep se f' ∧ DR w' q ep se f d code a f'
  chg : Chg (fun k => k = gu ∨ k = gm) wc w'
theorem changeW_any {wc : World} {gu gm ga tb nd M ep tl nx nt ct B gf n c : Nat} {se : Bool} {f : Nat → Option Value} {pj : Value} {At A : Option Addr} {T : List Lnk} {D : Dom} {q a : Ms} {h hd : Hd} {d : List UInt8} {st : Int}
    (S : DS wc gu gm ga tb nd M ep se f tl pj nx At nt ct T D q h a hd d) (he : EOk ep) (hk : q.kd = 2) (ha : a.kd = 10) (hst : St f q.ps st) (hsc : (f q.ps = none ∧ st = 4) ∨ ∃ A n c, f q.ps = some (slV st A n c) ∧ 1 ≤ st ∧ st ≤ 3) (hps : q.ps < 4611686018427387904) (hM : M ≤ 1000) (hf : Blk wc gf 3 #[.int .i64 4])
    (hrow : wc.ownsRow B 5 1 (.slice A n c) n (q.dt.map bv)) (hB : gu < B) (hB2 : gm < B) (hn : n ≤ 1048576) :
    Calls Try.prog 32 #[.pointer (some ⟨gu, 0, none⟩), .agg (msV q h), .agg #[.int .i64 1, .slice A n c], .slice (some ⟨gf, 0, none⟩) 1 1] wc fun e w' => ∃ code : Int, e = .returned (.int .i64 code) ∧ WD wc gu gm ga tb nd M ep se f q d a hd code w' := by
  refine (change_any (L := [4]) (gf := gf) (cf := 1) (stN := 1) (A := A) (m := n) (c := c) (h := h) S.u S.r.mp hps hst (show M < maxLen by unfold maxLen; omega) (show Blk wc gf 3 #[.int .i64 4] from hf) (by decide)).mono ?_
  rintro e w' (⟨rfl, hin, hu, hm, hc⟩ | ⟨rfl, hin, hb⟩)
  · have hrw := own_t8 (chO hrow hc (fun k hk e => by have h1 := (hrow.lt k hk).1; rcases e with e | e <;> omega))
    have h4 : f q.ps = none := by
      have h4 : st = 4 := by simpa using hin
      rcases hsc with ⟨h1, _⟩ | ⟨_, _, _, _, _, h3⟩
      · exact h1
      · omega
    refine ⟨0, rfl, ⟨by decide, by decide⟩, chB S.a hc (fun e => by rcases e with e | e; exact S.une e.symm; exact S.anm e), ⟨fset f q.ps (slV 1 A n c), ⟨he, _, pj, nx, At, nt, ct, T, hu, S.r.put (S.safe.sub (fun k hk => by rcases hk with hk | hk; exact .inl hk; exact .inr (.inl hk))) hc hm ⟨1, A, n, c, q.dt, rfl, by decide, by decide, hn, hrw⟩ hps⟩, DR.write hk ha h4 hrw⟩, hc⟩
  · refine ⟨18, rfl, ⟨by decide, by decide⟩, keepB S.a hb, ⟨f, (S.below hb).ui he, DR.stay (fun _ => by decide) (fun _ => by decide) (fun _ _ _ h0 => ?_) (fun e => by rw [hk] at e; cases e)⟩, Chg.of_pure hb _⟩
    rcases hsc with ⟨_, h2⟩ | ⟨_, _, _, h1, _, _⟩
    · exact hin (by rw [h2]; decide)
    · rw [h0] at h1; cases h1
theorem msAll {w : World} {g : Nat} {q : Ms} {h : Hd} (hb : Blk w g 40 (msV q h)) : w.cell? ⟨g, 0, none⟩ = some (.int .i64 q.kd) ∧ w.cell? ⟨g, 1, none⟩ = some (.int .u64 (q.ep : Int)) ∧ w.cell? ⟨g, 2, none⟩ = some (.int .u64 (q.sq : Int)) ∧ w.cell? ⟨g, 3, none⟩ = some (.int .u64 (q.ps : Int)) ∧ w.cell? ⟨g, 4, none⟩ = some (.int .i64 q.ct) ∧ w.cell? ⟨g, 5, none⟩ = some (.int .i64 q.st) ∧ w.cell? ⟨g, 6, none⟩ = some (.slice h.A1 h.n1 h.c1) ∧ w.cell? ⟨g, 7, none⟩ = some (.slice h.A2 h.n2 h.c2) ∧ w.cell? ⟨g, 8, none⟩ = some (.slice h.A3 h.n3 h.c3) ∧ w.cell? ⟨g, 9, none⟩ = some (.int .u64 (q.se.1 : Int)) ∧ w.cell? ⟨g, 10, none⟩ = some (.int .u64 (q.se.2.1 : Int)) ∧ w.cell? ⟨g, 11, none⟩ = some (.int .u64 (q.se.2.2 : Int)) ∧ w.cell? ⟨g, 12, none⟩ = some (.int .u64 (q.pr.1 : Int)) ∧ w.cell? ⟨g, 13, none⟩ = some (.slice h.A4 h.n4 h.c4) := by
  refine ⟨hb.cell 0, hb.cell 1, hb.cell 2, hb.cell 3, hb.cell 4, hb.cell 5, hb.cell 6, hb.cell 7, hb.cell 8, hb.cell 9, hb.cell 10, hb.cell 11, hb.cell 12, hb.cell 13⟩
end Go.Proofs.Ytnihaaifkogpbaa
/- seal, install, show of a unit. -/
namespace Go.Proofs.Ytnihaaifkogpbaa
open Go.ChangeShapes Go.WideShapes Go.ChangeAt Go.RowKit
set_option linter.unusedVariables false
theorem OS.typed {w : World} {base n c : Nat} {A : Option Addr} {l : List Stp} (h : OS w base A n c l) : rpStp.sl w (Tn TSP w) A n c l :=
  Rp.sl_more (OL.slT h) (fun k hk => ⟨hk.1, by
    rcases hk.2 with h1 | ⟨cs, t, h1, h2⟩
    · exact .inl h1
    · rcases h2 with h2 | ⟨h2, _⟩
      · exact .inr ⟨cs, t, h1, .inl h2⟩
      · exact .inr ⟨cs, t, h1, .inr h2⟩⟩)
section
variable {w : World} {gu gm ga nd ep tl nx nt ct n : Nat} {se : Bool} {pj : Value} {At : Option Addr} {f : Nat → Option Value} {D : Dom} {q a : Ms} {h hd : Hd} {gmv : Value}
set_option maxRecDepth 100000 in
set_option maxHeartbeats 4000000 in
theorem seal_any (hu : Blk w gu 60 (unV nd ep se gmv tl pj nx At nt ct)) (hga : Blk w ga 40 (msV a hd)) :
    Calls Try.prog 27 #[.pointer (some ⟨gu, 0, none⟩), .agg (msV q h), .pointer (some ⟨ga, 0, none⟩)] w fun e w' =>
      e = .returned (.int .i64 18) ∧ q.ep < ep ∧ Below w.heap.size w w' ∨
      e = .returned (.int .i64 0) ∧ ¬ q.ep < ep ∧ Blk w' gu 60 (unV nd q.ep true gmv tl pj nx At nt ct) ∧ Blk w' ga 40 (msV { a with kd := 11, se := (q.ep, nd, tl) } hd) ∧ Chg (fun k => k = gu ∨ k = ga) w w' := by
  have hb1 := below1 w (.cells (msV q h) 40)
  have HB1 := Lib.hid hb1
  have K1 := Lib.hid (blk11 w 40 (msV q h))
  have U1 := Lib.hid (keepB hu hb1)
  have A1 := Lib.hid (keepB hga hb1)
  have HAL := Lib.hid hga.lt
  have HUL := Lib.hid hu.lt
  have HNE : Hid (gu ≠ ga) := fun e => by subst e; exact absurd (blk_type hu hga) (by decide)
  clear hu hga hb1
  go_enter Try.func27, Try.ntmps27
  go_upto_region 1 with (fail)
  obtain ⟨gq, hgq⟩ : ∃ gq, gq = w.heap.size := ⟨_, rfl⟩
  rw [← hgq] at K1 ⊢
  have HGQ := Lib.hid hgq
  clear hgq
  generalize World.alloc w _ = w1 at *
  have q1 : ∀ u : Gr w1.heap.size w1, u.val.cell? ⟨gq, 1, none⟩ = some (.int .u64 (q.ep : Int)) := fun u => (keepB (show Blk w1 gq 40 (msV q h) from K1.out) u.is).cell 1
  have u1 : ∀ u : Gr w1.heap.size w1, u.val.cell? ⟨gu, 1, none⟩ = some (.int .u64 (ep : Int)) := fun u => (keepB (show Blk w1 gu 60 (unV nd ep se gmv tl pj nx At nt ct) from U1.out) u.is).cell 1
  by_cases h1 : q.ep < ep
  case pos =>
    have hd1 : decide ((ep : Int) > (q.ep : Int)) = true := by simp; omega
    have hd1b : decide ((q.ep : Int) < (ep : Int)) = true := by simp; omega
    have hd1c : decide (q.ep < ep) = true := by simp; omega
    have H1 := Lib.hid h1
    clear h1
    refine wp_region_grow (by kernel_rfl) (by kernel_rfl) w1.heap.size ?_
    repeat (first | go_big_quiet_step (fail) | quiet_step (fail))
    refine wpQuiet_nil ?_
    rintro w2 ⟨⟨_, hb2⟩, rfl⟩
    have HB2 := Lib.hid (stepB HB1.out hb2)
    clear hb2 q1 u1
    go_wp2_with fail
    go_ret
    exact .inl ⟨rfl, H1.out, HB2.out⟩
  case neg =>
    have hd1 : decide ((ep : Int) > (q.ep : Int)) = false := by simp; omega
    have hd1b : decide ((q.ep : Int) < (ep : Int)) = false := by simp; omega
    have hd1c : decide (q.ep < ep) = false := by simp; omega
    have H1 := Lib.hid h1
    clear h1
    refine wp_region_grow (by kernel_rfl) (by kernel_rfl) w1.heap.size ?_
    repeat (first | go_big_quiet_step (fail) | quiet_step (fail))
    refine wpQuiet_nil ?_
    rintro w2 ⟨⟨_, hb2⟩, rfl⟩
    have HB2 := Lib.hid (stepB HB1.out hb2)
    have K2 := Lib.hid (keepB (show Blk w1 gq 40 (msV q h) from K1.out) hb2)
    have U2 := Lib.hid (keepB (show Blk w1 gu 60 (unV nd ep se gmv tl pj nx At nt ct) from U1.out) hb2)
    have A2 := Lib.hid (keepB (show Blk w1 ga 40 (msV a hd) from A1.out) hb2)
    clear hb2 q1 u1 hd1 hd1b hd1c K1 U1 A1
    have q1 := (show Blk w2 gq 40 (msV q h) from K2.out).cell 1
    have u1 := (show Blk w2 gu 60 (unV nd ep se gmv tl pj nx At nt ct) from U2.out).cell 1
    have uf1 := (show Blk w2 gu 60 (unV nd ep se gmv tl pj nx At nt ct) from U2.out).frozen 1
    have U21 : Blk (w2.setCell ⟨gu, 1, none⟩ (.int .u64 (q.ep : Int))) gu 60 (unV nd q.ep se gmv tl pj nx At nt ct) := (show Blk w2 gu 60 (unV nd ep se gmv tl pj nx At nt ct) from U2.out).put 1 _
    have u2 := U21.cell 2
    have uf2 := U21.frozen 2
    have U3 : Hid (Blk ((w2.setCell ⟨gu, 1, none⟩ (.int .u64 (q.ep : Int))).setCell ⟨gu, 2, none⟩ (.bool true)) gu 60 (unV nd q.ep true gmv tl pj nx At nt ct)) := U21.put 2 _
    have c23 : Chg (fun k => k = gu) w2 ((w2.setCell ⟨gu, 1, none⟩ (.int .u64 (q.ep : Int))).setCell ⟨gu, 2, none⟩ (.bool true)) := ((Chg.refl (fun k => k = gu) w2).setCell (p := ⟨gu, 1, none⟩) (.inl rfl) _).setCell (p := ⟨gu, 2, none⟩) (.inl rfl) _
    have K3 := Lib.hid (chB (show Blk w2 gq 40 (msV q h) from K2.out) c23 (by have := HGQ.out; have := HUL.out; show ¬ gq = gu; omega))
    have A3 := Lib.hid (chB (show Blk w2 ga 40 (msV a hd) from A2.out) c23 (fun e => HNE.out e.symm))
    have C3 := Lib.hid ((Chg.of_pure HB2.out (fun k => k = gu ∨ k = ga)).trans (c23.more (fun k _ hk => .inl hk)))
    clear c23 U21
    go_upto_region 4 with (fail)
    clear q1 u1 uf1 u2 uf2 K2 U2 A2 HB2
    generalize World.setCell (World.setCell w2 _ _) _ _ = w3 at *
    have hbe : Below w3.heap.size w3 w3.drew := (Below.refl _ w3).drew
    have Kd := keepB (show Blk w3 gq 40 (msV q h) from K3.out) hbe
    have Ud := keepB (show Blk w3 gu 60 (unV nd q.ep true gmv tl pj nx At nt ct) from U3.out) hbe
    have Ad := keepB (show Blk w3 ga 40 (msV a hd) from A3.out) hbe
    have HUd := Lib.hid Ud
    have q1 := Kd.cell 1
    have u0 := Ud.cell 0
    have u4 := Ud.cell 4
    have a0 := Ad.cell 0
    have af0 := Ad.frozen 0
    have Ad1 : Blk (w3.drew.setCell ⟨ga, 0, none⟩ (.int .i64 11)) ga 40 (msV { a with kd := 11 } hd) := Ad.put 0 _
    have d9 := Ad.cell 9
    have d10 := Ad.cell 10
    have d11 := Ad.cell 11
    have df9 := Ad.frozen 9
    have df10 := Ad.frozen 10
    have df11 := Ad.frozen 11
    have a9 := Ad1.cell 9
    have a10 := Ad1.cell 10
    have a11 := Ad1.cell 11
    have af9 := Ad1.frozen 9
    have af10 := Ad1.frozen 10
    have af11 := Ad1.frozen 11
    have HAd1 := Lib.hid Ad1
    have e9 := (show Blk w3 ga 40 (msV a hd) from A3.out).cell 9
    have e10 := (show Blk w3 ga 40 (msV a hd) from A3.out).cell 10
    have e11 := (show Blk w3 ga 40 (msV a hd) from A3.out).cell 11
    have ef9 := (show Blk w3 ga 40 (msV a hd) from A3.out).frozen 9
    have ef10 := (show Blk w3 ga 40 (msV a hd) from A3.out).frozen 10
    have ef11 := (show Blk w3 ga 40 (msV a hd) from A3.out).frozen 11
    have e0 := (show Blk w3 ga 40 (msV a hd) from A3.out).cell 0
    have ef0 := (show Blk w3 ga 40 (msV a hd) from A3.out).frozen 0
    have cs : Chg (fun k => k = ga) w3 ((w3.setCell ⟨ga, 0, none⟩ (.int .i64 11)).drew) := ((Chg.refl (fun k => k = ga) w3).setCell (p := ⟨ga, 0, none⟩) (.inl rfl) _).drew
    have b1 := (chB (show Blk w3 gq 40 (msV q h) from K3.out) cs (by have := HGQ.out; have := HAL.out; show ¬ gq = ga; omega)).cell 1
    have b0 := (chB (show Blk w3 gu 60 (unV nd q.ep true gmv tl pj nx At nt ct) from U3.out) cs HNE.out).cell 0
    have b4 := (chB (show Blk w3 gu 60 (unV nd q.ep true gmv tl pj nx At nt ct) from U3.out) cs HNE.out).cell 4
    clear Kd Ud Ad Ad1 hbe cs
    go_region_with (fail)
    all_goals
      have K9 : Hid (Blk ((((w3.drew.setCell ⟨ga, 0, none⟩ (.int .i64 11)).setCell ⟨ga, 9, none⟩ (.int .u64 (q.ep : Int))).setCell ⟨ga, 10, none⟩ (.int .u64 (nd : Int))).setCell ⟨ga, 11, none⟩ (.int .u64 (tl : Int))) ga 40 (msV { a with kd := 11, se := (q.ep, nd, tl) } hd)) := ((HAd1.out.put 9 (.int .u64 (q.ep : Int))).put 10 (.int .u64 (nd : Int))).put 11 (.int .u64 (tl : Int))
      have c39 : Chg (fun k => k = ga) w3 ((((w3.drew.setCell ⟨ga, 0, none⟩ (.int .i64 11)).setCell ⟨ga, 9, none⟩ (.int .u64 (q.ep : Int))).setCell ⟨ga, 10, none⟩ (.int .u64 (nd : Int))).setCell ⟨ga, 11, none⟩ (.int .u64 (tl : Int))) := ((((Chg.refl (fun k => k = ga) w3).drew.setCell (p := ⟨ga, 0, none⟩) (.inl rfl) _).setCell (p := ⟨ga, 9, none⟩) (.inl rfl) _).setCell (p := ⟨ga, 10, none⟩) (.inl rfl) _).setCell (p := ⟨ga, 11, none⟩) (.inl rfl) _
      have U9 := Lib.hid (chB (show Blk w3 gu 60 _ from U3.out) c39 HNE.out)
      have C9 := Lib.hid (C3.out.trans (c39.more (fun k _ hk => .inr hk)))
      clear c39
      go_wp2_with fail
      go_ret
      exact .inr ⟨rfl, H1.out, U9.out, K9.out, C9.out⟩
set_option maxRecDepth 100000 in
set_option maxHeartbeats 4000000 in
theorem show_any (hu : Blk w gu 60 (unV nd ep se gmv tl pj nx At nt ct)) (hga : Blk w ga 40 (msV a hd)) (hp : PjOk w pj) :
    Calls Try.prog 29 #[.pointer (some ⟨gu, 0, none⟩), .pointer (some ⟨ga, 0, none⟩)] w fun e w' =>
      e = .returned (.int .i64 16) ∧ Below w.heap.size w w' ∨
      e = .returned (.int .i64 0) ∧ (∃ pe A n c l, Blk w' ga 40 (msV { a with kd := 13, pr := (pe, l) } { hd with A4 := A, n4 := n, c4 := c }) ∧ rpStp.sl w' (Lt w') A n c l ∧ n ≤ 1000 ∧ ∀ s ∈ l, s.2.2.length ≤ 1000 ∧ ∀ (j : Nat) x, s.2.2[j]? = some x → x.length ≤ 1000) ∧ Chg (fun k => k = ga) w w' := by
  have u5 := hu.cell 5
  have A1 := Lib.hid hga
  have HAL := Lib.hid hga.lt
  rcases hp with rfl | ⟨gp, pe, A, n, c, l, rfl, hgp, hpe, hsl, hn, hbd⟩
  · clear hu hga
    go_enter Try.func29, Try.ntmps29
    go_wp2_with fail
    go_ret
    exact .inl ⟨rfl, Below.refl _ _⟩
  · have HBD := Lib.hid hbd
    have HPC := Lib.hid (prcopy_any (e := pe) hsl (fun k hk => hk.1) hn hbd)
    have p0 := hgp.cell 0
    have p1 := hgp.cell 1
    clear hu hga hbd hgp hsl
    go_enter Try.func29, Try.ntmps29
    go_upto_region 4 with
      (first
       | (go_at_call 36
          refine HPC.out.mono ?_
          rintro e w2 ⟨A2, c2, rfl, ho2, hb2⟩
          have HB2 := Lib.hid hb2
          have HO2 := Lib.hid ho2
          have A2b := keepB A1.out hb2
          have a0 := A2b.cell 0
          have af0 := A2b.frozen 0
          have A2c : Blk (w2.setCell ⟨ga, 0, none⟩ (.int .i64 13)) ga 40 (msV { a with kd := 13 } hd) := A2b.put 0 _
          have d12 := A2b.cell 12
          have d13 := A2b.cell 13
          have df12 := A2b.frozen 12
          have df13 := A2b.frozen 13
          have a12 := A2c.cell 12
          have a13 := A2c.cell 13
          have af12 := A2c.frozen 12
          have af13 := A2c.frozen 13
          have HA2b := Lib.hid A2b
          have HA2c := Lib.hid A2c
          clear hb2 ho2 A2b A2c))
    have K4 : Hid (Blk (((w2.setCell ⟨ga, 0, none⟩ (.int .i64 13)).setCell ⟨ga, 12, none⟩ (.int .u64 (pe : Int))).setCell ⟨ga, 13, none⟩ (.slice A2 n c2)) ga 40 (msV { a with kd := 13, pr := (pe, l) } { hd with A4 := A2, n4 := n, c4 := c2 })) := (HA2c.out.put 12 (.int .u64 (pe : Int))).put 13 (.slice A2 n c2)
    have c24 : Chg (fun k => k = ga) w2 (((w2.setCell ⟨ga, 0, none⟩ (.int .i64 13)).setCell ⟨ga, 12, none⟩ (.int .u64 (pe : Int))).setCell ⟨ga, 13, none⟩ (.slice A2 n c2)) := (((Chg.refl (fun k => k = ga) w2).setCell (p := ⟨ga, 0, none⟩) (.inl rfl) _).setCell (p := ⟨ga, 12, none⟩) (.inl rfl) _).setCell (p := ⟨ga, 13, none⟩) (.inl rfl) _
    have C4 := Lib.hid ((Chg.of_pure HB2.out (fun k => k = ga)).trans c24)
    have O4 := Lib.hid (OL.chg HO2.out c24 (fun k hk _ => ⟨fun h => h, fun cs' t' h' => by
      subst hk
      obtain rfl := blk_type HA2b.out h'
      exact ⟨by unfold TSs; decide, by decide⟩⟩))
    clear c24 a0 af0 a12 a13 af12 af13 d12 d13 df12 df13
    go_wp2_with fail
    go_ret
    exact .inr ⟨rfl, ⟨pe, A2, n, c2, l, K4.out, OL.sl O4.out, hn, HBD.out⟩, C4.out⟩
set_option maxRecDepth 100000 in
set_option maxHeartbeats 4000000 in
theorem install_any (hu : Blk w gu 60 (unV nd ep se gmv tl pj nx At nt ct)) (hq : MsIn w D q h) (hn4 : h.n4 ≤ 1000) (hbd : ∀ s ∈ q.pr.2, s.2.2.length ≤ 1000 ∧ ∀ (j : Nat) x, s.2.2[j]? = some x → x.length ≤ 1000) :
    Calls Try.prog 28 #[.pointer (some ⟨gu, 0, none⟩), .agg (msV q h)] w fun e w' =>
      (∃ code : Int, e = .returned (.int .i64 code) ∧ (code = 3 ∨ code = 18) ∧ Below w.heap.size w w') ∨
      e = .returned (.int .i64 0) ∧ (∃ pj', Blk w' gu 60 (unV nd q.ep false gmv tl pj' nx At nt ct) ∧ PjOk w' pj') ∧ Chg (fun k => k = gu) w w' := by
  have hb1 := below1 w (.cells (msV q h) 40)
  have HB1 := Lib.hid hb1
  have K1 := Lib.hid (blk11 w 40 (msV q h))
  have U1 := Lib.hid (keepB hu hb1)
  have S1 := Lib.hid (keepS (show Sl rpStp w D h.A4 h.n4 h.c4 q.pr.2 from ⟨hq.pr, hq.dom⟩) hb1)
  have HUL := Lib.hid hu.lt
  have HBD := Lib.hid hbd
  have HPE := Lib.hid hq.pe1
  have HSZ : Hid ((Try.prog.info? 38).map (·.size) = some 2) := by show _ = _; kernel_rfl
  clear hu hq hb1 hbd
  go_enter Try.func28, Try.ntmps28
  go_upto_region 1 with (fail)
  obtain ⟨gq, hgq⟩ : ∃ gq, gq = w.heap.size := ⟨_, rfl⟩
  rw [← hgq] at K1 ⊢
  have HGQ := Lib.hid hgq
  clear hgq
  generalize World.alloc w _ = w1 at *
  have q1 := (show Blk w1 gq 40 (msV q h) from K1.out).cell 1
  have q12 := (show Blk w1 gq 40 (msV q h) from K1.out).cell 12
  by_cases hpq : q.pr.1 = q.ep
  case neg =>
    have hd1 : ((q.pr.1 : Int) != (q.ep : Int)) = true := by simp; omega
    have hd1b : (q.pr.1 != q.ep) = true := by simpa using hpq
    have hd1c : ((q.pr.1 : Int) == (q.ep : Int)) = false := by simp; omega
    clear hpq
    go_wp2_with fail
    go_ret
    exact .inl ⟨3, rfl, .inl rfl, HB1.out⟩
  case pos =>
    have hd1 : ((q.pr.1 : Int) != (q.ep : Int)) = false := by simp; omega
    have hd1b : (q.pr.1 != q.ep) = false := by simpa using hpq
    clear hpq
    have Q1 : ∀ u : Gr w1.heap.size w1, u.val.cell? ⟨gq, 1, none⟩ = some (.int .u64 (q.ep : Int)) := fun u => (keepB (show Blk w1 gq 40 (msV q h) from K1.out) u.is).cell 1
    have u1 : ∀ u : Gr w1.heap.size w1, u.val.cell? ⟨gu, 1, none⟩ = some (.int .u64 (ep : Int)) := fun u => (keepB (show Blk w1 gu 60 (unV nd ep se gmv tl pj nx At nt ct) from U1.out) u.is).cell 1
    have u2 : ∀ u : Gr w1.heap.size w1, u.val.cell? ⟨gu, 2, none⟩ = some (.bool se) := fun u => (keepB (show Blk w1 gu 60 (unV nd ep se gmv tl pj nx At nt ct) from U1.out) u.is).cell 2
    go_upto_region 3 with (fail)
    clear q1 q12
    obtain ⟨no, hno⟩ : ∃ no : Bool, no = (decide (q.ep < ep) || (decide (ep = q.ep) && !se)) := ⟨_, rfl⟩
    go_cut [13] (fun v13 wx => v13 = .bool no ∧ Hid (Below w1.heap.size w1 wx))
    case first =>
      by_cases h1 : q.ep < ep
      case pos =>
        have hd1 : decide ((ep : Int) > (q.ep : Int)) = true := by simp; omega
        have hd1b : decide ((q.ep : Int) < (ep : Int)) = true := by simp; omega
        have hd1c : decide (q.ep < ep) = true := by simp; omega
        have hn : no = true := by rw [hno]; simp [h1]
        clear h1 hno
        subst hn
        refine wp_region_grow (by kernel_rfl) (by kernel_rfl) w1.heap.size ?_
        repeat (first | go_big_quiet_step (fail) | quiet_step (fail))
        refine wpQuiet_nil ?_
        rintro w2 ⟨⟨_, hb2⟩, rfl⟩
        have HB2 := Lib.hid hb2
        clear hb2 Q1 u1 u2
        go_wp2_with fail
        go_meet
        exact ⟨rfl, HB2⟩
      case neg =>
      have hd1 : decide ((ep : Int) > (q.ep : Int)) = false := by simp; omega
      have hd1b : decide ((q.ep : Int) < (ep : Int)) = false := by simp; omega
      have hd1c : decide (q.ep < ep) = false := by simp; omega
      by_cases h2 : ep = q.ep
      case neg =>
        have hd2 : ((ep : Int) == (q.ep : Int)) = false := by simp; omega
        have hd2b : (ep == q.ep) = false := by simpa using h2
        have hn : no = false := by rw [hno]; simp [h2]; omega
        clear h1 h2 hno
        subst hn
        refine wp_region_grow (by kernel_rfl) (by kernel_rfl) w1.heap.size ?_
        repeat (first | go_big_quiet_step (fail) | quiet_step (fail))
        refine wpQuiet_nil ?_
        rintro w2 ⟨⟨_, hb2⟩, rfl⟩
        have HB2 := Lib.hid hb2
        clear hb2 Q1 u1 u2
        go_wp2_with fail
        go_meet
        exact ⟨rfl, HB2⟩
      case pos =>
        have hd2 : ((ep : Int) == (q.ep : Int)) = true := by simp; omega
        have hd2b : (ep == q.ep) = true := by simpa using h2
        have hn : no = !se := by rw [hno]; simp [h2]
        have HN := Lib.hid hn
        clear h1 h2 hno hn
        refine wp_region_grow (by kernel_rfl) (by kernel_rfl) w1.heap.size ?_
        repeat (first | go_big_quiet_step (fail) | quiet_step (fail))
        refine wpQuiet_nil ?_
        rintro w2 ⟨⟨_, hb2⟩, rfl⟩
        have HB2 := Lib.hid hb2
        clear hb2 Q1 u1 u2
        go_wp2_with fail
        go_meet
        exact ⟨by rw [HN.out], HB2⟩
    case rest =>
    obtain ⟨rfl, hbc⟩ := hcut
    obtain ⟨w2, hw2⟩ : ∃ w2, w2 = wc := ⟨_, rfl⟩
    subst hw2
    have HB2 := Lib.hid (stepB HB1.out hbc.out)
    have K2 := Lib.hid (keepB (show Blk w1 gq 40 (msV q h) from K1.out) hbc.out)
    have U2 := Lib.hid (keepB (show Blk w1 gu 60 (unV nd ep se gmv tl pj nx At nt ct) from U1.out) hbc.out)
    have S2 := Lib.hid (keepS S1.out hbc.out)
    clear Q1 u1 u2 hno
    cases no
    case true =>
      go_wp2_with fail
      go_ret
      exact .inl ⟨18, rfl, .inr rfl, HB2.out⟩
    case false =>
      have q12 := (show Blk w2 gq 40 (msV q h) from K2.out).cell 12
      have q13 := (show Blk w2 gq 40 (msV q h) from K2.out).cell 13
      have HPC := Lib.hid (prcopy_any (e := q.pr.1) S2.out.1 S2.out.2 hn4 HBD.out)
      go_upto_region 6 with
        (first
         | (go_at_call 36
            refine HPC.out.mono ?_
            rintro e w3 ⟨A3, c3, rfl, ho3, hb3⟩
            have hb4 := below1 w3 (.cells (prjV 0 none 0 0) 38)
            have HP4 := Lib.hid (blk11 w3 38 (prjV 0 none 0 0))
            have HO4 := Lib.hid (OL.below ho3 hb4)
            have HB4 := Lib.hid (stepB hb3 hb4)
            have K4 := Lib.hid (keepB (keepB (show Blk w2 gq 40 (msV q h) from K2.out) hb3) hb4)
            have U4 := Lib.hid (keepB (keepB (show Blk w2 gu 60 (unV nd ep se gmv tl pj nx At nt ct) from U2.out) hb3) hb4)
            have HZ3 := Lib.hid (Nat.le_trans HB2.out.size hb3.size)
            have HGQ3 : Hid (gq < w3.heap.size) := Nat.lt_of_lt_of_le (show Blk w2 gq 40 _ from K2.out).lt hb3.size
            clear ho3 hb3 hb4 q12 q13)
         | (refine wpList_put_row rfl 38 (.tmp 5) (.tmp 39) rfl w3.heap.size (prjV q.pr.1 A3 h.n4 c3) rfl rfl 38 _ HP4.out HSZ.out rfl (by simp [Value.oneCell']) ?_
            intro w5 hblk hgr
            have HP5 := Lib.hid hblk
            have HG5 := Lib.hid hgr
            have HO5 := Lib.hid (OL.grown HO4.out (show Blk _ w3.heap.size 38 _ from HP4.out) (fun h => h) (by unfold TSs; decide) (by decide) hgr)
            have K5 := Lib.hid ((show Blk _ gq 40 (msV q h) from K4.out).grown hgr (fun e => by have e' : gq = w3.heap.size := Option.some.inj e; have := HGQ3.out; omega))
            have U5 := Lib.hid ((show Blk _ gu 60 (unV nd ep se gmv tl pj nx At nt ct) from U4.out).grown hgr (fun e => by have e' : gu = w3.heap.size := Option.some.inj e; have := HUL.out; have := HZ3.out; omega))
            clear hblk hgr))
      have q1 := (show Blk w5 gq 40 (msV q h) from K5.out).cell 1
      have u1 := (show Blk w5 gu 60 (unV nd ep se gmv tl pj nx At nt ct) from U5.out).cell 1
      have uf1 := (show Blk w5 gu 60 (unV nd ep se gmv tl pj nx At nt ct) from U5.out).frozen 1
      have U51 : Blk (w5.setCell ⟨gu, 1, none⟩ (.int .u64 (q.ep : Int))) gu 60 (unV nd q.ep se gmv tl pj nx At nt ct) := (show Blk w5 gu 60 (unV nd ep se gmv tl pj nx At nt ct) from U5.out).put 1 _
      have u2 := U51.cell 2
      have uf2 := U51.frozen 2
      have U52 : Blk ((w5.setCell ⟨gu, 1, none⟩ (.int .u64 (q.ep : Int))).setCell ⟨gu, 2, none⟩ (.bool false)) gu 60 (unV nd q.ep false gmv tl pj nx At nt ct) := U51.put 2 _
      have u5 := U52.cell 5
      have uf5 := U52.frozen 5
      have U6 : Hid (Blk (((w5.setCell ⟨gu, 1, none⟩ (.int .u64 (q.ep : Int))).setCell ⟨gu, 2, none⟩ (.bool false)).setCell ⟨gu, 5, none⟩ (.pointer (some ⟨w3.heap.size, 0, none⟩))) gu 60 (unV nd q.ep false gmv tl (.pointer (some ⟨w3.heap.size, 0, none⟩)) nx At nt ct)) := U52.put 5 _
      have c56 : Chg (fun k => k = gu) w5 (((w5.setCell ⟨gu, 1, none⟩ (.int .u64 (q.ep : Int))).setCell ⟨gu, 2, none⟩ (.bool false)).setCell ⟨gu, 5, none⟩ (.pointer (some ⟨w3.heap.size, 0, none⟩))) := (((Chg.refl (fun k => k = gu) w5).setCell (p := ⟨gu, 1, none⟩) (.inl rfl) _).setCell (p := ⟨gu, 2, none⟩) (.inl rfl) _).setCell (p := ⟨gu, 5, none⟩) (.inl rfl) _
      have P6 := Lib.hid (chB (show Blk w5 w3.heap.size 38 (prjV q.pr.1 A3 h.n4 c3) from HP5.out) c56 (by have := HUL.out; have := HZ3.out; show ¬ w3.heap.size = gu; omega))
      have O6 := Lib.hid (OL.chg HO5.out c56 (fun k hk _ => ⟨fun h => h, fun cs' t' h' => by
        subst hk
        obtain rfl := blk_type U5.out h'
        exact ⟨by unfold TSs; decide, by decide⟩⟩))
      have C6 := Lib.hid ((chGrown (Chg.of_pure (stepB HB2.out HB4.out) (fun k => k = gu)) HG5.out (fun k hk => by have e' : w3.heap.size = k := Option.some.inj hk; have := HZ3.out; omega)).trans c56)
      clear c56 U51 U52
      go_wp2_with fail
      go_ret
      exact .inr ⟨rfl, ⟨_, U6.out, .inr ⟨w3.heap.size, q.pr.1, A3, h.n4, c3, q.pr.2, rfl, P6.out, HPE.out, OS.typed O6.out, hn4, HBD.out⟩⟩, C6.out⟩
end
end Go.Proofs.Ytnihaaifkogpbaa
/- (*talk.Unit).does, kind SealReq (printed by gendoes.py). -/
namespace Go.Proofs.Ytnihaaifkogpbaa
open Go.ChangeShapes Go.WideShapes Go.ChangeAt Go.RowKit
set_option linter.unusedVariables false
section
variable {w : World} {gu gm ga tb nd M ep tl nx nt ct : Nat} {se : Bool} {f : Nat → Option Value} {pj : Value} {At : Option Addr} {T : List Lnk} {D : Dom} {q : Ms} {h : Hd} {d : List UInt8}
set_option maxRecDepth 100000 in
set_option maxHeartbeats 8000000 in
theorem does3_any (hs : DS w gu gm ga tb nd M ep se f tl pj nx At nt ct T D q h (ansY q) hdZb d) (he : EOk ep) (hM : M ≤ 1000) (hok : MOk q) (hkd : q.kd = 3) :
    Calls Try.prog 18 #[.pointer (some ⟨gu, 0, none⟩), .agg (msV q h), .pointer (some ⟨ga, 0, none⟩)] w (DoesIs w gu gm ga tb nd M ep se f q d) := by
  have hb1 := below1 w (.cells (msV q h) 40)
  have HB1 := Lib.hid hb1
  have K1 := Lib.hid (blk11 w 40 (msV q h))
  have S1 := Lib.hid (hs.below hb1)
  have HAL := Lib.hid hs.a.lt
  have HUL := Lib.hid hs.u.lt
  have HKD := Lib.hid hkd
  have HOK := Lib.hid hok
  have HEP := Lib.hid he
  clear hs hb1 hkd hok he
  go_enter Try.func18, Try.ntmps18
  go_upto_region 1 with (fail)
  obtain ⟨gq, hgq⟩ : ∃ gq, gq = w.heap.size := ⟨_, rfl⟩
  rw [← hgq] at K1 ⊢
  have HGQ := Lib.hid hgq
  clear hgq
  generalize World.alloc w _ = w1 at *
  have a0 := S1.out.a.cell 0
  have af0 := S1.out.a.frozen 0
  have c12 : Chg (fun k => k = ga) w1 (w1.setCell ⟨ga, 0, none⟩ (.int .i64 10)) := (Chg.refl (fun k => k = ga) w1).setCell (p := ⟨ga, 0, none⟩) (.inl rfl) _
  have S2 : Hid (DS (w1.setCell ⟨ga, 0, none⟩ (.int .i64 10)) gu gm ga tb nd M ep se f tl pj nx At nt ct T D q h { ansY q with kd := 10 } hdZb d) := S1.out.ans c12 (S1.out.a.put 0 _)
  have K2 := Lib.hid (chB (show Blk w1 gq 40 (msV q h) from K1.out) c12 (by have := HGQ.out; have := HAL.out; show ¬ gq = ga; omega))
  have C2 := Lib.hid (show Chg (fun k => k = gu ∨ k = gm ∨ k = ga) w _ from (Chg.of_pure HB1.out _).trans (c12.more (fun k _ hk => .inr (.inr hk))))
  clear c12
  go_upto_region 2 with (fail)
  clear a0 af0 K1 S1
  generalize World.setCell w1 _ _ = w2 at *
  have q0 : w2.cell? ⟨gq, 0, none⟩ = some (.int .i64 3) := by
    have hh := (show Blk w2 gq 40 (msV q h) from K2.out).cell 0
    rw [← HKD.out]; exact hh
  go_upto_region 4 with (fail)
  clear q0
  have q0 := (show Blk w2 gq 40 (msV q h) from K2.out).cell 0
  have q1 := (show Blk w2 gq 40 (msV q h) from K2.out).cell 1
  have q2 := (show Blk w2 gq 40 (msV q h) from K2.out).cell 2
  have q3 := (show Blk w2 gq 40 (msV q h) from K2.out).cell 3
  have q4 := (show Blk w2 gq 40 (msV q h) from K2.out).cell 4
  have q5 := (show Blk w2 gq 40 (msV q h) from K2.out).cell 5
  have q6 := (show Blk w2 gq 40 (msV q h) from K2.out).cell 6
  have q7 := (show Blk w2 gq 40 (msV q h) from K2.out).cell 7
  have q8 := (show Blk w2 gq 40 (msV q h) from K2.out).cell 8
  have q9 := (show Blk w2 gq 40 (msV q h) from K2.out).cell 9
  have q10 := (show Blk w2 gq 40 (msV q h) from K2.out).cell 10
  have q11 := (show Blk w2 gq 40 (msV q h) from K2.out).cell 11
  have q12 := (show Blk w2 gq 40 (msV q h) from K2.out).cell 12
  have q13 := (show Blk w2 gq 40 (msV q h) from K2.out).cell 13
  have HSE := Lib.hid (seal_any (q := q) (h := h) S2.out.u S2.out.a)
  go_wp2_with fail
  refine HSE.out.mono ?_; rintro e w3 hp
  rcases hp with ⟨rfl, hlt, hb⟩ | ⟨rfl, hge, hu, ha, hc⟩
  · have S3 := Lib.hid (S2.out.below hb)
    have C3 := Lib.hid (C2.out.trans (Chg.of_pure hb _))
    clear hb hlt q0 q1 q2 q3 q4 q5 q6 q7 q8 q9 q10 q11 q12 q13
    go_wp2_with fail
    go_ret
    exact ⟨18, ansY q, hdZb, ep, se, f, rfl, ⟨by decide, by decide⟩, fun e => absurd e (by decide), S3.out.ui HEP.out, C3.out, DR.stay (fun e => by rw [HKD.out] at e; cases e) (fun e => by rw [HKD.out] at e; cases e) (fun e => by rw [HKD.out] at e; cases e) (fun e => by rw [HKD.out] at e; cases e)⟩
  · have hc2 : Chg (fun k => k = gu ∨ k = gm ∨ k = ga) w2 w3 := hc.more (fun k _ hk => by rcases hk with hk | hk; exact .inl hk; exact .inr (.inr hk))
    have R3 := Lib.hid (S2.out.r.chg (S2.out.safe.sub (fun k hk => by rcases hk with hk | hk; exact .inl hk; exact .inr (.inr hk))) hc (fun e => by rcases e with e | e; exact S2.out.unm e.symm; exact S2.out.anm e.symm))
    have C3 := Lib.hid (C2.out.trans hc2)
    have U3 := Lib.hid hu
    have A3 := Lib.hid ha
    clear hc hc2 hu ha hge q0 q1 q2 q3 q4 q5 q6 q7 q8 q9 q10 q11 q12 q13
    go_wp2_with fail
    go_ret
    exact ⟨0, _, hdZb, q.ep, true, f, rfl, ⟨by decide, by decide⟩, fun _ => ⟨A3.out, CpOk.plain _ _ _ _ _ _ _ _⟩, (show UI w3 gu gm tb nd M q.ep true f from ⟨HOK.out.2, tl, pj, nx, At, nt, ct, T, U3.out, R3.out⟩).mono (Nat.le_succ _), C3.out, DR.stay (fun e => by rw [HKD.out] at e; cases e) (fun e => by rw [HKD.out] at e; cases e) (fun e => by rw [HKD.out] at e; cases e) (fun e => by rw [HKD.out] at e; cases e)⟩
end
end Go.Proofs.Ytnihaaifkogpbaa
/- (*talk.Unit).does, kind PutProj (printed by gendoes.py). -/
namespace Go.Proofs.Ytnihaaifkogpbaa
open Go.ChangeShapes Go.WideShapes Go.ChangeAt Go.RowKit
set_option linter.unusedVariables false
section
variable {w : World} {gu gm ga tb nd M ep tl nx nt ct : Nat} {se : Bool} {f : Nat → Option Value} {pj : Value} {At : Option Addr} {T : List Lnk} {D : Dom} {q : Ms} {h : Hd} {d : List UInt8}
set_option maxRecDepth 100000 in
set_option maxHeartbeats 8000000 in
theorem does8_any (hs : DS w gu gm ga tb nd M ep se f tl pj nx At nt ct T D q h (ansY q) hdZb d) (he : EOk ep) (hM : M ≤ 1000) (hok : MOk q) (hkd : q.kd = 8) :
    Calls Try.prog 18 #[.pointer (some ⟨gu, 0, none⟩), .agg (msV q h), .pointer (some ⟨ga, 0, none⟩)] w (DoesIs w gu gm ga tb nd M ep se f q d) := by
  have hpok : POk q.pr := by
    have h1 := hok.1.2.2.2.2.2.2.2.1
    unfold part at h1
    rw [hkd, if_pos (by decide +kernel : Kd.has 8 128 = true)] at h1
    exact h1
  have hb1 := below1 w (.cells (msV q h) 40)
  have HB1 := Lib.hid hb1
  have K1 := Lib.hid (blk11 w 40 (msV q h))
  have S1 := Lib.hid (hs.below hb1)
  have HAL := Lib.hid hs.a.lt
  have HUL := Lib.hid hs.u.lt
  have HKD := Lib.hid hkd
  have HOK := Lib.hid hok
  have HEP := Lib.hid he
  clear hs hb1 hkd hok he
  go_enter Try.func18, Try.ntmps18
  go_upto_region 1 with (fail)
  obtain ⟨gq, hgq⟩ : ∃ gq, gq = w.heap.size := ⟨_, rfl⟩
  rw [← hgq] at K1 ⊢
  have HGQ := Lib.hid hgq
  clear hgq
  generalize World.alloc w _ = w1 at *
  have a0 := S1.out.a.cell 0
  have af0 := S1.out.a.frozen 0
  have c12 : Chg (fun k => k = ga) w1 (w1.setCell ⟨ga, 0, none⟩ (.int .i64 10)) := (Chg.refl (fun k => k = ga) w1).setCell (p := ⟨ga, 0, none⟩) (.inl rfl) _
  have S2 : Hid (DS (w1.setCell ⟨ga, 0, none⟩ (.int .i64 10)) gu gm ga tb nd M ep se f tl pj nx At nt ct T D q h { ansY q with kd := 10 } hdZb d) := S1.out.ans c12 (S1.out.a.put 0 _)
  have K2 := Lib.hid (chB (show Blk w1 gq 40 (msV q h) from K1.out) c12 (by have := HGQ.out; have := HAL.out; show ¬ gq = ga; omega))
  have C2 := Lib.hid (show Chg (fun k => k = gu ∨ k = gm ∨ k = ga) w _ from (Chg.of_pure HB1.out _).trans (c12.more (fun k _ hk => .inr (.inr hk))))
  clear c12
  go_upto_region 2 with (fail)
  clear a0 af0 K1 S1
  generalize World.setCell w1 _ _ = w2 at *
  have q0 : w2.cell? ⟨gq, 0, none⟩ = some (.int .i64 8) := by
    have hh := (show Blk w2 gq 40 (msV q h) from K2.out).cell 0
    rw [← HKD.out]; exact hh
  go_upto_region 6 with (fail)
  clear q0
  have q0 := (show Blk w2 gq 40 (msV q h) from K2.out).cell 0
  have q1 := (show Blk w2 gq 40 (msV q h) from K2.out).cell 1
  have q2 := (show Blk w2 gq 40 (msV q h) from K2.out).cell 2
  have q3 := (show Blk w2 gq 40 (msV q h) from K2.out).cell 3
  have q4 := (show Blk w2 gq 40 (msV q h) from K2.out).cell 4
  have q5 := (show Blk w2 gq 40 (msV q h) from K2.out).cell 5
  have q6 := (show Blk w2 gq 40 (msV q h) from K2.out).cell 6
  have q7 := (show Blk w2 gq 40 (msV q h) from K2.out).cell 7
  have q8 := (show Blk w2 gq 40 (msV q h) from K2.out).cell 8
  have q9 := (show Blk w2 gq 40 (msV q h) from K2.out).cell 9
  have q10 := (show Blk w2 gq 40 (msV q h) from K2.out).cell 10
  have q11 := (show Blk w2 gq 40 (msV q h) from K2.out).cell 11
  have q12 := (show Blk w2 gq 40 (msV q h) from K2.out).cell 12
  have q13 := (show Blk w2 gq 40 (msV q h) from K2.out).cell 13
  have HSE := Lib.hid (install_any (h := h) S2.out.u S2.out.m (by have h1 := hpok.1.1.2.2; have h2 := (Rp.sl_len S2.out.m.pr).1; omega) (fun s hs => by
    obtain ⟨i, hi, hei⟩ := List.getElem_of_mem hs
    have h1 := (hpok.1.2 i s hi (by rw [List.getElem?_eq_getElem hi, hei])).1
    exact ⟨by have := h1.2.2.2.1; omega, fun j x hx => by have := (h1.2.2.2.2 j x hx).2.1; omega⟩))
  clear hpok
  go_wp2_with fail
  refine HSE.out.mono ?_; rintro e w3 hp
  rcases hp with ⟨code, rfl, hcd, hb⟩ | ⟨rfl, ⟨pj', hu, hpj⟩, hc⟩
  · have S3 := Lib.hid (S2.out.below hb)
    have C3 := Lib.hid (C2.out.trans (Chg.of_pure hb _))
    have HCD := Lib.hid hcd
    clear hb hcd q0 q1 q2 q3 q4 q5 q6 q7 q8 q9 q10 q11 q12 q13
    go_wp2_with fail
    go_ret
    exact ⟨code, ansY q, hdZb, ep, se, f, rfl, (by have := HCD.out; omega), (fun e => by have := HCD.out; omega), S3.out.ui HEP.out, C3.out, DR.stay (fun e => by rw [HKD.out] at e; cases e) (fun e => by rw [HKD.out] at e; cases e) (fun e => by rw [HKD.out] at e; cases e) (fun e => by rw [HKD.out] at e; cases e)⟩
  · have hc2 : Chg (fun k => k = gu ∨ k = gm ∨ k = ga) w2 w3 := hc.more (fun k _ hk => .inl hk)
    have R3 := Lib.hid (S2.out.r.chg (S2.out.safe.sub (fun k hk => .inl hk)) hc (fun e => S2.out.unm e.symm))
    have C3 := Lib.hid (C2.out.trans hc2)
    have U3 := Lib.hid hu
    have P3 := Lib.hid hpj
    have A3 := Lib.hid (chB S2.out.a hc (fun e => S2.out.une e.symm))
    clear hc hc2 hu hpj q0 q1 q2 q3 q4 q5 q6 q7 q8 q9 q10 q11 q12 q13
    go_wp2_with fail
    go_ret
    exact ⟨0, _, hdZb, q.ep, false, f, rfl, ⟨by decide, by decide⟩, fun _ => ⟨A3.out, CpOk.plain _ _ _ _ _ _ _ _⟩, (show UI w3 gu gm tb nd M q.ep false f from ⟨HOK.out.2, tl, pj', nx, At, nt, ct, T, U3.out, ⟨R3.out.o, R3.out.tk, R3.out.mp, R3.out.so, P3.out, R3.out.tb1, R3.out.tl1, R3.out.nx1⟩⟩).mono (Nat.le_succ _), C3.out, DR.stay (fun e => by rw [HKD.out] at e; cases e) (fun e => by rw [HKD.out] at e; cases e) (fun e => by rw [HKD.out] at e; cases e) (fun e => by rw [HKD.out] at e; cases e)⟩
end
end Go.Proofs.Ytnihaaifkogpbaa
/- (*talk.Unit).does, kind GetProj (printed by gendoes.py). -/
namespace Go.Proofs.Ytnihaaifkogpbaa
open Go.ChangeShapes Go.WideShapes Go.ChangeAt Go.RowKit
set_option linter.unusedVariables false
section
variable {w : World} {gu gm ga tb nd M ep tl nx nt ct : Nat} {se : Bool} {f : Nat → Option Value} {pj : Value} {At : Option Addr} {T : List Lnk} {D : Dom} {q : Ms} {h : Hd} {d : List UInt8}
set_option maxRecDepth 100000 in
set_option maxHeartbeats 8000000 in
theorem does7_any (hs : DS w gu gm ga tb nd M ep se f tl pj nx At nt ct T D q h (ansY q) hdZb d) (he : EOk ep) (hM : M ≤ 1000) (hok : MOk q) (hkd : q.kd = 7) :
    Calls Try.prog 18 #[.pointer (some ⟨gu, 0, none⟩), .agg (msV q h), .pointer (some ⟨ga, 0, none⟩)] w (DoesIs w gu gm ga tb nd M ep se f q d) := by
  have hb1 := below1 w (.cells (msV q h) 40)
  have HB1 := Lib.hid hb1
  have K1 := Lib.hid (blk11 w 40 (msV q h))
  have S1 := Lib.hid (hs.below hb1)
  have HAL := Lib.hid hs.a.lt
  have HUL := Lib.hid hs.u.lt
  have HKD := Lib.hid hkd
  have HOK := Lib.hid hok
  have HEP := Lib.hid he
  clear hs hb1 hkd hok he
  go_enter Try.func18, Try.ntmps18
  go_upto_region 1 with (fail)
  obtain ⟨gq, hgq⟩ : ∃ gq, gq = w.heap.size := ⟨_, rfl⟩
  rw [← hgq] at K1 ⊢
  have HGQ := Lib.hid hgq
  clear hgq
  generalize World.alloc w _ = w1 at *
  have a0 := S1.out.a.cell 0
  have af0 := S1.out.a.frozen 0
  have c12 : Chg (fun k => k = ga) w1 (w1.setCell ⟨ga, 0, none⟩ (.int .i64 10)) := (Chg.refl (fun k => k = ga) w1).setCell (p := ⟨ga, 0, none⟩) (.inl rfl) _
  have S2 : Hid (DS (w1.setCell ⟨ga, 0, none⟩ (.int .i64 10)) gu gm ga tb nd M ep se f tl pj nx At nt ct T D q h { ansY q with kd := 10 } hdZb d) := S1.out.ans c12 (S1.out.a.put 0 _)
  have K2 := Lib.hid (chB (show Blk w1 gq 40 (msV q h) from K1.out) c12 (by have := HGQ.out; have := HAL.out; show ¬ gq = ga; omega))
  have C2 := Lib.hid (show Chg (fun k => k = gu ∨ k = gm ∨ k = ga) w _ from (Chg.of_pure HB1.out _).trans (c12.more (fun k _ hk => .inr (.inr hk))))
  clear c12
  go_upto_region 2 with (fail)
  clear a0 af0 K1 S1
  generalize World.setCell w1 _ _ = w2 at *
  have q0 : w2.cell? ⟨gq, 0, none⟩ = some (.int .i64 7) := by
    have hh := (show Blk w2 gq 40 (msV q h) from K2.out).cell 0
    rw [← HKD.out]; exact hh
  have HSE := Lib.hid (show_any S2.out.u S2.out.a S2.out.r.pj)
  go_upto_region 8 with (fail)
  clear q0
  go_wp2_with fail
  refine HSE.out.mono ?_; rintro e w3 hp
  rcases hp with ⟨rfl, hb⟩ | ⟨rfl, ⟨pe, A, n, c, l, ha, hl, hn, hbd⟩, hc⟩
  · have S3 := Lib.hid (S2.out.below hb)
    have C3 := Lib.hid (C2.out.trans (Chg.of_pure hb _))
    clear hb
    go_wp2_with fail
    go_ret
    exact ⟨16, ansY q, hdZb, ep, se, f, rfl, ⟨by decide, by decide⟩, fun e => absurd e (by decide), S3.out.ui HEP.out, C3.out, DR.stay (fun e => by rw [HKD.out] at e; cases e) (fun e => by rw [HKD.out] at e; cases e) (fun e => by rw [HKD.out] at e; cases e) (fun e => by rw [HKD.out] at e; cases e)⟩
  · have S3 := Lib.hid (S2.out.ans hc ha)
    have C3 := Lib.hid (C2.out.trans (hc.more (fun k _ hk => .inr (.inr hk))))
    have HCP := Lib.hid (show CpOk w3 { ansY q with kd := 13, pr := (pe, l) } { hdZb with A4 := A, n4 := n, c4 := c } from ⟨Rp.sl_nil _ _ _ _ _ (Nat.zero_le _), Rp.sl_nil _ _ _ _ _ (Nat.zero_le _), Rp.sl_nil _ _ _ _ _ (Nat.zero_le _), hl, Nat.zero_le _, Nat.zero_le _, Nat.zero_le _, hn, (fun x hx => by cases hx), hbd⟩)
    clear hc ha hl hbd
    go_wp2_with fail
    go_ret
    exact ⟨0, _, _, ep, se, f, rfl, ⟨by decide, by decide⟩, fun _ => ⟨S3.out.a, HCP.out⟩, S3.out.ui HEP.out, C3.out, DR.stay (fun e => by rw [HKD.out] at e; cases e) (fun e => by rw [HKD.out] at e; cases e) (fun e => by rw [HKD.out] at e; cases e) (fun e => by rw [HKD.out] at e; cases e)⟩
end
end Go.Proofs.Ytnihaaifkogpbaa
/- (*talk.Unit).does, kind Read (printed by gendoes.py). -/
namespace Go.Proofs.Ytnihaaifkogpbaa
open Go.ChangeShapes Go.WideShapes Go.ChangeAt Go.RowKit
set_option linter.unusedVariables false
section
variable {w : World} {gu gm ga tb nd M ep tl nx nt ct : Nat} {se : Bool} {f : Nat → Option Value} {pj : Value} {At : Option Addr} {T : List Lnk} {D : Dom} {q : Ms} {h : Hd} {d : List UInt8}
set_option maxRecDepth 100000 in
set_option maxHeartbeats 8000000 in
theorem does1_any (hs : DS w gu gm ga tb nd M ep se f tl pj nx At nt ct T D q h (ansY q) hdZb d) (he : EOk ep) (hM : M ≤ 1000) (hok : MOk q) (hkd : q.kd = 1) :
    Calls Try.prog 18 #[.pointer (some ⟨gu, 0, none⟩), .agg (msV q h), .pointer (some ⟨ga, 0, none⟩)] w (DoesIs w gu gm ga tb nd M ep se f q d) := by
  have hps : q.ps < 4611686018427387904 := by
    have h1 := hok.1.2.1
    unfold part at h1
    rw [hkd, if_pos (by decide +kernel : Kd.has 1 1 = true)] at h1
    exact h1
  have hb1 := below1 w (.cells (msV q h) 40)
  have HB1 := Lib.hid hb1
  have K1 := Lib.hid (blk11 w 40 (msV q h))
  have S1 := Lib.hid (hs.below hb1)
  have HAL := Lib.hid hs.a.lt
  have HUL := Lib.hid hs.u.lt
  have HKD := Lib.hid hkd
  have HOK := Lib.hid hok
  have HEP := Lib.hid he
  clear hs hb1 hkd hok he
  go_enter Try.func18, Try.ntmps18
  go_upto_region 1 with (fail)
  obtain ⟨gq, hgq⟩ : ∃ gq, gq = w.heap.size := ⟨_, rfl⟩
  rw [← hgq] at K1 ⊢
  have HGQ := Lib.hid hgq
  clear hgq
  generalize World.alloc w _ = w1 at *
  have a0 := S1.out.a.cell 0
  have af0 := S1.out.a.frozen 0
  have c12 : Chg (fun k => k = ga) w1 (w1.setCell ⟨ga, 0, none⟩ (.int .i64 10)) := (Chg.refl (fun k => k = ga) w1).setCell (p := ⟨ga, 0, none⟩) (.inl rfl) _
  have S2 : Hid (DS (w1.setCell ⟨ga, 0, none⟩ (.int .i64 10)) gu gm ga tb nd M ep se f tl pj nx At nt ct T D q h { ansY q with kd := 10 } hdZb d) := S1.out.ans c12 (S1.out.a.put 0 _)
  have K2 := Lib.hid (chB (show Blk w1 gq 40 (msV q h) from K1.out) c12 (by have := HGQ.out; have := HAL.out; show ¬ gq = ga; omega))
  have C2 := Lib.hid (show Chg (fun k => k = gu ∨ k = gm ∨ k = ga) w _ from (Chg.of_pure HB1.out _).trans (c12.more (fun k _ hk => .inr (.inr hk))))
  clear c12
  go_upto_region 2 with (fail)
  clear a0 af0 K1 S1
  generalize World.setCell w1 _ _ = w2 at *
  have q0 : w2.cell? ⟨gq, 0, none⟩ = some (.int .i64 1) := by
    have hh := (show Blk w2 gq 40 (msV q h) from K2.out).cell 0
    rw [← HKD.out]; exact hh
  go_upto_region 9 with (fail)
  obtain ⟨z, hz⟩ : ∃ z, z = admC ep se q.ep := ⟨_, rfl⟩
  have HZ := Lib.hid hz
  have HAD : Hid (∀ u : World, Calls Try.prog 30 #[.int .u64 (ep : Int), .bool se, .int .u64 (q.ep : Int)] u fun r w' => r = .returned (.int .i64 z) ∧ u = w') := fun u => by
    rw [HZ.out]
    exact admit_any se u HEP.out HOK.out.2
  clear hz
  have u1 : ∀ u : Gr w2.heap.size w2, u.val.cell? ⟨gu, 1, none⟩ = some (.int .u64 (ep : Int)) := fun u => (keepB S2.out.u u.is).cell 1
  have u2 : ∀ u : Gr w2.heap.size w2, u.val.cell? ⟨gu, 2, none⟩ = some (.bool se) := fun u => (keepB S2.out.u u.is).cell 2
  have q1 : ∀ u : Gr w2.heap.size w2, u.val.cell? ⟨gq, 1, none⟩ = some (.int .u64 (q.ep : Int)) := fun u => (keepB (show Blk w2 gq 40 (msV q h) from K2.out) u.is).cell 1
  refine wp_region_grow (by kernel_rfl) (by kernel_rfl) w2.heap.size ?_
  repeat (first | go_big_quiet_step ((go_at_call 30; exact Gr.same _ (HAD.out _))) | quiet_step ((go_at_call 30; exact Gr.same _ (HAD.out _))))
  refine wpQuiet_nil ?_
  rintro w3 ⟨⟨_, hb3⟩, rfl⟩
  have K3 := Lib.hid (keepB (show Blk w2 gq 40 (msV q h) from K2.out) hb3)
  have S3 := Lib.hid (S2.out.below hb3)
  have C3 := Lib.hid (C2.out.trans (Chg.of_pure hb3 _))
  clear u1 u2 q1 hb3 K2 S2 C2 q0
  by_cases hz : z = 0
  case neg =>
    have hz1 : (z != 0) = true := by simpa using hz
    have HZN := Lib.hid hz
    clear hz
    go_wp2_with fail
    go_ret
    exact ⟨z, ansY q, hdZb, ep, se, f, rfl, (by rw [HZ.out]; exact adm_bd _ _ _), fun e => absurd e HZN.out, S3.out.ui HEP.out, C3.out, DR.adm HZN.out HZ.out⟩
  case pos =>
  subst hz
  have q0 : w3.cell? ⟨gq, 0, none⟩ = some (.int .i64 1) := by
    have hh := (show Blk w3 gq 40 (msV q h) from K3.out).cell 0
    rw [← HKD.out]; exact hh
  go_upto_region 14 with (fail)
  clear q0
  have q0 := (show Blk w3 gq 40 (msV q h) from K3.out).cell 0
  have q1 := (show Blk w3 gq 40 (msV q h) from K3.out).cell 1
  have q2 := (show Blk w3 gq 40 (msV q h) from K3.out).cell 2
  have q3 := (show Blk w3 gq 40 (msV q h) from K3.out).cell 3
  have q4 := (show Blk w3 gq 40 (msV q h) from K3.out).cell 4
  have q5 := (show Blk w3 gq 40 (msV q h) from K3.out).cell 5
  have q6 := (show Blk w3 gq 40 (msV q h) from K3.out).cell 6
  have q7 := (show Blk w3 gq 40 (msV q h) from K3.out).cell 7
  have q8 := (show Blk w3 gq 40 (msV q h) from K3.out).cell 8
  have q9 := (show Blk w3 gq 40 (msV q h) from K3.out).cell 9
  have q10 := (show Blk w3 gq 40 (msV q h) from K3.out).cell 10
  have q11 := (show Blk w3 gq 40 (msV q h) from K3.out).cell 11
  have q12 := (show Blk w3 gq 40 (msV q h) from K3.out).cell 12
  have q13 := (show Blk w3 gq 40 (msV q h) from K3.out).cell 13
  obtain ⟨st, hst, hsc⟩ := S3.out.r.so.stat q.ps
  have HSC := Lib.hid hsc
  have HSE := Lib.hid (read_any (h := h) S3.out.u S3.out.r.mp S3.out.a (show q.ps ≤ 18446744073709551615 by omega) hst S3.out.dt)
  clear hst hsc
  go_wp2_with fail
  refine HSE.out.mono ?_; rintro e w4 ⟨rfl, hp, hc⟩
  have C4 := Lib.hid (C3.out.trans (hc.more (fun k _ hk => .inr (.inr hk))))
  have HC4 := Lib.hid hc
  have HP4 := Lib.hid hp
  clear hc hp q0 q1 q2 q3 q4 q5 q6 q7 q8 q9 q10 q11 q12 q13
  go_wp2_with fail
  go_ret
  have hadm : q.ep = ep → se = true → (0 : Int) = 18 := fun e1 e2 => by
    have h1 := HZ.out
    rw [e1, (adm_own ep se).1 e2] at h1
    exact h1
  rcases HP4.out with ⟨hne, ha⟩ | ⟨rfl, A3, n3, c3, ha, hn3, hrd⟩
  · have S4 := S3.out.ans HC4.out ha
    refine ⟨0, _, hdZb, ep, se, f, rfl, ⟨by decide, by decide⟩, fun _ => ⟨S4.a, CpOk.plain _ _ _ _ _ _ _ _⟩, S4.ui HEP.out, C4.out, DR.stay (fun e => by rw [HKD.out] at e; cases e) (fun e => by rw [HKD.out] at e; cases e) (fun e => by rw [HKD.out] at e; cases e) (fun _ e1 => ⟨hadm e1, fun e2 st' A n c hf hs => ?_⟩)⟩
    rcases HSC.out with ⟨h1, _⟩ | ⟨A', n', c', h1, _, _⟩
    · rw [hf] at h1; cases h1
    · rw [hf] at h1
      injection h1 with h1
      injection h1 with h1
      have h2 : Value.int .i64 st' = .int .i64 st := by have := congrArg (fun a : Array Value => a[0]?) h1; simpa using this
      injection h2 with _ h2
      subst h2
      exact ⟨rfl, rfl, rfl, fun e => absurd e hne⟩
  · have S4 := S3.out.ans HC4.out ha
    refine ⟨0, _, _, ep, se, f, rfl, ⟨by decide, by decide⟩, fun _ => ⟨S4.a, ⟨Rp.sl_nil _ _ _ _ _ (Nat.zero_le _), Rp.sl_nil _ _ _ _ _ (Nat.zero_le _), hrd, Rp.sl_nil _ _ _ _ _ (Nat.zero_le _), Nat.zero_le _, Nat.zero_le _, Nat.le_trans hn3 (by decide), Nat.zero_le _, (fun x hx => by cases hx), (fun x hx => by cases hx)⟩⟩, S4.ui HEP.out, C4.out, DR.stay (fun e => by rw [HKD.out] at e; cases e) (fun e => by rw [HKD.out] at e; cases e) (fun e => by rw [HKD.out] at e; cases e) (fun _ e1 => ⟨hadm e1, fun e2 st' A n c hf hs => ?_⟩)⟩
    rcases HSC.out with ⟨h1, h2⟩ | ⟨A', n', c', h1, _, _⟩
    · cases h2
    · rw [hf] at h1
      injection h1 with h1
      injection h1 with h1
      have h2 : Value.int .i64 st' = .int .i64 1 := by have := congrArg (fun a : Array Value => a[0]?) h1; simpa using this
      injection h2 with _ h2
      subst h2
      exact ⟨rfl, rfl, rfl, fun _ => rfl⟩
end
end Go.Proofs.Ytnihaaifkogpbaa
