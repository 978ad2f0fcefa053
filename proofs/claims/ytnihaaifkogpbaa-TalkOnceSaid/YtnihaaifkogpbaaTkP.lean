/- The parts of a message's Right: the program's and the reference's small functions. -/
import Derived.Test.YtnihaaifkogpbaaTkT
import Derived.Test.YtnihaaifkogpbaaTkR
import Derived.Test.YtnihaaifkogpbaaTkK3
import Derived.Test.YtnihaaifkogpbaaTkK5
namespace Go.Proofs.Ytnihaaifkogpbaa
open Go.ChangeShapes Go.WideShapes Go.ChangeAt Go.RowKit
set_option linter.unusedVariables false
theorem kwithin_any {k p : Int} {H : Bool} (a b : Bool) (w : World) (p0 : -9223372036854775808 ≤ p) (p1 : p ≤ 9223372036854775807) (hH : Kd.has k p = H) :
    Calls Try.prog 41 #[.int .i64 k, .int .i64 p, .bool a, .bool b] w fun e w' => e = .returned (.bool (bif H then a else b)) ∧ Below w.heap.size w w' := by
  have h := khas_any k p w p0 p1
  rw [hH] at h
  have HH := Lib.hid h
  clear h hH
  cases H
  all_goals
    go_enter Try.func41, Try.ntmps41
    go_wp2_with fail
    refine HH.out.mono ?_; rintro e w1 ⟨rfl, hb⟩
    go_wp2_with fail
    go_ret
    exact ⟨rfl, hb⟩
theorem kmost_any (k : Int) (w : World) : Calls Try.prog 43 #[.int .i64 k] w fun e w' => e = .returned (.int .i64 (mostS k)) ∧ w = w' := by
  by_cases h : k = 9
  · subst h
    go_enter Try.func43, Try.ntmps43
    go_wp2_with fail
    go_ret
    exact ⟨rfl, rfl⟩
  · have hd : (k == 9) = false := by simpa using h
    have e : mostS k = 20 := by unfold mostS; rw [if_neg h]
    rw [e]
    clear h e
    go_enter Try.func43, Try.ntmps43
    go_wp2_with fail
    go_ret
    exact ⟨rfl, rfl⟩
section
variable {D : Dom} {A : Option Addr} {n c : Nat} {l : List Nat} {w : World}
theorem kstreams_any (hs : rpU64.sl w D A n c l) (hD : ∀ k, D k → k < w.heap.size) :
    Calls Try.prog 44 #[.slice A n c] w fun e w' => e = .returned (.bool (dec (l.length ≤ 16 ∧ Rises l))) ∧ Below w.heap.size w w' := by
  have HN := Lib.hid (Rp.sl_len hs).1
  by_cases hn : n ≤ 16
  · have hd : decide ((n : Int) ≤ 16) = true := by simp; omega
    have hr := rises_any hs hD
    have HR := Lib.hid hr
    have HN16 : Hid (l.length ≤ 16) := by show _ ≤ _; rw [HN.out]; exact hn
    clear hr hs hD
    go_enter Try.func44, Try.ntmps44
    go_wp2_with fail
    refine HR.out.mono ?_; rintro e w1 ⟨rfl, hb⟩
    go_wp2_with fail
    go_ret
    exact ⟨by rw [dec_congr (show (l.length ≤ 16 ∧ Rises l) ↔ Rises l from ⟨fun h => h.2, fun h => ⟨HN16.out, h⟩⟩)]; rfl, hb⟩
  · have hd : decide ((n : Int) ≤ 16) = false := by simp; omega
    have HNO : Hid (¬ (l.length ≤ 16 ∧ Rises l)) := fun h => by have h1 := h.1; have h2 := HN.out; omega
    clear hs hD
    go_enter Try.func44, Try.ntmps44
    go_wp2_with fail
    go_ret
    exact ⟨by rw [dec_false HNO.out]; rfl, Below.refl _ _⟩
end
set_option maxRecDepth 100000 in
theorem kseal_any (x y z : Nat) (w : World) (hx : x ≤ 18446744073709551615) :
    Calls Try.prog 46 #[.agg #[.int .u64 (x : Int), .int .u64 (y : Int), .int .u64 (z : Int)]] w fun e w' => e = .returned (.bool (dec (SeOk (x, y, z)))) ∧ Below w.heap.size w w' := by
  have HB := Lib.hid (below1 w (.cells #[.int .u64 (x : Int), .int .u64 (y : Int), .int .u64 (z : Int)] 35))
  have HK := Lib.hid (blk11 w 35 #[.int .u64 (x : Int), .int .u64 (y : Int), .int .u64 (z : Int)])
  have HE := Lib.hid (fun u => eright_any x u hx)
  obtain ⟨b, hb⟩ : ∃ b, b = dec (SeOk (x, y, z)) := ⟨_, rfl⟩
  rw [← hb]
  have HBB := Lib.hid hb
  clear hb
  by_cases h1 : EOk x
  case neg =>
    have he := HE.out
    rw [dec_false h1] at he
    have HEE := Lib.hid he
    obtain rfl : b = false := by rw [HBB.out]; exact dec_false fun h => h1 h.1
    clear he h1
    go_enter Try.func46, Try.ntmps46
    go_upto_region 1 with (fail)
    generalize World.alloc w _ = w0 at *
    have k0 : w0.cell? ⟨w.heap.size, 0, none⟩ = some (.int .u64 (x : Int)) := (show Blk w0 w.heap.size 35 _ from HK.out).cell 0
    go_wp2_with fail
    refine (HEE.out _).mono ?_; rintro e w1 ⟨rfl, rfl⟩
    go_wp2_with fail
    go_ret
    exact ⟨rfl, HB.out⟩
  case pos =>
    have he := HE.out
    rw [dec_true h1] at he
    have HEE := Lib.hid he
    have H1 := Lib.hid h1
    clear he h1
    by_cases h2 : y ≤ 4294967295
    case neg =>
      have hd2 : decide ((y : Int) ≤ 4294967295) = false := by simp; omega
      obtain rfl : b = false := by rw [HBB.out]; exact dec_false fun h => h2 h.2.1
      clear h2
      go_enter Try.func46, Try.ntmps46
      go_upto_region 1 with (fail)
      generalize World.alloc w _ = w0 at *
      have k0 : w0.cell? ⟨w.heap.size, 0, none⟩ = some (.int .u64 (x : Int)) := (show Blk w0 w.heap.size 35 _ from HK.out).cell 0
      have k1 : w0.cell? ⟨w.heap.size, 1, none⟩ = some (.int .u64 (y : Int)) := (show Blk w0 w.heap.size 35 _ from HK.out).cell 1
      go_wp2_with fail
      refine (HEE.out _).mono ?_; rintro e w1 ⟨rfl, rfl⟩
      go_wp2_with fail
      go_ret
      exact ⟨rfl, HB.out⟩
    case pos =>
      have hd2 : decide ((y : Int) ≤ 4294967295) = true := by simp; omega
      obtain ⟨d, hd3⟩ : ∃ d, decide ((z : Int) ≤ 4611686018427387904) = d := ⟨_, rfl⟩
      obtain rfl : b = d := by
        rw [HBB.out, ← hd3]
        by_cases h3 : z ≤ 4611686018427387904
        · rw [dec_true ⟨H1.out, h2, h3⟩]; simp; omega
        · rw [dec_false (fun h => h3 h.2.2)]; simp; omega
      clear h2
      go_enter Try.func46, Try.ntmps46
      go_upto_region 1 with (fail)
      generalize World.alloc w _ = w0 at *
      have k0 : w0.cell? ⟨w.heap.size, 0, none⟩ = some (.int .u64 (x : Int)) := (show Blk w0 w.heap.size 35 _ from HK.out).cell 0
      have k1 : w0.cell? ⟨w.heap.size, 1, none⟩ = some (.int .u64 (y : Int)) := (show Blk w0 w.heap.size 35 _ from HK.out).cell 1
      have k2 : w0.cell? ⟨w.heap.size, 2, none⟩ = some (.int .u64 (z : Int)) := (show Blk w0 w.heap.size 35 _ from HK.out).cell 2
      go_wp2_with fail
      refine (HEE.out _).mono ?_; rintro e w1 ⟨rfl, rfl⟩
      go_wp2_with fail
      go_ret
      exact ⟨rfl, HB.out⟩
end Go.Proofs.Ytnihaaifkogpbaa
