/- link.place with any literal that looks at the stream; link.Find, link.Extend. -/
import Derived.Test.YtnihaaifkogpbaaLkA
namespace Go.Proofs.Ytnihaaifkogpbaa
open Go.ChangeShapes Go.WideShapes Go.ChangeAt Go.RowKit
set_option linter.unusedVariables false
theorem fi_eq {P : Lnk → Bool} : ∀ (l : List Lnk) (k : Nat), (∀ (j : Nat) x, j < k → l[j]? = some x → P x = false) → (∀ x, l[k]? = some x → P x = true) → k ≤ l.length → l.findIdx P = k
  | [], k, _, _, h => by simp at h; simp [h]
  | x :: l, 0, _, h2, _ => by have := h2 x rfl; simp [List.findIdx_cons, this]
  | x :: l, k + 1, h1, h2, h3 => by
    have h0 := h1 0 x (by omega) rfl
    have ih := fi_eq l k (fun j y hj hy => h1 (j + 1) y (by omega) (by simpa using hy)) (fun y hy => h2 y (by simpa using hy)) (by simpa using h3)
    rw [List.findIdx_cons, h0, ih]; rfl
section
variable {D : Dom} {A : Option Addr} {n c g : Nat} {l : List Lnk} {w : World} {P : Nat → Bool}
set_option maxRecDepth 100000 in
set_option maxHeartbeats 2000000 in
theorem lplaceF_any (hs : rpLnk.sl w D A n c l) (hD : ∀ k, D k → k < w.heap.size) (hn : n ≤ 100000)
    (hK : ∀ (u : World) (s : Nat) (A' : Option Addr) (n' c' : Nat), Below w.heap.size w u → Calls Try.prog 71 #[.agg (lkV s A' n' c'), .pointer (some ⟨g, 0, none⟩)] u fun e w' => e = .returned (.bool (P s)) ∧ Below u.heap.size u w') :
    Calls Try.prog 69 #[.slice A n c, .func (Fn.func 71) #[] #[.pointer (some ⟨g, 0, none⟩)]] w fun e w' => e = .returned (.int .i64 ((l.findIdx (fun x => P x.1) : Nat) : Int)) ∧ Below w.heap.size w w' := by
  have HS := Lib.hid (show Sl rpLnk w D A n c l from ⟨hs, hD⟩)
  have HN := Lib.hid (Rp.sl_len hs).1
  have HK := Lib.hid hK
  obtain ⟨R, hR⟩ : ∃ R, l.findIdx (fun x => P x.1) = R := ⟨_, rfl⟩
  rw [hR]
  have HR := Lib.hid hR
  clear hs hK hD hR
  go_enter Try.func69, Try.ntmps69
  go_wp2_with fail
  go_loopw [9] (fun vi wr => ∃ k : Nat, k ≤ n ∧ vi = .int .i64 k ∧ Hid (∀ (j : Nat) x, j < k → l[j]? = some x → P x.1 = false) ∧ Hid (Below w.heap.size w wr)) (fun vi _ => n - (intOf vi).toNat)
  case atStart => exact ⟨0, Nat.zero_le _, rfl, fun j x h => absurd h (Nat.not_lt_zero _), Below.refl _ _⟩
  case round =>
    obtain ⟨k, hkn', rfl, hat, hbel⟩ := hrel
    have hzr := hbel.out.size
    by_cases hkn : k < n
    case neg =>
      have hd : decide (k < n) = false := by simpa using hkn
      obtain rfl : k = n := by omega
      have HE : Hid (R = k) := by
        show R = k
        rw [← HR.out]
        exact fi_eq l k hat.out (fun x hx => by have := (List.getElem?_eq_some_iff.1 hx).1; have := HN.out; omega) (by have := HN.out; omega)
      go_wp2_with fail
      go_ret
      exact ⟨by rw [HE.out]; rfl, hbel.out⟩
    case pos =>
      have hd : decide (k < n) = true := by simpa using hkn
      have hkI : (0 : Int) ≤ (k : Int) := by omega
      have hkI2 : (k : Int) < (n : Int) := by omega
      have hsr := keepS HS.out hbel.out
      obtain ⟨bo, off, x, A3, c3, rfl, hbD, hx, g0, g1, hrow, hx64⟩ := lnk_at hsr.1 hkn
      obtain ⟨xs, xl⟩ := x
      simp only at g0 g1 hrow hx64
      have HX := Lib.hid hx
      obtain ⟨xn, hxn⟩ : ∃ xn, xn = xl.length := ⟨_, rfl⟩
      rw [← hxn] at g1 hrow
      have hba := below1 wr (.cells (lkV xs A3 xn c3) 44)
      have HBA := Lib.hid (stepB hbel.out hba)
      have HKB := Lib.hid (blk11 wr 44 (lkV xs A3 xn c3))
      have HW := Lib.hid (HK.out _ xs A3 xn c3 (stepB hbel.out hba))
      clear hrow hx hbD hsr hba hxn
      go_upto_region 4 with (fail)
      generalize World.alloc wr _ = w4 at *
      have v0 : w4.cell? ⟨wr.heap.size, 0, none⟩ = some (.int .u64 (xs : Int)) := (show Blk w4 wr.heap.size 44 _ from HKB.out).cell 0
      have v1 : w4.cell? ⟨wr.heap.size, 1, none⟩ = some (.slice A3 xn c3) := (show Blk w4 wr.heap.size 44 _ from HKB.out).cell 1
      clear g0 g1
      obtain ⟨b, hb⟩ : ∃ b, P xs = b := ⟨_, rfl⟩
      have HP := Lib.hid hb
      have HW2 := HW.out
      rw [hb] at HW2
      have HW3 := Lib.hid HW2
      clear hb HW2
      go_wp2_with fail
      refine HW3.out.mono ?_; rintro e w5 ⟨rfl, hb5⟩
      have HB5 := Lib.hid (stepB HBA.out hb5)
      clear v0 v1 hb5
      cases b
      case false =>
        have HA : Hid (∀ (j : Nat) x, j < k + 1 → l[j]? = some x → P x.1 = false) := fun j x hj hx => by
          rcases Nat.lt_or_ge j k with h | h
          · exact hat.out j x h hx
          · obtain rfl : j = k := by omega
            rw [HX.out] at hx
            injection hx with hx
            subst hx
            exact HP.out
        go_wp2_with fail
        go_roundw
        case rel => exact ⟨k + 1, hkn, by go_num, HA, HB5⟩
        case measure => simp [intOf]; omega
      case true =>
        have HE : Hid (R = k) := by
          show R = k
          rw [← HR.out]
          exact fi_eq l k hat.out (fun x hx => by
            rw [HX.out] at hx
            injection hx with hx
            subst hx
            exact HP.out) (by have := HN.out; omega)
        go_wp2_with fail
        go_ret
        exact ⟨by rw [HE.out]; rfl, HB5.out⟩
set_option maxRecDepth 100000 in
set_option maxHeartbeats 2000000 in
theorem lplaceW1_any (hs : rpLnk.sl w D A n c l) (hD : ∀ k, D k → k < w.heap.size) (hn : n ≤ 100000)
    (hK : ∀ (u : World) (s : Nat) (A' : Option Addr) (n' c' : Nat), Below w.heap.size w u → Calls Try.prog 72 #[.agg (lkV s A' n' c'), .pointer (some ⟨g, 0, none⟩)] u fun e w' => e = .returned (.bool (P s)) ∧ Below u.heap.size u w') :
    Calls Try.prog 69 #[.slice A n c, .func (Fn.func 72) #[] #[.pointer (some ⟨g, 0, none⟩)]] w fun e w' => e = .returned (.int .i64 ((l.findIdx (fun x => P x.1) : Nat) : Int)) ∧ Below w.heap.size w w' := by
  have HS := Lib.hid (show Sl rpLnk w D A n c l from ⟨hs, hD⟩)
  have HN := Lib.hid (Rp.sl_len hs).1
  have HK := Lib.hid hK
  obtain ⟨R, hR⟩ : ∃ R, l.findIdx (fun x => P x.1) = R := ⟨_, rfl⟩
  rw [hR]
  have HR := Lib.hid hR
  clear hs hK hD hR
  go_enter Try.func69, Try.ntmps69
  go_wp2_with fail
  go_loopw [9] (fun vi wr => ∃ k : Nat, k ≤ n ∧ vi = .int .i64 k ∧ Hid (∀ (j : Nat) x, j < k → l[j]? = some x → P x.1 = false) ∧ Hid (Below w.heap.size w wr)) (fun vi _ => n - (intOf vi).toNat)
  case atStart => exact ⟨0, Nat.zero_le _, rfl, fun j x h => absurd h (Nat.not_lt_zero _), Below.refl _ _⟩
  case round =>
    obtain ⟨k, hkn', rfl, hat, hbel⟩ := hrel
    have hzr := hbel.out.size
    by_cases hkn : k < n
    case neg =>
      have hd : decide (k < n) = false := by simpa using hkn
      obtain rfl : k = n := by omega
      have HE : Hid (R = k) := by
        show R = k
        rw [← HR.out]
        exact fi_eq l k hat.out (fun x hx => by have := (List.getElem?_eq_some_iff.1 hx).1; have := HN.out; omega) (by have := HN.out; omega)
      go_wp2_with fail
      go_ret
      exact ⟨by rw [HE.out]; rfl, hbel.out⟩
    case pos =>
      have hd : decide (k < n) = true := by simpa using hkn
      have hkI : (0 : Int) ≤ (k : Int) := by omega
      have hkI2 : (k : Int) < (n : Int) := by omega
      have hsr := keepS HS.out hbel.out
      obtain ⟨bo, off, x, A3, c3, rfl, hbD, hx, g0, g1, hrow, hx64⟩ := lnk_at hsr.1 hkn
      obtain ⟨xs, xl⟩ := x
      simp only at g0 g1 hrow hx64
      have HX := Lib.hid hx
      obtain ⟨xn, hxn⟩ : ∃ xn, xn = xl.length := ⟨_, rfl⟩
      rw [← hxn] at g1 hrow
      have hba := below1 wr (.cells (lkV xs A3 xn c3) 44)
      have HBA := Lib.hid (stepB hbel.out hba)
      have HKB := Lib.hid (blk11 wr 44 (lkV xs A3 xn c3))
      have HW := Lib.hid (HK.out _ xs A3 xn c3 (stepB hbel.out hba))
      clear hrow hx hbD hsr hba hxn
      go_upto_region 4 with (fail)
      generalize World.alloc wr _ = w4 at *
      have v0 : w4.cell? ⟨wr.heap.size, 0, none⟩ = some (.int .u64 (xs : Int)) := (show Blk w4 wr.heap.size 44 _ from HKB.out).cell 0
      have v1 : w4.cell? ⟨wr.heap.size, 1, none⟩ = some (.slice A3 xn c3) := (show Blk w4 wr.heap.size 44 _ from HKB.out).cell 1
      clear g0 g1
      obtain ⟨b, hb⟩ : ∃ b, P xs = b := ⟨_, rfl⟩
      have HP := Lib.hid hb
      have HW2 := HW.out
      rw [hb] at HW2
      have HW3 := Lib.hid HW2
      clear hb HW2
      go_wp2_with fail
      refine HW3.out.mono ?_; rintro e w5 ⟨rfl, hb5⟩
      have HB5 := Lib.hid (stepB HBA.out hb5)
      clear v0 v1 hb5
      cases b
      case false =>
        have HA : Hid (∀ (j : Nat) x, j < k + 1 → l[j]? = some x → P x.1 = false) := fun j x hj hx => by
          rcases Nat.lt_or_ge j k with h | h
          · exact hat.out j x h hx
          · obtain rfl : j = k := by omega
            rw [HX.out] at hx
            injection hx with hx
            subst hx
            exact HP.out
        go_wp2_with fail
        go_roundw
        case rel => exact ⟨k + 1, hkn, by go_num, HA, HB5⟩
        case measure => simp [intOf]; omega
      case true =>
        have HE : Hid (R = k) := by
          show R = k
          rw [← HR.out]
          exact fi_eq l k hat.out (fun x hx => by
            rw [HX.out] at hx
            injection hx with hx
            subst hx
            exact HP.out) (by have := HN.out; omega)
        go_wp2_with fail
        go_ret
        exact ⟨by rw [HE.out]; rfl, HB5.out⟩
set_option maxRecDepth 100000 in
set_option maxHeartbeats 2000000 in
theorem lplaceW2_any (hs : rpLnk.sl w D A n c l) (hD : ∀ k, D k → k < w.heap.size) (hn : n ≤ 100000)
    (hK : ∀ (u : World) (s : Nat) (A' : Option Addr) (n' c' : Nat), Below w.heap.size w u → Calls Try.prog 74 #[.agg (lkV s A' n' c'), .pointer (some ⟨g, 0, none⟩)] u fun e w' => e = .returned (.bool (P s)) ∧ Below u.heap.size u w') :
    Calls Try.prog 69 #[.slice A n c, .func (Fn.func 74) #[] #[.pointer (some ⟨g, 0, none⟩)]] w fun e w' => e = .returned (.int .i64 ((l.findIdx (fun x => P x.1) : Nat) : Int)) ∧ Below w.heap.size w w' := by
  have HS := Lib.hid (show Sl rpLnk w D A n c l from ⟨hs, hD⟩)
  have HN := Lib.hid (Rp.sl_len hs).1
  have HK := Lib.hid hK
  obtain ⟨R, hR⟩ : ∃ R, l.findIdx (fun x => P x.1) = R := ⟨_, rfl⟩
  rw [hR]
  have HR := Lib.hid hR
  clear hs hK hD hR
  go_enter Try.func69, Try.ntmps69
  go_wp2_with fail
  go_loopw [9] (fun vi wr => ∃ k : Nat, k ≤ n ∧ vi = .int .i64 k ∧ Hid (∀ (j : Nat) x, j < k → l[j]? = some x → P x.1 = false) ∧ Hid (Below w.heap.size w wr)) (fun vi _ => n - (intOf vi).toNat)
  case atStart => exact ⟨0, Nat.zero_le _, rfl, fun j x h => absurd h (Nat.not_lt_zero _), Below.refl _ _⟩
  case round =>
    obtain ⟨k, hkn', rfl, hat, hbel⟩ := hrel
    have hzr := hbel.out.size
    by_cases hkn : k < n
    case neg =>
      have hd : decide (k < n) = false := by simpa using hkn
      obtain rfl : k = n := by omega
      have HE : Hid (R = k) := by
        show R = k
        rw [← HR.out]
        exact fi_eq l k hat.out (fun x hx => by have := (List.getElem?_eq_some_iff.1 hx).1; have := HN.out; omega) (by have := HN.out; omega)
      go_wp2_with fail
      go_ret
      exact ⟨by rw [HE.out]; rfl, hbel.out⟩
    case pos =>
      have hd : decide (k < n) = true := by simpa using hkn
      have hkI : (0 : Int) ≤ (k : Int) := by omega
      have hkI2 : (k : Int) < (n : Int) := by omega
      have hsr := keepS HS.out hbel.out
      obtain ⟨bo, off, x, A3, c3, rfl, hbD, hx, g0, g1, hrow, hx64⟩ := lnk_at hsr.1 hkn
      obtain ⟨xs, xl⟩ := x
      simp only at g0 g1 hrow hx64
      have HX := Lib.hid hx
      obtain ⟨xn, hxn⟩ : ∃ xn, xn = xl.length := ⟨_, rfl⟩
      rw [← hxn] at g1 hrow
      have hba := below1 wr (.cells (lkV xs A3 xn c3) 44)
      have HBA := Lib.hid (stepB hbel.out hba)
      have HKB := Lib.hid (blk11 wr 44 (lkV xs A3 xn c3))
      have HW := Lib.hid (HK.out _ xs A3 xn c3 (stepB hbel.out hba))
      clear hrow hx hbD hsr hba hxn
      go_upto_region 4 with (fail)
      generalize World.alloc wr _ = w4 at *
      have v0 : w4.cell? ⟨wr.heap.size, 0, none⟩ = some (.int .u64 (xs : Int)) := (show Blk w4 wr.heap.size 44 _ from HKB.out).cell 0
      have v1 : w4.cell? ⟨wr.heap.size, 1, none⟩ = some (.slice A3 xn c3) := (show Blk w4 wr.heap.size 44 _ from HKB.out).cell 1
      clear g0 g1
      obtain ⟨b, hb⟩ : ∃ b, P xs = b := ⟨_, rfl⟩
      have HP := Lib.hid hb
      have HW2 := HW.out
      rw [hb] at HW2
      have HW3 := Lib.hid HW2
      clear hb HW2
      go_wp2_with fail
      refine HW3.out.mono ?_; rintro e w5 ⟨rfl, hb5⟩
      have HB5 := Lib.hid (stepB HBA.out hb5)
      clear v0 v1 hb5
      cases b
      case false =>
        have HA : Hid (∀ (j : Nat) x, j < k + 1 → l[j]? = some x → P x.1 = false) := fun j x hj hx => by
          rcases Nat.lt_or_ge j k with h | h
          · exact hat.out j x h hx
          · obtain rfl : j = k := by omega
            rw [HX.out] at hx
            injection hx with hx
            subst hx
            exact HP.out
        go_wp2_with fail
        go_roundw
        case rel => exact ⟨k + 1, hkn, by go_num, HA, HB5⟩
        case measure => simp [intOf]; omega
      case true =>
        have HE : Hid (R = k) := by
          show R = k
          rw [← HR.out]
          exact fi_eq l k hat.out (fun x hx => by
            rw [HX.out] at hx
            injection hx with hx
            subst hx
            exact HP.out) (by have := HN.out; omega)
        go_wp2_with fail
        go_ret
        exact ⟨by rw [HE.out]; rfl, HB5.out⟩
end
section
variable {A : Option Addr} {n c g s id : Nat} {w : World}
theorem find1_any (hg : w.cell? ⟨g, 0, none⟩ = some (.int .u64 (id : Int))) (hgl : g < w.heap.size) :
    Calls Try.prog 71 #[.agg (lkV s A n c), .pointer (some ⟨g, 0, none⟩)] w fun e w' => e = .returned (.bool (s == id)) ∧ Below w.heap.size w w' := by
  have hb0 := below1 w (.cells (lkV s A n c) 44)
  have HB := Lib.hid hb0
  have HK := Lib.hid (blk11 w 44 (lkV s A n c))
  have g0 := (hb0.cell (p := ⟨g, 0, none⟩) hgl).trans hg
  obtain ⟨q, hq⟩ : ∃ q, (s == id) = q := ⟨_, rfl⟩
  rw [hq]
  have hq2 : ((s : Int) == (id : Int)) = q := by rw [← hq, Bool.eq_iff_iff, beq_iff_eq, beq_iff_eq]; omega
  clear hb0 hg hq
  go_enter Try.func71, Try.ntmps71
  go_upto_region 1 with (fail)
  generalize World.alloc w _ = w0 at *
  have k0 : w0.cell? ⟨w.heap.size, 0, none⟩ = some (.int .u64 (s : Int)) := (show Blk w0 w.heap.size 44 _ from HK.out).cell 0
  go_wp2_with fail
  go_ret
  exact ⟨rfl, HB.out⟩
theorem with1_any (hg : w.cell? ⟨g, 0, none⟩ = some (.int .u64 (id : Int))) (hgl : g < w.heap.size) :
    Calls Try.prog 72 #[.agg (lkV s A n c), .pointer (some ⟨g, 0, none⟩)] w fun e w' => e = .returned (.bool (s == id)) ∧ Below w.heap.size w w' := by
  have hb0 := below1 w (.cells (lkV s A n c) 44)
  have HB := Lib.hid hb0
  have HK := Lib.hid (blk11 w 44 (lkV s A n c))
  have g0 := (hb0.cell (p := ⟨g, 0, none⟩) hgl).trans hg
  obtain ⟨q, hq⟩ : ∃ q, (s == id) = q := ⟨_, rfl⟩
  rw [hq]
  have hq2 : ((s : Int) == (id : Int)) = q := by rw [← hq, Bool.eq_iff_iff, beq_iff_eq, beq_iff_eq]; omega
  clear hb0 hg hq
  go_enter Try.func72, Try.ntmps72
  go_upto_region 1 with (fail)
  generalize World.alloc w _ = w0 at *
  have k0 : w0.cell? ⟨w.heap.size, 0, none⟩ = some (.int .u64 (s : Int)) := (show Blk w0 w.heap.size 44 _ from HK.out).cell 0
  go_wp2_with fail
  go_ret
  exact ⟨rfl, HB.out⟩
theorem with2_any (hg : w.cell? ⟨g, 0, none⟩ = some (.int .u64 (id : Int))) (hgl : g < w.heap.size) :
    Calls Try.prog 74 #[.agg (lkV s A n c), .pointer (some ⟨g, 0, none⟩)] w fun e w' => e = .returned (.bool (decide (id < s))) ∧ Below w.heap.size w w' := by
  have hb0 := below1 w (.cells (lkV s A n c) 44)
  have HB := Lib.hid hb0
  have HK := Lib.hid (blk11 w 44 (lkV s A n c))
  have g0 := (hb0.cell (p := ⟨g, 0, none⟩) hgl).trans hg
  obtain ⟨q, hq⟩ : ∃ q, decide (id < s) = q := ⟨_, rfl⟩
  rw [hq]
  have hq2 : decide ((id : Int) < (s : Int)) = q := by rw [← hq]; apply decide_eq_decide.2; omega
  clear hb0 hg
  go_enter Try.func74, Try.ntmps74
  go_upto_region 1 with (fail)
  generalize World.alloc w _ = w0 at *
  have k0 : w0.cell? ⟨w.heap.size, 0, none⟩ = some (.int .u64 (s : Int)) := (show Blk w0 w.heap.size 44 _ from HK.out).cell 0
  go_wp2_with fail
  go_ret
  exact ⟨rfl, HB.out⟩
end
end Go.Proofs.Ytnihaaifkogpbaa
