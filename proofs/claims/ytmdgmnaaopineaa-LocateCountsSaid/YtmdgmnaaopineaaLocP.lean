/- The reference's Which and Nodes. -/
import Derived.Test.YtmdgmnaaopineaaLoc4
import Derived.Test.YtmdgmnaaopineaaLocM
import Derived.BigQuiet
namespace Go.Proofs.Ytmdgmnaaopineaa
open Go.ChangeShapes Go.WideShapes Go.ChangeAt Go.RowKit
set_option linter.unusedVariables false
theorem start_find (l : List Stp) (x : Nat) : ∀ k, x < startOf l k → ∃ r, r < k ∧ startOf l r ≤ x ∧ x < startOf l (r + 1)
  | 0, h => by simp [startOf] at h
  | k + 1, h => by
    by_cases h2 : x < startOf l k
    · obtain ⟨r, hr, h3, h4⟩ := start_find l x k h2
      exact ⟨r, by omega, h3, h4⟩
    · exact ⟨k, by omega, by omega, h⟩
/-- Each position is in a stripe. -/
theorem inStripe_some {e : Nat} {l : List Stp} {x : Nat} (h : POk (e, l)) (hp : PosOk x) : ∃ r s, InStripe l x r s := by
  have h1 : startOf l l.length = 4611686018427387904 := h.2
  have h2 : x < 4611686018427387904 := hp
  obtain ⟨r, hr, h3, h4⟩ := start_find l x l.length (by omega)
  have hs : l[r]? = some l[r] := List.getElem?_eq_getElem hr
  rw [startOf_succ hs] at h4
  exact ⟨r, l[r], hs, by rw [(h.1.2 r l[r] hr hs).2]; exact h3, h4⟩
section
variable {D : Dom} {A : Option Addr} {n c e : Nat} {l : List Stp} {w : World}
set_option maxRecDepth 100000 in
set_option maxHeartbeats 4000000 in
theorem which_bad (x : Nat) (hs : rpStp.sl w D A n c l) (hD : ∀ k, D k → k < w.heap.size) (he : e ≤ 18446744073709551615) (hx : x ≤ 18446744073709551615) (hno : ¬ (POk (e, l) ∧ PosOk x)) :
    Calls Try.prog 28 #[.agg (prjV e A n c), .int .u64 (x : Int)] w fun en w' => en = .returned (.int .i64 (-1)) ∧ Below w.heap.size w w' := by
  have hb0 : Below w.heap.size w (w.alloc (.cells (prjV e A n c) 25)) := (Below.refl _ _).alloc (Nat.le_refl _) _
  have hr := rpright_any (Rp.sl_below hs hb0 hD) (fun k hk => Nat.lt_of_lt_of_le (hD k hk) hb0.size) he
  have HB0 := Lib.hid hb0
  by_cases hok : POk (e, l)
  · rw [dec_true hok] at hr
    have HR := Lib.hid hr
    have hp := fun w => repos_any x w hx
    rw [dec_false (fun h => hno ⟨hok, h⟩)] at hp
    have HPS := Lib.hid hp
    clear hr hp hs hD hb0 hok hno
    go_enter Try.func28, Try.ntmps28
    go_wp2_with fail
    refine HR.out.mono ?_; rintro en w1 ⟨rfl, hb1⟩
    have HB1 := Lib.hid hb1
    clear hb1
    go_wp2_with fail
    refine (HPS.out _).mono ?_; rintro en w2 ⟨rfl, rfl⟩
    go_wp2_with fail
    go_ret
    exact ⟨rfl, HB0.out.trans (HB1.out.mono HB0.out.size)⟩
  · rw [dec_false hok] at hr
    have HR := Lib.hid hr
    clear hr hs hD hb0 hok hno
    go_enter Try.func28, Try.ntmps28
    go_wp2_with fail
    refine HR.out.mono ?_; rintro en w1 ⟨rfl, hb1⟩
    have HB1 := Lib.hid hb1
    clear hb1
    go_wp2_with fail
    go_ret
    exact ⟨rfl, HB0.out.trans (HB1.out.mono HB0.out.size)⟩
set_option maxRecDepth 100000 in
set_option maxHeartbeats 4000000 in
theorem which_ok {r : Nat} {s : Stp} (x : Nat) (hs : rpStp.sl w D A n c l) (hD : ∀ k, D k → k < w.heap.size) (he : e ≤ 18446744073709551615) (hx : x ≤ 18446744073709551615) (hok : POk (e, l)) (hpos : PosOk x) (hin : InStripe l x r s) :
    Calls Try.prog 28 #[.agg (prjV e A n c), .int .u64 (x : Int)] w fun en w' => en = .returned (.int .i64 (r : Int)) ∧ Below w.heap.size w w' := by
  obtain ⟨hlen, hnc, hcm⟩ := Rp.sl_len hs
  unfold maxLen at hcm
  have hb0 : Below w.heap.size w (w.alloc (.cells (prjV e A n c) 25)) := (Below.refl _ _).alloc (Nat.le_refl _) _
  have hr := rpright_any (Rp.sl_below hs hb0 hD) (fun k hk => Nat.lt_of_lt_of_le (hD k hk) hb0.size) he
  rw [dec_true hok] at hr
  have hp := fun w => repos_any x w hx
  rw [dec_true hpos] at hp
  have hrn : r < n := by rw [← hlen]; exact (List.getElem?_eq_some_iff.1 hin.1).1
  have hn64 : n ≤ 64 := by rw [← hlen]; exact hok.1.1.2.2
  have HB0 := Lib.hid hb0
  have HK0 : Hid (Blk (w.alloc (.cells (prjV e A n c) 25)) w.heap.size 25 (prjV e A n c)) := Blk.newAt rfl _ _
  have HR := Lib.hid hr
  have HPS := Lib.hid hp
  have HS := Lib.hid hs
  have HD := Lib.hid hD
  have HOK := Lib.hid hok
  have HIN := Lib.hid hin
  clear hr hp hs hD hb0 hok hpos hin hlen
  go_enter Try.func28, Try.ntmps28
  go_wp2_with fail
  generalize World.alloc w _ = w0 at *
  have hl0 := (show Blk _ _ _ _ from HK0.out).lt
  have hz0 := HB0.out.size
  refine HR.out.mono ?_; rintro en w1 ⟨rfl, hb1⟩
  have HB1 := Lib.hid hb1
  clear hb1
  go_wp2_with fail
  refine (HPS.out _).mono ?_; rintro en w2 ⟨rfl, rfl⟩
  go_wp2_with fail
  go_loopw [5] (fun ii wr => ∃ k : Nat, k ≤ r ∧ ii = .int .i64 (k : Int) ∧ Hid (Below w0.heap.size w0 wr)) (fun ii _ => r + 1 - (intOf ii).toNat)
  case atStart => exact ⟨0, by omega, rfl, HB1.out⟩
  case round =>
    obtain ⟨k, hk, rfl, hbw⟩ := hrel
    have hkn : k < n := by omega
    have hbz := HB0.out.trans (hbw.out.mono hz0)
    obtain ⟨b, off, t, A2, c2, rfl, hb, hsk, g0, g1, g2, hrow, hs1, hs2⟩ := stps_at (Rp.sl_below HS.out hbz HD.out) hkn
    have e1 : wr.cell? ⟨w.heap.size, 1, none⟩ = some (.slice (some ⟨b, off, none⟩) n c) := (Blk.below (show Blk _ _ _ _ from HK0.out) hbw.out hl0).cell 1
    obtain ⟨f, hf⟩ : ∃ f, f = t.1 := ⟨_, rfl⟩
    obtain ⟨u, hu⟩ : ∃ u, u = t.2.1 := ⟨_, rfl⟩
    rw [← hf] at g0 hs1
    rw [← hu] at g1 hs2
    have hin := HIN.out
    have hd0 : decide ((k : Int) < (n : Int)) = true := by simp; omega
    have hk0 : (0 : Int) ≤ (k : Int) := by omega
    have hk1 : (k : Int) < (n : Int) := by omega
    have HBZ := Lib.hid hbz
    by_cases hkr : k < r
    · have hle := stripe_le HOK.out r k t s hsk hin.1 hkr
      have hto := ((HOK.out.1.2 k t (List.getElem?_eq_some_iff.1 hsk).1 hsk).1).1
      have hin2 := hin.2.1
      have q1 : decide (f ≤ x) = true := by simp; omega
      have q2 : decide (x < u) = false := by simp; omega
      clear hf hu hsk hrow hin hle hto hin2 hbz g2
      go_wp2_with fail
      go_roundw
      case rel => exact ⟨k + 1, by omega, by go_num, hbw.out⟩
      case measure => simp [intOf]; omega
    · obtain rfl : k = r := by omega
      obtain rfl : t = s := by have h1 := hin.1; rw [hsk] at h1; injection h1
      have q1 : decide (f ≤ x) = true := by have := hin.2.1; simp; omega
      have q2 : decide (x < u) = true := by have := hin.2.2; simp; omega
      clear hf hu hsk hrow hin hbz g2
      go_wp2_with fail
      go_ret
      exact ⟨rfl, HBZ.out⟩
set_option maxRecDepth 100000 in
set_option maxHeartbeats 4000000 in
/-- The reference's Nodes of a position: the slice that the projection holds. -/
theorem rnodes_ok {r : Nat} {s : Stp} (x : Nat) (hs : rpStp.sl w D A n c l) (hD : ∀ k, D k → k < w.heap.size) (he : e ≤ 18446744073709551615) (hx : x ≤ 18446744073709551615) (hok : POk (e, l)) (hpos : PosOk x) (hin : InStripe l x r s) :
    ∃ (nd : List Nat) (A' : Option Addr) (c' : Nat), s.2.2[(x - s.1) % s.2.2.length]? = some nd ∧ rpU64.sl w D A' nd.length c' nd ∧ ∀ y, Below w.heap.size w y →
      Calls Try.prog 32 #[.agg (prjV e A n c), .int .u64 (x : Int)] y fun en w' => en = .returned (.slice A' nd.length c') ∧ Below y.heap.size y w' := by
  obtain ⟨hlen, hnc, hcm⟩ := Rp.sl_len hs
  unfold maxLen at hcm
  have hrn : r < n := by rw [← hlen]; exact (List.getElem?_eq_some_iff.1 hin.1).1
  have hso : SOk s := (hok.1.2 r s (List.getElem?_eq_some_iff.1 hin.1).1 hin.1).1
  obtain ⟨b, off, t, A2, c2, rfl, hb, hsk, g0, g1, g2, hrow, hs1, hs2⟩ := stps_at hs hrn
  obtain rfl : t = s := by have h1 := hin.1; rw [hsk] at h1; injection h1
  have hm1 : 1 ≤ t.2.2.length := hso.2.2.1
  have hm8 : t.2.2.length ≤ 8 := hso.2.2.2.1
  have hKm : (x - t.1) % t.2.2.length < t.2.2.length := Nat.mod_lt _ (by omega)
  obtain ⟨K, hK⟩ : ∃ K, K = (x - t.1) % t.2.2.length := ⟨_, rfl⟩
  rw [← hK] at hKm ⊢
  obtain ⟨b2, off2, nd, A3, c3, rfl, hb2, hnd, hc3, hs3⟩ := rows_at hrow hKm
  refine ⟨nd, A3, c3, hnd, hs3, fun y hy => ?_⟩
  obtain ⟨m, hm⟩ : ∃ m, m = t.2.2.length := ⟨_, rfl⟩
  obtain ⟨f, hf⟩ : ∃ f, f = t.1 := ⟨_, rfl⟩
  obtain ⟨u, hu⟩ : ∃ u, u = t.2.1 := ⟨_, rfl⟩
  obtain ⟨nl, hnl⟩ : ∃ nl, nl = nd.length := ⟨_, rfl⟩
  have hfx := hin.2.1
  rw [← hm] at g2 hK hKm hm1 hm8
  rw [← hf] at g0 hs1 hK hfx
  rw [← hu] at g1 hs2
  rw [← hnl] at hc3
  rw [← hnl]
  have hKe : ((x : Int) - (f : Int)) % (m : Int) = (K : Int) := by rw [hK, Int.natCast_emod, Int.natCast_sub hfx]
  have hb0 : Below y.heap.size y (y.alloc (.cells (prjV e (some ⟨b, off, none⟩) n c) 25)) := (Below.refl _ _).alloc (Nat.le_refl _) _
  have hwy := hy.trans (hb0.mono hy.size)
  have HWH := Lib.hid (which_ok (e := e) x (Rp.sl_below hs hwy hD) (fun k hk => Nat.lt_of_lt_of_le (hD k hk) hwy.size) he hx hok hpos hin)
  have hbz := hD b hb
  have hb2z := hD b2 hb2
  have HG0 := Lib.hid g0
  have HG1 := Lib.hid g1
  have HG2 := Lib.hid g2
  have HC3 := Lib.hid hc3
  have HY := Lib.hid hwy
  have HB0 := Lib.hid hb0
  have HK0 : Hid (Blk (y.alloc (.cells (prjV e (some ⟨b, off, none⟩) n c) 25)) y.heap.size 25 (prjV e (some ⟨b, off, none⟩) n c)) := Blk.newAt rfl _ _
  have hrI0 : (0 : Int) ≤ (r : Int) := by omega
  have hrI1 : (r : Int) < (n : Int) := by omega
  have hKI0 : (0 : Int) ≤ (K : Int) := by omega
  have hKI1 : (K : Int) < (m : Int) := by omega
  have hfx2 : (f : Int) ≤ (x : Int) := by omega
  have hx2 : (x : Int) ≤ 18446744073709551615 := by omega
  have HKE := Lib.hid hKe
  have H : Hid ((Try.prog.info? 31).map (·.size) = some 3) := by unfold Hid; kernel_rfl
  clear hs hD hok hpos hin hlen g0 g1 g2 hc3 hwy hb0 hK hm hf hu hnl hsk hrow hso hs3 hnd hKe hy
  go_enter Try.func32, Try.ntmps32
  go_wp2_with fail
  generalize World.alloc y _ = w0 at *
  have hl0 := (show Blk _ _ _ _ from HK0.out).lt
  refine HWH.out.mono ?_; rintro en w1 ⟨rfl, hb1⟩
  have hw1 := HY.out.trans (hb1.mono HY.out.size)
  have e1 : w1.cell? ⟨y.heap.size, 1, none⟩ = some (.slice (some ⟨b, off, none⟩) n c) := (Blk.below (show Blk _ _ _ _ from HK0.out) hb1 hl0).cell 1
  have p0 := (hw1.cell (p := ⟨b, off + r * 3, none⟩) hbz).trans HG0.out
  have p1 := (hw1.cell (p := ⟨b, off + r * 3 + 1, none⟩) hbz).trans HG1.out
  have p2 := (hw1.cell (p := ⟨b, off + r * 3 + 2, none⟩) hbz).trans HG2.out
  have HB1 := Lib.hid hb1
  have HW1 := Lib.hid hw1
  clear hb1 hw1
  go_wp2_with fail
  have hb2' : Below w1.heap.size w1 (w1.alloc (.cells #[.int .u64 (f : Int), .int .u64 (u : Int), .slice (some ⟨b2, off2, none⟩) m c2] 31)) := (Below.refl _ _).alloc (Nat.le_refl _) _
  have hk := Blk.new w1 31 #[.int .u64 (f : Int), .int .u64 (u : Int), .slice (some ⟨b2, off2, none⟩) m c2]
  generalize (w1.alloc (.cells #[.int .u64 (f : Int), .int .u64 (u : Int), .slice (some ⟨b2, off2, none⟩) m c2] 31)) = w2 at *
  have HB2 := Lib.hid (HB1.out.trans (hb2'.mono HB1.out.size))
  have q0 : w2.cell? ⟨w1.heap.size, 0, none⟩ = some (.int .u64 (f : Int)) := hk.cell 0
  have q2 : w2.cell? ⟨w1.heap.size, 2, none⟩ = some (.slice (some ⟨b2, off2, none⟩) m c2) := hk.cell 2
  have q3 : w2.cell? ⟨b2, off2 + K, none⟩ = some (.slice A3 nl c3) := (hb2'.cell (p := ⟨b2, off2 + K, none⟩) (Nat.lt_of_lt_of_le hb2z HW1.out.size)).trans ((HW1.out.cell (p := ⟨b2, off2 + K, none⟩) hb2z).trans HC3.out)
  obtain ⟨d, hd⟩ : ∃ d : Nat, d = x - f := ⟨_, rfl⟩
  have hs1 : IntKind.u64.wrap ((x : Int) - (f : Int)) = (d : Int) := by rw [IntWalk.u64_in _ (by omega)]; omega
  have hs2 : IntKind.u64.wrap (m : Int) = (m : Int) := by rw [IntWalk.u64_in _ (by omega)]
  have hs3 : (d : Int).tmod (m : Int) = (K : Int) := by
    rw [Int.tmod_eq_emod_of_nonneg (by omega), ← HKE.out]
    congr 1; omega
  have hs4 : IntKind.u64.wrap (K : Int) = (K : Int) := by rw [IntWalk.u64_in _ (by omega)]
  have hm0 : ((m : Int) == 0) = false := by simp; omega
  have hm01 : (m : Int) ≠ 0 := by omega
  have hm02 : m ≠ 0 := by omega
  clear hb2' hk e1 p0 p1 p2 hd
  go_quiet (fail)
  clear hs1 hs2 hs3 hs4 q0 q2 q3
  go_wp2_with fail
  go_ret
  have hdn : Below w0.heap.size w2 (w2.drewN nq) := ⟨rfl, rfl, rfl, Nat.le_refl _, fun _ _ => rfl⟩
  exact ⟨rfl, HB0.out.trans ((HB2.out.trans hdn).mono HB0.out.size)⟩
end
end Go.Proofs.Ytmdgmnaaopineaa
