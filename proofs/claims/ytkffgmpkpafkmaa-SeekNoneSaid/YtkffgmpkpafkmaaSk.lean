/- seek.Match, Better, taken, Best; the reference's Same and Match. -/
import Derived.Test.YtkffgmpkpafkmaaSkM
import Derived.Test.YtkffgmpkpafkmaaChR
namespace Go.Proofs.Ytkffgmpkpafkmaa
open Go.ChangeShapes Go.WideShapes Go.ChangeAt Go.RowKit
set_option linter.unusedVariables false
theorem u8_at {w : World} {D : Dom} {A : Option Addr} {n c : Nat} {l : List UInt8} (h : rpU8.sl w D A n c l) {k : Nat} (hk : k < n) :
    ∃ b off x, A = some ⟨b, off, none⟩ ∧ D b ∧ l[k]? = some x ∧ w.cell? ⟨b, off + k, none⟩ = some (.int .u8 (x.toNat : Int)) := bytes_at h hk
theorem u8_eq {x y : UInt8} : ((x.toNat : Int) == (y.toNat : Int)) = decide (x = y) := by
  by_cases h : x = y
  · simp [h]
  · have : x.toNat ≠ y.toNat := fun e => h (UInt8.toNat_inj.1 e)
    rw [decide_eq_false h]
    simp
    omega
section
variable {D : Dom} {A : Option Addr} {n c : Nat} {l : List UInt8} {w : World}
theorem mat_out {a o : Int} (h : a < 0 ∨ (l.length : Int) ≤ a ∨ o < 1 ∨ a < o) : mat l a o = 0 := by
  unfold mat
  rw [if_neg (by omega)]
theorem match_out (a o : Int) (hl : rpU8.sl w D A n c l) (a0 : -9223372036854775808 ≤ a) (a1 : a ≤ 9223372036854775807) (o0 : -9223372036854775808 ≤ o) (o1 : o ≤ 9223372036854775807) (h : a < 0 ∨ (n : Int) ≤ a ∨ o < 1 ∨ a < o) :
    Calls Try.prog 24 #[.slice A n c, .int .i64 a, .int .i64 o] w fun e w' => e = .returned (.int .i64 0) ∧ w = w' := by
  obtain ⟨hlen, hnc, hcm⟩ := Rp.sl_len hl
  unfold maxLen at hcm
  rcases (show a < 0 ∨ (0 ≤ a ∧ (n : Int) ≤ a) ∨ (0 ≤ a ∧ a < (n : Int) ∧ o < 1) ∨ (0 ≤ a ∧ a < (n : Int) ∧ 1 ≤ o ∧ a < o) by omega) with h | ⟨h, h2⟩ | ⟨h, h2, h3⟩ | ⟨h, h2, h3, h4⟩
  all_goals
    clear hlen hl
    go_enter Try.func24, Try.ntmps24
    go_wp2_with fail
    go_ret
    exact ⟨rfl, rfl⟩
theorem rmatch_out (a o : Int) (hl : rpU8.sl w D A n c l) (a0 : -9223372036854775808 ≤ a) (a1 : a ≤ 9223372036854775807) (o0 : -9223372036854775808 ≤ o) (o1 : o ≤ 9223372036854775807) (h : a < 0 ∨ (n : Int) ≤ a ∨ o < 1 ∨ a < o) :
    Calls Try.prog 25 #[.slice A n c, .int .i64 a, .int .i64 o] w fun e w' => e = .returned (.int .i64 0) ∧ w = w' := by
  obtain ⟨hlen, hnc, hcm⟩ := Rp.sl_len hl
  unfold maxLen at hcm
  rcases (show a < 0 ∨ (0 ≤ a ∧ (n : Int) ≤ a) ∨ (0 ≤ a ∧ a < (n : Int) ∧ o < 1) ∨ (0 ≤ a ∧ a < (n : Int) ∧ 1 ≤ o ∧ a < o) by omega) with h | ⟨h, h2⟩ | ⟨h, h2, h3⟩ | ⟨h, h2, h3, h4⟩
  all_goals
    clear hlen hl
    go_enter Try.func25, Try.ntmps25
    go_wp2_with fail
    go_ret
    exact ⟨rfl, rfl⟩
set_option maxRecDepth 100000 in
set_option maxHeartbeats 4000000 in
theorem match_in (a o : Nat) (hl : rpU8.sl w D A n c l) (hD : ∀ k, D k → k < w.heap.size) (hn : n ≤ 1000) (ha : a < n) (ho : 1 ≤ o) (hoa : o ≤ a) :
    Calls Try.prog 24 #[.slice A n c, .int .i64 (a : Int), .int .i64 (o : Int)] w fun e w' => e = .returned (.int .i64 (mlen l a o : Int)) ∧ Below w.heap.size w w' := by
  obtain ⟨hlen, hnc, hcm⟩ := Rp.sl_len hl
  unfold maxLen at hcm
  have hd1 : decide ((a : Int) < 0) = false := by simp
  have hd2 : decide (n ≤ a) = false := by simp; omega
  have hd3 : decide ((o : Int) < 1) = false := by simp; omega
  have hd4 : decide (a < o) = false := by simp; omega
  have HL := Lib.hid hl
  have HLEN := Lib.hid hlen
  have HD := Lib.hid hD
  clear hlen hl hD
  go_enter Try.func24, Try.ntmps24
  go_wp2_with fail
  go_loopw [7] (fun nn wr => ∃ k : Nat, a + k ≤ n ∧ nn = .int .i64 (k : Int) ∧ Hid (∀ j, j < k → l[a + j]? = l[a + j - o]?) ∧ Hid (Below w.heap.size w wr)) (fun nn _ => n - (intOf nn).toNat)
  case atStart => exact ⟨0, by omega, rfl, fun j hj => by omega, Below.refl _ _⟩
  case round =>
    obtain ⟨k, hk, rfl, hall, hbw⟩ := hrel
    obtain ⟨p, hp⟩ : ∃ p, p = a + k := ⟨_, rfl⟩
    have hs1 : IntKind.i64.wrap ((a : Int) + (k : Int)) = (p : Int) := by rw [IntWalk.i64_in _ (by omega)]; omega
    have hs3 : (a : Int) + (k : Int) = (p : Int) := by omega
    have hq0 : decide ((k : Int) < 1048576) = true := by simp; omega
    by_cases hpn : p < n
    · obtain ⟨q, hq⟩ : ∃ q, q = p - o := ⟨_, rfl⟩
      have hs2 : IntKind.i64.wrap ((p : Int) - (o : Int)) = (q : Int) := by rw [IntWalk.i64_in _ (by omega)]; omega
      have hg : decide (p < n) = true := by simpa using hpn
      obtain ⟨b, off, x, rfl, hb, hx, g0⟩ := u8_at (Rp.sl_below HL.out hbw.out HD.out) hpn
      obtain ⟨_, _, y, he, _, hy, g1⟩ := u8_at (k := q) (Rp.sl_below HL.out hbw.out HD.out) (by omega)
      cases he
      have b0 : (0 : Int) ≤ (p : Int) := by omega
      have b1 : (p : Int) < (n : Int) := by omega
      have b2 : (0 : Int) ≤ (q : Int) := by omega
      have b3 : (q : Int) < (n : Int) := by omega
      have hxy := u8_eq (x := x) (y := y)
      have HX := Lib.hid hx
      have HY := Lib.hid hy
      have HP := Lib.hid hp
      have HQ := Lib.hid hq
      have HK := Lib.hid hk
      have hk6 : k ≤ 1000 := by omega
      clear hx hy hp hq hk hb
      by_cases hxe : x = y
      · rw [decide_eq_true hxe] at hxy
        have HXE := Lib.hid hxe
        clear hxe
        go_wp2_with fail
        go_quiet (fail)
        clear hs1 hs2 hs3
        go_wp2_with fail
        go_roundw
        case rel =>
          refine ⟨k + 1, by have := HP.out; omega, by go_num, fun j hj => ?_, hbw.out.trans ⟨rfl, rfl, rfl, Nat.le_refl _, fun _ _ => rfl⟩⟩
          rcases Nat.lt_or_ge j k with h | h
          · exact hall.out j h
          · obtain rfl : j = k := by omega
            rw [← HP.out, ← HQ.out, HX.out, HY.out, HXE.out]
        case measure => simp [intOf]; have := HP.out; omega
      · rw [decide_eq_false hxe] at hxy
        have HXE := Lib.hid hxe
        clear hxe
        go_wp2_with fail
        go_quiet (fail)
        clear hs1 hs2 hs3
        go_wp2_with fail
        go_ret
        have hm : mlen l a o = k := mlen_eq (by have := HP.out; have := HLEN.out; omega) hall.out hoa (.inr (by rw [← HP.out, ← HQ.out, HX.out, HY.out]; exact fun e => HXE.out (by injection e)))
        exact ⟨by rw [hm] <;> rfl, hbw.out.trans ⟨rfl, rfl, rfl, Nat.le_refl _, fun _ _ => rfl⟩⟩
    · have hg : decide (p < n) = false := by simpa using hpn
      have HP := Lib.hid hp
      have HK := Lib.hid hk
      have HPN := Lib.hid hpn
      clear hp hk hpn hs3
      go_wp2_with fail
      go_quiet (fail)
      clear hs1
      go_wp2_with fail
      go_ret
      have hm : mlen l a o = k := mlen_eq (by have := HK.out; have := HLEN.out; omega) hall.out hoa (.inl (by have := HP.out; have := HK.out; have := HLEN.out; have := HPN.out; omega))
      exact ⟨by rw [hm] <;> rfl, hbw.out.trans ⟨rfl, rfl, rfl, Nat.le_refl _, fun _ _ => rfl⟩⟩
theorem match_any (a o : Int) (hl : rpU8.sl w D A n c l) (hD : ∀ k, D k → k < w.heap.size) (hn : n ≤ 1000) (a0 : -9223372036854775808 ≤ a) (a1 : a ≤ 9223372036854775807) (o0 : -9223372036854775808 ≤ o) (o1 : o ≤ 9223372036854775807) :
    Calls Try.prog 24 #[.slice A n c, .int .i64 a, .int .i64 o] w fun e w' => e = .returned (.int .i64 (mat l a o : Int)) ∧ Below w.heap.size w w' := by
  have hlen := (Rp.sl_len hl).1
  by_cases h : a < 0 ∨ (n : Int) ≤ a ∨ o < 1 ∨ a < o
  · rw [mat_out (by omega)]
    refine (match_out a o hl a0 a1 o0 o1 h).mono ?_
    rintro e w' ⟨rfl, rfl⟩
    exact ⟨rfl, Below.refl _ _⟩
  · obtain ⟨a', rfl⟩ : ∃ a' : Nat, a = a' := ⟨a.toNat, by omega⟩
    obtain ⟨o', rfl⟩ : ∃ o' : Nat, o = o' := ⟨o.toNat, by omega⟩
    rw [mat_nat (by omega) (by omega) (by omega)]
    exact match_in a' o' hl hD hn (by omega) (by omega) (by omega)
/-- Are m bytes from a on those from f on? -/
noncomputable def smB (l : List UInt8) (a f m : Nat) : Bool := dec (∀ k, k < m → l[a + k]? = l[f + k]?)
set_option maxRecDepth 100000 in
set_option maxHeartbeats 4000000 in
theorem same_in (a f m : Nat) (hl : rpU8.sl w D A n c l) (hD : ∀ k, D k → k < w.heap.size) (hn : n ≤ 1000) (ha : a + m ≤ n) (hf : f + m ≤ n) :
    Calls Try.prog 28 #[.slice A n c, .int .i64 (a : Int), .int .i64 (f : Int), .int .i64 (m : Int)] w fun e w' => e = .returned (.bool (smB l a f m)) ∧ Below w.heap.size w w' := by
  obtain ⟨hlen, hnc, hcm⟩ := Rp.sl_len hl
  unfold maxLen at hcm
  have hd1 : decide ((n : Int) < (a : Int) + (m : Int)) = false := by simp; omega
  have hd2 : decide ((n : Int) < (f : Int) + (m : Int)) = false := by simp; omega
  have HL := Lib.hid hl
  have HLEN := Lib.hid hlen
  have HD := Lib.hid hD
  have HA := Lib.hid ha
  have HF := Lib.hid hf
  have ha3 : a ≤ 1000 := by omega
  have hf3 : f ≤ 1000 := by omega
  have hm3 : m ≤ 1000 := by omega
  clear hlen hl hD ha hf
  go_enter Try.func28, Try.ntmps28
  go_wp2_with fail
  go_loopw [9] (fun nn wr => ∃ k : Nat, k ≤ m ∧ nn = .int .i64 (k : Int) ∧ Hid (∀ j, j < k → l[a + j]? = l[f + j]?) ∧ Hid (Below w.heap.size w wr)) (fun nn _ => m - (intOf nn).toNat)
  case atStart => exact ⟨0, by omega, rfl, fun j hj => by omega, Below.refl _ _⟩
  case round =>
    obtain ⟨k, hk, rfl, hall, hbw⟩ := hrel
    by_cases hkm : k < m
    · have hd3 : decide ((k : Int) < (m : Int)) = true := by simp; omega
      obtain ⟨p, hp⟩ : ∃ p, p = a + k := ⟨_, rfl⟩
      obtain ⟨q, hq⟩ : ∃ q, q = f + k := ⟨_, rfl⟩
      have hpn : p < n := by have := HA.out; omega
      have hqn : q < n := by have := HF.out; omega
      have hs1 : IntKind.i64.wrap ((a : Int) + (k : Int)) = (p : Int) := by rw [IntWalk.i64_in _ (by omega)]; omega
      have hs2 : IntKind.i64.wrap ((f : Int) + (k : Int)) = (q : Int) := by rw [IntWalk.i64_in _ (by omega)]; omega
      obtain ⟨b, off, x, rfl, hb, hx, g0⟩ := u8_at (Rp.sl_below HL.out hbw.out HD.out) hpn
      obtain ⟨_, _, y, he, _, hy, g1⟩ := u8_at (k := q) (Rp.sl_below HL.out hbw.out HD.out) hqn
      cases he
      have b0 : (0 : Int) ≤ (p : Int) := by omega
      have b1 : (p : Int) < (n : Int) := by omega
      have b2 : (0 : Int) ≤ (q : Int) := by omega
      have b3 : (q : Int) < (n : Int) := by omega
      have hxy : ((x.toNat : Int) != (y.toNat : Int)) = !(decide (x = y)) := by rw [bne, u8_eq]
      have HX := Lib.hid hx
      have HY := Lib.hid hy
      have HP := Lib.hid hp
      have HQ := Lib.hid hq
      clear hx hy hp hq hb
      by_cases hxe : x = y
      · rw [decide_eq_true hxe, Bool.not_true] at hxy
        have HXE := Lib.hid hxe
        clear hxe
        go_wp2_with fail
        go_quiet (fail)
        clear hs1 hs2
        go_wp2_with fail
        go_roundw
        case rel =>
          refine ⟨k + 1, by omega, by go_num, fun j hj => ?_, hbw.out.trans ⟨rfl, rfl, rfl, Nat.le_refl _, fun _ _ => rfl⟩⟩
          rcases Nat.lt_or_ge j k with h | h
          · exact hall.out j h
          · obtain rfl : j = k := by omega
            rw [← HP.out, ← HQ.out, HX.out, HY.out, HXE.out]
        case measure => simp [intOf]; omega
      · rw [decide_eq_false hxe, Bool.not_false] at hxy
        have HXE := Lib.hid hxe
        clear hxe
        go_wp2_with fail
        go_quiet (fail)
        clear hs1 hs2
        go_wp2_with fail
        go_ret
        refine ⟨?_, hbw.out.trans ⟨rfl, rfl, rfl, Nat.le_refl _, fun _ _ => rfl⟩⟩
        unfold smB
        rw [dec_false fun h => HXE.out (by have := h k hkm; rw [← HP.out, ← HQ.out, HX.out, HY.out] at this; injection this)]
        rfl
    · obtain rfl : k = m := by omega
      have hd3 : decide ((k : Int) < (k : Int)) = false := by simp
      go_wp2_with fail
      go_ret
      exact ⟨by unfold smB; rw [dec_true hall.out]; rfl, hbw.out⟩
theorem same_out (a f m : Nat) (hl : rpU8.sl w D A n c l) (hn : n ≤ 1000) (ha : n < a + m) (ha2 : a ≤ 100000) (hm2 : m ≤ 100000) :
    Calls Try.prog 28 #[.slice A n c, .int .i64 (a : Int), .int .i64 (f : Int), .int .i64 (m : Int)] w fun e w' => e = .returned (.bool false) ∧ w = w' := by
  have hd1 : decide ((n : Int) < (a : Int) + (m : Int)) = true := by simp; omega
  clear hl
  go_enter Try.func28, Try.ntmps28
  go_wp2_with fail
  go_ret
  exact ⟨rfl, rfl⟩
set_option maxRecDepth 100000 in
set_option maxHeartbeats 4000000 in
theorem rmatch_in (a o : Nat) (hl : rpU8.sl w D A n c l) (hD : ∀ k, D k → k < w.heap.size) (hn : n ≤ 1000) (ha : a < n) (ho : 1 ≤ o) (hoa : o ≤ a) :
    Calls Try.prog 25 #[.slice A n c, .int .i64 (a : Int), .int .i64 (o : Int)] w fun e w' => e = .returned (.int .i64 (mlen l a o : Int)) ∧ Below w.heap.size w w' := by
  obtain ⟨hlen, hnc, hcm⟩ := Rp.sl_len hl
  unfold maxLen at hcm
  have hd1 : decide ((a : Int) < 0) = false := by simp
  have hd2 : decide (n ≤ a) = false := by simp; omega
  have hd3 : decide ((o : Int) < 1) = false := by simp; omega
  have hd4 : decide (a < o) = false := by simp; omega
  have hsm : Hid (∀ (x : World) (p q : Nat), p + 1 ≤ n → q + 1 ≤ n → Below w.heap.size w x → Calls Try.prog 28 #[.slice A n c, .int .i64 (p : Int), .int .i64 (q : Int), .int .i64 1] x fun e w' => e = .returned (.bool (smB l p q 1)) ∧ Below x.heap.size x w') := fun x p q hp hq hb => same_in p q 1 (Rp.sl_below hl hb hD) (fun k hk => Nat.lt_of_lt_of_le (hD k hk) hb.size) hn hp hq
  have hso : Hid (∀ (x : World) (q : Nat), Below w.heap.size w x → Calls Try.prog 28 #[.slice A n c, .int .i64 (n : Int), .int .i64 (q : Int), .int .i64 1] x fun e w' => e = .returned (.bool false) ∧ x = w') := fun x q hb => same_out n q 1 (Rp.sl_below hl hb hD) hn (by omega) (by omega) (by omega)
  have HLEN := Lib.hid hlen
  clear hlen hl hD
  go_enter Try.func25, Try.ntmps25
  go_wp2_with fail
  go_loopw [7] (fun nn wr => ∃ k : Nat, a + k ≤ n ∧ nn = .int .i64 (k : Int) ∧ Hid (∀ j, j < k → l[a + j]? = l[a + j - o]?) ∧ Hid (Below w.heap.size w wr)) (fun nn _ => n - (intOf nn).toNat)
  case atStart => exact ⟨0, by omega, rfl, fun j hj => by omega, Below.refl _ _⟩
  case round =>
    obtain ⟨k, hk, rfl, hall, hbw⟩ := hrel
    obtain ⟨p, hp⟩ : ∃ p, p = a + k := ⟨_, rfl⟩
    obtain ⟨q, hq⟩ : ∃ q, q = p - o := ⟨_, rfl⟩
    have hs3 : Hid ((a : Int) + (k : Int) = (p : Int)) := (by omega : (a : Int) + (k : Int) = (p : Int))
    have hs4 : Hid ((p : Int) - (o : Int) = (q : Int)) := (by omega : (p : Int) - (o : Int) = (q : Int))
    have hq0 : decide ((k : Int) < 1048576) = true := by simp; omega
    by_cases hpn : p < n
    · have HC := Lib.hid (hsm.out wr p q (by omega) (by omega) hbw.out)
      have hsmv : smB l p q 1 = dec (l[p]? = l[q]?) := by
        have e : (∀ k, k < 1 → l[p + k]? = l[q + k]?) = (l[p]? = l[q]?) := propext ⟨fun h => by simpa using h 0 (by omega), fun h j hj => by
          obtain rfl : j = 0 := by omega
          exact h⟩
        unfold smB
        rw [e]
      rw [hsmv] at HC
      have HP := Lib.hid hp
      have HQ := Lib.hid hq
      clear hsmv
      by_cases hxe : l[p]? = l[q]?
      · rw [dec_true hxe] at HC
        have HXE := Lib.hid hxe
        clear hxe
        go_wp2_with fail
        rw [hs3.out, hs4.out]
        refine HC.out.mono ?_; rintro e w2 ⟨rfl, hb2⟩
        have HB2 := Lib.hid (hbw.out.trans (hb2.mono hbw.out.size))
        clear hb2 hs3 hs4
        go_wp2_with fail
        go_roundw
        case rel =>
          refine ⟨k + 1, by have := HP.out; omega, by go_num, fun j hj => ?_, HB2.out⟩
          rcases Nat.lt_or_ge j k with h | h
          · exact hall.out j h
          · obtain rfl : j = k := by omega
            rw [← HP.out, ← HQ.out, HXE.out]
        case measure => simp [intOf]; have := HP.out; omega
      · rw [dec_false hxe] at HC
        have HXE := Lib.hid hxe
        clear hxe
        go_wp2_with fail
        rw [hs3.out, hs4.out]
        refine HC.out.mono ?_; rintro e w2 ⟨rfl, hb2⟩
        have HB2 := Lib.hid (hbw.out.trans (hb2.mono hbw.out.size))
        clear hb2 hs3 hs4
        go_wp2_with fail
        go_ret
        have hm : mlen l a o = k := mlen_eq (by have := HP.out; have := HLEN.out; omega) hall.out hoa (.inr (by rw [← HP.out, ← HQ.out]; exact HXE.out))
        exact ⟨by rw [hm] <;> rfl, HB2.out⟩
    · obtain rfl : p = n := by omega
      have HC := Lib.hid (hso.out wr q hbw.out)
      have HP := Lib.hid hp
      clear hp hq
      go_wp2_with fail
      rw [hs3.out, hs4.out]
      refine HC.out.mono ?_; rintro e w2 ⟨rfl, rfl⟩
      clear hs3 hs4
      go_wp2_with fail
      go_ret
      have hm : mlen l a o = k := mlen_eq (by have := HLEN.out; omega) hall.out hoa (.inl (by have := HP.out; have := HLEN.out; omega))
      exact ⟨by rw [hm] <;> rfl, hbw.out⟩
theorem rmatch_any (a o : Int) (hl : rpU8.sl w D A n c l) (hD : ∀ k, D k → k < w.heap.size) (hn : n ≤ 1000) (a0 : -9223372036854775808 ≤ a) (a1 : a ≤ 9223372036854775807) (o0 : -9223372036854775808 ≤ o) (o1 : o ≤ 9223372036854775807) :
    Calls Try.prog 25 #[.slice A n c, .int .i64 a, .int .i64 o] w fun e w' => e = .returned (.int .i64 (mat l a o : Int)) ∧ Below w.heap.size w w' := by
  have hlen := (Rp.sl_len hl).1
  by_cases h : a < 0 ∨ (n : Int) ≤ a ∨ o < 1 ∨ a < o
  · rw [mat_out (by omega)]
    refine (rmatch_out a o hl a0 a1 o0 o1 h).mono ?_
    rintro e w' ⟨rfl, rfl⟩
    exact ⟨rfl, Below.refl _ _⟩
  · obtain ⟨a', rfl⟩ : ∃ a' : Nat, a = a' := ⟨a.toNat, by omega⟩
    obtain ⟨o', rfl⟩ : ∃ o' : Nat, o = o' := ⟨o.toNat, by omega⟩
    rw [mat_nat (by omega) (by omega) (by omega)]
    exact rmatch_in a' o' hl hD hn (by omega) (by omega) (by omega)
def btB (o m p k : Int) : Bool := decide (k < m) || (decide (m = k) && decide (o < p))
theorem better_any (o m p k : Int) : Calls Try.prog 26 #[.int .i64 o, .int .i64 m, .int .i64 p, .int .i64 k] w fun e w' => e = .returned (.bool (btB o m p k)) ∧ w = w' := by
  unfold btB
  rcases (show k < m ∨ m < k ∨ m = k by omega) with h | h | h
  · have hd : decide (k < m) = true := by simpa using h
    rw [hd]
    clear h
    go_enter Try.func26, Try.ntmps26
    go_wp2_with fail
    go_ret
    exact ⟨rfl, rfl⟩
  · have hd : decide (k < m) = false := by simp; omega
    have hd2 : (m == k) = false := by simp; omega
    have hd3 : decide (m = k) = false := by simp; omega
    rw [hd, hd3]
    clear h hd3
    go_enter Try.func26, Try.ntmps26
    go_wp2_with fail
    go_ret
    exact ⟨rfl, rfl⟩
  · subst h
    have hd : decide (m < m) = false := by simp
    have hd2 : (m == m) = true := by simp
    rw [hd, decide_eq_true (show m = m from rfl)]
    obtain ⟨v, hv⟩ : ∃ v, v = decide (o < p) := ⟨_, rfl⟩
    rw [← hv]
    have hv2 := hv.symm
    clear hv
    cases v
    all_goals
      go_enter Try.func26, Try.ntmps26
      go_wp2_with fail
      go_ret
      exact ⟨rfl, rfl⟩
theorem taken_any (p : Nat × Nat) : Calls Try.prog 33 #[.int .i64 (p.1 : Int), .int .i64 (p.2 : Int)] w fun e w' => e = .returned (.tuple #[.int .i64 ((tk p).1 : Int), .int .i64 ((tk p).2 : Int)]) ∧ w = w' := by
  obtain ⟨x, y⟩ := p
  unfold tk
  by_cases h : y < 4
  · have hd : decide ((y : Int) < 4) = true := by simp; omega
    rw [if_pos h]
    go_enter Try.func33, Try.ntmps33
    go_wp2_with fail
    go_ret2
    exact ⟨rfl, rfl⟩
  · have hd : decide ((y : Int) < 4) = false := by simp; omega
    rw [if_neg h]
    go_enter Try.func33, Try.ntmps33
    go_wp2_with fail
    go_ret2
    exact ⟨rfl, rfl⟩
end
end Go.Proofs.Ytkffgmpkpafkmaa
