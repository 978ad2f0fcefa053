/- The reference's Ints and Keys. -/
import Derived.Test.YtkffgmpkpafkmaaChK
namespace Go.Proofs.Ytkffgmpkpafkmaa
open Go.ChangeShapes Go.WideShapes Go.ChangeAt Go.RowKit
set_option linter.unusedVariables false
open Classical in
noncomputable def dec (p : Prop) : Bool := decide p
theorem dec_true {p : Prop} (h : p) : dec p = true := by simp [dec, h]
theorem dec_false {p : Prop} (h : ¬ p) : dec p = false := by simp [dec, h]
theorem int_at {w : World} {D : Dom} {A : Option Addr} {n c : Nat} {l : List Int} (h : rpInt.sl w D A n c l) {k : Nat} (hk : k < n) :
    ∃ b off x, A = some ⟨b, off, none⟩ ∧ D b ∧ l[k]? = some x ∧ w.cell? ⟨b, off + k, none⟩ = some (.int .i64 x) ∧ x ≤ 9223372036854775807 := by
  obtain ⟨b, off, x, cs, hA, hb, hx, hc, hg⟩ := Rp.sl_at h hk
  obtain ⟨rfl, hlt, hlt2⟩ := hc
  have := hg 0 _ rfl
  exact ⟨b, off, x, hA, hb, hx, by simpa [rpInt] using this, by omega⟩
theorem rints_any {D D' : Dom} {A A' : Option Addr} {n c n' c' : Nat} {l l' : List Int} {w : World} (hs : rpInt.sl w D A n c l) (hs' : rpInt.sl w D' A' n' c' l') (hD : ∀ k, D k → k < w.heap.size) (hD' : ∀ k, D' k → k < w.heap.size) :
    Calls Try.prog 18 #[.slice A n c, .slice A' n' c'] w fun en w' => en = .returned (.bool (dec (l = l'))) ∧ Below w.heap.size w w' := by
  obtain ⟨hlen, hnc, hcm⟩ := Rp.sl_len hs
  obtain ⟨hlen', hnc', hcm'⟩ := Rp.sl_len hs'
  unfold maxLen at hcm hcm'
  have HL := Lib.hid hs
  have HL' := Lib.hid hs'
  have HN := Lib.hid hlen
  have HN' := Lib.hid hlen'
  have HD := Lib.hid hD
  have HD' := Lib.hid hD'
  clear hs hs' hlen hlen' hD hD'
  by_cases hne : n = n'
  case neg =>
    have hd : ((n : Int) != (n' : Int)) = true := by simp; omega
    rw [dec_false (fun h : l = l' => hne (by rw [← HN.out, ← HN'.out, h]))]
    clear hne
    go_enter Try.func18, Try.ntmps18
    go_wp2_with fail
    go_ret
    exact ⟨rfl, Below.refl _ _⟩
  subst hne
  go_enter Try.func18, Try.ntmps18
  go_wp2_with fail
  go_loopw [5] (fun i wr => ∃ k : Nat, k ≤ n ∧ i = .int .i64 k ∧ Hid (∀ (j : Nat), j < k → l[j]? = l'[j]?) ∧ Below w.heap.size w wr) (fun i _ => n - (intOf i).toNat)
  case atStart => exact ⟨0, by omega, rfl, fun j h => by omega, Below.refl _ _⟩
  case round =>
    obtain ⟨k, hk, rfl, hsh, hbr⟩ := hrel
    have HB := Lib.hid hbr
    by_cases hkn : k < n
    · obtain ⟨b, off, y, rfl, hb, hy, hc, hlt⟩ := int_at (Rp.sl_below HL.out hbr HD.out) hkn
      obtain ⟨b', off', z, rfl, hb', hz, hc', hlt'⟩ := int_at (Rp.sl_below HL'.out hbr HD'.out) hkn
      have hd : decide ((k : Int) < (n : Int)) = true := by simp; omega
      have hk0 : (0 : Int) ≤ (k : Int) := by omega
      have hk1 : (k : Int) < (n : Int) := by omega
      have HY := Lib.hid hy
      have HZ := Lib.hid hz
      clear hy hz hbr
      by_cases hyz : y = z
      · have hq : (y != z) = false := by simp; omega
        have HYZ := Lib.hid hyz
        clear hyz
        go_wp2_with fail
        go_quiet (fail)
        go_wp2_with fail
        go_roundw
        case rel =>
          refine ⟨k + 1, by omega, by go_num, fun j hj => ?_, HB.out.trans ⟨rfl, rfl, rfl, Nat.le_refl _, fun _ _ => rfl⟩⟩
          rcases Nat.lt_or_ge j k with h | h
          · exact hsh.out j h
          · obtain rfl : j = k := by omega
            rw [HY.out, HZ.out, HYZ.out]
        case measure => simp [intOf]; omega
      · have hq : (y != z) = true := by simp; omega
        have hno := Lib.hid (show ¬ l = l' from fun h => hyz (by have h1 := HY.out; rw [h, HZ.out] at h1; injection h1 with h1; exact h1.symm))
        clear hyz
        go_wp2_with fail
        go_quiet (fail)
        go_wp2_with fail
        go_ret
        rw [dec_false hno.out]
        exact ⟨rfl, HB.out.trans ⟨rfl, rfl, rfl, Nat.le_refl _, fun _ _ => rfl⟩⟩
    · obtain rfl : k = n := by omega
      have hd : decide ((k : Int) < (k : Int)) = false := by simp
      clear hbr
      go_wp2_with fail
      go_ret
      have hyes : l = l' := List.ext_getElem? (fun j => by
        rcases Nat.lt_or_ge j k with h | h
        · exact hsh.out j h
        · rw [List.getElem?_eq_none (by rw [HN.out]; exact h), List.getElem?_eq_none (by rw [HN'.out]; exact h)])
      rw [dec_true hyes]
      exact ⟨rfl, HB.out⟩

/-- Has no place below k the key of i? -/
noncomputable def noneAt (l : List UInt8) (i : Nat) : Nat → Bool
  | 0 => decide (i + 4 ≤ l.length)
  | k + 1 => noneAt l i k && !(sameAt l (i : Int) (k : Int))
theorem noneAt_iff (l : List UInt8) (i : Nat) : ∀ k, noneAt l i k = true ↔ i + 4 ≤ l.length ∧ ∀ p, p < k → hit l (keyAt l i) p = false
  | 0 => by simp [noneAt]
  | k + 1 => by
    show (noneAt l i k && !(sameAt l (i : Int) (k : Int))) = true ↔ _
    rw [Bool.and_eq_true, noneAt_iff l i k, sameAt_nat]
    constructor
    · rintro ⟨⟨h1, h2⟩, h3⟩
      refine ⟨h1, fun p hp => ?_⟩
      by_cases hpk : p = k
      · subst hpk
        cases hh : hit l (keyAt l i) p
        · rfl
        · obtain ⟨a1, a2⟩ := hit_iff.1 hh
          have : hit l (keyAt l p) i = true := hit_iff.2 ⟨h1, a2.symm⟩
          simp [this, a1] at h3
      · exact h2 p (by omega)
    · rintro ⟨h1, h2⟩
      refine ⟨⟨h1, fun p hp => h2 p (by omega)⟩, ?_⟩
      have h3 := h2 k (by omega)
      cases hk : decide (k + 4 ≤ l.length)
      · rfl
      · have hk' : k + 4 ≤ l.length := by simpa using hk
        cases hh : hit l (keyAt l k) i
        · rfl
        · obtain ⟨a1, a2⟩ := hit_iff.1 hh
          rw [hit_iff.2 ⟨hk', a2.symm⟩] at h3
          cases h3
theorem fresh_succ (l : List UInt8) (n : Nat) : fresh l (n + 1) = fresh l n + (if noneAt l n n = true then 1 else 0) := by
  show fresh l n + _ = _
  have h : (n + 4 ≤ l.length ∧ lastOf l n (keyAt l n) = 0) ↔ noneAt l n n = true := by rw [noneAt_iff, lastOf_zero]
  simp only [h]
theorem fresh_le (l : List UInt8) : ∀ n, fresh l n ≤ n
  | 0 => Nat.le_refl _
  | n + 1 => by rw [fresh_succ]; have := fresh_le l n; split <;> omega
section
variable {D : Dom} {A : Option Addr} {n c : Nat} {l : List UInt8} {w : World}
set_option maxRecDepth 100000 in
set_option maxHeartbeats 4000000 in
theorem rkeys_any (m : Nat) (hl : rpU8.sl w D A n c l) (hD : ∀ k, D k → k < w.heap.size) (hm : m ≤ n) (hn : n ≤ 1000000) :
    Calls Try.prog 17 #[.slice A n c, .int .i64 (m : Int)] w fun e w' => e = .returned (.int .i64 (fresh l m : Int)) ∧ Below w.heap.size w w' := by
  obtain ⟨hlen, hnc, hcm⟩ := Rp.sl_len hl
  unfold maxLen at hcm
  have HL := Lib.hid hl
  have HN := Lib.hid hlen
  have HD := Lib.hid hD
  have hk : Hid (∀ (wr : World) (i k : Nat), i ≤ 1000000 → k ≤ 1000000 → Below w.heap.size w wr → Calls Try.prog 12 #[.slice A n c, .int .i64 (i : Int), .int .i64 (k : Int)] wr fun e w' => e = .returned (.bool (sameAt l (i : Int) (k : Int))) ∧ Below wr.heap.size wr w') := fun wr i k hi hk hb => rkey_any i k (Rp.sl_below hl hb hD) (by omega) (by omega) (by omega) (by omega)
  clear hl hlen hD
  go_enter Try.func17, Try.ntmps17
  go_wp2_with fail
  go_loopw [5, 6] (fun nn ii wr => ∃ i z : Nat, i ≤ m ∧ ii = .int .i64 (i : Int) ∧ nn = .int .i64 (z : Int) ∧ Hid (z = fresh l i) ∧ z ≤ i ∧ Hid (Below w.heap.size w wr)) (fun _ ii _ => m - (intOf ii).toNat)
  case atStart => exact ⟨0, 0, by omega, rfl, rfl, rfl, Nat.le_refl _, Below.refl _ _⟩
  case round =>
    obtain ⟨i, z, hi, rfl, rfl, hz, hzi, hb0⟩ := hrel
    by_cases him : i < m
    · have hd : decide ((i : Int) < (m : Int)) = true := by simp; omega
      obtain ⟨q, hq⟩ : ∃ q : Bool, q = decide ((i : Int) + 4 ≤ (n : Int)) := ⟨_, rfl⟩
      have hq0 : Hid (q = noneAt l i 0) := by
        show q = decide (i + 4 ≤ l.length)
        rw [hq, HN.out]
        simp only [decide_eq_decide]
        omega
      have hq2 := hq.symm
      clear hq
      obtain ⟨ws, hws⟩ : ∃ ws, ws = wr := ⟨_, rfl⟩
      subst hws
      go_wp2_with fail
      go_loopw [7, 8] (fun f kk wr => ∃ (k : Nat) (fr : Bool), k ≤ i ∧ kk = .int .i64 (k : Int) ∧ f = .bool fr ∧ Hid (fr = noneAt l i k) ∧ Hid (Below w.heap.size w wr)) (fun _ kk _ => i - (intOf kk).toNat)
      case atStart => exact ⟨0, q, by omega, rfl, rfl, hq0, hb0.out⟩
      case round =>
        obtain ⟨k, fr, hk', rfl, rfl, hfr, hb1⟩ := hrel
        by_cases hki : k < i
        · have hd2 : decide ((k : Int) < (i : Int)) = true := by simp; omega
          cases fr
          · go_wp2_with fail
            go_roundw
            case rel => exact ⟨k + 1, false, by omega, by go_num, rfl, by show false = (noneAt l i k && _); rw [← hfr.out]; rfl, hb1.out⟩
            case measure => simp [intOf]; omega
          · have HC := Lib.hid (hk.out wr i k (by omega) (by omega) hb1.out)
            obtain ⟨v, hv⟩ : ∃ v : Bool, v = sameAt l (i : Int) (k : Int) := ⟨_, rfl⟩
            rw [← hv] at HC
            have HV := Lib.hid hv
            clear hv
            go_wp2_with fail
            refine HC.out.mono ?_; rintro e w2 ⟨rfl, hb2⟩
            have HB2 := Lib.hid hb2
            clear hb2
            go_wp2_with fail
            go_roundw
            case rel => exact ⟨k + 1, !v, by omega, by go_num, rfl, by show (!v) = (noneAt l i k && !(sameAt l (i : Int) (k : Int))); rw [← hfr.out, HV.out]; rfl, hb1.out.trans (HB2.out.mono hb1.out.size)⟩
            case measure => simp [intOf]; omega
        · obtain rfl : k = i := by omega
          have hd2 : decide ((k : Int) < (k : Int)) = false := by simp
          cases fr
          · go_wp2_with fail
            go_roundw
            case rel => exact ⟨k + 1, z, by omega, by go_num, rfl, by show _ = fresh l (k + 1); rw [fresh_succ, ← hfr.out, ← hz.out]; simp, by omega, hb1.out⟩
            case measure => simp [intOf]; omega
          · go_wp2_with fail
            go_roundw
            case rel => exact ⟨k + 1, z + 1, by omega, by go_num, by go_num, by show _ = fresh l (k + 1); rw [fresh_succ, ← hfr.out, ← hz.out]; simp, by omega, hb1.out⟩
            case measure => simp [intOf]; omega
    · obtain rfl : i = m := by omega
      have hd : decide ((i : Int) < (i : Int)) = false := by simp
      go_wp2_with fail
      go_ret
      exact ⟨by rw [← hz.out]; rfl, hb0.out⟩
end
end Go.Proofs.Ytkffgmpkpafkmaa
