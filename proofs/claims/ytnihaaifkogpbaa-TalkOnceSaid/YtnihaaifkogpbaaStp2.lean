/- Walks: a set's nodes, sets apart, a node twice. -/
import Derived.Test.YtnihaaifkogpbaaStp
namespace Go.Proofs.Ytnihaaifkogpbaa
open Go.ChangeShapes Go.WideShapes Go.ChangeAt Go.RowKit
set_option linter.unusedVariables false
def NodesOk (l : List Nat) : Prop := 1 ≤ l.length ∧ l.length ≤ 8 ∧ Rises l ∧ ∀ a, l[l.length - 1]? = some a → a < 4294967296
def Apart (l : List Nat) (others : List (List Nat)) : Prop := ∀ (j : Nat) (o : List Nat), others[j]? = some o → ∀ x ∈ l, x ∉ o
def TwiceIn (sets : List (List Nat)) (k : Nat) (l : List Nat) : Prop := ∃ (j : Nat) (o : List Nat), j < k ∧ sets[j]? = some o ∧ ∃ x ∈ l, x ∈ o
theorem setOk_iff {sets : List (List Nat)} {i : Nat} {l : List Nat} : SetOk sets i l ↔ NodesOk l ∧ Apart l (sets.take i) := by
  constructor
  · rintro ⟨h1, h2, h3, h4, h5⟩
    refine ⟨⟨h1, h2, h3, h4⟩, fun j o ho => ?_⟩
    rw [List.getElem?_take] at ho
    split at ho
    · rename_i hj; exact h5 j o hj ho
    · cases ho
  · rintro ⟨⟨h1, h2, h3, h4⟩, h5⟩
    exact ⟨h1, h2, h3, h4, fun j o hj ho => h5 j o (by rw [List.getElem?_take, if_pos hj]; exact ho)⟩
theorem setOk_iff' {sets : List (List Nat)} {i : Nat} {l : List Nat} : SetOk sets i l ↔ NodesOk l ∧ ¬ TwiceIn sets i l := by
  constructor
  · rintro ⟨h1, h2, h3, h4, h5⟩
    exact ⟨⟨h1, h2, h3, h4⟩, fun ⟨j, o, hj, ho, x, hx, hxo⟩ => h5 j o hj ho x hx hxo⟩
  · rintro ⟨⟨h1, h2, h3, h4⟩, h5⟩
    exact ⟨h1, h2, h3, h4, fun j o hj ho x hx hxo => h5 ⟨j, o, hj, ho, x, hx, hxo⟩⟩

theorem nodes_any {D : Dom} {A : Option Addr} {n c : Nat} {l : List Nat} {w : World} (hl : rpU64.sl w D A n c l) (hD : ∀ k, D k → k < w.heap.size) :
    Calls Try.prog 79 #[.slice A n c] w fun e w' => e = .returned (.bool (dec (NodesOk l))) ∧ Below w.heap.size w w' := by
  obtain ⟨hlen, hnc, hcm⟩ := Rp.sl_len hl
  unfold maxLen at hcm
  have HL := Lib.hid hl
  have HN := Lib.hid hlen
  have HD := Lib.hid hD
  have HR := Lib.hid (rises_any hl hD)
  clear hl hlen hD
  by_cases h1 : n < 1
  · have hd : decide ((1 : Int) ≤ (n : Int)) = false := by simp; omega
    go_enter Try.func79, Try.ntmps79
    go_wp2_with fail
    go_ret
    rw [dec_false (fun h => by have := h.1; have := HN.out; omega)]
    exact ⟨rfl, Below.refl _ _⟩
  have hd : decide ((1 : Int) ≤ (n : Int)) = true := by simp; omega
  by_cases h2 : 8 < n
  · have hd2 : decide ((n : Int) ≤ 8) = false := by simp; omega
    go_enter Try.func79, Try.ntmps79
    go_wp2_with fail
    go_ret
    rw [dec_false (fun h => by have := h.2.1; have := HN.out; omega)]
    exact ⟨rfl, Below.refl _ _⟩
  have hd2 : decide ((n : Int) ≤ 8) = true := by simp; omega
  cases hq : dec (Rises l)
  · have hr := HR.out
    rw [hq] at hr
    have HRR := Lib.hid hr
    have HQ := Lib.hid (of_not_dec hq)
    clear hr hq
    go_enter Try.func79, Try.ntmps79
    go_wp2_with fail
    refine HRR.out.mono ?_; rintro e w1 ⟨rfl, hb⟩
    go_wp2_with fail
    go_ret
    rw [dec_false (fun h => HQ.out h.2.2.1)]
    exact ⟨rfl, hb⟩
  · have hr := HR.out
    rw [hq] at hr
    have HRR := Lib.hid hr
    have HQ := Lib.hid (of_dec hq)
    obtain ⟨b, off, y, rfl, hb, hy, hc, hlt⟩ := u64_at HL.out (show n - 1 < n by omega)
    have HY := Lib.hid hy
    have hbD : b < w.heap.size := HD.out b hb
    have HC := Lib.hid hc
    have hn1 : ((n : Int) - 1).toNat = n - 1 := by omega
    have hn2 : ((n - 1 : Nat) : Int) = (n : Int) - 1 := by omega
    clear hr hq hy hc
    go_enter Try.func79, Try.ntmps79
    go_wp2_with fail
    refine HRR.out.mono ?_; rintro e w1 ⟨rfl, hb1⟩
    have hc1 := (hb1.cell (p := ⟨b, off + (n - 1), none⟩) hbD).trans HC.out
    by_cases hyb : y < 4294967296
    · have hq : decide ((y : Int) ≤ 4294967295) = true := by simp; omega
      have HB1 := Lib.hid hb1
      clear hb1
      go_wp2_with fail
      go_ret
      have hno : NodesOk l := by
        have := HN.out
        exact ⟨by omega, by omega, HQ.out, fun a ha => by rw [HN.out, HY.out] at ha; injection ha with ha; omega⟩
      rw [dec_true hno]
      exact ⟨rfl, HB1.out⟩
    · have hq : decide ((y : Int) ≤ 4294967295) = false := by simp; omega
      have HB1 := Lib.hid hb1
      clear hb1
      go_wp2_with fail
      go_ret
      have hno : ¬ NodesOk l := fun h => by have := h.2.2.2 y (by rw [HN.out]; exact HY.out); omega
      rw [dec_false hno]
      exact ⟨rfl, HB1.out⟩

theorem apart_any {D D' : Dom} {A : Option Addr} {n c : Nat} {l : List Nat} {A' : Option Addr} {n' c' : Nat} {o : List (List Nat)} {w : World} (hl : rpU64.sl w D A n c l) (ho : (rpSlice rpU64).sl w D' A' n' c' o) :
    Calls Try.prog 80 #[.slice A n c, .slice A' n' c'] w fun e w' => e = .returned (.bool (dec (Apart l o))) ∧ w = w' := by
  obtain ⟨hlen, hnc, hcm⟩ := Rp.sl_len hl
  obtain ⟨hlen', hnc', hcm'⟩ := Rp.sl_len ho
  unfold maxLen at hcm hcm'
  have HL := Lib.hid hl
  have HN := Lib.hid hlen
  have HO := Lib.hid ho
  have HN' := Lib.hid hlen'
  clear hl hlen ho hlen'
  go_enter Try.func80, Try.ntmps80
  go_wp2_with fail
  go_loop [11] (fun i => ∃ k : Nat, k ≤ n' ∧ i = .int .i64 k ∧ Hid (∀ (j : Nat) s, j < k → o[j]? = some s → ∀ x ∈ l, x ∉ s)) (fun i => n' - (intOf i).toNat)
  case atStart => exact ⟨0, by omega, rfl, fun j s h => by omega⟩
  case round =>
    obtain ⟨k, hk, rfl, hsh⟩ := hrel
    by_cases hkn : k < n'
    · obtain ⟨b, off, s, A2, c2, rfl, hb, hs, hcell, hrow⟩ := rows_at HO.out hkn
      have hd : decide ((k : Int) < (n' : Int)) = true := by simp; omega
      have HS := Lib.hid hs
      have HR := Lib.hid hrow
      clear hs hrow
      go_wp2_with fail
      go_loop [17] (fun i => ∃ q : Nat, q ≤ n ∧ i = .int .i64 q ∧ Hid (∀ (j : Nat) x, j < q → l[j]? = some x → x ∉ s)) (fun i => n - (intOf i).toNat)
      case atStart => exact ⟨0, by omega, rfl, fun j s h => by omega⟩
      case round =>
        obtain ⟨q, hq, rfl, hsh2⟩ := hrel
        by_cases hqn : q < n
        · obtain ⟨b', off', x, rfl, hb', hx, hc, hlt⟩ := u64_at HL.out hqn
          have hd2 : decide ((q : Int) < (n : Int)) = true := by simp; omega
          have HX := Lib.hid hx
          have hct := contains_any x HR.out
          clear hx
          cases hm : dec (x ∈ s)
          · rw [hm] at hct
            have HCT := Lib.hid hct
            have HM := Lib.hid (of_not_dec hm)
            clear hct hm
            go_wp2_with fail
            refine HCT.out.mono ?_; rintro e w1 ⟨rfl, rfl⟩
            go_wp2_with fail
            go_round
            case rel =>
              refine ⟨q + 1, by omega, by go_num, fun j y hj hy => ?_⟩
              rcases Nat.lt_or_ge j q with h | h
              · exact hsh2.out j y h hy
              · obtain rfl : j = q := by omega
                rw [HX.out] at hy
                injection hy with hy
                exact hy ▸ HM.out
            case measure => simp [intOf]; omega
          · rw [hm] at hct
            have HCT := Lib.hid hct
            have HM := Lib.hid (of_dec hm)
            clear hct hm
            go_wp2_with fail
            refine HCT.out.mono ?_; rintro e w1 ⟨rfl, rfl⟩
            go_wp2_with fail
            go_ret
            rw [dec_false (fun h => h k s HS.out x (List.mem_of_getElem? HX.out) HM.out)]
            exact ⟨rfl, rfl⟩
        · obtain rfl : q = n := by omega
          have hd2 : decide ((q : Int) < (q : Int)) = false := by simp
          go_wp2_with fail
          go_round
          case rel =>
            refine ⟨k + 1, by omega, by go_num, fun j y hj hy x hx => ?_⟩
            rcases Nat.lt_or_ge j k with h | h
            · exact hsh.out j y h hy x hx
            · obtain rfl : j = k := by omega
              rw [HS.out] at hy
              injection hy with hy
              subst hy
              obtain ⟨i, hi⟩ := List.getElem?_of_mem hx
              exact hsh2.out i x (by have := (List.getElem?_eq_some_iff.1 hi).1; have := HN.out; omega) hi
          case measure => simp [intOf]; omega
    · obtain rfl : k = n' := by omega
      have hd : decide ((k : Int) < (k : Int)) = false := by simp
      go_wp2_with fail
      go_ret
      have hap : Apart l o := fun j s hs => hsh.out j s (by have := (List.getElem?_eq_some_iff.1 hs).1; have := HN'.out; omega) hs
      rw [dec_true hap]
      exact ⟨rfl, rfl⟩
end Go.Proofs.Ytnihaaifkogpbaa
