/- The reference's Near. -/
import Derived.Test.YtkffgmpkpafkmaaChR
namespace Go.Proofs.Ytkffgmpkpafkmaa
open Go.ChangeShapes Go.WideShapes Go.ChangeAt Go.RowKit
set_option linter.unusedVariables false
def iv (x : Int) : Value := .int .i64 x
theorem elemI : Elem Try.prog 35 3 1 8 := Elem.of (z := .int .i64 0) Try.underlying35 (by kernel_rfl) rfl (by decide)
theorem own_int {w : World} {base : Nat} {e : TypeId} {A : Option Addr} {n c : Nat} {l : List Int} (h : w.ownsRow base e 1 (.slice A n c) n (l.map iv)) (hl : ∀ x ∈ l, -9223372036854775808 ≤ x ∧ x < 9223372036854775808) : rpInt.sl w (fun k => some k = (Value.slice A n c).ownBlock) A n c l := by
  have hlen : l.length = n := by have := h.1; simpa using this
  subst hlen
  rcases h.2 with ⟨hv, h0⟩ | ⟨g, cap, cur, hv, hg, hh, hnc, hcm, hcs, htake⟩
  · injection hv with h1 _ h3
    subst h1; subst h3
    rw [h0]
    obtain rfl := List.eq_nil_of_length_eq_zero h0
    exact Rp.sl_nil _ _ _ _ _ (by decide)
  · injection hv with h1 _ h3
    subst h1; subst h3
    refine ⟨_, _, rfl, hnc, hcm, fun _ => ⟨g, 0, rfl, rfl, fun i x hx => ⟨[iv x], ⟨rfl, hl x (List.mem_of_getElem? hx)⟩, fun j u hu => ?_⟩⟩⟩
    have hj : j = 0 := by
      rcases Nat.eq_zero_or_pos j with h0 | h0
      · exact h0
      · rw [List.getElem?_eq_none (by simp; omega)] at hu; cases hu
    subst hj
    simp only [List.getElem?_cons_zero, Option.some.injEq] at hu
    subst hu
    have hi : (l.map iv)[i]? = some (iv x) := by rw [List.getElem?_map, hx]; rfl
    rw [← htake, List.getElem?_take] at hi
    split at hi
    · have := cell_of_row w g (0 + i * rpInt.size + 0) cur e (0, 0) hh
      rw [this]
      have e1 : 0 + i * rpInt.size + 0 = i := by show 0 + i * 1 + 0 = i; omega
      rw [e1]
      simpa using hi
    · cases hi
theorem ownsRow_same {w w' : World} {base : Nat} {e : TypeId} {size : Nat} {v : Value} {n : Nat} {xs : List Value} (h : w.ownsRow base e size v n xs) (hs : ∀ k, v.ownBlock = some k → w'.heap[k]? = w.heap[k]?) : w'.ownsRow base e size v n xs := by
  refine ⟨h.1, ?_⟩
  rcases h.2 with h0 | ⟨g, cap, cur, hv, hg, hh, hr⟩
  · exact .inl h0
  · exact .inr ⟨g, cap, cur, hv, hg, (hs g (by rw [hv]; rfl)).trans hh, hr⟩
/-- The places below t with the key of place a, falling. -/
def dnr (l : List UInt8) (a t : Nat) : List Nat := if a + 4 ≤ l.length then down l t (keyAt l a) else []
theorem dnr_succ (l : List UInt8) (a t : Nat) : dnr l a (t + 1) = if sameAt l (t : Int) (a : Int) = true then t :: dnr l a t else dnr l a t := by
  unfold dnr
  rw [sameAt_nat]
  by_cases h : a + 4 ≤ l.length
  · simp only [h, if_pos, decide_true, Bool.true_and]
    exact down_succ l t (keyAt l a)
  · simp [h]
theorem dnr_zero (l : List UInt8) (a : Nat) : dnr l a 0 = [] := by unfold dnr; split <;> rfl
theorem dnr_mem {l : List UInt8} {a t p : Nat} (h : p ∈ dnr l a t) : p < t := by
  unfold dnr at h
  split at h
  · exact (mem_down.1 h).1
  · simp at h
theorem dnr_length (l : List UInt8) (a t : Nat) : (dnr l a t).length ≤ t := by
  unfold dnr
  split
  · exact length_down _ _ _
  · simp
def ofN (l : List Nat) : List Int := l.map (fun p : Nat => (p : Int))
/-- The nearest places. -/
def near (l : List UInt8) (m : Nat) (a most : Int) : List Int := if 0 ≤ a ∧ a ≤ l.length then ofN ((dnr l a.toNat (min a.toNat m)).take most.toNat) else []
theorem near_bound {l : List UInt8} {m : Nat} {a most : Int} (hm : m ≤ 1000000) : ∀ x ∈ near l m a most, -9223372036854775808 ≤ x ∧ x < 9223372036854775808 := by
  intro x hx
  unfold near ofN at hx
  split at hx
  · obtain ⟨p, hp, rfl⟩ := List.mem_map.1 hx
    have := dnr_mem (List.mem_of_mem_take hp)
    constructor <;> omega
  · simp at hx
section
variable {D : Dom} {A : Option Addr} {n c : Nat} {l : List UInt8} {w : World}
set_option maxRecDepth 100000 in
theorem rnear_out (m : Nat) (a most : Int) (hl : rpU8.sl w D A n c l) (hn : n ≤ 1000000) (ha : a < 0 ∨ (n : Int) < a) :
    Calls Try.prog 20 #[.slice A n c, .int .i64 (m : Int), .int .i64 a, .int .i64 most] w fun e w' => e = .returned (.slice none 0 0) ∧ w = w' := by
  clear hl
  rcases (show a < 0 ∨ (0 ≤ a ∧ (n : Int) < a) by omega) with h | ⟨h, h2⟩
  all_goals
    clear ha
    go_enter Try.func20, Try.ntmps20
    go_wp2_with fail
    go_ret
    exact ⟨rfl, rfl⟩
set_option maxRecDepth 100000 in
set_option maxHeartbeats 4000000 in
theorem rnear_in (m a : Nat) (most : Int) (hl : rpU8.sl w D A n c l) (hD : ∀ k, D k → k < w.heap.size) (hn : n ≤ 60000) (hm : m ≤ n) (ha : a ≤ n) (m0 : -9223372036854775808 ≤ most) (m1 : most ≤ 9223372036854775807) :
    Calls Try.prog 20 #[.slice A n c, .int .i64 (m : Int), .int .i64 (a : Int), .int .i64 most] w fun e w' => ∃ A' n' c', e = .returned (.slice A' n' c') ∧ w'.ownsRow w.heap.size 3 1 (.slice A' n' c') n' ((ofN ((dnr l a (min a m)).take most.toNat)).map iv) ∧ Below w.heap.size w w' := by
  obtain ⟨hlen, hnc, hcm⟩ := Rp.sl_len hl
  unfold maxLen at hcm
  have hk : Hid (∀ (wr : World) (t : Nat), t < n → Below w.heap.size w wr → Calls Try.prog 12 #[.slice A n c, .int .i64 (t : Int), .int .i64 (a : Int)] wr fun e w' => e = .returned (.bool (sameAt l (t : Int) (a : Int))) ∧ Below wr.heap.size wr w') := fun wr t ht hb => rkey_any t a (Rp.sl_below hl hb hD) (by omega) (by omega) (by omega) (by omega)
  obtain ⟨M, hM⟩ : ∃ M, M = min a m := ⟨_, rfl⟩
  have hMn : M ≤ n := by omega
  have hMa : M ≤ a := by omega
  have HM := Lib.hid hM
  rw [← hM]
  have hq0 : decide ((a : Int) < 0) = false := by simp
  have hq1 : decide (n < a) = false := by simp; omega
  have hmn : (if m < a then (m : Int) else (a : Int)) = (M : Int) := by split <;> omega
  obtain ⟨T, hT⟩ : ∃ T, T = most.toNat := ⟨_, rfl⟩
  have HT := Lib.hid hT
  rw [← hT]
  clear hl hlen hD hM hT
  go_enter Try.func20, Try.ntmps20
  go_wp2_with fail
  go_loopw [9, 10] (fun oo ii wr => ∃ (t : Nat) (pre : List Nat) (A1 : Option Addr) (n1 c1 : Nat), t ≤ M ∧ ii = .int .i64 ((t : Int) - 1) ∧ oo = .slice A1 n1 c1 ∧ n1 ≤ M ∧ Hid (n1 + t ≤ M) ∧ Hid (n1 ≤ T) ∧ Hid (wr.ownsRow w.heap.size 3 1 (.slice A1 n1 c1) n1 ((ofN pre).map iv)) ∧ Hid (pre.length = n1 ∧ pre ++ (dnr l a t).take (T - n1) = (dnr l a M).take T) ∧ Hid (Below w.heap.size w wr)) (fun _ ii _ => (intOf ii + 1).toNat)
  case atStart => exact ⟨M, [], none, 0, 0, by omega, rfl, rfl, by omega, by show 0 + M ≤ M; omega, Nat.zero_le T, World.ownsRow_nil _ _ _ _, ⟨rfl, by simp⟩, Below.refl _ _⟩
  case round =>
    obtain ⟨t, pre, A1, n1, c1, ht, rfl, rfl, hn1, hn1t, hnT, hrow, hpre, hb0⟩ := hrel
    rcases Nat.eq_zero_or_pos t with h0 | h0
    · subst h0
      have hd : decide ((0 : Int) ≤ (0 : Int) - 1) = false := by simp
      go_wp2_with fail
      go_ret
      have hp := hpre.out.2
      rw [dnr_zero, List.take_nil, List.append_nil] at hp
      exact ⟨A1, n1, c1, rfl, by rw [← hp]; exact hrow.out, hb0.out⟩
    · obtain ⟨q, rfl⟩ : ∃ q, t = q + 1 := ⟨t - 1, by omega⟩
      by_cases hlt : (n1 : Int) < most
      · have hlT : n1 < T := by rw [HT.out]; omega
        have HLT := Lib.hid hlT
        clear hlT
        have hqn : q < n := by omega
        have HC := Lib.hid (hk.out wr q hqn hb0.out)
        have hd := dnr_succ l a q
        obtain ⟨v, hv⟩ : ∃ v : Bool, v = sameAt l (q : Int) (a : Int) := ⟨_, rfl⟩
        rw [← hv] at HC hd
        have HV := Lib.hid hd
        clear hd hv
        have hqa : q < a := by omega
        cases v
        · go_wp2_with fail
          refine HC.out.mono ?_; rintro e w2 ⟨rfl, hb2⟩
          have HB2 := Lib.hid hb2
          clear hb2
          go_wp2_with fail
          go_roundw
          case rel => exact ⟨q, pre, A1, n1, c1, by omega, by go_num, rfl, hn1, by show n1 + q ≤ M; have := hn1t.out; omega, hnT.out, ownsRow_same hrow.out (fun k hk => HB2.out.block k (hrow.out.lt k hk).2), ⟨hpre.out.1, by have := hpre.out.2; rw [HV.out] at this; simpa using this⟩, hb0.out.trans (HB2.out.mono hb0.out.size)⟩
          case measure => simp [intOf] <;> omega
        · go_wp2_with fail
          refine HC.out.mono ?_; rintro e w2 ⟨rfl, hb2⟩
          have HB2 := Lib.hid hb2
          have hbw := hb0.out.trans (hb2.mono hb0.out.size)
          have HBW := Lib.hid hbw
          have hzw := hbw.size
          have HR2 := Lib.hid (ownsRow_same hrow.out (fun k hk => hb2.block k (hrow.out.lt k hk).2))
          have hn16 : n1 + 1 ≤ 60000 := by have := hn1t.out; omega
          clear hb2 hbw
          go_wp2_with (refine wpList_app rfl (.tmp 44) (.tmp 46) 35 rfl elemI rfl (HR2.out.alloc _) rfl (Src.new w2 (iv (q : Int)) _ rfl) (by unfold maxLen; omega) (by omega) (by simp; omega) ?_; intro A2 c2 w3 ho2 hg2 hat2; have HO2 := Lib.hid ho2; have hb3 : Below w.heap.size w w3 := (HBW.out.alloc (show w.heap.size ≤ w2.heap.size from hzw) _).grown hg2 (by simp; omega) (fun k e => (hrow.out.lt k e).1); have HB3 := Lib.hid hb3; clear ho2 hg2 hat2 hb3)
          go_roundw
          case rel =>
            refine ⟨q, pre ++ [q], A2, n1 + 1, c2, by omega, by go_num, rfl, by have := hn1t.out; omega, by show n1 + 1 + q ≤ M; have := hn1t.out; omega, HLT.out, by show World.ownsRow _ _ _ _ _ _ _; have := HO2.out; simpa [ofN] using this, ⟨by rw [List.length_append, hpre.out.1]; rfl, ?_⟩, HB3.out⟩
            have h1 := hpre.out.2
            have h2 := HLT.out
            simp only [HV.out, if_true] at h1
            rw [show T - n1 = (T - (n1 + 1)) + 1 by omega, List.take_succ_cons] at h1
            rw [List.append_assoc]
            exact h1
          case measure => simp [intOf] <;> omega
      · have hqa : q < a := by omega
        have hlt2 : most ≤ (n1 : Int) := by omega
        go_wp2_with fail
        go_ret
        have h1 := hpre.out.2
        have h2 := hnT.out
        have h3 := HT.out
        rw [show T - n1 = 0 by omega, List.take_zero, List.append_nil] at h1
        exact ⟨A1, n1, c1, rfl, by rw [← h1]; exact hrow.out, hb0.out⟩
theorem rnear_any (m : Nat) (a most : Int) (hl : rpU8.sl w D A n c l) (hD : ∀ k, D k → k < w.heap.size) (hn : n ≤ 60000) (hm : m ≤ n) (a0 : -9223372036854775808 ≤ a) (a1 : a ≤ 9223372036854775807) (m0 : -9223372036854775808 ≤ most) (m1 : most ≤ 9223372036854775807) :
    Calls Try.prog 20 #[.slice A n c, .int .i64 (m : Int), .int .i64 a, .int .i64 most] w fun e w' => ∃ A' n' c', e = .returned (.slice A' n' c') ∧ w'.ownsRow w.heap.size 3 1 (.slice A' n' c') n' ((near l m a most).map iv) ∧ Below w.heap.size w w' := by
  have hlen := (Rp.sl_len hl).1
  unfold near
  by_cases h : 0 ≤ a ∧ a ≤ l.length
  · rw [if_pos h]
    obtain ⟨a', rfl⟩ : ∃ a' : Nat, a = a' := ⟨a.toNat, by omega⟩
    exact rnear_in m a' most hl hD hn hm (by omega) m0 m1
  · rw [if_neg h]
    refine (rnear_out m a most hl (by omega) (by omega)).mono ?_
    rintro e w' ⟨rfl, rfl⟩
    exact ⟨none, 0, 0, rfl, World.ownsRow_nil _ _ _ _, Below.refl _ _⟩
end
end Go.Proofs.Ytkffgmpkpafkmaa
