/-
  The law of this claim, part 2 of its proof: the parts Stp2, StrM, CurBad, Var, VarB, VarR, Cur3, VarG, VarQ, VarP.
-/
import Derived.WalkMore
import Derived.ScopeJumps
import Derived.Laws.BitsAllLaws
import Derived.Laws.OwnMore
import Derived.Deep.DeepCutAuto
import Derived.Deep.CutBlock
import Derived.Test.YtmdgmnaaopineaaQPR1
/- Walks: a set's nodes, sets apart, a node twice. -/
namespace Go.Proofs.Ytmdgmnaaopineaa
open Go.ChangeShapes Go.WideShapes Go.ChangeAt Go.RowKit
set_option linter.unusedVariables false
def NodesOk (l : List Nat) : Prop := 1 ≤ l.length ∧ l.length ≤ 8 ∧ Rises l ∧ ∀ a, l[l.length - 1]? = some a → a < 4294967296
def Apart (l : List Nat) (others : List (List Nat)) : Prop := ∀ (j : Nat) (o : List Nat), others[j]? = some o → ∀ x ∈ l, x ∉ o
def TwiceIn (sets : List (List Nat)) (k : Nat) (l : List Nat) : Prop := ∃ (j : Nat) (o : List Nat), j < k ∧ sets[j]? = some o ∧ ∃ x ∈ l, x ∈ o
theorem setOk_iff {sets : List (List Nat)} {i : Nat} {l : List Nat} : SetOk sets i l ↔ NodesOk l ∧ Apart l (sets.take i) := by
  constructor
  · rintro ⟨h1, h2, h3, h4, h5⟩
    refine ⟨⟨h1, h2, h3, h4⟩, fun j o ho => ?_⟩
    rw [List.getElem?_take] at ho
    split at ho
    · rename_i hj; exact h5 j o hj ho
    · cases ho
  · rintro ⟨⟨h1, h2, h3, h4⟩, h5⟩
    exact ⟨h1, h2, h3, h4, fun j o hj ho => h5 j o (by rw [List.getElem?_take, if_pos hj]; exact ho)⟩
theorem setOk_iff' {sets : List (List Nat)} {i : Nat} {l : List Nat} : SetOk sets i l ↔ NodesOk l ∧ ¬ TwiceIn sets i l := by
  constructor
  · rintro ⟨h1, h2, h3, h4, h5⟩
    exact ⟨⟨h1, h2, h3, h4⟩, fun ⟨j, o, hj, ho, x, hx, hxo⟩ => h5 j o hj ho x hx hxo⟩
  · rintro ⟨⟨h1, h2, h3, h4⟩, h5⟩
    exact ⟨h1, h2, h3, h4, fun j o hj ho x hx hxo => h5 ⟨j, o, hj, ho, x, hx, hxo⟩⟩

theorem nodes_any {D : Dom} {A : Option Addr} {n c : Nat} {l : List Nat} {w : World} (hl : rpU64.sl w D A n c l) (hD : ∀ k, D k → k < w.heap.size) :
    Calls Try.prog 107 #[.slice A n c] w fun e w' => e = .returned (.bool (dec (NodesOk l))) ∧ Below w.heap.size w w' := by
  obtain ⟨hlen, hnc, hcm⟩ := Rp.sl_len hl
  unfold maxLen at hcm
  have HL := Lib.hid hl
  have HN := Lib.hid hlen
  have HD := Lib.hid hD
  have HR := Lib.hid (rises_any hl hD)
  clear hl hlen hD
  by_cases h1 : n < 1
  · have hd : decide ((1 : Int) ≤ (n : Int)) = false := by simp; omega
    go_enter Try.func107, Try.ntmps107
    go_wp2_with fail
    go_ret
    rw [dec_false (fun h => by have := h.1; have := HN.out; omega)]
    exact ⟨rfl, Below.refl _ _⟩
  have hd : decide ((1 : Int) ≤ (n : Int)) = true := by simp; omega
  by_cases h2 : 8 < n
  · have hd2 : decide ((n : Int) ≤ 8) = false := by simp; omega
    go_enter Try.func107, Try.ntmps107
    go_wp2_with fail
    go_ret
    rw [dec_false (fun h => by have := h.2.1; have := HN.out; omega)]
    exact ⟨rfl, Below.refl _ _⟩
  have hd2 : decide ((n : Int) ≤ 8) = true := by simp; omega
  cases hq : dec (Rises l)
  · have hr := HR.out
    rw [hq] at hr
    have HRR := Lib.hid hr
    have HQ := Lib.hid (of_not_dec hq)
    clear hr hq
    go_enter Try.func107, Try.ntmps107
    go_wp2_with fail
    refine HRR.out.mono ?_; rintro e w1 ⟨rfl, hb⟩
    go_wp2_with fail
    go_ret
    rw [dec_false (fun h => HQ.out h.2.2.1)]
    exact ⟨rfl, hb⟩
  · have hr := HR.out
    rw [hq] at hr
    have HRR := Lib.hid hr
    have HQ := Lib.hid (of_dec hq)
    obtain ⟨b, off, y, rfl, hb, hy, hc, hlt⟩ := u64_at HL.out (show n - 1 < n by omega)
    have HY := Lib.hid hy
    have hbD : b < w.heap.size := HD.out b hb
    have HC := Lib.hid hc
    have hn1 : ((n : Int) - 1).toNat = n - 1 := by omega
    have hn2 : ((n - 1 : Nat) : Int) = (n : Int) - 1 := by omega
    clear hr hq hy hc
    go_enter Try.func107, Try.ntmps107
    go_wp2_with fail
    refine HRR.out.mono ?_; rintro e w1 ⟨rfl, hb1⟩
    have hc1 := (hb1.cell (p := ⟨b, off + (n - 1), none⟩) hbD).trans HC.out
    by_cases hyb : y < 4294967296
    · have hq : decide ((y : Int) ≤ 4294967295) = true := by simp; omega
      have HB1 := Lib.hid hb1
      clear hb1
      go_wp2_with fail
      go_ret
      have hno : NodesOk l := by
        have := HN.out
        exact ⟨by omega, by omega, HQ.out, fun a ha => by rw [HN.out, HY.out] at ha; injection ha with ha; omega⟩
      rw [dec_true hno]
      exact ⟨rfl, HB1.out⟩
    · have hq : decide ((y : Int) ≤ 4294967295) = false := by simp; omega
      have HB1 := Lib.hid hb1
      clear hb1
      go_wp2_with fail
      go_ret
      have hno : ¬ NodesOk l := fun h => by have := h.2.2.2 y (by rw [HN.out]; exact HY.out); omega
      rw [dec_false hno]
      exact ⟨rfl, HB1.out⟩

theorem apart_any {D D' : Dom} {A : Option Addr} {n c : Nat} {l : List Nat} {A' : Option Addr} {n' c' : Nat} {o : List (List Nat)} {w : World} (hl : rpU64.sl w D A n c l) (ho : (rpSlice rpU64).sl w D' A' n' c' o) :
    Calls Try.prog 108 #[.slice A n c, .slice A' n' c'] w fun e w' => e = .returned (.bool (dec (Apart l o))) ∧ w = w' := by
  obtain ⟨hlen, hnc, hcm⟩ := Rp.sl_len hl
  obtain ⟨hlen', hnc', hcm'⟩ := Rp.sl_len ho
  unfold maxLen at hcm hcm'
  have HL := Lib.hid hl
  have HN := Lib.hid hlen
  have HO := Lib.hid ho
  have HN' := Lib.hid hlen'
  clear hl hlen ho hlen'
  go_enter Try.func108, Try.ntmps108
  go_wp2_with fail
  go_loop [11] (fun i => ∃ k : Nat, k ≤ n' ∧ i = .int .i64 k ∧ Hid (∀ (j : Nat) s, j < k → o[j]? = some s → ∀ x ∈ l, x ∉ s)) (fun i => n' - (intOf i).toNat)
  case atStart => exact ⟨0, by omega, rfl, fun j s h => by omega⟩
  case round =>
    obtain ⟨k, hk, rfl, hsh⟩ := hrel
    by_cases hkn : k < n'
    · obtain ⟨b, off, s, A2, c2, rfl, hb, hs, hcell, hrow⟩ := rows_at HO.out hkn
      have hd : decide ((k : Int) < (n' : Int)) = true := by simp; omega
      have HS := Lib.hid hs
      have HR := Lib.hid hrow
      clear hs hrow
      go_wp2_with fail
      go_loop [17] (fun i => ∃ q : Nat, q ≤ n ∧ i = .int .i64 q ∧ Hid (∀ (j : Nat) x, j < q → l[j]? = some x → x ∉ s)) (fun i => n - (intOf i).toNat)
      case atStart => exact ⟨0, by omega, rfl, fun j s h => by omega⟩
      case round =>
        obtain ⟨q, hq, rfl, hsh2⟩ := hrel
        by_cases hqn : q < n
        · obtain ⟨b', off', x, rfl, hb', hx, hc, hlt⟩ := u64_at HL.out hqn
          have hd2 : decide ((q : Int) < (n : Int)) = true := by simp; omega
          have HX := Lib.hid hx
          have hct := contains_any x HR.out
          clear hx
          cases hm : dec (x ∈ s)
          · rw [hm] at hct
            have HCT := Lib.hid hct
            have HM := Lib.hid (of_not_dec hm)
            clear hct hm
            go_wp2_with fail
            refine HCT.out.mono ?_; rintro e w1 ⟨rfl, rfl⟩
            go_wp2_with fail
            go_round
            case rel =>
              refine ⟨q + 1, by omega, by go_num, fun j y hj hy => ?_⟩
              rcases Nat.lt_or_ge j q with h | h
              · exact hsh2.out j y h hy
              · obtain rfl : j = q := by omega
                rw [HX.out] at hy
                injection hy with hy
                exact hy ▸ HM.out
            case measure => simp [intOf]; omega
          · rw [hm] at hct
            have HCT := Lib.hid hct
            have HM := Lib.hid (of_dec hm)
            clear hct hm
            go_wp2_with fail
            refine HCT.out.mono ?_; rintro e w1 ⟨rfl, rfl⟩
            go_wp2_with fail
            go_ret
            rw [dec_false (fun h => h k s HS.out x (List.mem_of_getElem? HX.out) HM.out)]
            exact ⟨rfl, rfl⟩
        · obtain rfl : q = n := by omega
          have hd2 : decide ((q : Int) < (q : Int)) = false := by simp
          go_wp2_with fail
          go_round
          case rel =>
            refine ⟨k + 1, by omega, by go_num, fun j y hj hy x hx => ?_⟩
            rcases Nat.lt_or_ge j k with h | h
            · exact hsh.out j y h hy x hx
            · obtain rfl : j = k := by omega
              rw [HS.out] at hy
              injection hy with hy
              subst hy
              obtain ⟨i, hi⟩ := List.getElem?_of_mem hx
              exact hsh2.out i x (by have := (List.getElem?_eq_some_iff.1 hi).1; have := HN.out; omega) hi
          case measure => simp [intOf]; omega
    · obtain rfl : k = n' := by omega
      have hd : decide ((k : Int) < (k : Int)) = false := by simp
      go_wp2_with fail
      go_ret
      have hap : Apart l o := fun j s hs => hsh.out j s (by have := (List.getElem?_eq_some_iff.1 hs).1; have := HN'.out; omega) hs
      rw [dec_true hap]
      exact ⟨rfl, rfl⟩
theorem twice_any {D D' : Dom} {A : Option Addr} {n c : Nat} {l : List Nat} {A' : Option Addr} {n' c' : Nat} {o : List (List Nat)} {m : Nat} {w : World} (hl : rpU64.sl w D A n c l) (ho : (rpSlice rpU64).sl w D' A' n' c' o) (hm : m ≤ n') (hD : ∀ k, D k → k < w.heap.size) (hD' : ∀ k, D' k → k < w.heap.size) :
    Calls Try.prog 99 #[.slice A' n' c', .int .i64 (m : Int), .slice A n c] w fun e w' => e = .returned (.bool (dec (TwiceIn o m l))) ∧ Below w.heap.size w w' := by
  obtain ⟨hlen, hnc, hcm⟩ := Rp.sl_len hl
  obtain ⟨hlen', hnc', hcm'⟩ := Rp.sl_len ho
  unfold maxLen at hcm hcm'
  have HL := Lib.hid hl
  have HN := Lib.hid hlen
  have HO := Lib.hid ho
  have HN' := Lib.hid hlen'
  have HD := Lib.hid hD
  have HD' := Lib.hid hD'
  clear hl hlen ho hlen' hD hD'
  go_enter Try.func99, Try.ntmps99
  go_wp2_with fail
  go_loopw [7] (fun i wr => ∃ k : Nat, k ≤ m ∧ i = .int .i64 k ∧ Hid (∀ (j : Nat) s, j < k → o[j]? = some s → ∀ x ∈ l, x ∉ s) ∧ Below w.heap.size w wr) (fun i _ => m - (intOf i).toNat)
  case atStart => exact ⟨0, by omega, rfl, fun j s h => by omega, Below.refl _ _⟩
  case round =>
    obtain ⟨k, hk, rfl, hsh, hbel⟩ := hrel
    have HB := Lib.hid hbel
    by_cases hkm : k < m
    · have hd : decide ((k : Int) < (m : Int)) = true := by simp; omega
      clear hbel
      go_wp2_with fail
      go_loopw [8] (fun i wq => ∃ q : Nat, q ≤ n ∧ i = .int .i64 q ∧ Hid (∀ (j : Nat) s x, j < q → o[k]? = some s → l[j]? = some x → x ∉ s) ∧ Below w.heap.size w wq) (fun i _ => n - (intOf i).toNat)
      case atStart => exact ⟨0, by omega, rfl, fun j s x h => by omega, HB.out⟩
      case round =>
        obtain ⟨q, hq, rfl, hsh2, hbq⟩ := hrel
        by_cases hqn : q < n
        · have hz := hbq.size
          have hdr : Below w.heap.size w wr.drew := hbq.drew
          obtain ⟨b, off, s, A2, c2, rfl, hb, hs, hcell, hrow⟩ := rows_at (Rp.sl_below HO.out hbq HD'.out) (show k < n' by omega)
          obtain ⟨b', off', x, rfl, hb', hx, hc, hlt⟩ := u64_at (Rp.sl_below HL.out hbq HD.out) hqn
          have hd2 : decide ((q : Int) < (n : Int)) = true := by simp; omega
          have hk0 : (0 : Int) ≤ (k : Int) := by omega
          have hkn : (k : Int) < (n' : Int) := by omega
          have hq0 : (0 : Int) ≤ (q : Int) := by omega
          have hqn' : (q : Int) < (n : Int) := by omega
          have HX := Lib.hid hx
          have HS := Lib.hid hs
          have hct := fun qq : Gr wr.heap.size wr => has_any x (Rp.sl_below hrow qq.is (fun k hk => Nat.lt_of_lt_of_le (HD'.out k hk) hz))
          have hg1 : ∀ qq : Gr wr.heap.size wr, qq.val.cell? ⟨b, off + k, none⟩ = some (.slice A2 s.length c2) := fun qq => (qq.is.cell (p := ⟨b, off + k, none⟩) (Nat.lt_of_lt_of_le (HD'.out b hb) hz)).trans hcell
          have hg2 : ∀ qq : Gr wr.heap.size wr, qq.val.cell? ⟨b', off' + q, none⟩ = some (.int .u64 (x : Int)) := fun qq => (qq.is.cell (p := ⟨b', off' + q, none⟩) (Nat.lt_of_lt_of_le (HD.out b' hb') hz)).trans hc
          have HBQ := Lib.hid hbq
          clear hx hs hrow hdr hbq
          cases hm : dec (x ∈ s)
          · rw [hm] at hct
            have HCT := Lib.hid hct
            have HM := Lib.hid (of_not_dec hm)
            clear hct hm
            go_wp2_with fail
            refine wp_region_grow (by kernel_rfl) (by kernel_rfl) wr.heap.size ?_
            repeat (quiet_step (((go_at_call 67; exact Gr.same _ (HCT.out _)))))
            refine wpQuiet_nil ?_
            rintro w3 ⟨⟨_, hb3⟩, rfl⟩
            clear hg1 hg2
            go_wp2_with fail
            go_roundw
            case rel =>
              refine ⟨q + 1, by omega, by go_num, fun j y z hj hy hz => ?_, HBQ.out.trans (hb3.mono hz)⟩
              rcases Nat.lt_or_ge j q with h | h
              · exact hsh2.out j y z h hy hz
              · obtain rfl : j = q := by omega
                rw [HX.out] at hz
                rw [HS.out] at hy
                injection hz with hz
                injection hy with hy
                subst hz; subst hy
                exact HM.out
            case measure => simp [intOf]; omega
          · rw [hm] at hct
            have HCT := Lib.hid hct
            have HM := Lib.hid (of_dec hm)
            clear hct hm
            go_wp2_with fail
            refine wp_region_grow (by kernel_rfl) (by kernel_rfl) wr.heap.size ?_
            repeat (quiet_step (((go_at_call 67; exact Gr.same _ (HCT.out _)))))
            refine wpQuiet_nil ?_
            rintro w3 ⟨⟨_, hb3⟩, rfl⟩
            clear hg1 hg2
            go_wp2_with fail
            go_ret
            rw [dec_true ⟨k, s, hkm, HS.out, x, List.mem_of_getElem? HX.out, HM.out⟩]
            exact ⟨rfl, HBQ.out.trans (hb3.mono hz)⟩
        · obtain rfl : q = n := by omega
          have hd2 : decide ((q : Int) < (q : Int)) = false := by simp
          have HBQ := Lib.hid hbq
          clear hbq
          go_wp2_with fail
          go_roundw
          case rel =>
            refine ⟨k + 1, by omega, by go_num, fun j y hj hy x hx => ?_, HBQ.out⟩
            rcases Nat.lt_or_ge j k with h | h
            · exact hsh.out j y h hy x hx
            · obtain rfl : j = k := by omega
              obtain ⟨i, hi⟩ := List.getElem?_of_mem hx
              exact hsh2.out i y x (by have := (List.getElem?_eq_some_iff.1 hi).1; have := HN.out; omega) hy hi
          case measure => simp [intOf]; omega
    · obtain rfl : k = m := by omega
      have hd : decide ((k : Int) < (k : Int)) = false := by simp
      clear hbel
      go_wp2_with fail
      go_ret
      rw [dec_false (fun ⟨j, s, hj, hs, x, hx, hxs⟩ => hsh.out j s hj hs x hx hxs)]
      exact ⟨rfl, HB.out⟩
end Go.Proofs.Ytmdgmnaaopineaa
/- The bytes of a stripe in plain words: what reading one gives, how one is written. No walk. -/
namespace Go.Proofs.Ytmdgmnaaopineaa
set_option linter.unusedVariables false
/-- Numbers, written one behind the other. -/
def flat (ns : List Nat) : List UInt8 := (ns.map vbytes).flatten
theorem flat_nil : flat [] = [] := rfl
theorem flat_cons (x : Nat) (ns : List Nat) : flat (x :: ns) = vbytes x ++ flat ns := by simp [flat]
theorem flat_append (a b : List Nat) : flat (a ++ b) = flat a ++ flat b := by simp [flat]
def nx (o : Option Nat) (x : Nat) : Nat := match o with | none => x | some a => a + x + 1
/-- The steps of a list that goes on behind a number. -/
def stepsFrom : Option Nat → List Nat → List Nat
  | _, [] => []
  | none, x :: xs => x :: stepsFrom (some x) xs
  | some a, x :: xs => (x - a - 1) :: stepsFrom (some x) xs
def RisesFrom : Option Nat → List Nat → Prop
  | _, [] => True
  | none, x :: xs => RisesFrom (some x) xs
  | some a, x :: xs => a < x ∧ RisesFrom (some x) xs
theorem stepsFrom_nx (o : Option Nat) (x : Nat) (xs : List Nat) : stepsFrom o (nx o x :: xs) = x :: stepsFrom (some (nx o x)) xs := by
  cases o with
  | none => rfl
  | some a =>
    show (a + x + 1 - a - 1) :: _ = _
    congr 1
    omega
theorem risesFrom_nx (o : Option Nat) (x : Nat) (xs : List Nat) : RisesFrom o (nx o x :: xs) ↔ RisesFrom (some (nx o x)) xs := by
  cases o with
  | none => exact Iff.rfl
  | some a => exact ⟨fun h => h.2, fun h => ⟨by show a < a + x + 1; omega, h⟩⟩
theorem risesFrom_cons {o : Option Nat} {y : Nat} {xs : List Nat} (h : RisesFrom o (y :: xs)) : ∃ x, y = nx o x ∧ x ≤ y ∧ RisesFrom (some y) xs := by
  cases o with
  | none => exact ⟨y, rfl, Nat.le_refl _, h⟩
  | some a => exact ⟨y - a - 1, by have := h.1; show y = a + (y - a - 1) + 1; omega, by omega, h.2⟩
theorem risesFrom_iff : ∀ (l : List Nat) (o : Option Nat), RisesFrom o l ↔ (∀ a x, o = some a → l[0]? = some x → a < x) ∧ Rises l
  | [], o => by
    refine ⟨fun _ => ⟨fun a x _ h => by simp at h, fun i a b h => by simp at h⟩, fun _ => by cases o <;> trivial⟩
  | x :: xs, o => by
    have ih := risesFrom_iff xs (some x)
    have key : (∀ a y, some x = some a → xs[0]? = some y → a < y) ∧ Rises xs ↔ Rises (x :: xs) := by
      constructor
      · rintro ⟨h1, h2⟩ i a b ha hb
        cases i with
        | zero =>
          simp only [List.getElem?_cons_zero, Option.some.injEq] at ha
          subst ha
          exact h1 _ _ rfl (by simpa using hb)
        | succ i => exact h2 i a b (by simpa using ha) (by simpa using hb)
      · intro h
        exact ⟨fun a y ha hy => by
          injection ha with ha
          subst ha
          exact h 0 _ _ rfl (by simpa using hy), fun i a b ha hb => h (i + 1) a b (by simpa using ha) (by simpa using hb)⟩
    cases o with
    | none =>
      show RisesFrom (some x) xs ↔ _
      rw [ih, key]
      exact ⟨fun h => ⟨(fun a y ha => by cases ha), h⟩, fun h => h.2⟩
    | some a =>
      show a < x ∧ RisesFrom (some x) xs ↔ _
      rw [ih, key]
      refine ⟨fun h => ⟨fun a' y ha hy => ?_, h.2⟩, fun h => ⟨h.1 a x rfl rfl, h.2⟩⟩
      injection ha with ha
      simp only [List.getElem?_cons_zero, Option.some.injEq] at hy
      subst ha; subst hy
      exact h.1
theorem rises_iff (l : List Nat) : RisesFrom none l ↔ Rises l := by
  rw [risesFrom_iff]
  exact ⟨fun h => h.2, fun h => ⟨(fun a x ha => by cases ha), h⟩⟩

/-- How many there are, one at least. -/
def manyF (l : List UInt8) (p : Nat) (f : Flt) (m : Nat) : Nat × Nat × Flt := if (mostF l p f m).1 = 0 then (0, (mostF l p f m).2.1, failF (mostF l p f m).2.2 3 p) else mostF l p f m
/-- A rising list of so many more numbers, behind those that were read. -/
def risF (l : List UInt8) : Nat → Nat → Flt → List Nat → List Nat × Nat × Flt
  | 0, p, f, acc => (acc, p, f)
  | k + 1, p, f, acc =>
    if (vrdF l p f).2.2.1 = 0 then
      if 18446744073709551616 ≤ nx acc[acc.length - 1]? (vrdF l p f).1 then ([], (vrdF l p f).2.1, failF (vrdF l p f).2.2 13 p)
      else risF l k (vrdF l p f).2.1 (vrdF l p f).2.2 (acc ++ [nx acc[acc.length - 1]? (vrdF l p f).1])
    else ([], (vrdF l p f).2)
open Classical in
/-- A set behind others. -/
noncomputable def setF (l : List UInt8) (p : Nat) (f : Flt) (others : List (List Nat)) : List Nat × Nat × Flt :=
  let m := manyF l p f 8
  let r := risF l m.1 m.2.1 m.2.2 []
  if r.2.2.1 = 0 then
    if 4294967295 < r.1.getD (r.1.length - 1) 0 then (r.1, r.2.1, failF r.2.2 3 m.2.1)
    else if Apart r.1 others then r else (r.1, r.2.1, failF r.2.2 13 m.2.1)
  else ([], r.2)
noncomputable def setsF (l : List UInt8) : Nat → Nat → Flt → List (List Nat) → List (List Nat) × Nat × Flt
  | 0, p, f, sets => (sets, p, f)
  | k + 1, p, f, sets => if (setF l p f sets).2.2.1 = 0 then setsF l k (setF l p f sets).2.1 (setF l p f sets).2.2 (sets ++ [(setF l p f sets).1]) else (sets ++ [(setF l p f sets).1], (setF l p f sets).2)
noncomputable def strF (l : List UInt8) (p : Nat) (f : Flt) (fr : Nat) : Stp × Nat × Flt :=
  if 4611686018427387904 < fr then ((0, 0, []), p, failF f 3 p)
  else if (vrdF l p f).2.2.1 = 0 ∧ 4611686018427387904 - fr ≤ (vrdF l p f).1 then ((0, 0, []), (vrdF l p f).2.1, failF (vrdF l p f).2.2 3 p)
  else
    let m := manyF l (vrdF l p f).2.1 (vrdF l p f).2.2 8
    let s := setsF l m.1 m.2.1 m.2.2 []
    if s.2.2.1 = 0 then ((fr, fr + (vrdF l p f).1 + 1, s.1), s.2) else ((0, 0, []), s.2)

theorem manyF_ok {l : List UInt8} {p m : Nat} {f : Flt} (h : OkF f) : OkF (manyF l p f m).2.2 := by
  unfold manyF; split
  · exact (mostF_ok m h).fail _ _
  · exact mostF_ok m h
theorem manyF_q {l : List UInt8} {p m : Nat} {f : Flt} : (manyF l p f m).2.1 = (vrdF l p f).2.1 := by
  unfold manyF; split <;> exact mostF_q
theorem mostF_fail0 {l : List UInt8} {p m : Nat} {f : Flt} (h : (mostF l p f m).2.2.1 ≠ 0) : (mostF l p f m).1 = 0 := by
  unfold mostF at *
  split
  · rfl
  · rename_i h0
    rw [if_neg h0] at h
    exact vrdF_fail0 h
theorem manyF_fail0 {l : List UInt8} {p m : Nat} {f : Flt} (h : (manyF l p f m).2.2.1 ≠ 0) : (manyF l p f m).1 = 0 := by
  unfold manyF at *
  split
  · rfl
  · rename_i h0
    rw [if_neg h0] at h
    exact absurd (mostF_fail0 h) h0
theorem mostF_le {l : List UInt8} {p m : Nat} {f : Flt} : (mostF l p f m).1 ≤ m := by
  unfold mostF
  split
  · exact Nat.zero_le _
  · rename_i h; exact Nat.not_lt.1 h
theorem manyF_le {l : List UInt8} {p m : Nat} {f : Flt} : (manyF l p f m).1 ≤ m := by
  unfold manyF
  split
  · exact Nat.zero_le _
  · exact mostF_le
theorem manyF_inv {l : List UInt8} {p m : Nat} {f : Flt} (h : (manyF l p f m).2.2.1 = 0) : f.1 = 0 ∧ 1 ≤ (manyF l p f m).1 ∧ (manyF l p f m).1 ≤ m ∧ (manyF l p f m).2.1 = p + (vbytes (manyF l p f m).1).length ∧ (manyF l p f m).2.1 ≤ l.length ∧ Stands l p (vbytes (manyF l p f m).1) := by
  unfold manyF at *
  by_cases h0 : (mostF l p f m).1 = 0
  · rw [if_pos h0] at h
    exact absurd h (failF_bad (by decide))
  · rw [if_neg h0] at h ⊢
    obtain ⟨a, b, c, d, e, g, _⟩ := mostF_inv h
    exact ⟨a, by omega, b, d, e, g⟩
theorem manyF_stands {l : List UInt8} {p x m : Nat} (h1 : 1 ≤ x) (hm : x ≤ m) (hm64 : m < 18446744073709551616) (h : Stands l p (vbytes x)) : manyF l p (0, 0) m = (x, p + (vbytes x).length, (0, 0)) := by
  unfold manyF
  rw [mostF_stands (by omega) hm h]
  exact if_neg (by simp only; omega)

theorem risF_ok {l : List UInt8} : ∀ {k p : Nat} {f : Flt} {acc : List Nat}, OkF f → OkF (risF l k p f acc).2.2
  | 0, p, f, acc, h => h
  | k + 1, p, f, acc, h => by
    unfold risF
    split
    · split
      · exact (vrdF_ok h).fail _ _
      · exact risF_ok (vrdF_ok h)
    · exact vrdF_ok h
theorem risF_q {l : List UInt8} : ∀ {k p : Nat} {f : Flt} {acc : List Nat}, p ≤ l.length → (risF l k p f acc).2.1 ≤ l.length
  | 0, p, f, acc, h => h
  | k + 1, p, f, acc, h => by
    unfold risF
    split
    · split
      · exact (vrdF_le h).1
      · exact risF_q (vrdF_le h).1
    · exact (vrdF_le h).1
theorem risF_step {l : List UInt8} {k p : Nat} {f : Flt} {acc : List Nat} (h0 : (vrdF l p f).2.2.1 = 0) (h1 : ¬ 18446744073709551616 ≤ nx acc[acc.length - 1]? (vrdF l p f).1) :
    risF l (k + 1) p f acc = risF l k (vrdF l p f).2.1 (vrdF l p f).2.2 (acc ++ [nx acc[acc.length - 1]? (vrdF l p f).1]) := by
  rw [risF, if_pos h0, if_neg h1]
theorem last_snoc (acc : List Nat) (y : Nat) : (acc ++ [y])[(acc ++ [y]).length - 1]? = some y := by simp
/-- **A rising list that was read.** -/
theorem risF_inv {l : List UInt8} : ∀ {k p : Nat} {f : Flt} {acc : List Nat}, (risF l k p f acc).2.2.1 = 0 →
    ∃ new, (risF l k p f acc).1 = acc ++ new ∧ new.length = k ∧ RisesFrom acc[acc.length - 1]? new ∧ (∀ x ∈ new, x < 18446744073709551616) ∧ (risF l k p f acc).2.1 = p + (flat (stepsFrom acc[acc.length - 1]? new)).length ∧ Stands l p (flat (stepsFrom acc[acc.length - 1]? new)) ∧ (p ≤ l.length → (risF l k p f acc).2.1 ≤ l.length) ∧ f.1 = 0
  | 0, p, f, acc, h => by
    refine ⟨[], by simp [risF], rfl, ?_, by simp, ?_, ?_, fun h => h, h⟩
    · cases acc[acc.length - 1]? <;> trivial
    · cases acc[acc.length - 1]? <;> simp [risF, stepsFrom, flat]
    · cases acc[acc.length - 1]? <;> exact Stands.nil _ _
  | k + 1, p, f, acc, h => by
    unfold risF at h ⊢
    by_cases h0 : (vrdF l p f).2.2.1 = 0
    · rw [if_pos h0] at h ⊢
      by_cases h1 : 18446744073709551616 ≤ nx acc[acc.length - 1]? (vrdF l p f).1
      · rw [if_pos h1] at h
        exact absurd h (failF_bad (by decide))
      · rw [if_neg h1] at h ⊢
        obtain ⟨new, e1, e2, e3, e4, e5, e6, e7, e8⟩ := risF_inv h
        obtain ⟨v0, v1, v2, v3, v4⟩ := vrdF_inv h0
        rw [last_snoc] at e3 e5 e6
        refine ⟨nx acc[acc.length - 1]? (vrdF l p f).1 :: new, by rw [e1]; simp, by rw [List.length_cons, e2], (risesFrom_nx _ _ _).2 e3, ?_, ?_, ?_, fun _ => e7 v3, v0⟩
        · intro x hx
          rcases List.mem_cons.1 hx with rfl | hx
          · omega
          · exact e4 x hx
        · rw [stepsFrom_nx, flat_cons, List.length_append, e5, v2]; omega
        · rw [stepsFrom_nx, flat_cons, stands_append]
          refine ⟨v4, ?_⟩
          rw [← v2]; exact e6
    · rw [if_neg h0] at h
      exact absurd h h0
/-- **A rising list is read so.** -/
theorem risF_stands {l : List UInt8} : ∀ {new : List Nat} {p : Nat} {acc : List Nat}, RisesFrom acc[acc.length - 1]? new → (∀ x ∈ new, x < 18446744073709551616) → Stands l p (flat (stepsFrom acc[acc.length - 1]? new)) →
    risF l new.length p (0, 0) acc = (acc ++ new, p + (flat (stepsFrom acc[acc.length - 1]? new)).length, (0, 0))
  | [], p, acc, _, _, _ => by
    have e : stepsFrom acc[acc.length - 1]? [] = [] := by cases acc[acc.length - 1]? <;> rfl
    rw [e]
    simp [risF, flat]
  | y :: new, p, acc, hr, hx, hs => by
    obtain ⟨x, hy, hxy, hr'⟩ := risesFrom_cons hr
    have hy64 : y < 18446744073709551616 := hx y (by simp)
    rw [hy, stepsFrom_nx, ← hy] at hs ⊢
    rw [flat_cons] at hs ⊢
    rw [stands_append] at hs
    have hv : vrdF l p (0, 0) = (x, p + (vbytes x).length, (0, 0)) := vrdF_stands (by omega) hs.1
    rw [List.length_cons, risF_step (by rw [hv]) (by rw [hv]; show ¬ 18446744073709551616 ≤ nx acc[acc.length - 1]? x; rw [← hy]; omega), hv]
    simp only
    rw [← hy]
    have := risF_stands (l := l) (new := new) (p := p + (vbytes x).length) (acc := acc ++ [y]) (by rw [last_snoc]; exact hr') (fun z hz => hx z (by simp [hz])) (by rw [last_snoc]; exact hs.2)
    rw [this, last_snoc]
    simp only [List.append_assoc, List.singleton_append, List.length_append, Nat.add_assoc]

/-- The numbers by which a set, and a stripe, is written. -/
def setn (x : List Nat) : List Nat := x.length :: stepsFrom none x
def stn (s : Stp) : List Nat := (s.2.1 - s.1 - 1) :: s.2.2.length :: (s.2.2.map setn).flatten
def stb (s : Stp) : List UInt8 := flat (stn s)
theorem setF_ok {l : List UInt8} {p : Nat} {f : Flt} {others : List (List Nat)} (h : OkF f) : OkF (setF l p f others).2.2 := by
  have hr : OkF (risF l (manyF l p f 8).1 (manyF l p f 8).2.1 (manyF l p f 8).2.2 []).2.2 := risF_ok (manyF_ok h)
  unfold setF
  simp only
  split
  · split
    · exact hr.fail _ _
    · split
      · exact hr
      · exact hr.fail _ _
  · exact hr
theorem setF_q {l : List UInt8} {p : Nat} {f : Flt} {others : List (List Nat)} (h : p ≤ l.length) : (setF l p f others).2.1 ≤ l.length := by
  have hr : (risF l (manyF l p f 8).1 (manyF l p f 8).2.1 (manyF l p f 8).2.2 []).2.1 ≤ l.length := risF_q (by rw [manyF_q]; exact (vrdF_le h).1)
  unfold setF
  simp only
  split
  · split
    · exact hr
    · split <;> exact hr
  · exact hr
theorem nodesOk_lt {x : List Nat} (h : NodesOk x) : ∀ y ∈ x, y < 4294967296 := by
  obtain ⟨h1, _, h3, h4⟩ := h
  have mono : ∀ (d i a b : Nat), x[i]? = some a → x[i + d]? = some b → a ≤ b := by
    intro d
    induction d with
    | zero => intro i a b ha hb; rw [Nat.add_zero, ha] at hb; injection hb with hb; omega
    | succ d ih =>
      intro i a b ha hb
      have hlt := (List.getElem?_eq_some_iff.1 hb).1
      have hc := List.getElem?_eq_getElem (l := x) (show i + d < x.length by omega)
      have h5 := ih i a _ ha hc
      have h6 := h3 (i + d) _ _ hc hb
      omega
  intro y hy
  obtain ⟨i, hi⟩ := List.getElem?_of_mem hy
  have hil := (List.getElem?_eq_some_iff.1 hi).1
  have hl := List.getElem?_eq_getElem (l := x) (show x.length - 1 < x.length by omega)
  have h5 := mono (x.length - 1 - i) i y _ hi (by rw [show i + (x.length - 1 - i) = x.length - 1 by omega]; exact hl)
  have h6 := h4 _ hl
  omega
theorem setF_inv {l : List UInt8} {p : Nat} {f : Flt} {others : List (List Nat)} (h : (setF l p f others).2.2.1 = 0) :
    NodesOk (setF l p f others).1 ∧ Apart (setF l p f others).1 others ∧ (setF l p f others).2.1 = p + (flat (setn (setF l p f others).1)).length ∧ (setF l p f others).2.1 ≤ l.length ∧ Stands l p (flat (setn (setF l p f others).1)) := by
  unfold setF at h ⊢
  simp only at h ⊢
  by_cases h0 : (risF l (manyF l p f 8).1 (manyF l p f 8).2.1 (manyF l p f 8).2.2 []).2.2.1 = 0
  · rw [if_pos h0] at h ⊢
    obtain ⟨new, e1, e2, e3, e4, e5, e6, e7, e8⟩ := risF_inv h0
    obtain ⟨_, m1, m2, m3, m4, m5⟩ := manyF_inv e8
    have e9 := e7 m4
    generalize risF l (manyF l p f 8).1 (manyF l p f 8).2.1 (manyF l p f 8).2.2 [] = r at *
    obtain ⟨x, q, F⟩ := r
    simp only [List.nil_append] at e1
    subst e1
    simp only [List.length_nil, Nat.zero_sub, List.getElem?_nil] at e3 e5 e6 h0 e9 h ⊢
    by_cases hl : 4294967295 < x.getD (x.length - 1) 0
    · rw [if_pos hl] at h
      exact absurd h (failF_bad (by decide))
    · rw [if_neg hl] at h ⊢
      by_cases ha : Apart x others
      · rw [if_pos ha]
        show NodesOk x ∧ Apart x others ∧ q = p + (flat (setn x)).length ∧ q ≤ l.length ∧ Stands l p (flat (setn x))
        refine ⟨⟨by omega, by omega, (rises_iff x).1 e3, fun a h => ?_⟩, ha, ?_, e9, ?_⟩
        · rw [List.getD_eq_getElem?_getD, h] at hl
          simp only [Option.getD_some] at hl
          omega
        · simp only [setn, flat_cons, List.length_append]
          rw [e5, m3, e2]; omega
        · simp only [setn, flat_cons, stands_append]
          rw [e2, ← m3]
          exact ⟨m5, e6⟩
      · rw [if_neg ha] at h
        exact absurd h (failF_bad (by decide))
  · rw [if_neg h0] at h
    exact absurd h h0
theorem setF_stands {l : List UInt8} {p : Nat} {x : List Nat} {others : List (List Nat)} (h1 : NodesOk x) (h2 : Apart x others) (h : Stands l p (flat (setn x))) : setF l p (0, 0) others = (x, p + (flat (setn x)).length, (0, 0)) := by
  have hlt := nodesOk_lt h1
  simp only [setn, flat_cons, stands_append] at h
  have hm : manyF l p (0, 0) 8 = (x.length, p + (vbytes x.length).length, (0, 0)) := manyF_stands h1.1 h1.2.1 (by decide) h.1
  have hr := risF_stands (l := l) (new := x) (p := p + (vbytes x.length).length) (acc := []) (by simpa using (rises_iff x).2 h1.2.2.1) (fun y hy => by have := hlt y hy; omega) (by simpa using h.2)
  simp only [List.nil_append, List.length_nil, Nat.zero_sub, List.getElem?_nil] at hr
  unfold setF
  rw [hm]
  simp only
  rw [hr]
  simp only
  rw [if_pos trivial, if_neg (by
    rw [List.getD_eq_getElem?_getD, List.getElem?_eq_getElem (by have := h1.1; omega), Option.getD_some]
    have := hlt _ (List.getElem_mem (l := x) (n := x.length - 1) (by have := h1.1; omega))
    omega), if_pos h2]
  simp only [setn, flat_cons, List.length_append, Nat.add_assoc]
theorem setsF_ok {l : List UInt8} : ∀ {k p : Nat} {f : Flt} {sets : List (List Nat)}, OkF f → OkF (setsF l k p f sets).2.2
  | 0, p, f, sets, h => h
  | k + 1, p, f, sets, h => by
    unfold setsF
    split
    · exact setsF_ok (setF_ok h)
    · exact setF_ok h
theorem setsF_q {l : List UInt8} : ∀ {k p : Nat} {f : Flt} {sets : List (List Nat)}, p ≤ l.length → (setsF l k p f sets).2.1 ≤ l.length
  | 0, p, f, sets, h => h
  | k + 1, p, f, sets, h => by
    unfold setsF
    split
    · exact setsF_q (setF_q h)
    · exact setF_q h
theorem setsF_inv {l : List UInt8} : ∀ {k p : Nat} {f : Flt} {sets : List (List Nat)}, (setsF l k p f sets).2.2.1 = 0 → p ≤ l.length →
    ∃ new, (setsF l k p f sets).1 = sets ++ new ∧ new.length = k ∧ (∀ (i : Nat) x, new[i]? = some x → NodesOk x ∧ Apart x (sets ++ new.take i)) ∧ (setsF l k p f sets).2.1 = p + (flat (new.map setn).flatten).length ∧ (setsF l k p f sets).2.1 ≤ l.length ∧ Stands l p (flat (new.map setn).flatten)
  | 0, p, f, sets, h, hp => ⟨[], by simp [setsF], rfl, by simp, by simp [setsF, flat], hp, Stands.nil _ _⟩
  | k + 1, p, f, sets, h, hp => by
    unfold setsF at h ⊢
    by_cases h0 : (setF l p f sets).2.2.1 = 0
    · rw [if_pos h0] at h ⊢
      obtain ⟨n1, n2, n3, n4, n5⟩ := setF_inv h0
      obtain ⟨new, e1, e2, e3, e4, e5, e6⟩ := setsF_inv h n4
      refine ⟨(setF l p f sets).1 :: new, by rw [e1]; simp, by rw [List.length_cons, e2], ?_, ?_, e5, ?_⟩
      · intro i x hi
        cases i with
        | zero =>
          simp only [List.getElem?_cons_zero, Option.some.injEq] at hi
          subst hi
          exact ⟨n1, by simpa using n2⟩
        | succ i =>
          have := e3 i x (by simpa using hi)
          rw [List.append_assoc] at this
          exact this
      · rw [List.map_cons, List.flatten_cons, flat_append, List.length_append, e4, n3]; omega
      · rw [List.map_cons, List.flatten_cons, flat_append, stands_append]
        refine ⟨n5, ?_⟩
        rw [← n3]; exact e6
    · rw [if_neg h0] at h
      exact absurd h h0
theorem setsF_step {l : List UInt8} {k p : Nat} {f : Flt} {sets : List (List Nat)} (h : (setF l p f sets).2.2.1 = 0) :
    setsF l (k + 1) p f sets = setsF l k (setF l p f sets).2.1 (setF l p f sets).2.2 (sets ++ [(setF l p f sets).1]) := by
  rw [setsF, if_pos h]
theorem setsF_stands {l : List UInt8} : ∀ {new : List (List Nat)} {p : Nat} {sets : List (List Nat)}, (∀ (i : Nat) x, new[i]? = some x → NodesOk x ∧ Apart x (sets ++ new.take i)) → Stands l p (flat (new.map setn).flatten) →
    setsF l new.length p (0, 0) sets = (sets ++ new, p + (flat (new.map setn).flatten).length, (0, 0))
  | [], p, sets, _, _ => by simp [setsF, flat]
  | x :: new, p, sets, hn, hs => by
    rw [List.map_cons, List.flatten_cons, flat_append] at hs ⊢
    rw [stands_append] at hs
    have h0 := hn 0 x rfl
    have hx := setF_stands h0.1 (by simpa using h0.2) hs.1
    rw [List.length_cons, setsF_step (by rw [hx]), hx]
    simp only
    rw [setsF_stands (fun i y hi => by
      have := hn (i + 1) y (by simpa using hi)
      rw [List.append_assoc]
      exact this) hs.2]
    simp only [List.append_assoc, List.singleton_append, List.length_append, Nat.add_assoc]
theorem strF_ok {l : List UInt8} {p fr : Nat} {f : Flt} (h : OkF f) : OkF (strF l p f fr).2.2 := by
  unfold strF
  split
  · exact h.fail _ _
  · split
    · exact (vrdF_ok h).fail _ _
    · simp only
      split <;> exact setsF_ok (manyF_ok (vrdF_ok h))
theorem strF_q {l : List UInt8} {p fr : Nat} {f : Flt} (h : p ≤ l.length) : (strF l p f fr).2.1 ≤ l.length := by
  have h2 := (vrdF_le (f := f) h).1
  unfold strF
  split
  · exact h
  · split
    · exact h2
    · simp only
      split <;> exact setsF_q (by rw [manyF_q]; exact (vrdF_le h2).1)
theorem strF_fail0 {l : List UInt8} {p fr : Nat} {f : Flt} (h : (strF l p f fr).2.2.1 ≠ 0) : (strF l p f fr).1 = (0, 0, []) := by
  unfold strF at h ⊢
  split
  · rfl
  · rename_i h1
    rw [if_neg h1] at h
    split
    · rfl
    · rename_i h2
      rw [if_neg h2] at h
      simp only at h ⊢
      split
      · rename_i h3
        rw [if_pos h3] at h
        exact absurd h3 h
      · rfl
/-- **The stripe that was read is what was written.** -/
theorem strF_inv {l : List UInt8} {p fr : Nat} {f : Flt} (hp : p ≤ l.length) (h : (strF l p f fr).2.2.1 = 0) :
    (strF l p f fr).1.1 = fr ∧ SOk (strF l p f fr).1 ∧ (strF l p f fr).2.1 = p + (stb (strF l p f fr).1).length ∧ (strF l p f fr).2.1 ≤ l.length ∧ Stands l p (stb (strF l p f fr).1) := by
  unfold strF at h ⊢
  by_cases h1 : 4611686018427387904 < fr
  · rw [if_pos h1] at h
    exact absurd h (failF_bad (by decide))
  rw [if_neg h1] at h ⊢
  by_cases h2 : (vrdF l p f).2.2.1 = 0 ∧ 4611686018427387904 - fr ≤ (vrdF l p f).1
  · rw [if_pos h2] at h
    exact absurd h (failF_bad (by decide))
  rw [if_neg h2] at h ⊢
  simp only at h ⊢
  by_cases h3 : (setsF l (manyF l (vrdF l p f).2.1 (vrdF l p f).2.2 8).1 (manyF l (vrdF l p f).2.1 (vrdF l p f).2.2 8).2.1 (manyF l (vrdF l p f).2.1 (vrdF l p f).2.2 8).2.2 []).2.2.1 = 0
  · rw [if_pos h3] at h ⊢
    have hq := (vrdF_le (f := f) hp).1
    have hmq : (manyF l (vrdF l p f).2.1 (vrdF l p f).2.2 8).2.1 ≤ l.length := by rw [manyF_q]; exact (vrdF_le hq).1
    have hmf : (manyF l (vrdF l p f).2.1 (vrdF l p f).2.2 8).2.2.1 = 0 := by
      by_cases hm : (manyF l (vrdF l p f).2.1 (vrdF l p f).2.2 8).2.2.1 = 0
      · exact hm
      · have h0 := manyF_fail0 hm
        rw [h0] at h3
        exact h3
    obtain ⟨new, e1, e2, e3, e4, e5, e6⟩ := setsF_inv h3 hmq
    obtain ⟨m0, m1, m2, m3, m4, m5⟩ := manyF_inv hmf
    obtain ⟨v0, v1, v2, v3, v4⟩ := vrdF_inv m0
    have hv : ¬ 4611686018427387904 - fr ≤ (vrdF l p f).1 := fun hh => h2 ⟨m0, hh⟩
    simp only [List.nil_append] at e1 e3
    rw [e1]
    refine ⟨rfl, ⟨by show fr < fr + (vrdF l p f).1 + 1; omega, by show fr + (vrdF l p f).1 + 1 ≤ _; omega, by show 1 ≤ new.length; omega, by show new.length ≤ 8; omega, fun i x hi => ?_⟩, ?_, e5, ?_⟩
    · obtain ⟨a, b⟩ := e3 i x hi
      exact setOk_iff.2 ⟨a, b⟩
    · have e7 : fr + (vrdF l p f).1 + 1 - fr - 1 = (vrdF l p f).1 := by omega
      simp only [stb, stn, flat_cons, List.length_append]
      rw [e7, e2]; omega
    · have e7 : fr + (vrdF l p f).1 + 1 - fr - 1 = (vrdF l p f).1 := by omega
      simp only [stb, stn, flat_cons, stands_append]
      rw [e7, ← v2, e2, ← m3]
      exact ⟨v4, m5, e6⟩
  · rw [if_neg h3] at h
    exact absurd h h3
/-- **What is written is read so.** -/
theorem strF_stands {l : List UInt8} {p : Nat} {s : Stp} (hs : SOk s) (h : Stands l p (stb s)) : strF l p (0, 0) s.1 = (s, p + (stb s).length, (0, 0)) := by
  obtain ⟨f, t, sets⟩ := s
  obtain ⟨h1, h2, h3, h4, h5⟩ := hs
  simp only at h1 h2 h3 h4
  simp only [stb, stn, flat_cons, stands_append] at h
  obtain ⟨s1, s2, s3⟩ := h
  have hv : vrdF l p (0, 0) = (t - f - 1, p + (vbytes (t - f - 1)).length, (0, 0)) := vrdF_stands (by omega) s1
  have hm : manyF l (p + (vbytes (t - f - 1)).length) (0, 0) 8 = (sets.length, p + (vbytes (t - f - 1)).length + (vbytes sets.length).length, (0, 0)) := manyF_stands h3 h4 (by decide) s2
  have hr := setsF_stands (l := l) (new := sets) (p := p + (vbytes (t - f - 1)).length + (vbytes sets.length).length) (sets := []) (fun i x hi => by
    have := setOk_iff.1 (h5 i x hi)
    simpa using this) s3
  rw [List.nil_append] at hr
  unfold strF
  rw [if_neg (by simp only; omega), hv]
  simp only
  rw [if_neg (by rintro ⟨_, hh⟩; omega), hm]
  simp only
  rw [hr]
  simp only
  rw [if_pos trivial]
  have e7 : f + (t - f - 1) + 1 = t := by omega
  simp only [stb, stn, flat_cons, List.length_append, e7, Nat.add_assoc]
end Go.Proofs.Ytmdgmnaaopineaa
/- A reader with a fault: no call changes anything. -/
namespace Go.Proofs.Ytmdgmnaaopineaa
open Go.ChangeShapes Go.WideShapes Go.ChangeAt Go.RowKit
set_option linter.unusedVariables false
section
variable {w : World} {D : Dom} {g : Nat} {l : List UInt8} {p : Nat} {f : Flt}
theorem cgood_bad (h : Rd w D g l p f) (hf : f.1 ≠ 0) : Calls Try.prog 56 #[.pointer (some ⟨g, 0, none⟩)] w fun e w' => e = .returned (.bool false) ∧ Below w.heap.size w w' := by
  have := cgood_at h
  rw [show (f.1 == 0) = false by simpa using hf] at this
  exact this
theorem cfail_bad (h : Rd w D g l p f) (hf : f.1 ≠ 0) (c a : Int) : Calls Try.prog 91 #[.pointer (some ⟨g, 0, none⟩), .int .i64 c, .int .i64 a] w fun e w' => e = .returned (.tuple #[]) ∧ Below w.heap.size w w' := by
  have HC := Lib.hid (cgood_bad h hf)
  clear h hf
  go_enter Try.func91, Try.ntmps91
  go_wp2_with fail
  refine HC.out.mono ?_; rintro e w1 ⟨rfl, hb1⟩
  go_wp2_with fail
  go_end0
  exact ⟨rfl, hb1⟩
theorem cskip_bad (h : Rd w D g l p f) (hf : f.1 ≠ 0) (n : Int) : Calls Try.prog 146 #[.pointer (some ⟨g, 0, none⟩), .int .i64 n] w fun e w' => e = .returned (.bool false) ∧ Below w.heap.size w w' := by
  have HC := Lib.hid (cgood_bad h hf)
  clear h hf
  go_enter Try.func146, Try.ntmps146
  go_wp2_with fail
  refine HC.out.mono ?_; rintro e w1 ⟨rfl, hb1⟩
  go_wp2_with fail
  go_ret
  exact ⟨rfl, hb1⟩
theorem cbyte_bad (h : Rd w D g l p f) (hf : f.1 ≠ 0) : Calls Try.prog 130 #[.pointer (some ⟨g, 0, none⟩)] w fun e w' => e = .returned (.int .u8 0) ∧ Below w.heap.size w w' := by
  have HC := Lib.hid (cskip_bad h hf 1)
  clear h hf
  go_enter Try.func130, Try.ntmps130
  go_wp2_with fail
  refine HC.out.mono ?_; rintro e w1 ⟨rfl, hb1⟩
  go_wp2_with fail
  go_ret
  exact ⟨rfl, hb1⟩
theorem cend_bad (h : Rd w D g l p f) (hf : f.1 ≠ 0) : Calls Try.prog 78 #[.pointer (some ⟨g, 0, none⟩)] w fun e w' => e = .returned (.tuple #[]) ∧ Below w.heap.size w w' := by
  have hp := h.le
  have HH := Lib.hid h
  have HF := Lib.hid hf
  have hlm : l.length ≤ 9223372036854775807 := by
    obtain ⟨A, c, hb, hsl, _⟩ := h
    have := Rp.sl_len hsl
    unfold maxLen at this; omega
  clear h hf
  by_cases hlt : p < l.length
  · go_enter Try.func78, Try.ntmps78
    go_wp2_with fail
    refine (cleft_at HH.out).mono ?_; rintro e w1 ⟨rfl, hb1⟩
    have HR := Lib.hid (HH.out.below hb1)
    have HB := Lib.hid hb1
    obtain ⟨A, c, hblk, hsl, hg, hd, _⟩ := HR.out
    have d1 := hblk.cell 1
    clear hblk hsl hg hd hb1
    go_wp2_with fail
    refine (cfail_bad HR.out HF.out 9 p).mono ?_; rintro e w2 ⟨rfl, hb2⟩
    go_wp2_with fail
    go_end0
    exact ⟨rfl, HB.out.trans (hb2.mono HB.out.size)⟩
  · go_enter Try.func78, Try.ntmps78
    go_wp2_with fail
    refine (cleft_at HH.out).mono ?_; rintro e w1 ⟨rfl, hb1⟩
    go_wp2_with fail
    go_end0
    exact ⟨rfl, hb1⟩
end
end Go.Proofs.Ytmdgmnaaopineaa
/- varint.Read. -/
namespace Go.Proofs.Ytmdgmnaaopineaa
open Go.ChangeShapes Go.WideShapes Go.ChangeAt Go.RowKit
set_option linter.unusedVariables false
theorem wp_scope_jumps2 {P : Program} {a : Act} {w : World} {Q : Exit → Act → World → Prop} {c X : Code} (l : Nat) (J : Act → World → Prop) (μ : Act → World → Nat) (hf : findLabel c l = some (Code.seq .skip X))
    (pass : ∀ a w, J a w → X.wp P (Exit.jump l (fun a' w' => J a' w' ∧ μ a' w' < μ a w) Q) a w)
    (first : (∀ a w, J a w → X.wp P (Exit.jump l J Q) a w) → c.wp P (Exit.jump l J Q) a w) : (Code.scope c).wp P Q a w :=
  wp_scope_jumps l J μ hf (first fun a w h => Go.wp_mono (pass a w h) (fun e a' w' hq => by
    cases e with
    | goto l' => exact ⟨hq.1, hq.2.1⟩
    | _ => exact hq)) (fun a w h => wp_seq (wp_skip (pass a w h)))
theorem or_apart64 (x y s : Nat) (hx : x < 2 ^ s) : x ||| (y * 2 ^ s) = x + y * 2 ^ s := by
  rw [Nat.mul_comm, Nat.or_comm, ← Nat.two_pow_add_eq_or_of_lt hx, Nat.add_comm]
/-- Seven digits more. -/
theorem bits_place {n x cv : Nat} (hn : n ≤ 9) (hx : x < 128 ^ n) (hc : cv < 256) (h9 : n = 9 → cv ≤ 1) : bits .or .u64 (x : Int) (IntKind.u64.wrap ((cv : Int) % 128 * 2 ^ (7 * n))) = ((x + cv % 128 * 128 ^ n : Nat) : Int) := by
  have hp : (128 : Nat) ^ n = 2 ^ (7 * n) := by rw [Nat.pow_mul]
  have hle : (128 : Nat) ^ n ≤ 128 ^ 9 := Nat.pow_le_pow_right (by decide) hn
  rw [pow_9] at hle
  have hb : cv % 128 * 128 ^ n ≤ 9223372036854775808 := by
    by_cases h : n = 9
    · have := h9 h
      subst h
      rw [pow_9]
      have : cv % 128 ≤ 1 := by omega
      omega
    · have h1 : cv % 128 * 128 ^ n ≤ 127 * 128 ^ n := Nat.mul_le_mul_right _ (by omega)
      have h3 : (128 : Nat) ^ (n + 1) ≤ 128 ^ 9 := Nat.pow_le_pow_right (by decide) (by omega)
      rw [Nat.pow_succ, pow_9] at h3
      omega
  have e : (cv : Int) % 128 * 2 ^ (7 * n) = ((cv % 128 * 128 ^ n : Nat) : Int) := by rw [hp]; simp
  rw [e, IntWalk.u64_in _ (by omega), hp, u64_or_nat x (cv % 128 * 2 ^ (7 * n)) (by omega) (by rw [← hp]; omega), or_apart64 _ _ _ (by rw [← hp]; exact hx)]
section
variable {w : World} {D : Dom} {g : Nat} {l : List UInt8} {p : Nat} {f : Flt}
set_option maxRecDepth 100000 in
set_option maxHeartbeats 4000000 in
theorem vread_at (h : Rd w D g l p (0, 0)) (hl : l.length ≤ 1000000000) : Calls Try.prog 92 #[.pointer (some ⟨g, 0, none⟩)] w fun e w' => e = .returned (.int .u64 ((vrd l p).1 : Int)) ∧ Rd w' D g l (vrd l p).2.1 (vrd l p).2.2 ∧ Chg (one g) w w' := by
  have hp := h.le
  have HAT0 := Lib.hid (cat_at h)
  have HH := Lib.hid h
  clear h
  go_enter Try.func92, Try.ntmps92
  go_wp2_with fail
  refine wp_scope_jumps2 0 (fun a' w' => ∃ (n x : Nat) (u4 u9 u10 u11 u12 u13 u14 u15 u16 u17 u18 u19 u20 u21 u22 u23 u24 u25 u26 u27 u28 u29 u30 u31 u32 u33 u34 u35 u36 u37 u38 u39 u40 u41 u42 u43 u44 u45 u46 u47 u48 u49 u50 u51 u52 u53 : Value), a' = { tmps := #[.pointer (some ⟨g, 0, none⟩), undef, .int .u64 0, .int .u64 (x : Int), u4, .int .i64 ((7 * n : Nat) : Int), .int .i64 (p : Int), .pointer (some ⟨g, 0, none⟩), .int .i64 (p : Int), u9, u10, u11, u12, u13, u14, u15, u16, u17, u18, u19, u20, u21, u22, u23, u24, u25, u26, u27, u28, u29, u30, u31, u32, u33, u34, u35, u36, u37, u38, u39, u40, u41, u42, u43, u44, u45, u46, u47, u48, u49, u50, u51, u52, u53], defers := [] } ∧ n ≤ 9 ∧ x < 128 ^ n ∧ Hid (vgo l p (10 - n) n x = vrd l p) ∧ Hid (Rd w' D g l (p + n) (0, 0)) ∧ Hid (Chg (one g) w w')) (fun a' _ => 70 - (intOf (a'.tmps.getD 5 undef)).toNat) rfl ?_ ?_
  case refine_1 =>
    rintro a' wr ⟨n, x, u4, u9, u10, u11, u12, u13, u14, u15, u16, u17, u18, u19, u20, u21, u22, u23, u24, u25, u26, u27, u28, u29, u30, u31, u32, u33, u34, u35, u36, u37, u38, u39, u40, u41, u42, u43, u44, u45, u46, u47, u48, u49, u50, u51, u52, u53, rfl, hn, hx, hvg, hrd, hch⟩
    have hpl := hrd.out.le
    obtain ⟨q, hq0⟩ : ∃ q, q = p + n := ⟨_, rfl⟩
    rw [← hq0] at hpl
    have hrq : Hid (Rd wr D g l q (0, 0)) := by rw [hq0]; exact hrd.out
    have HQ0 := Lib.hid hq0
    clear hrd
    rcases Nat.lt_or_ge q l.length with hlt | hge
    case inr =>
      -- the bytes end
      have hsk : skipF l.length q (0, 0) 1 = (q, (1, (l.length : Int)), false) := skipF_bad3 rfl (by decide) (by omega)
      have hby : byteB l q (0, 0) = 0 := by unfold byteB; rw [hsk]; rfl
      have hB := cbyte_at hrq.out hl
      rw [hsk, hby] at hB
      have HB := Lib.hid hB
      have hv : vrd l p = (0, q, (1, (l.length : Int))) := by
        rw [← hvg.out, show 10 - n = (9 - n) + 1 by omega, vgo_none (by rw [← hq0]; exact List.getElem?_eq_none hge), ← hq0]
      have HV := Lib.hid hv
      clear hsk hby hB hv hq0
      go_wp2_with fail
      refine HB.out.mono ?_; rintro e w2 ⟨rfl, hr2, hc2⟩
      have HG := Lib.hid (cgood_at hr2)
      have HR2 := Lib.hid hr2
      have HC2 := Lib.hid (hch.out.trans hc2)
      have hq : ((1 : Int) == 0) = false := rfl
      clear hr2 hc2
      go_wp2_with fail
      refine HG.out.mono ?_; rintro e w3 ⟨rfl, hb3⟩
      have HR3 := Lib.hid (HR2.out.below hb3)
      have HC3 := Lib.hid (HC2.out.trans (Chg.of_pure hb3 _))
      clear hb3
      go_wp2_with fail
      simp only [Exit.jump]
      go_ret
      exact ⟨by rw [HV.out]; rfl, by rw [HV.out]; exact HR3.out, HC3.out⟩
    case inl =>
      obtain ⟨c, hc⟩ : ∃ c, l[q]? = some c := ⟨_, List.getElem?_eq_getElem hlt⟩
      have hcl := c.toNat_lt
      have hsk : skipF l.length q (0, 0) 1 = (q + 1, (0, 0), true) := by rw [skipF_ok rfl (by decide) (by omega)]; rfl
      have hby : byteB l q (0, 0) = c.toNat := by unfold byteB; rw [hsk, List.getD_eq_getElem?_getD, hc]; rfl
      have hB := cbyte_at hrq.out hl
      rw [hsk, hby] at hB
      have HB := Lib.hid hB
      rw [hq0] at hc
      have HCC := Lib.hid hc
      have hpq : p ≤ q := by omega
      obtain ⟨cv, hcv⟩ : ∃ cv, cv = c.toNat := ⟨_, rfl⟩
      rw [← hcv] at hcl HB
      have HCV := Lib.hid hcv
      have hfin : Hid (∀ (w' : World) (v q' : Nat) (f' : Flt), vrd l p = (v, q', f') → Rd w' D g l q' f' → Chg (one g) w w' → Ending.returned (.int .u64 (v : Int)) = .returned (.int .u64 ((vrd l p).1 : Int)) ∧ Rd w' D g l (vrd l p).2.1 (vrd l p).2.2 ∧ Chg (one g) w w') := fun w' v q' f' h1 h2 h3 => by rw [h1]; exact ⟨rfl, h2, h3⟩
      clear hsk hby hB hc hq0 hcv
      go_wp2_with fail
      refine HB.out.mono ?_; rintro e w2 ⟨rfl, hr2, hc2⟩
      have HG := Lib.hid (cgood_at hr2)
      have HR2 := Lib.hid hr2
      have HC2 := Lib.hid (hch.out.trans hc2)
      have hq : ((0 : Int) == 0) = true := rfl
      clear hr2 hc2
      go_wp2_with fail
      refine HG.out.mono ?_; rintro e w3 ⟨rfl, hb3⟩
      have HR3 := Lib.hid (HR2.out.below hb3)
      have HC3 := Lib.hid (HC2.out.trans (Chg.of_pure hb3 _))
      have HAT := Lib.hid (cat_at HR3.out)
      clear hb3
      have h10 : Hid (10 - n = (9 - n) + 1) := (by omega : 10 - n = (9 - n) + 1)
      by_cases h9 : n = 9 ∧ 1 < cv
      case pos =>
        obtain ⟨h91, h92⟩ := h9
        have HV : Hid (vrd l p = (0, q + 1, (5, (q : Int)))) := by
          show _ = _
          rw [← hvg.out, h10.out, vgo_over HCC.out h91 (by rw [← HCV.out]; exact h92), ← HQ0.out]
        have hd1 : (((7 * n : Nat) : Int) == 63) = true := by simp; omega
        have hd3 : (7 * (n : Int) == 63) = true := by simp; omega
        have hd2 : decide ((1 : Int) < (cv : Int)) = true := by simp; omega
        have hf := cfail_at HR3.out 5 (q : Int)
        rw [show failF (0, 0) 5 (q : Int) = (5, (q : Int)) from rfl] at hf
        have HF := Lib.hid hf
        clear hf h91 h92
        go_wp2_with fail
        refine HAT.out.mono ?_; rintro e w4 ⟨rfl, rfl⟩
        go_wp2_with fail
        refine HF.out.mono ?_; rintro e w5 ⟨rfl, hr5, hc5⟩
        have HR5 := Lib.hid hr5
        have HC5 := Lib.hid (HC3.out.trans hc5)
        clear hr5 hc5
        go_wp2_with fail
        simp only [Exit.jump]
        go_ret
        exact hfin.out _ _ _ _ HV.out HR5.out HC5.out
      case neg =>
        have hd : ((((7 * n : Nat) : Int) == 63) = false ∧ (7 * (n : Int) == 63) = false) ∨ ((((7 * n : Nat) : Int) == 63) = true ∧ (7 * (n : Int) == 63) = true ∧ decide ((1 : Int) < (cv : Int)) = false) := by
          rcases Nat.lt_or_ge n 9 with h | h
          · left; simp; omega
          · right; simp; omega
        have H9 := Lib.hid h9
        clear h9
        by_cases hz : cv = 0 ∧ 0 < n
        case pos =>
          obtain ⟨hz1, hz2⟩ := hz
          have HV : Hid (vrd l p = (0, q + 1, (4, (q : Int)))) := by
            show _ = _
            rw [← hvg.out, h10.out, vgo_zero HCC.out (by rw [← HCV.out]; exact H9.out) (by rw [← HCV.out]; exact hz1) hz2, ← HQ0.out]
          have hd4 : ((cv : Int) == 0) = true := by simp; omega
          have hd5 : decide (p < q) = true := by have := HQ0.out; simp; omega
          have hf := cfail_at HR3.out 4 (q : Int)
          rw [show failF (0, 0) 4 (q : Int) = (4, (q : Int)) from rfl] at hf
          have HF := Lib.hid hf
          clear hf hz1 hz2
          rcases hd with ⟨hd1, hd2⟩ | ⟨hd1, hd2, hd3⟩
          all_goals
            go_wp2_with fail
            refine HAT.out.mono ?_; rintro e w4 ⟨rfl, rfl⟩
            go_wp2_with fail
            refine HAT.out.mono ?_; rintro e w4 ⟨rfl, rfl⟩
            go_wp2_with fail
            refine HF.out.mono ?_; rintro e w5 ⟨rfl, hr5, hc5⟩
            have HR5 := Lib.hid hr5
            have HC5 := Lib.hid (HC3.out.trans hc5)
            clear hr5 hc5
            go_wp2_with fail
            simp only [Exit.jump]
            go_ret
            exact hfin.out _ _ _ _ HV.out HR5.out HC5.out
        case neg =>
          have HZ := Lib.hid hz
          by_cases hc0 : cv = 0
          case pos =>
            have hn0 : n = 0 := by omega
            subst hn0
            have hd4 : ((cv : Int) == 0) = true := by simp; omega
            have hd5 : decide (p < q) = false := by have := HQ0.out; simp; omega
            clear hz hd
            have hx0 : x = 0 := by simpa using hx
            subst hx0
            have hb0 : bits .or .u64 (((0 : Nat) : Int)) ((cv : Int) % 128) = (((0 : Nat) : Int)) := by subst hc0; decide
            have hb1 : bits .or .u64 0 ((cv : Int) % 128) = 0 := by subst hc0; decide
            have hm : decide ((128 : Int) ≤ (cv : Int)) = false := by simp; omega
            have HV : Hid (vrd l p = (0, q + 1, (0, 0))) := by
              show _ = _
              rw [← hvg.out, h10.out, vgo_last HCC.out (by rw [← HCV.out]; exact H9.out) (by rw [← HCV.out]; exact HZ.out) (by rw [← HCV.out]; omega), ← HCV.out, hc0, ← HQ0.out]
            clear hc0
            go_wp2_with fail
            refine HAT.out.mono ?_; rintro e w4 ⟨rfl, rfl⟩
            go_wp2_with fail
            simp only [Exit.jump]
            go_ret
            exact hfin.out _ _ _ _ HV.out HR3.out HC3.out
          case neg =>
            have hd4 : ((cv : Int) == 0) = false := by simp; omega
            obtain ⟨X, hX⟩ : ∃ X, X = x + cv % 128 * 128 ^ n := ⟨_, rfl⟩
            have hc9 : n = 9 → cv ≤ 1 := fun h => by have := H9.out; omega
            have hbits := bits_place (cv := cv) hn hx hcl hc9
            rw [← hX] at hbits
            have HXX := Lib.hid hX
            by_cases hm : 128 ≤ cv
            case pos =>
              have hn9 : n < 9 := by rcases Nat.lt_or_ge n 9 with h | h; exact h; have := hc9 (by omega); omega
              have HVG : Hid (vgo l p (10 - (n + 1)) (n + 1) X = vrd l p) := by
                show _ = _
                rw [← hvg.out, h10.out, vgo_more HCC.out (by rw [← HCV.out]; exact H9.out) (by rw [← HCV.out]; exact hm), HXX.out, HCV.out, show 10 - (n + 1) = 9 - n by omega]
              have hXl : X < 128 ^ (n + 1) := by
                rw [hX, Nat.pow_succ]
                have : cv % 128 * 128 ^ n ≤ 127 * 128 ^ n := Nat.mul_le_mul_right _ (by omega)
                omega
              have hdm : decide ((128 : Int) ≤ (cv : Int)) = true := by simp; omega
              have HR4 : Hid (Rd w3 D g l (p + (n + 1)) (0, 0)) := by have := HR3.out; rw [HQ0.out] at this; exact this
              have HXL := Lib.hid hXl
              have HBT := Lib.hid hbits
              clear hz hc0 hX hc9 hXl
              rcases hd with ⟨hd1, hd2⟩ | ⟨hd1, hd2, hd3⟩
              case inr =>
                have : n = 9 := by simp at hd2; omega
                omega
              case inl =>
                go_wp2_with fail
                go_step3
                exact ⟨rfl, ⟨n + 1, X, _, _, _, _, _, _, _, _, _, _, _, _, _, _, _, _, _, _, _, _, _, _, _, _, _, _, _, _, _, _, _, _, _, _, _, _, _, _, _, _, _, _, _, _, _, _, by rw [show (((7 * (n + 1) : Nat)) : Int) = 7 * (n : Int) + 7 by omega], by omega, HXL.out, HVG, HR4, HC3⟩, by simp [intOf]; omega⟩
            case neg =>
              have HV : Hid (vrd l p = (X, q + 1, (0, 0))) := by
                show _ = _
                rw [← hvg.out, h10.out, vgo_last HCC.out (by rw [← HCV.out]; exact H9.out) (by rw [← HCV.out]; exact HZ.out) (by rw [← HCV.out]; exact hm), ← HCV.out, ← HQ0.out, HXX.out]
              have hdm : decide ((128 : Int) ≤ (cv : Int)) = false := by simp; omega
              clear hz hc0 hX hc9 hm
              rcases hd with ⟨hd1, hd2⟩ | ⟨hd1, hd2, hd3⟩
              all_goals
                go_wp2_with fail
                simp only [Exit.jump]
                go_ret
                exact hfin.out _ _ _ _ HV.out HR3.out HC3.out
  case refine_2 =>
    intro hrest
    go_wp2_with fail
    refine HAT0.out.mono ?_; rintro e w1 ⟨rfl, rfl⟩
    go_wp2_with fail
    go_step3
    rename_i hk
    refine hk _ _ (hrest _ _ ?_)
    exact ⟨0, 0, _, _, _, _, _, _, _, _, _, _, _, _, _, _, _, _, _, _, _, _, _, _, _, _, _, _, _, _, _, _, _, _, _, _, _, _, _, _, _, _, _, _, _, _, _, _, rfl, by omega, by decide, rfl, HH, Chg.refl _ _⟩
end
end Go.Proofs.Ytmdgmnaaopineaa
/- varint.Bytes, the reference's Bytes, varint.Read of a reader with a fault. -/
namespace Go.Proofs.Ytmdgmnaaopineaa
open Go.ChangeShapes Go.WideShapes Go.ChangeAt Go.RowKit
set_option linter.unusedVariables false
theorem vread_bad {w : World} {D : Dom} {g : Nat} {l : List UInt8} {p : Nat} {f : Flt} (h : Rd w D g l p f) (hf : f.1 ≠ 0) : Calls Try.prog 92 #[.pointer (some ⟨g, 0, none⟩)] w fun e w' => e = .returned (.int .u64 0) ∧ Below w.heap.size w w' := by
  have HAT0 := Lib.hid (cat_at h)
  have HB := Lib.hid (cbyte_bad h hf)
  have HH := Lib.hid h
  have HF := Lib.hid hf
  clear h hf
  go_enter Try.func92, Try.ntmps92
  go_wp2_with fail
  go_step3
  go_wp2_with fail
  refine HAT0.out.mono ?_; rintro e w1 ⟨rfl, rfl⟩
  go_wp2_with fail
  go_step3
  go_wp2_with fail
  refine HB.out.mono ?_; rintro e w2 ⟨rfl, hb2⟩
  have HG := Lib.hid (cgood_bad (HH.out.below hb2) HF.out)
  have HB2 := Lib.hid hb2
  clear hb2
  go_wp2_with fail
  refine HG.out.mono ?_; rintro e w3 ⟨rfl, hb3⟩
  have HB3 := Lib.hid (HB2.out.trans (hb3.mono HB2.out.size))
  clear hb3
  go_wp2_with fail
  first | rw [Exit.noGoto_ret] | skip
  go_ret
  exact ⟨rfl, HB3.out⟩
theorem or_128 (y : Nat) : bits .or .u8 ((y : Int) % 256) 128 = (((UInt8.ofNat (128 + y % 128)).toNat : Nat) : Int) := by
  have h1 : ((y : Int) % 256) = ((y % 256 : Nat) : Int) := by simp
  rw [h1, show (128 : Int) = ((128 : Nat) : Int) from rfl, u8_or_nat (y % 256) 128 (by omega) (by omega), ofNat_small (by omega)]
  congr 1
  have h2 : y % 256 = y % 128 + (y / 128 % 2) * 2 ^ 7 := by omega
  have h3 : y % 128 < 2 ^ 7 := by omega
  rcases (show y / 128 % 2 = 0 ∨ y / 128 % 2 = 1 by omega) with h | h
  · rw [h2, h]
    have := or_apart64 (y % 128) 1 7 h3
    simpa [Nat.add_comm] using this
  · rw [h2, h]
    have e := or_apart64 (y % 128) 1 7 h3
    rw [show (1 : Nat) * 2 ^ 7 = 128 from rfl] at e ⊢
    rw [← e, Nat.or_assoc, Nat.or_self, e, Nat.add_comm]
section
variable {w : World}
set_option maxRecDepth 100000 in
set_option maxHeartbeats 4000000 in
theorem vbytes_any (x : Nat) (hx : x < 18446744073709551616) : Calls Try.prog 135 #[.int .u64 (x : Int)] w fun e w' => ∃ A n c, e = .returned (.slice A n c) ∧ w'.ownsRow w.heap.size 5 1 (.slice A n c) n ((vbytes x).map bv) ∧ Below w.heap.size w w' := by
  have hlen10 := vbytes_10 hx
  obtain ⟨V, hV⟩ : ∃ V, V = vbytes x := ⟨_, rfl⟩
  rw [← hV] at hlen10 ⊢
  have HVV := Lib.hid hV
  clear hV
  go_enter Try.func135, Try.ntmps135
  go_wp2_with fail
  go_loopw [0, 3] (fun xx oo wr => ∃ (y n1 : Nat) (pre : List UInt8) (A1 : Option Addr) (c1 : Nat), xx = .int .u64 (y : Int) ∧ oo = .slice A1 n1 c1 ∧ y < 18446744073709551616 ∧ n1 ≤ 10 ∧ Hid (pre.length = n1 ∧ pre ++ vbytes y = V) ∧ Hid (wr.ownsRow w.heap.size 5 1 (.slice A1 n1 c1) n1 (pre.map bv)) ∧ Hid (Below w.heap.size w wr)) (fun xx _ _ => (intOf xx).toNat)
  case atStart => exact ⟨x, 0, [], none, 0, rfl, rfl, hx, by omega, ⟨rfl, HVV.out.symm⟩, World.ownsRow_nil _ _ _ _, Below.refl _ _⟩
  case round =>
    obtain ⟨y, n1, pre, A1, c1, rfl, rfl, hy, hn1, hpre, hrow, hbw⟩ := hrel
    have hzw := hbw.out.size
    have hor := or_128 y
    have hb1 : ((UInt8.ofNat (128 + y % 128)).toNat : Int) = ((128 + y % 128 : Nat) : Int) := by rw [ofNat_small (by omega)]
    have hvp := vbytes_pos y
    have hlt10 : n1 + 1 ≤ 10 := by have h1 := hpre.out.2; have h2 := hpre.out.1; have h3 := congrArg List.length h1; rw [List.length_append] at h3; omega
    obtain ⟨bb, hbb⟩ : ∃ bb : UInt8, bb = UInt8.ofNat (128 + y % 128) := ⟨_, rfl⟩
    obtain ⟨b2, hb2⟩ : ∃ b2 : UInt8, b2 = UInt8.ofNat y := ⟨_, rfl⟩
    have hb2v : ((y : Int) % 256) = (b2.toNat : Int) := by rw [hb2, UInt8.toNat_ofNat']; simp
    rw [← hbb] at hor
    have HBB := Lib.hid hbb
    have HB2 := Lib.hid hb2
    clear hbb hb2 hb1 hvp
    have hor2 : bits .or .u8 ((b2.toNat : Nat) : Int) 128 = (bb.toNat : Int) := by rw [← hb2v]; exact hor
    clear hor
    have hn60 : n1 + 1 ≤ 60000 := by omega
    by_cases hlt : y < 128
    · have hd : decide ((128 : Int) ≤ (y : Int)) = false := by simp; omega
      have HLT := Lib.hid hlt
      clear hlt hor2
      go_wp2_with (refine wpList_app rfl (.tmp 14) (.tmp 17) 36 rfl elemU rfl (hrow.out.alloc _) rfl (Src.new wr (bv b2) _ rfl) (by unfold maxLen; omega) (by omega) (by simp; omega) ?_; intro A2 c2 w3 ho2 hg2 hat2; have HO2 := Lib.hid ho2; have hb3 : Below w.heap.size w w3 := (hbw.out.alloc (show w.heap.size ≤ wr.heap.size from hzw) _).grown hg2 (by simp; omega) (fun k e => (hrow.out.lt k e).1); have HB3 := Lib.hid hb3; clear ho2 hg2 hat2 hb3)
      go_ret
      have e : pre.map bv ++ [bv b2] = (V).map bv := by
        have := hpre.out.2
        rw [vbytes_lt HLT.out, ← HB2.out] at this
        rw [← this, List.map_append]; rfl
      have hV1 : n1 + 1 = V.length := by
        have := congrArg List.length e
        have h1 := hpre.out.1
        simp at this; omega
      exact ⟨A2, _, c2, rfl, by rw [← e]; exact HO2.out, HB3.out⟩
    · have hd : decide ((128 : Int) ≤ (y : Int)) = true := by simp; omega
      have HLT := Lib.hid hlt
      clear hlt
      go_wp2_with (refine wpList_app rfl (.tmp 6) (.tmp 10) 36 rfl elemU rfl (hrow.out.alloc _) rfl (Src.new wr (bv bb) _ rfl) (by unfold maxLen; omega) (by omega) (by simp; omega) ?_; intro A2 c2 w3 ho2 hg2 hat2; have HO2 := Lib.hid ho2; have hb3 : Below w.heap.size w w3 := (hbw.out.alloc (show w.heap.size ≤ wr.heap.size from hzw) _).grown hg2 (by simp; omega) (fun k e => (hrow.out.lt k e).1); have HB3 := Lib.hid hb3; clear ho2 hg2 hat2 hb3)
      have hy2 : y / 128 < 18446744073709551616 := by omega
      go_roundw
      case rel =>
        refine ⟨y / 128, n1 + 1, pre ++ [bb], A2, c2, ?_, rfl, hy2, hlt10, ⟨by rw [List.length_append, hpre.out.1]; rfl, ?_⟩, ?_, HB3.out⟩
        · simp
        · have := hpre.out.2
          rw [vbytes_ge HLT.out, ← HBB.out] at this
          rw [List.append_assoc]; exact this
        · rw [List.map_append]; exact HO2.out
      case measure => have := HLT.out; simp only [intOf]; omega
end
end Go.Proofs.Ytmdgmnaaopineaa
/- The reference's numbers: Bytes. -/
namespace Go.Proofs.Ytmdgmnaaopineaa
open Go.ChangeShapes Go.WideShapes Go.ChangeAt Go.RowKit
set_option linter.unusedVariables false
theorem ownsRow_same {w w' : World} {base : Nat} {e : TypeId} {size : Nat} {v : Value} {n : Nat} {xs : List Value} (h : w.ownsRow base e size v n xs) (hs : ∀ k, v.ownBlock = some k → w'.heap[k]? = w.heap[k]?) : w'.ownsRow base e size v n xs := by
  refine ⟨h.1, ?_⟩
  rcases h.2 with h0 | ⟨g, cap, cur, hv, hg, hh, hr⟩
  · exact .inl h0
  · exact .inr ⟨g, cap, cur, hv, hg, (hs g (by rw [hv]; rfl)).trans hh, hr⟩
theorem row_one (w : World) (v : Value) (e : TypeId) : (w.alloc (.cells #[v] e)).ownsRow w.heap.size e 1 (.slice (some ⟨w.heap.size, 0, none⟩) 1 1) 1 [v] := World.ownsRow_lit (base := w.heap.size) (e := e) (size := 1) w #[v] 1 (Nat.le_refl _) (by unfold maxLen; decide) (by simp)
set_option maxRecDepth 100000 in
theorem rvbytes_any : ∀ (k x : Nat) (w : World), x < 128 ^ (k + 1) → k ≤ 9 → x < 18446744073709551616 → Calls Try.prog 101 #[.int .u64 (x : Int)] w fun e w' => ∃ A n c, e = .returned (.slice A n c) ∧ w'.ownsRow w.heap.size 5 1 (.slice A n c) n ((vbytes x).map bv) ∧ Below w.heap.size w w' := by
  intro k
  induction k with
  | zero =>
    intro x w hx hk h64
    have hlt : x < 128 := by simpa using hx
    rw [vbytes_lt hlt]
    have hd : decide ((x : Int) < 128) = true := by simp; omega
    have hv : (x : Int) = ((UInt8.ofNat x).toNat : Int) := by rw [ofNat_small (by omega)]
    obtain ⟨b, hb⟩ : ∃ b : UInt8, b = UInt8.ofNat x := ⟨_, rfl⟩
    rw [← hb] at hv ⊢
    clear hb hx
    go_enter Try.func101, Try.ntmps101
    go_wp2_with fail
    go_ret
    exact ⟨_, _, _, rfl, by rw [hv] at *; exact row_one w _ _, (Below.refl _ _).alloc (Nat.le_refl _) _⟩
  | succ k ih =>
    intro x w hx hk h64
    by_cases hlt : x < 128
    · rw [vbytes_lt hlt]
      have hd : decide ((x : Int) < 128) = true := by simp; omega
      have hv : (x : Int) = ((UInt8.ofNat x).toNat : Int) := by rw [ofNat_small (by omega)]
      obtain ⟨b, hb⟩ : ∃ b : UInt8, b = UInt8.ofNat x := ⟨_, rfl⟩
      rw [← hb] at hv ⊢
      clear hb hx ih
      go_enter Try.func101, Try.ntmps101
      go_wp2_with fail
      go_ret
      exact ⟨_, _, _, rfl, by rw [hv] at *; exact row_one w _ _, (Below.refl _ _).alloc (Nat.le_refl _) _⟩
    · rw [vbytes_ge hlt]
      have hlen := vbytes_len k (x / 128) (by rw [Nat.div_lt_iff_lt_mul (by decide)]; rw [Nat.pow_succ] at hx; exact hx)
      have hd : decide ((x : Int) < 128) = false := by simp; omega
      have hv : (128 + (x : Int) % 128) = ((UInt8.ofNat (128 + x % 128)).toNat : Int) := by rw [ofNat_small (by omega)]; omega
      have IH := Lib.hid (fun w => ih (x / 128) w (by rw [Nat.div_lt_iff_lt_mul (by decide)]; rw [Nat.pow_succ] at hx; exact hx) (by omega) (by omega))
      obtain ⟨b, hb⟩ : ∃ b : UInt8, b = UInt8.ofNat (128 + x % 128) := ⟨_, rfl⟩
      rw [← hb] at hv ⊢
      obtain ⟨V, hV⟩ : ∃ V, V = vbytes (x / 128) := ⟨_, rfl⟩
      rw [← hV] at IH hlen ⊢
      obtain ⟨y, hy⟩ : ∃ y, y = x / 128 := ⟨_, rfl⟩
      have hdiv : ((x : Int) / 128) = (y : Int) := by rw [hy]; simp
      rw [← hy] at IH
      have HR1 := Lib.hid (row_one w (bv b) 5)
      have HB1 := Lib.hid ((Below.refl w.heap.size w).alloc (Nat.le_refl _) (.cells #[bv b] 5))
      clear hb hx ih hV hlt hy
      go_enter Try.func101, Try.ntmps101
      go_wp2_with fail
      refine (IH.out _).mono ?_; rintro e w2 ⟨A, n, c, rfl, ho2, hb2⟩
      have hn : n ≤ 11 := by have h1 : (V.map bv).length = n * 1 := ho2.1; rw [List.length_map] at h1; omega
      have hb02 := HB1.out.trans (hb2.mono (show w.heap.size ≤ _ by simp))
      have HB2 := Lib.hid hb02
      have HR2 := Lib.hid (ownsRow_same HR1.out (fun k hk => hb2.block k (HR1.out.lt k hk).2))
      have HS2 := Lib.hid (Src.bytes (own_bytes ho2))
      have hz2 := hb02.size
      clear ho2 hb2 hb02
      go_wp2_with (refine wpList_app rfl (.tmp 12) (.tmp 15) 36 rfl elemU rfl HR2.out rfl HS2.out (by unfold maxLen; omega) (by omega) hz2 ?_; intro A3 c3 w3 ho3 hg3 hat3; have HO3 := Lib.hid ho3; have HB3 := Lib.hid (HB2.out.grown hg3 hz2 (fun k e => (HR2.out.lt k e).1)); clear ho3 hg3 hat3)
      go_ret
      exact ⟨A3, _, c3, rfl, HO3.out, HB3.out⟩
end Go.Proofs.Ytmdgmnaaopineaa
/- The reference's cursor, a value: Fail, Take, End, Part. -/
namespace Go.Proofs.Ytmdgmnaaopineaa
open Go.ChangeShapes Go.WideShapes Go.ChangeAt Go.RowKit
set_option linter.unusedVariables false

theorem cblk_top (w : World) (cs cs' : Array Value) (t t' : TypeId) : Blk ((w.alloc (.cells cs t)).alloc (.cells cs' t')) (w.heap.size + 1) t' cs' := by
  have h := Blk.new (w.alloc (.cells cs t)) t' cs'
  have e : (w.alloc (.cells cs t)).heap.size = w.heap.size + 1 := by simp
  rw [e] at h
  exact h
theorem cbelow_two (w : World) (o o' : Obj) : Below w.heap.size w ((w.alloc o).alloc o') :=
  ((Below.refl _ w).alloc (Nat.le_refl _) _).alloc (by simp) _
theorem Pen.ne' {w : World} {g : Nat} {e t : TypeId} {cs : Array Value} {base size n : Nat} {v : Value} {xs : List Value} (hb : Blk w g t cs) (ho : w.ownsRow base e size v n xs) (hne : e ≠ t) : some g ≠ v.ownBlock := by
  intro h
  rcases ho.2 with ⟨rfl, _⟩ | ⟨q, cap, cur, rfl, _, hh, _⟩
  · cases h
  · simp only [Value.ownBlock, Option.some.injEq] at h
    subst h
    unfold Blk at hb
    rw [hh] at hb
    injection hb with hb
    injection hb with _ he
    exact hne he
/-- The reference's reader as a value. -/
abbrev rdV (A : Option Addr) (n c : Nat) (p : Int) (f : Flt) : Array Value := #[.slice A n c, .int .i64 p, .int .i64 f.1, .int .i64 f.2]
abbrev rdZ : Array Value := #[.slice none 0 0, .int .i64 0, .int .i64 0, .int .i64 0]

theorem rat_any (c a : Int) (w : World) : Calls Try.prog 132 #[.int .i64 c, .int .i64 a] w fun e w' => e = .returned (.agg #[.int .i64 (failF (0, 0) c a).1, .int .i64 (failF (0, 0) c a).2]) ∧ Below w.heap.size w w' := by
  by_cases h : c = 0
  · subst h
    have e : failF (0, 0) 0 a = (0, 0) := rfl
    rw [e]
    clear e
    go_enter Try.func132, Try.ntmps132
    go_wp2_with fail
    refine bodyPost_ret (v := .agg #[.int .i64 0, .int .i64 0]) (by simp [results, Try.results132, go_sem]) rfl ⟨rfl, ?_⟩
    exact cbelow_two _ _ _
  · have e : failF (0, 0) c a = (c, a) := by unfold failF; rw [if_pos rfl, if_neg h]
    rw [e]
    have hd : (c == 0) = false := by simpa using h
    have hd' : (c != 0) = true := by simpa using h
    clear e
    go_enter Try.func132, Try.ntmps132
    go_wp2_with fail
    refine bodyPost_ret (v := .agg #[.int .i64 c, .int .i64 a]) (by simp [results, Try.results132, go_sem]) rfl ⟨rfl, ?_⟩
    exact cbelow_two _ _ _

theorem rfail_any (A : Option Addr) (n c : Nat) (p : Int) (f : Flt) (cd a : Int) (w : World) : Calls Try.prog 95 #[.agg (rdV A n c p f), .int .i64 cd, .int .i64 a] w fun e w' => e = .returned (.agg (rdV A n c p (failF f cd a))) ∧ Below w.heap.size w w' := by
  have H : Hid ((Try.prog.info? 71).map (·.size) = some 4) := by unfold Hid; kernel_rfl
  by_cases h0 : f.1 = 0
  · have e : failF f cd a = failF (0, 0) cd a := by unfold failF; rw [if_pos h0, if_pos rfl]
    rw [e]
    have hq : (f.1 == 0) = true := by simpa using h0
    have hat := fun w => rat_any cd a w
    clear e h0
    generalize failF (0, 0) cd a = f' at *
    have HAT := Lib.hid hat
    have HK := Lib.hid ((Blk.new w 71 (rdV A n c p f)).alloc (.cells rdZ 71))
    have HR := Lib.hid (cblk_top w (rdV A n c p f) rdZ 71 71)
    have HZ := Lib.hid (cbelow_two w (.cells (rdV A n c p f) 71) (.cells rdZ 71))
    clear hat
    go_enter Try.func95, Try.ntmps95
    go_wp2_with fail
    refine (HAT.out _).mono ?_; rintro e w1 ⟨rfl, hb1⟩
    have hk1 := HK.out.below hb1 HK.out.lt
    have d0 := hk1.cell 0
    have d1 := hk1.cell 1
    have d2 := hk1.cell 2
    have d3 := hk1.cell 3
    have f2 := hk1.frozen 2
    have f3 := hk1.frozen 3
    have HK1 := Lib.hid hk1
    have HR1 := Lib.hid (HR.out.below hb1 HR.out.lt)
    have HB1 := Lib.hid (HZ.out.trans (hb1.mono (by simp; omega)))
    clear hk1 hb1
    go_wp2_with (first
      | (refine wpList_load_at rfl 71 (.tmp 3) rfl ⟨w.heap.size, 0, none⟩ rfl (rdV A n c p f') _ (fun j v hv => by rw [add_plain, Nat.zero_add, ((HK1.out.put 2 _).put 3 _).cell]; exact hv) Try.underlying71 rfl H.out ?_)
      | (refine wpList_put_row rfl 71 (.tmp 6) (.tmp 15) rfl (w.heap.size + 1) (rdV A n c p f') rfl rfl 71 _ ((HR1.out.far (by simp) _).far (by simp) _) H.out rfl (by simp [Value.oneCell']) ?_; intro w3 hblk hgr))
    have hbz : Below w.heap.size w w3 := ((HB1.out.setCell (p := ⟨w.heap.size, 2, none⟩) (Nat.le_refl _) _).setCell (p := ⟨w.heap.size, 3, none⟩) (Nat.le_refl _) _).grown hgr (by have := HB1.out.size; simp; omega) (fun k hk => by injection hk with hk; omega)
    refine bodyPost_ret (results_cell_row rfl _ _ (w.heap.size + 1) 71 _ (0, 0) _ rfl hblk Try.underlying71 rfl H.out) rfl ⟨rfl, hbz⟩
  · have e : failF f cd a = f := by unfold failF; rw [if_neg h0]
    rw [e]
    have hq : (f.1 == 0) = false := by simpa using h0
    clear e h0
    go_enter Try.func95, Try.ntmps95
    go_wp2_with fail
    refine bodyPost_ret (results_cell_row rfl _ _ (w.heap.size + 1) 71 _ (0, 0) _ rfl (cblk_top _ _ _ _ _) Try.underlying71 rfl H.out) rfl ⟨rfl, cbelow_two _ _ _⟩
theorem rend_any (A : Option Addr) (n c p : Nat) (f : Flt) (w : World) (hp : p ≤ n) (hn : n ≤ 1000000000) : Calls Try.prog 61 #[.agg (rdV A n c p f)] w fun e w' => e = .returned (.agg (rdV A n c p (endF n p f))) ∧ Below w.heap.size w w' := by
  have H : Hid ((Try.prog.info? 71).map (·.size) = some 4) := by unfold Hid; kernel_rfl
  by_cases hlt : p < n
  · have e : endF n p f = failF f 9 p := by unfold endF; rw [if_pos hlt]
    rw [e]
    have hd : decide ((p : Int) < (n : Int)) = true := by simpa using hlt
    have HR := Lib.hid (cblk_top w (rdV A n c p f) rdZ 71 71)
    have HZ := Lib.hid (cbelow_two w (.cells (rdV A n c p f) 71) (.cells rdZ 71))
    obtain ⟨f', hf'⟩ : ∃ f', f' = failF f 9 p := ⟨_, rfl⟩
    rw [← hf']
    have HF' := Lib.hid hf'
    clear e hf'
    go_enter Try.func61, Try.ntmps61
    go_wp2_with fail
    refine (rfail_any A n c p f 9 _ _).mono ?_; rintro e w1 ⟨rfl, hb1⟩
    rw [← HF'.out]
    have HR1 := Lib.hid (HR.out.below hb1 HR.out.lt)
    have HB1 := Lib.hid (HZ.out.trans (hb1.mono (by simp; omega)))
    clear hb1
    go_wp2_with (refine wpList_put_row rfl 71 (.tmp 2) (.tmp 12) rfl (w.heap.size + 1) (rdV A n c p f') rfl rfl 71 _ HR1.out H.out rfl (by simp [Value.oneCell']) ?_; intro w3 hblk hgr)
    have hbz : Below w.heap.size w w3 := HB1.out.grown hgr HB1.out.size (fun k hk => by injection hk with hk; omega)
    refine bodyPost_ret (results_cell_row rfl _ _ (w.heap.size + 1) 71 _ (0, 0) _ rfl hblk Try.underlying71 rfl H.out) rfl ⟨rfl, hbz⟩
  · have e : endF n p f = f := by unfold endF; rw [if_neg hlt]
    rw [e]
    have hd : decide ((p : Int) < (n : Int)) = false := by simpa using hlt
    clear e
    go_enter Try.func61, Try.ntmps61
    go_wp2_with fail
    refine bodyPost_ret (results_cell_row rfl _ _ (w.heap.size + 1) 71 _ (0, 0) _ rfl (cblk_top _ _ _ _ _) Try.underlying71 rfl H.out) rfl ⟨rfl, cbelow_two _ _ _⟩
end Go.Proofs.Ytmdgmnaaopineaa
/- The reference's number from the front: Get. -/
namespace Go.Proofs.Ytmdgmnaaopineaa
open Go.ChangeShapes Go.WideShapes Go.ChangeAt Go.RowKit
set_option linter.unusedVariables false
abbrev gvV (r : Nat × Nat × Flt) : Value := .tuple #[.int .u64 (r.1 : Int), .int .i64 (if r.2.2.1 = 0 then (r.2.1 : Int) else 0), .agg #[.int .i64 r.2.2.1, .int .i64 r.2.2.2]]
theorem dsum_step {l : List UInt8} {k : Nat} {x : UInt8} (h : l[k]? = some x) : dsum l (k + 1) = dsum l k + x.toNat % 128 * 128 ^ k := by
  rw [dsum, List.getD_eq_getElem?_getD, h]; rfl
theorem dsum_64 {l : List UInt8} {k : Nat} {x : UInt8} (h : l[k]? = some x) (hk : k ≤ 9) (h9 : ¬ (k = 9 ∧ 1 < x.toNat)) : dsum l (k + 1) < 18446744073709551616 := by
  have hd := dsum_lt l k
  rw [dsum_step h]
  have hpn : (128 : Nat) ^ k ≤ 128 ^ 9 := Nat.pow_le_pow_right (by decide) hk
  rw [pow_9] at hpn
  by_cases h : k = 9
  · have h1 : x.toNat ≤ 1 := by omega
    subst h
    rw [pow_9] at hd ⊢
    have : x.toNat % 128 ≤ 1 := by omega
    omega
  · have h1 : x.toNat % 128 * 128 ^ k ≤ 127 * 128 ^ k := Nat.mul_le_mul_right _ (by omega)
    have h3 : (128 : Nat) ^ (k + 1) ≤ 128 ^ 9 := Nat.pow_le_pow_right (by decide) (by omega)
    rw [Nat.pow_succ, pow_9] at h3
    omega
/-- One digit more, from the highest on. -/
theorem dsum_back {l : List UInt8} {q y T : Nat} {x : UInt8} (h : l[q]? = some x) (hy : y * 128 ^ (q + 1) + dsum l (q + 1) = T) : (128 * y + x.toNat % 128) * 128 ^ q + dsum l q = T := by
  rw [dsum_step h, Nat.pow_succ] at hy
  rw [← hy, Nat.add_mul, Nat.mul_comm (128 ^ q) 128, ← Nat.mul_assoc, Nat.mul_comm y 128]
  omega
theorem dsum_le {l : List UInt8} {q y T : Nat} (hy : y * 128 ^ q + dsum l q = T) : y ≤ T := by
  have : y * 1 ≤ y * 128 ^ q := Nat.mul_le_mul_left _ (Nat.pow_pos (by decide))
  omega
set_option maxRecDepth 100000 in
set_option maxHeartbeats 8000000 in
theorem rget_any {D : Dom} {A : Option Addr} {n c : Nat} {l : List UInt8} {w : World} (h : rpU8.sl w D A n c l) (hD : ∀ k, D k → k < w.heap.size) (hn : n ≤ 1000000000) :
    Calls Try.prog 133 #[.slice A n c] w fun e w' => e = .returned (gvV (vrd l 0)) ∧ Below w.heap.size w w' := by
  have H : Hid ((Try.prog.info? 40).map (·.size) = some 2) := by unfold Hid; kernel_rfl
  obtain ⟨hlen, hnc, hcm⟩ := Rp.sl_len h
  unfold maxLen at hcm
  have HH := Lib.hid h
  have HD := Lib.hid hD
  have HL := Lib.hid hlen
  obtain ⟨G, hG⟩ : ∃ G, G = vrd l 0 := ⟨_, rfl⟩
  have HG := Lib.hid hG
  rw [← hG]
  have HB0 := Lib.hid ((Below.refl w.heap.size w).alloc (Nat.le_refl _) (.cells #[.int .i64 0, .int .i64 0] 40))
  have HK0 := Lib.hid (Blk.new w 40 #[.int .i64 0, .int .i64 0])
  clear h hlen hD hG
  go_enter Try.func133, Try.ntmps133
  go_wp2_with fail
  go_loopw [5] (fun ii wr => ∃ k : Nat, k ≤ n ∧ k ≤ 9 ∧ ii = .int .i64 (k : Int) ∧ Hid (vgo l 0 (10 - k) k (dsum l k) = vrd l 0) ∧ Hid (Blk wr w.heap.size 40 #[.int .i64 0, .int .i64 0]) ∧ Hid (Below w.heap.size w wr)) (fun ii _ => n - (intOf ii).toNat)
  case atStart => exact ⟨0, by omega, by omega, rfl, rfl, HK0.out, HB0.out⟩
  case round =>
    obtain ⟨k, hk, hk9, rfl, hvg, hblk, hbw⟩ := hrel
    have hzw := hbw.out.size
    rcases Nat.lt_or_ge k n with hlt | hge
    case inr =>
      have hd : decide (k < n) = false := by simp; omega
      have hkn : k = n := by omega
      subst hkn
      go_wp2_with fail
      refine (rat_any 1 _ _).mono ?_; rintro e w1 ⟨rfl, hb1⟩
      have HK1 := Lib.hid (hblk.out.below hb1 hblk.out.lt)
      have HB1 := Lib.hid (hbw.out.trans (hb1.mono hzw))
      clear hb1
      rw [failF_set rfl (by decide)]
      go_wp2_with (refine wpList_put_row rfl 40 (.tmp 4) (.tmp 61) rfl w.heap.size #[.int .i64 1, .int .i64 (k : Int)] rfl rfl 40 _ HK1.out H.out rfl (by simp [Value.oneCell']) ?_; intro w3 hblk3 hgr)
      have hbz : Below w.heap.size w w3 := HB1.out.grown hgr HB1.out.size (fun k hk => by injection hk with hk; omega)
      have e0 := hblk3.cell 0
      have e1 := hblk3.cell 1
      have hG2 : G = (0, k, (1, (k : Int))) := by
        rw [HG.out, ← hvg.out]
        obtain ⟨m, hm⟩ : ∃ m, 10 - k = m + 1 := ⟨9 - k, by omega⟩
        rw [hm, vgo_none (by rw [Nat.zero_add]; exact List.getElem?_eq_none (by rw [HL.out]; exact Nat.le_refl _)), HL.out, Nat.zero_add]
      rw [hG2]
      refine bodyPost_ret (v := .tuple #[.int .u64 0, .int .i64 0, .agg #[.int .i64 1, .int .i64 (k : Int)]]) (by simp [results, Try.results133, go_sem, e0, e1]) rfl ⟨rfl, hbz⟩
    case inl =>
      have hd : decide (k < n) = true := by simp; omega
      obtain ⟨b, off, x, rfl, hDb, hx, hcell⟩ := bytes_at (Rp.sl_below HH.out hbw.out HD.out) hlt
      have hxl := x.toNat_lt
      have HX := Lib.hid hx
      obtain ⟨m, hm⟩ : ∃ m, 10 - k = m + 1 := ⟨9 - k, by omega⟩
      rw [hm] at hvg
      have hx0 : l[0 + k]? = some x := by rw [Nat.zero_add]; exact hx
      have HX0 := Lib.hid hx0
      have HM := Lib.hid hm
      have hk0 : (0 : Int) ≤ (k : Int) := by omega
      have hk1 : (k : Int) < (n : Int) := by omega
      have HMM := Lib.hid hm
      clear hx hx0 hm
      by_cases hA : k = 9 ∧ 1 < x.toNat
      · have HG2 : Hid (G = (0, k + 1, (5, (k : Int)))) := by
          have := hvg.out
          rw [vgo_over HX0.out hA.1 hA.2, Nat.zero_add] at this
          exact HG.out.trans this.symm
        have hd2 : decide ((1 : Int) < (x.toNat : Int)) = true := by simp; omega
        have hq : ((k : Int) == 9) = true := by simp; omega
        clear hA
        go_wp2_with fail
        refine (rat_any 5 _ _).mono ?_; rintro e w1 ⟨rfl, hb1⟩
        have HK1 := Lib.hid (hblk.out.below hb1 hblk.out.lt)
        have HB1 := Lib.hid (hbw.out.trans (hb1.mono hzw))
        clear hb1
        rw [failF_set rfl (by decide)]
        go_wp2_with (refine wpList_put_row rfl 40 (.tmp 4) (.tmp 24) rfl w.heap.size #[.int .i64 5, .int .i64 (k : Int)] rfl rfl 40 _ HK1.out H.out rfl (by simp [Value.oneCell']) ?_; intro w3 hblk3 hgr)
        have hbz : Below w.heap.size w w3 := HB1.out.grown hgr HB1.out.size (fun k hk => by injection hk with hk; omega)
        have e0 := hblk3.cell 0
        have e1 := hblk3.cell 1
        rw [HG2.out]
        refine bodyPost_ret (v := .tuple #[.int .u64 0, .int .i64 0, .agg #[.int .i64 5, .int .i64 (k : Int)]]) (by simp [results, Try.results133, go_sem, e0, e1]) rfl ⟨rfl, hbz⟩
      · by_cases hB : x.toNat = 0 ∧ 0 < k
        · have HG2 : Hid (G = (0, k + 1, (4, (k : Int)))) := by
            have := hvg.out
            rw [vgo_zero HX0.out hA hB.1 hB.2, Nat.zero_add] at this
            exact HG.out.trans this.symm
          have hd2 : decide ((1 : Int) < (x.toNat : Int)) = false := by simp; omega
          have hd3 : decide (0 < k) = true := by simp; omega
          have hq2 : ((x.toNat : Int) == 0) = true := by simp; omega
          clear hA hB
          rcases Bool.eq_false_or_eq_true ((k : Int) == 9) with hq | hq
          all_goals
            go_wp2_with fail
            refine (rat_any 4 _ _).mono ?_; rintro e w1 ⟨rfl, hb1⟩
            have HK1 := Lib.hid (hblk.out.below hb1 hblk.out.lt)
            have HB1 := Lib.hid (hbw.out.trans (hb1.mono hzw))
            clear hb1
            rw [failF_set rfl (by decide)]
            go_wp2_with (refine wpList_put_row rfl 40 (.tmp 4) (.tmp 35) rfl w.heap.size #[.int .i64 4, .int .i64 (k : Int)] rfl rfl 40 _ HK1.out H.out rfl (by simp [Value.oneCell']) ?_; intro w3 hblk3 hgr)
            have hbz : Below w.heap.size w w3 := HB1.out.grown hgr HB1.out.size (fun k hk => by injection hk with hk; omega)
            have e0 := hblk3.cell 0
            have e1 := hblk3.cell 1
            rw [HG2.out]
            refine bodyPost_ret (v := .tuple #[.int .u64 0, .int .i64 0, .agg #[.int .i64 4, .int .i64 (k : Int)]]) (by simp [results, Try.results133, go_sem, e0, e1]) rfl ⟨rfl, hbz⟩
        · by_cases hC : 128 ≤ x.toNat
          · have hq : ((k : Int) == 9) = false := by simp; omega
            have hq2 : ((x.toNat : Int) == 0) = false := by simp; omega
            have hd5 : decide ((x.toNat : Int) < 128) = false := by simp; omega
            have hvg2 : Hid (vgo l 0 (10 - (k + 1)) (k + 1) (dsum l (k + 1)) = vrd l 0) := by
              have := hvg.out
              rw [vgo_more HX0.out hA hC, ← dsum_step HX.out] at this
              rw [show 10 - (k + 1) = m by have := HM.out; omega]
              exact this
            have hk8 : k + 1 ≤ 9 := by
              rcases Nat.lt_or_ge k 9 with h | h
              · omega
              · exact absurd ⟨by omega, by omega⟩ hA
            clear hA hB hC
            rcases Bool.eq_false_or_eq_true (decide (0 < k)) with hr | hr
            all_goals
              go_wp2_with fail
              go_roundw
              case rel => exact ⟨k + 1, by omega, hk8, by go_num, hvg2.out, hblk.out, hbw.out⟩
              case measure => simp only [intOf]; omega
          · have hd5 : decide ((x.toNat : Int) < 128) = true := by simp; omega
            have hT := dsum_64 HX.out hk9 hA
            obtain ⟨T, hTT⟩ : ∃ T, T = dsum l (k + 1) := ⟨_, rfl⟩
            rw [← hTT] at hT
            have HT := Lib.hid hTT
            have HG2 : Hid (G = (T, k + 1, (0, 0))) := by
              have := hvg.out
              rw [vgo_last HX0.out hA hB hC, ← dsum_step HX.out, ← hTT, Nat.zero_add] at this
              exact HG.out.trans this.symm
            have hcase : (((k : Int) == 9) = true ∧ decide ((1 : Int) < (x.toNat : Int)) = false ∧ decide (0 < k) = true ∧ ((x.toNat : Int) == 0) = false) ∨ (((k : Int) == 9) = false ∧ decide (0 < k) = true ∧ ((x.toNat : Int) == 0) = false) ∨ (((k : Int) == 9) = false ∧ decide (0 < k) = false) := by
              rcases Nat.eq_zero_or_pos k with h0 | h0
              · exact .inr (.inr ⟨by simp; omega, by simp; omega⟩)
              · rcases Nat.lt_or_ge k 9 with h9 | h9
                · exact .inr (.inl ⟨by simp; omega, by simp; omega, by simp; omega⟩)
                · exact .inl ⟨by simp; omega, by simp; omega, by simp; omega, by simp; omega⟩
            clear hTT hA hB hC
            rcases hcase with ⟨hq, hd2, hr, hq2⟩ | ⟨hq, hr, hq2⟩ | ⟨hq, hr⟩
            all_goals
              go_wp2_with fail
              go_loopw [6, 7] (fun xx jj wr2 => ∃ y j : Nat, j ≤ k + 1 ∧ y < 18446744073709551616 ∧ xx = .int .u64 (y : Int) ∧ jj = .int .i64 ((j : Int) - 1) ∧ Hid (y * 128 ^ j + dsum l j = T) ∧ Hid (Blk wr2 w.heap.size 40 #[.int .i64 0, .int .i64 0]) ∧ Hid (Below w.heap.size w wr2)) (fun _ jj _ => (intOf jj + 1).toNat)
              case atStart => exact ⟨0, k + 1, Nat.le_refl _, by decide, rfl, by go_num, by show 0 * 128 ^ (k + 1) + dsum l (k + 1) = T; rw [HT.out]; omega, hblk.out, hbw.out⟩
              case round =>
                obtain ⟨y, j, hj, hy64, rfl, rfl, hyj, hblk2, hbw2⟩ := hrel
                have hzw2 := hbw2.out.size
                rcases Nat.eq_zero_or_pos j with h0 | h0
                · subst h0
                  have hyT : y = T := by have := hyj.out; simpa [dsum] using this
                  subst hyT
                  go_wp2_with (refine wpList_put_row rfl 40 (.tmp 4) (.tmp 58) rfl w.heap.size #[.int .i64 0, .int .i64 0] rfl rfl 40 _ hblk2.out H.out rfl (by simp [Value.oneCell']) ?_; intro w3 hblk3 hgr)
                  have hbz : Below w.heap.size w w3 := hbw2.out.grown hgr hzw2 (fun k hk => by injection hk with hk; omega)
                  have e0 := hblk3.cell 0
                  have e1 := hblk3.cell 1
                  rw [HG2.out]
                  refine bodyPost_ret (v := .tuple #[.int .u64 (y : Int), .int .i64 ((k + 1 : Nat) : Int), .agg #[.int .i64 0, .int .i64 0]]) (by simp [results, Try.results133, go_sem, e0, e1]) rfl ⟨rfl, hbz⟩
                · obtain ⟨q, rfl⟩ : ∃ q, j = q + 1 := ⟨j - 1, by omega⟩
                  obtain ⟨b', off', z, hAA, hDb', hz, hcell'⟩ := bytes_at (Rp.sl_below HH.out hbw2.out HD.out) (show q < n by omega)
                  injection hAA with hAA
                  injection hAA with hA1 hA2
                  subst hA1; subst hA2
                  have hzl := z.toNat_lt
                  have hnew := dsum_back hz hyj.out
                  have hle := dsum_le hnew
                  have hy1 : 128 * y + z.toNat % 128 < 18446744073709551616 := by omega
                  have hy2 : 128 * y < 18446744073709551616 := by omega
                  have HNEW := Lib.hid hnew
                  have hqn : q < n := by omega
                  clear hnew hle hz
                  go_wp2_with fail
                  go_roundw
                  case rel => exact ⟨128 * y + z.toNat % 128, q, by omega, hy1, by go_num, by go_num, HNEW.out, hblk2.out, hbw2.out⟩
                  case measure => simp only [intOf]; omega
end Go.Proofs.Ytmdgmnaaopineaa
/- The reference's reader of a number. -/
namespace Go.Proofs.Ytmdgmnaaopineaa
open Go.ChangeShapes Go.WideShapes Go.ChangeAt Go.RowKit
set_option linter.unusedVariables false
/-- What a reading of a reader as a value gives: the reader behind it, and the number. -/
abbrev rnV (A : Option Addr) (n c : Nat) (r : Nat × Nat × Flt) : Value := .tuple #[.agg (rdV A n c r.2.1 r.2.2), .int .u64 (r.1 : Int)]
theorem vgo_q (l : List UInt8) (p : Nat) : ∀ (k n x : Nat), (vgo l p k n x).2.1 ≤ p + n + k
  | 0, n, x => Nat.le_refl _
  | k + 1, n, x => by
    unfold vgo
    split
    · simp only; omega
    · split
      · simp only; omega
      · split
        · simp only; omega
        · split
          · exact Nat.le_trans (vgo_q l p k _ _) (by omega)
          · simp only; omega
theorem vgo_at0 (l : List UInt8) (p : Nat) : ∀ (k n x : Nat), 0 ≤ (vgo l p k n x).2.2.2
  | 0, n, x => Int.le_refl _
  | k + 1, n, x => by
    unfold vgo
    split
    · simp only; omega
    · split
      · simp only; omega
      · split
        · simp only; omega
        · split
          · exact vgo_at0 l p k _ _
          · simp only; omega
set_option maxRecDepth 100000 in
set_option maxHeartbeats 1000000 in
theorem rread_any {D : Dom} {A : Option Addr} {n c : Nat} {l : List UInt8} {p : Nat} {f : Flt} {w : World} (h : rpU8.sl w D A n c l) (hD : ∀ k, D k → k < w.heap.size) (hf : OkF f) (hp : p ≤ n) (hn : n ≤ 1000000000) :
    Calls Try.prog 96 #[.agg (rdV A n c p f)] w fun e w' => e = .returned (rnV A n c (vrdF l p f)) ∧ Below w.heap.size w w' := by
  have H : Hid ((Try.prog.info? 71).map (·.size) = some 4) := by unfold Hid; kernel_rfl
  by_cases h0 : f.1 = 0
  case neg =>
    rw [vrdF_bad h0]
    have hq : (f.1 != 0) = true := by simpa using h0
    clear h
    go_enter Try.func96, Try.ntmps96
    go_wp2_with fail
    have hblk := cblk_top w (rdV A n c p f) (rdV A n c p f) 71 71
    refine bodyPost_ret (v := rnV A n c (0, p, f)) (by simp [results, Try.results96, go_sem]) rfl ⟨rfl, cbelow_two _ _ _⟩
  case pos =>
    rw [vrdF_good h0]
    have hq : (f.1 != 0) = false := by simpa using h0
    obtain ⟨hlen, hnc, hcm⟩ := Rp.sl_len h
    unfold maxLen at hcm
    obtain ⟨A', hcut, hsl2⟩ := run_cut_l elemU h rfl (p : Int) (by omega) (by omega)
    rw [Int.toNat_natCast] at hcut hsl2
    obtain rfl := hf.eq h0
    have hvd := vgo_drop l p (by omega) 10 0 0 (by omega)
    have hf0 := vgo_fail0 (l.drop p) 0 10 0 0
    have hz := (cbelow_two w (.cells (rdV A n c p (0, 0)) 71) (.cells rdZ 71))
    have hget := rget_any (Rp.sl_below hsl2 hz hD) (fun k hk => by have := hD k hk; simp; omega) (by omega)
    have hlt := vrd_lt (l.drop p) 0
    have hqle : (vrd (l.drop p) 0).2.1 ≤ 10 := vgo_q _ _ _ _ _
    have hokf := vgo_ok (l.drop p) 0 10 0 0
    have hat0 := vgo_at0 (l.drop p) 0 10 0 0
    unfold vrd at hget hlt hqle ⊢
    generalize vgo (l.drop p) 0 10 0 0 = G at *
    obtain ⟨x, q, f'⟩ := G
    obtain ⟨C1, F2⟩ := f'
    obtain ⟨hv1, hv2, hv3⟩ := hvd
    simp only at hv1 hv2 hv3 hf0 hlt hqle hokf hat0
    rw [hv1]
    have HK := Lib.hid ((Blk.new w 71 (rdV A n c p (0, 0))).alloc (.cells rdZ 71))
    have HR := Lib.hid (cblk_top w (rdV A n c p (0, 0)) rdZ 71 71)
    have HZ := Lib.hid hz
    have HGET := Lib.hid hget
    have HL := Lib.hid hlen
    clear hget hz hv1 h hf hlen
    rcases (show C1 = 0 ∨ C1 = 1 ∨ (C1 ≠ 0 ∧ C1 ≠ 1) by omega) with hc | hc | ⟨hc, hc1⟩
    · subst hc
      obtain rfl : F2 = 0 := by have := hokf.eq rfl; injection this
      clear hv2 hv3 hf0 hokf
      go_enter Try.func96, Try.ntmps96
      go_wp2_with fail
      refine HGET.out.mono ?_; rintro e w1 ⟨rfl, hb1⟩
      have hk1 := HK.out.below hb1 HK.out.lt
      have d0 := hk1.cell 0
      have d1 := hk1.cell 1
      have d2 := hk1.cell 2
      have d3 := hk1.cell 3
      have f1 := hk1.frozen 1
      have f2 := hk1.frozen 2
      have f3 := hk1.frozen 3
      have HK1 := Lib.hid hk1
      have HR1 := Lib.hid (HR.out.below hb1 HR.out.lt)
      have HB1 := Lib.hid (HZ.out.trans (hb1.mono (by simp; omega)))
      have hl1 := hk1.lt
      clear hk1 hb1
      go_wp2_with (refine wpList_put_row rfl 71 (.tmp 2) (.tmp 30) rfl (w.heap.size + 1) (rdV A n c ((p : Int) + q) (0, 0)) rfl rfl 71 _ ((HR1.out.far (p := ⟨w.heap.size, 1, none⟩) (by simp) _).alloc _) H.out rfl (by simp [Value.oneCell']) ?_; intro w3 hblk hgr)
      have hbz : Below w.heap.size w w3 := ((HB1.out.setCell (p := ⟨w.heap.size, 1, none⟩) (Nat.le_refl _) _).alloc (by have := HB1.out.size; simp; omega) _).grown hgr (by have := HB1.out.size; simp; omega) (fun k hk => by injection hk with hk; omega)
      have e0 := hblk.cell 0
      have e1 := hblk.cell 1
      have e2 := hblk.cell 2
      have e3 := hblk.cell 3
      refine bodyPost_ret (v := rnV A n c (x, p + q, (0, 0))) (by simp [results, Try.results96, go_sem, e0, e1, e2, e3]) rfl ⟨rfl, hbz⟩
    · subst hc
      have HPQ := Lib.hid (hv2 rfl)
      obtain rfl : x = 0 := hf0 (by decide)
      clear hv2 hv3 hf0 hokf
      go_enter Try.func96, Try.ntmps96
      go_wp2_with fail
      refine HGET.out.mono ?_; rintro e w1 ⟨rfl, hb1⟩
      have hk1 := HK.out.below hb1 HK.out.lt
      have d0 := hk1.cell 0
      have d1 := hk1.cell 1
      have d2 := hk1.cell 2
      have d3 := hk1.cell 3
      have f1 := hk1.frozen 1
      have f2 := hk1.frozen 2
      have f3 := hk1.frozen 3
      have HK1 := Lib.hid hk1
      have HR1 := Lib.hid (HR.out.below hb1 HR.out.lt)
      have HB1 := Lib.hid (HZ.out.trans (hb1.mono (by simp; omega)))
      have hl1 := hk1.lt
      clear hk1 hb1
      go_wp2_with fail
      refine (rat_any 1 _ _).mono ?_; rintro e w2 ⟨rfl, hb2⟩
      rw [failF_set rfl (by decide)]
      have hk2 : Blk w2 w.heap.size 71 (rdV A n c ((n : Int)) (0, 0)) := ((HK1.out.put 1 (.int .i64 ((n : Int)))).alloc (.cells #[.int .i64 1, .int .i64 F2] 40)).below hb2 ((HK1.out.put 1 _).alloc _).lt
      have g0 := hk2.cell 0
      have g1 := hk2.cell 1
      have g2 := hk2.cell 2
      have g3 := hk2.cell 3
      have gf1 := hk2.frozen 1
      have gf2 := hk2.frozen 2
      have gf3 := hk2.frozen 3
      have hr2 := ((HR1.out.far (p := ⟨w.heap.size, 1, none⟩) (by simp) (.int .i64 ((n : Int)))).alloc (.cells #[.int .i64 1, .int .i64 F2] 40)).below hb2 ((HR1.out.far (p := ⟨w.heap.size, 1, none⟩) (by simp) _).alloc _).lt
      have ht2 := (Blk.new (w1.setCell ⟨w.heap.size, 1, none⟩ (.int .i64 ((n : Int)))) 40 #[.int .i64 1, .int .i64 F2]).below hb2 (Blk.new _ _ _).lt
      have t0 : w2.cell? ⟨w1.heap.size, 0, none⟩ = some (.int .i64 1) := by have := ht2.cell 0; simpa using this
      have t1 : w2.cell? ⟨w1.heap.size, 1, none⟩ = some (.int .i64 F2) := by have := ht2.cell 1; simpa using this
      have hb02 := ((HB1.out.setCell (p := ⟨w.heap.size, 1, none⟩) (Nat.le_refl _) (.int .i64 ((n : Int)))).alloc (by have := HB1.out.size; simp; omega) (.cells #[.int .i64 1, .int .i64 F2] 40)).trans (hb2.mono (by have := HB1.out.size; simp; omega))
      have HK2 := Lib.hid hk2
      have HR2 := Lib.hid hr2
      have HB2 := Lib.hid hb02
      clear hk2 hr2 ht2 hb02 hb2
      go_wp2_with (refine wpList_put_row rfl 71 (.tmp 2) (.tmp 60) rfl (w.heap.size + 1) (rdV A n c ((n : Int)) (1, (n : Int))) rfl rfl 71 _ ((HR2.out.far (p := ⟨w.heap.size, 2, none⟩) (by simp) _).far (p := ⟨w.heap.size, 3, none⟩) (by simp) _) H.out rfl (by simp [Value.oneCell']) ?_; intro w3 hblk hgr)
      have hbz : Below w.heap.size w w3 := ((HB2.out.setCell (p := ⟨w.heap.size, 2, none⟩) (Nat.le_refl _) _).setCell (p := ⟨w.heap.size, 3, none⟩) (Nat.le_refl _) _).grown hgr (by have := HB2.out.size; simp; omega) (fun k hk => by injection hk with hk; omega)
      have e0 := hblk.cell 0
      have e1 := hblk.cell 1
      have e2 := hblk.cell 2
      have e3 := hblk.cell 3
      refine bodyPost_ret (v := rnV A n c (0, n, (1, (n : Int)))) (by simp [results, Try.results96, go_sem, e0, e1, e2, e3]) rfl ⟨?_, hbz⟩
      rw [HL.out] at HPQ ⊢
      rw [HPQ.out]
    · obtain rfl : x = 0 := hf0 hc
      have hq3 := hv3 hc hc1
      obtain ⟨m, rfl⟩ : ∃ m, q = m + 1 := ⟨q - 1, by omega⟩
      obtain rfl : F2 = (m : Int) := by omega
      have hn0 : (C1 == 0) = false := by simpa using hc
      have hn1 : (C1 == 1) = false := by simpa using hc1
      have hn2 : (C1 != 1) = true := by simpa using hc1
      have HC := Lib.hid hc
      have HC1 := Lib.hid hc1
      clear hv2 hv3 hf0 hokf hq3 hc hc1
      go_enter Try.func96, Try.ntmps96
      go_wp2_with fail
      refine HGET.out.mono ?_; rintro e w1 ⟨rfl, hb1⟩
      have hk1 := HK.out.below hb1 HK.out.lt
      have d0 := hk1.cell 0
      have d1 := hk1.cell 1
      have d2 := hk1.cell 2
      have d3 := hk1.cell 3
      have f1 := hk1.frozen 1
      have f2 := hk1.frozen 2
      have f3 := hk1.frozen 3
      have HK1 := Lib.hid hk1
      have HR1 := Lib.hid (HR.out.below hb1 HR.out.lt)
      have HB1 := Lib.hid (HZ.out.trans (hb1.mono (by simp; omega)))
      have hl1 := hk1.lt
      clear hk1 hb1
      go_wp2_with fail
      refine (rat_any C1 _ _).mono ?_; rintro e w2 ⟨rfl, hb2⟩
      rw [failF_set rfl HC.out]
      have hk2 : Blk w2 w.heap.size 71 (rdV A n c ((p : Int) + m + 1) (0, 0)) := ((HK1.out.put 1 (.int .i64 ((p : Int) + m + 1))).alloc (.cells #[.int .i64 C1, .int .i64 (m : Int)] 40)).below hb2 ((HK1.out.put 1 _).alloc _).lt
      have g0 := hk2.cell 0
      have g1 := hk2.cell 1
      have g2 := hk2.cell 2
      have g3 := hk2.cell 3
      have gf1 := hk2.frozen 1
      have gf2 := hk2.frozen 2
      have gf3 := hk2.frozen 3
      have hr2 := ((HR1.out.far (p := ⟨w.heap.size, 1, none⟩) (by simp) (.int .i64 ((p : Int) + m + 1))).alloc (.cells #[.int .i64 C1, .int .i64 (m : Int)] 40)).below hb2 ((HR1.out.far (p := ⟨w.heap.size, 1, none⟩) (by simp) _).alloc _).lt
      have ht2 := (Blk.new (w1.setCell ⟨w.heap.size, 1, none⟩ (.int .i64 ((p : Int) + m + 1))) 40 #[.int .i64 C1, .int .i64 (m : Int)]).below hb2 (Blk.new _ _ _).lt
      have t0 : w2.cell? ⟨w1.heap.size, 0, none⟩ = some (.int .i64 C1) := by have := ht2.cell 0; simpa using this
      have t1 : w2.cell? ⟨w1.heap.size, 1, none⟩ = some (.int .i64 (m : Int)) := by have := ht2.cell 1; simpa using this
      have hb02 := ((HB1.out.setCell (p := ⟨w.heap.size, 1, none⟩) (Nat.le_refl _) (.int .i64 ((p : Int) + m + 1))).alloc (by have := HB1.out.size; simp; omega) (.cells #[.int .i64 C1, .int .i64 (m : Int)] 40)).trans (hb2.mono (by have := HB1.out.size; simp; omega))
      have HK2 := Lib.hid hk2
      have HR2 := Lib.hid hr2
      have HB2 := Lib.hid hb02
      clear hk2 hr2 ht2 hb02 hb2
      go_upto_region 13 with (fail)
      have HK4 := Lib.hid ((((show Blk _ _ _ _ from HK2.out).put 2 (.int .i64 C1)).put 3 (.int .i64 ((p : Int) + m + 1))).put 3 (.int .i64 ((p : Int) + m)))
      have HR4 := Lib.hid (((HR2.out.far (p := ⟨w.heap.size, 2, none⟩) (by simp) (.int .i64 C1)).far (p := ⟨w.heap.size, 3, none⟩) (by simp) (.int .i64 ((p : Int) + m + 1))).far (p := ⟨w.heap.size, 3, none⟩) (by simp) (.int .i64 ((p : Int) + m)))
      have HB4 := Lib.hid (((HB2.out.setCell (p := ⟨w.heap.size, 2, none⟩) (Nat.le_refl _) (.int .i64 C1)).setCell (p := ⟨w.heap.size, 3, none⟩) (Nat.le_refl _) (.int .i64 ((p : Int) + m + 1))).setCell (p := ⟨w.heap.size, 3, none⟩) (Nat.le_refl _) (.int .i64 ((p : Int) + m)))
      clear g0 g1 g2 g3 gf1 gf2 gf3 t0 t1
      generalize World.setCell (World.setCell (World.setCell w2 _ _) _ _) _ _ = w4 at *
      have HK4' : Hid (Blk w4 w.heap.size 71 (rdV A n c ((p : Int) + m + 1) (C1, (p : Int) + m))) := HK4.out
      have hk4 := (show Blk w4 _ _ _ from HK4'.out)
      have g0 := hk4.cell 0
      have g1 := hk4.cell 1
      have g2 := hk4.cell 2
      have g3 := hk4.cell 3
      clear hk4
      go_wp2_with (refine wpList_put_row rfl 71 (.tmp 2) (.tmp 60) rfl (w.heap.size + 1) (rdV A n c ((p : Int) + m + 1) (C1, (p : Int) + m)) rfl rfl 71 _ HR4.out H.out rfl (by simp [Value.oneCell']) ?_; intro w3 hblk hgr)
      have hbz : Below w.heap.size w w3 := HB4.out.grown hgr HB4.out.size (fun k hk => by injection hk with hk; omega)
      have e0 := hblk.cell 0
      have e1 := hblk.cell 1
      have e2 := hblk.cell 2
      have e3 := hblk.cell 3
      refine bodyPost_ret (v := .tuple #[.agg (rdV A n c ((p : Int) + m + 1) (C1, (p : Int) + m)), .int .u64 0]) (by simp [results, Try.results96, go_sem, e0, e1, e2, e3]) rfl ⟨?_, hbz⟩
      have e4 : ((p + (m + 1) : Nat) : Int) = (p : Int) + m + 1 := by omega
      show _ = Ending.returned (Value.tuple #[Value.agg (rdV A n c ((p + (m + 1) : Nat) : Int) (C1, (p : Int) + m)), Value.int .u64 ((0 : Nat) : Int)])
      rw [e4]
      rfl
end Go.Proofs.Ytmdgmnaaopineaa
/- The program's readers of numbers, whatever the fault. -/
namespace Go.Proofs.Ytmdgmnaaopineaa
open Go.ChangeShapes Go.WideShapes Go.ChangeAt Go.RowKit
set_option linter.unusedVariables false
section
variable {w : World} {D : Dom} {g : Nat} {l : List UInt8} {p : Nat} {f : Flt}
theorem vread_any (h : Rd w D g l p f) (hf : OkF f) (hl : l.length ≤ 1000000000) : Calls Try.prog 92 #[.pointer (some ⟨g, 0, none⟩)] w fun e w' => e = .returned (.int .u64 ((vrdF l p f).1 : Int)) ∧ Rd w' D g l (vrdF l p f).2.1 (vrdF l p f).2.2 ∧ Chg (one g) w w' := by
  by_cases h0 : f.1 = 0
  · obtain rfl := hf.eq h0
    rw [vrdF_good rfl]
    exact vread_at h hl
  · rw [vrdF_bad h0]
    refine (vread_bad h h0).mono ?_
    rintro e w1 ⟨rfl, hb⟩
    exact ⟨rfl, h.below hb, Chg.of_pure hb _⟩
set_option maxRecDepth 100000 in
theorem vmost_any (h : Rd w D g l p f) (hf : OkF f) (hl : l.length ≤ 1000000000) (m : Nat) : Calls Try.prog 140 #[.pointer (some ⟨g, 0, none⟩), .int .u64 (m : Int)] w fun e w' => e = .returned (.int .u64 ((mostF l p f m).1 : Int)) ∧ Rd w' D g l (mostF l p f m).2.1 (mostF l p f m).2.2 ∧ Chg (one g) w w' := by
  have HA := Lib.hid (cat_at h)
  have HV := Lib.hid (vread_any h hf hl)
  unfold mostF
  generalize vrdF l p f = r at *
  obtain ⟨x, q, f'⟩ := r
  simp only at HV ⊢
  by_cases hx : m < x
  · rw [if_pos hx]
    have hd : decide (m < x) = true := by simpa using hx
    clear h hx
    go_enter Try.func140, Try.ntmps140
    go_wp2_with fail
    refine HA.out.mono ?_; rintro e w1 ⟨rfl, rfl⟩
    go_wp2_with fail
    refine HV.out.mono ?_; rintro e w2 ⟨rfl, hr2, hc2⟩
    have HR2 := Lib.hid hr2
    have HC2 := Lib.hid hc2
    clear hr2 hc2
    go_wp2_with fail
    refine (cfail_at HR2.out _ _).mono ?_; rintro e w3 ⟨rfl, hr3, hc3⟩
    have HR3 := Lib.hid hr3
    have HC3 := Lib.hid (HC2.out.trans hc3)
    clear hr3 hc3
    go_wp2_with fail
    go_ret
    exact ⟨rfl, HR3.out, HC3.out⟩
  · rw [if_neg hx]
    have hd : decide (m < x) = false := by simp; omega
    clear h hx
    go_enter Try.func140, Try.ntmps140
    go_wp2_with fail
    refine HA.out.mono ?_; rintro e w1 ⟨rfl, rfl⟩
    go_wp2_with fail
    refine HV.out.mono ?_; rintro e w2 ⟨rfl, hr2, hc2⟩
    have HR2 := Lib.hid hr2
    have HC2 := Lib.hid hc2
    clear hr2 hc2
    go_wp2_with fail
    go_ret
    exact ⟨rfl, HR2.out, HC2.out⟩
theorem eright2_any (x : Nat) (w : World) : Calls Try.prog 90 #[.int .u64 (x : Int)] w fun e w' => e = .returned (.bool (decide (1 ≤ x) && decide (x < 4611686018427387904))) ∧ w = w' := by
  obtain ⟨b, hb⟩ : ∃ b, b = decide (x < 4611686018427387904) := ⟨_, rfl⟩
  obtain ⟨c, hc⟩ : ∃ c, c = decide (1 ≤ x) := ⟨_, rfl⟩
  rw [← hb, ← hc]
  have hd : decide ((1 : Int) ≤ (x : Int)) = c := by rw [hc]; apply decide_eq_decide.2; omega
  have hd2 : decide ((x : Int) < 4611686018427387904) = b := by rw [hb]; apply decide_eq_decide.2; omega
  clear hb hc
  cases c
  all_goals
    go_enter Try.func90, Try.ntmps90
    go_wp2_with fail
    go_ret
    exact ⟨rfl, rfl⟩
set_option maxRecDepth 100000 in
theorem eread_fn {K : Nat} {R : Nat → Bool} (hK : ∀ (x : Nat) (w : World), x < 18446744073709551616 → Calls Try.prog K #[.int .u64 (x : Int)] w fun e w' => e = .returned (.bool (R x)) ∧ w = w') (hrun : ∀ args w, Sem.run Try.prog (callFunc K args) w = .ok (.enter K args) w) (h : Rd w D g l p f) (hf : OkF f) (hl : l.length ≤ 1000000000) :
    Calls Try.prog 139 #[.pointer (some ⟨g, 0, none⟩), .func (.func K) #[] #[]] w fun e w' => e = .returned (.int .u64 ((mustF R l p f).1 : Int)) ∧ Rd w' D g l (mustF R l p f).2.1 (mustF R l p f).2.2 ∧ Chg (one g) w w' := by
  have HA := Lib.hid (cat_at h)
  have HV := Lib.hid (vread_any h hf hl)
  have HK := Lib.hid (hK (vrdF l p f).1)
  have hlt := vrdF_lt l p f
  have h0 := @vrdF_fail0 l p f
  have hok := @vrdF_ok l p f hf
  unfold mustF
  generalize vrdF l p f = r at *
  obtain ⟨x, q, f'⟩ := r
  simp only at HV HK h0 hlt hok ⊢
  have HLT := Lib.hid hlt
  have HRUN := Lib.hid hrun
  clear hrun
  by_cases hg : f'.1 = 0
  · rw [if_pos hg]
    obtain rfl := hok.eq hg
    clear hg hok h0 hlt
    cases hx : R x
    · rw [hx] at HK
      simp only [Bool.false_eq_true, if_false]
      have e : failF (0, 0) 3 p = (3, (p : Int)) := failF_set rfl (by decide)
      rw [e]
      clear h hx hK e
      go_enter Try.func139, Try.ntmps139
      go_wp2_with fail
      refine HA.out.mono ?_; rintro e w1 ⟨rfl, rfl⟩
      go_wp2_with fail
      refine HV.out.mono ?_; rintro e w2 ⟨rfl, hr2, hc2⟩
      have HR2 := Lib.hid hr2
      have HC2 := Lib.hid hc2
      clear hr2 hc2
      go_wp2_with fail
      rw [HRUN.out]; refine (HK.out _ HLT.out).mono ?_; rintro e w3 ⟨rfl, rfl⟩
      go_wp2_with fail
      refine (cfail_at HR2.out _ _).mono ?_; rintro e w3 ⟨rfl, hr3, hc3⟩
      have HR3 := Lib.hid hr3
      have HC3 := Lib.hid (HC2.out.trans hc3)
      clear hr3 hc3
      go_wp2_with fail
      refine (cgood_at HR3.out).mono ?_; rintro e w4 ⟨rfl, hb4⟩
      have HB4 := Lib.hid hb4
      clear hb4
      go_wp2_with fail
      go_ret
      exact ⟨rfl, HR3.out.below HB4.out, HC3.out.trans (Chg.of_pure HB4.out _)⟩
    · rw [hx] at HK
      simp only [if_true]
      clear h hx hK
      go_enter Try.func139, Try.ntmps139
      go_wp2_with fail
      refine HA.out.mono ?_; rintro e w1 ⟨rfl, rfl⟩
      go_wp2_with fail
      refine HV.out.mono ?_; rintro e w2 ⟨rfl, hr2, hc2⟩
      have HR2 := Lib.hid hr2
      have HC2 := Lib.hid hc2
      clear hr2 hc2
      go_wp2_with fail
      rw [HRUN.out]; refine (HK.out _ HLT.out).mono ?_; rintro e w3 ⟨rfl, rfl⟩
      go_wp2_with fail
      refine (cgood_at HR2.out).mono ?_; rintro e w4 ⟨rfl, hb4⟩
      have HB4 := Lib.hid hb4
      clear hb4
      go_wp2_with fail
      go_ret
      exact ⟨rfl, HR2.out.below HB4.out, HC2.out.trans (Chg.of_pure HB4.out _)⟩
  · rw [if_neg hg]
    obtain rfl := h0 hg
    have hq : (f'.1 == 0) = false := by simpa using hg
    have e : failF f' 3 p = f' := by unfold failF; rw [if_neg hg]
    clear hg hok h0 hlt h hK
    obtain ⟨b, hb⟩ : ∃ b, b = R 0 := ⟨_, rfl⟩
    rw [← hb] at HK
    clear hb
    have HE := Lib.hid e
    clear e
    cases b
    · go_enter Try.func139, Try.ntmps139
      go_wp2_with fail
      refine HA.out.mono ?_; rintro e w1 ⟨rfl, rfl⟩
      go_wp2_with fail
      refine HV.out.mono ?_; rintro e w2 ⟨rfl, hr2, hc2⟩
      have HR2 := Lib.hid hr2
      have HC2 := Lib.hid hc2
      clear hr2 hc2
      go_wp2_with fail
      rw [HRUN.out]; refine (HK.out _ HLT.out).mono ?_; rintro e w3 ⟨rfl, rfl⟩
      go_wp2_with fail
      refine (cfail_at HR2.out _ _).mono ?_; rintro e w3 ⟨rfl, hr3, hc3⟩
      rw [HE.out] at hr3
      have HR3 := Lib.hid hr3
      have HC3 := Lib.hid (HC2.out.trans hc3)
      clear hr3 hc3
      go_wp2_with fail
      refine (cgood_at HR3.out).mono ?_; rintro e w4 ⟨rfl, hb4⟩
      have HB4 := Lib.hid hb4
      clear hb4
      go_wp2_with fail
      go_ret
      exact ⟨rfl, HR3.out.below HB4.out, HC3.out.trans (Chg.of_pure HB4.out _)⟩
    · go_enter Try.func139, Try.ntmps139
      go_wp2_with fail
      refine HA.out.mono ?_; rintro e w1 ⟨rfl, rfl⟩
      go_wp2_with fail
      refine HV.out.mono ?_; rintro e w2 ⟨rfl, hr2, hc2⟩
      have HR2 := Lib.hid hr2
      have HC2 := Lib.hid hc2
      clear hr2 hc2
      go_wp2_with fail
      rw [HRUN.out]; refine (HK.out _ HLT.out).mono ?_; rintro e w3 ⟨rfl, rfl⟩
      go_wp2_with fail
      refine (cgood_at HR2.out).mono ?_; rintro e w4 ⟨rfl, hb4⟩
      have HB4 := Lib.hid hb4
      clear hb4
      go_wp2_with fail
      go_ret
      exact ⟨rfl, HR2.out.below HB4.out, HC2.out.trans (Chg.of_pure HB4.out _)⟩
def isEpoch (x : Nat) : Bool := decide (1 ≤ x) && decide (x < 4611686018427387904)
def isTail (x : Nat) : Bool := decide (x ≤ 4611686018427387904)
set_option maxRecDepth 100000 in
theorem eread_any (h : Rd w D g l p f) (hf : OkF f) (hl : l.length ≤ 1000000000) :
    Calls Try.prog 114 #[.pointer (some ⟨g, 0, none⟩)] w fun e w' => e = .returned (.int .u64 ((mustF isEpoch l p f).1 : Int)) ∧ Rd w' D g l (mustF isEpoch l p f).2.1 (mustF isEpoch l p f).2.2 ∧ Chg (one g) w w' := by
  have HE := Lib.hid (eread_fn (K := 90) (R := isEpoch) (fun x w _ => eright2_any x w) (fun args w => rfl) h hf hl)
  clear h hf hl
  go_enter Try.func114, Try.ntmps114
  go_wp2_with fail
  refine HE.out.mono ?_; rintro e w1 ⟨rfl, hr1, hc1⟩
  have HR1 := Lib.hid hr1
  have HC1 := Lib.hid hc1
  clear hr1 hc1
  go_wp2_with fail
  go_ret
  exact ⟨rfl, HR1.out, HC1.out⟩
end
end Go.Proofs.Ytmdgmnaaopineaa
