/- The reference's bytes of a rising list. -/
import Derived.Test.YtmdgmnaaopineaaStrV
import Derived.Test.YtmdgmnaaopineaaVarR
namespace Go.Proofs.Ytmdgmnaaopineaa
open Go.ChangeShapes Go.WideShapes Go.ChangeAt Go.RowKit
set_option linter.unusedVariables false
def prevOf (o : Option Nat) (l : List Nat) : Nat → Option Nat | 0 => o | k + 1 => l[k]?
def sub1 : Option Nat → Nat → Nat | none, y => y | some a, y => y - a - 1
theorem stepsFrom_cons (o : Option Nat) (x : Nat) (L : List Nat) : stepsFrom o (x :: L) = sub1 o x :: stepsFrom (some x) L := by cases o <;> rfl
theorem stepsFrom_nil (o : Option Nat) : stepsFrom o [] = [] := by cases o <;> rfl
theorem stepsFrom_snoc : ∀ (l : List Nat) (o : Option Nat) (k y : Nat), l[k]? = some y → stepsFrom o (l.take (k + 1)) = stepsFrom o (l.take k) ++ [sub1 (prevOf o l k) y]
  | [], o, k, y, h => by simp at h
  | x :: xs, o, 0, y, h => by
    simp only [List.getElem?_cons_zero, Option.some.injEq] at h
    subst h
    simp [stepsFrom_cons, stepsFrom_nil, prevOf]
  | x :: xs, o, k + 1, y, h => by
    rw [List.take_succ_cons, List.take_succ_cons, stepsFrom_cons, stepsFrom_cons, stepsFrom_snoc xs (some x) k y (by simpa using h)]
    have e : prevOf (some x) xs k = prevOf o (x :: xs) (k + 1) := by cases k <;> rfl
    rw [e]; rfl
theorem flat_snoc (a : List Nat) (x : Nat) : flat (a ++ [x]) = flat a ++ vbytes x := by rw [flat_append, flat_cons, flat_nil, List.append_nil]
section
variable {D : Dom} {A : Option Addr} {n c : Nat} {l : List Nat} {w : World}
set_option maxRecDepth 100000 in
set_option maxHeartbeats 2000000 in
theorem rlbytes_any (hl : rpU64.sl w D A n c l) (hD : ∀ k, D k → k < w.heap.size) (hr : Rises l) (hn : n ≤ 1000) :
    Calls Try.prog 102 #[.slice A n c] w fun e w' => ∃ A2 m c2, e = .returned (.slice A2 m c2) ∧ w'.ownsRow w.heap.size 5 1 (.slice A2 m c2) m ((flat (stepsFrom none l)).map bv) ∧ m ≤ 10 * n ∧ Below w.heap.size w w' := by
  obtain ⟨hlen, hnc, hcm⟩ := Rp.sl_len hl
  have HV : Hid (∀ (x : Nat) (w : World), x < 18446744073709551616 → Calls Try.prog 101 #[.int .u64 (x : Int)] w fun e w' => ∃ A n c, e = .returned (.slice A n c) ∧ w'.ownsRow w.heap.size 5 1 (.slice A n c) n ((vbytes x).map bv) ∧ n ≤ 10 ∧ Below w.heap.size w w') := fun x w hx => (rvbytes_any 9 x w (by omega) (by decide) hx).mono fun e w' ⟨A, n, c, h1, h2, h3⟩ => ⟨A, n, c, h1, h2, by have := h2.1; have := vbytes_10 hx; simp at *; omega, h3⟩
  have HL := Lib.hid hl
  have HN := Lib.hid hlen
  have HD := Lib.hid hD
  have HRI := Lib.hid hr
  clear hl hlen hD hr hcm hnc
  go_enter Try.func102, Try.ntmps102
  go_wp2_with fail
  go_loopw [3, 4] (fun o i wr => ∃ (k m : Nat) (A2 : Option Addr) (c2 : Nat), k ≤ n ∧ i = .int .i64 k ∧ o = .slice A2 m c2 ∧ m ≤ 10 * k ∧ Hid (wr.ownsRow w.heap.size 5 1 (.slice A2 m c2) m ((flat (stepsFrom none (l.take k))).map bv)) ∧ Hid (Below w.heap.size w wr)) (fun _ i _ => n - (intOf i).toNat)
  case atStart => exact ⟨0, 0, none, 0, by omega, rfl, rfl, by omega, World.ownsRow_nil _ _ _ _, Below.refl _ _⟩
  case round =>
    obtain ⟨k, m, A2, c2, hk, rfl, rfl, hm, hown, hbel⟩ := hrel
    by_cases hkn : k < n
    case neg =>
      obtain rfl : k = n := by omega
      have hd : decide ((k : Int) < (k : Int)) = false := by simp
      go_wp2_with fail
      go_ret
      have := hown.out
      rw [List.take_of_length_le (by rw [HN.out]; exact Nat.le_refl _)] at this
      exact ⟨A2, m, c2, rfl, this, hm, hbel.out⟩
    case pos =>
      have hd : decide ((k : Int) < (n : Int)) = true := by simp; omega
      have hkI : (0 : Int) ≤ (k : Int) := by omega
      have hknI : (k : Int) < (n : Int) := by omega
      obtain ⟨b, off, y, rfl, hb, hy, hc, hlt⟩ := u64_at (Rp.sl_below HL.out hbel.out HD.out) hkn
      have HST := Lib.hid (stepsFrom_snoc l none k y hy)
      have hmx : m + 10 ≤ maxLen := by unfold maxLen; omega
      have hsz := hbel.out.size
      by_cases hk0 : k = 0
      case pos =>
        subst hk0
        have hq : ((0 : Int) == 0) = true := rfl
        have HS1 : Hid (flat (stepsFrom none (l.take (0 + 1))) = flat (stepsFrom none (l.take 0)) ++ vbytes y) := by
          have := HST.out; rw [this, flat_snoc]; rfl
        have HY64 : Hid (y < 18446744073709551616) := (by omega : y < 18446744073709551616)
        have hc0 : wr.cell? ⟨b, off, none⟩ = some (.int .u64 (y : Int)) := by simpa using hc
        clear hy hlt
        go_wp2_with fail
        refine (HV.out y _ HY64.out).mono ?_; rintro e w1 ⟨A3, n3, c3, rfl, ho3, hn3, hb3⟩
        have HO3 := Lib.hid ho3
        have HO := Lib.hid (keepO hown.out hb3)
        have HB := Lib.hid (stepB hbel.out hb3)
        clear ho3 hb3
        go_wp2_with (at_builtin; refine wpList_app rfl (.tmp 13) (.tmp 17) _ rfl elemB rfl HO.out rfl (Src.bytes (own_bytes HO3.out)) (by omega) (by omega) HB.out.size ?_; intro A5 c5 w5 ho5 hg5 hat5; have HO5 := Lib.hid ho5; have HB5 := Lib.hid (HB.out.grown hg5 HB.out.size (fun j hj => (HO.out.lt j hj).1)); clear ho5 hg5 hat5)
        go_roundw
        case rel => exact ⟨0 + 1, m + n3, A5, c5, by omega, by go_num, rfl, by omega, by rw [HS1.out, List.map_append]; exact HO5.out, HB5.out⟩
        case measure => simp [intOf]; omega
      case neg =>
        have hq : ((k : Int) == 0) = false := by simp; omega
        obtain ⟨b', off', a, hA', hb', ha, hca, hlta⟩ := u64_at (k := k - 1) (Rp.sl_below HL.out hbel.out HD.out) (by omega)
        injection hA' with hA'
        injection hA' with hA1 hA2 _
        subst hA1; subst hA2
        have hlt2 : a < y := HRI.out (k - 1) a y ha (by rw [show k - 1 + 1 = k by omega]; exact hy)
        have hpr : prevOf none l k = some a := by
          obtain ⟨j, rfl⟩ : ∃ j, k = j + 1 := ⟨k - 1, by omega⟩
          exact ha
        have HS1 : Hid (flat (stepsFrom none (l.take (k + 1))) = flat (stepsFrom none (l.take k)) ++ vbytes (y - a - 1)) := by
          have := HST.out; rw [this, flat_snoc, hpr]; rfl
        obtain ⟨J, hJ⟩ : ∃ J, J = k - 1 := ⟨_, rfl⟩
        have hcb : wr.cell? ⟨b, off + J, none⟩ = some (.int .u64 (a : Int)) := by rw [hJ]; exact hca
        have s2 : IntKind.i64.wrap ((k : Int) - 1) = (J : Int) := by rw [IntWalk.i64_in _ (by omega)]; omega
        have hJ0 : (0 : Int) ≤ (J : Int) := by omega
        have hJ1 : (J : Int) < (n : Int) := by omega
        have s0 : IntKind.u64.wrap ((y : Int) - (a : Int)) = (y : Int) - (a : Int) := IntWalk.u64_in _ (by omega)
        have s1 : IntKind.u64.wrap ((y : Int) - (a : Int) - 1) = ((y - a - 1 : Nat) : Int) := by rw [IntWalk.u64_in _ (by omega)]; omega
        have HY64 : Hid (y - a - 1 < 18446744073709551616) := (by omega : y - a - 1 < 18446744073709551616)
        obtain ⟨Y, hY⟩ : ∃ Y, Y = y - a - 1 := ⟨_, rfl⟩
        rw [← hY] at s1 HY64 HS1
        have hbl : b < w.heap.size := HD.out b hb
        have HCK : Hid (∀ w', Below w.heap.size w w' → w'.cell? ⟨b, off + k, none⟩ = some (.int .u64 (y : Int)) ∧ w'.cell? ⟨b, off + J, none⟩ = some (.int .u64 (a : Int))) := fun w' hb' => ⟨(hb'.cell (p := ⟨b, off + k, none⟩) hbl).trans ((hbel.out.cell (p := ⟨b, off + k, none⟩) hbl).symm.trans hc), (hb'.cell (p := ⟨b, off + J, none⟩) hbl).trans ((hbel.out.cell (p := ⟨b, off + J, none⟩) hbl).symm.trans hcb)⟩
        clear hy hlt hlt2 hpr ha hY hlta hca hJ hbl
        go_wp2_with fail
        go_region_held3 (fun w' => w'.cell? ⟨b, off + k, none⟩ = some (.int .u64 (y : Int)) ∧ w'.cell? ⟨b, off + J, none⟩ = some (.int .u64 (a : Int)))
          (first | go_keep | exact HCK.out _ HB5.out | exact HCK.out _ HB.out | exact HCK.out _ hbel.out)
          (first
            | (go_at_call 101; refine (HV.out Y _ HY64.out).mono ?_; rintro e w1 ⟨A3, n3, c3, rfl, ho3, hn3, hb3b⟩; have hb3 : Below wr.heap.size wr w1 := ⟨hb3b.os, hb3b.tape, hb3b.output, hb3b.size, hb3b.block⟩; have HO3 := Lib.hid ho3; have HO := Lib.hid (keepO hown.out hb3); have HB := Lib.hid (stepB hbel.out hb3); have hmx5 : m + n3 ≤ maxLen := (by omega); clear ho3 hb3 hb3b)
            | (refine step_app rfl (.tmp 19) (.tmp 31) _ rfl elemB (by rfl) HO.out (by rfl) (Src.bytes (own_bytes HO3.out)) hmx5 (by omega) HB.out.size ?_; intro A5 c5 w5 ho5 hg5 hat5; have HO5 := Lib.hid ho5; have HB5 := Lib.hid (HB.out.grown hg5 HB.out.size (fun j hj => (HO.out.lt j hj).1)); clear ho5 hg5 hat5))
        go_wp2_with fail
        go_roundw
        case rel => exact ⟨k + 1, m + n3, A5, c5, by omega, by go_num, rfl, by omega, by rw [HS1.out, List.map_append]; exact HO5.out, HB5.out⟩
        case measure => simp [intOf]; omega
end
end Go.Proofs.Ytmdgmnaaopineaa
