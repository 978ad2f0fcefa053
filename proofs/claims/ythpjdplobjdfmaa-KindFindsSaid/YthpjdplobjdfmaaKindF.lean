/- The walks of All, Find and of the law KindFinds. -/
import Derived.Test.YthpjdplobjdfmaaKind3
import Derived.Test.YthpjdplobjdfmaaKindR
namespace Go.Proofs.Ythpjdplobjdfmaa
open Go.ChangeShapes Go.WideShapes Go.ChangeAt Go.RowKit
set_option linter.unusedVariables false

theorem elemI : Elem Try.prog 32 3 1 8 := Elem.of (z := .int .i64 0) Try.underlying32 (by kernel_rfl) rfl (by decide)
def upto (n : Nat) : List Value := (List.range n).map fun (i : Nat) => .int .i64 ((i : Int) + 1)
theorem upto_succ (n : Nat) : upto (n + 1) = upto n ++ [.int .i64 ((n : Int) + 1)] := by simp [upto, List.range_succ]
theorem upto_get {n i : Nat} (h : i < n) : (upto n)[i]? = some (.int .i64 ((i : Int) + 1)) := by
  simp [upto, h]
theorem upto_len (n : Nat) : (upto n).length = n := by simp [upto]

theorem all_any (w : World) :
    Calls Try.prog 17 #[] w fun e w' => ∃ A c, e = .returned (.slice A 14 c) ∧ w'.ownsRow w.heap.size 3 1 (.slice A 14 c) 14 (upto 14) ∧ Below w.heap.size w w' := by
  go_enter Try.func17, Try.ntmps17
  go_wp2_with fail
  go_loopw [1, 2] (fun o i wr => ∃ (n : Nat) (A : Option Addr) (c : Nat), n ≤ 14 ∧ i = .int .i64 ((n : Int) + 1) ∧ o = .slice A n c ∧ wr.ownsRow w.heap.size 3 1 o n (upto n) ∧ Below w.heap.size w wr) (fun _ i _ => 15 - (intOf i).toNat)
  case atStart => exact ⟨0, none, 0, by omega, rfl, rfl, World.ownsRow_nil _ _ _ _, Below.refl _ _⟩
  case round =>
    obtain ⟨n, A, c, hn, rfl, rfl, ho, hbel⟩ := hrel
    have crt := right_any ((n : Int) + 1)
    by_cases hlt : n < 14
    · have hr : Kd.right ((n : Int) + 1) = true := decide_eq_true ⟨by omega, by omega⟩
      rw [hr] at crt
      have CRT := Lib.hid crt
      clear crt hr
      go_wp2_with (first
        | (go_at_call 10; refine (CRT.out _).mono ?_; rintro e w' ⟨rfl, rfl⟩)
        | (at_builtin; refine wpList_app rfl (.tmp 7) (.tmp 9) _ rfl elemI rfl (ho.alloc _) rfl (Src.new wr (.int .i64 ((n : Int) + 1)) _ rfl) (by unfold maxLen; omega) (by omega) (by have := hbel.size; simp; omega) ?_; intro A1 c1 w1 ho1 hg1 hat1
           have hbel1 : Below w.heap.size w w1 := (hbel.alloc hbel.size _).grown hg1 (by have := hbel.size; simp; omega) (fun k hk => (ho.lt k hk).1)))
      rw [← upto_succ] at ho1
      go_roundw
      case rel => exact ⟨n + 1, A1, c1, by omega, by go_num, by go_num, ho1, hbel1⟩
      case measure => simp [intOf]; omega
    · obtain rfl : n = 14 := by omega
      have hr : Kd.right (((14 : Nat) : Int) + 1) = false := decide_eq_false (by omega)
      rw [hr] at crt
      have CRT := Lib.hid crt
      clear crt hr
      go_wp2_with (go_at_call 10; refine (CRT.out _).mono ?_; rintro e w' ⟨rfl, rfl⟩)
      go_ret
      exact ⟨A, c, rfl, ho, hbel⟩
/-- The kind of a word among the first n. -/
def findU (s : ByteArray) : Nat → Int
  | 0 => 0
  | n + 1 => if findU s n ≠ 0 then findU s n else if (Kd.wd ((n : Int) + 1)).toList == s.toList then (n : Int) + 1 else 0
theorem find_keep {s : ByteArray} {n : Nat} (h : findU s n ≠ 0) : ∀ m, n ≤ m → findU s m = findU s n := by
  intro m hm
  induction m with
  | zero => obtain rfl : n = 0 := by omega
            rfl
  | succ m ih =>
    by_cases e : n = m + 1
    · subst e; rfl
    · have := ih (by omega)
      rw [findU, this, if_pos h]
theorem findU_some {s : ByteArray} : ∀ {n : Nat}, findU s n ≠ 0 → ∃ m, m < n ∧ ((Kd.wd ((m : Int) + 1)).toList == s.toList) = true
  | 0, h => absurd rfl h
  | n + 1, h => by
    rw [findU] at h
    split at h
    · rename_i h1
      obtain ⟨m, hm, hw⟩ := findU_some h1
      exact ⟨m, by omega, hw⟩
    · split at h
      · rename_i h2; exact ⟨n, by omega, h2⟩
      · exact absurd rfl h
theorem findU_pos (s : ByteArray) : ∀ n, 0 ≤ findU s n
  | 0 => by simp [findU]
  | n + 1 => by
    have := findU_pos s n
    rw [findU]
    split
    · exact this
    · split <;> omega
theorem find_any (s : ByteArray) (w : World) (hs : s.size ≤ maxLen) :
    Calls Try.prog 16 #[.string s] w fun e w' => e = .returned (.tuple #[.int .i64 (findU s 14), .bool (findU s 14 != 0)]) ∧ Below w.heap.size w w' := by
  go_enter Try.func16, Try.ntmps16
  go_wp2_with fail
  refine (all_any _).mono ?_
  rintro e w1 ⟨A, c, rfl, ho, hb1⟩
  go_wp2_with fail
  go_loopw [8] (fun i wr => ∃ (n : Nat), n ≤ 14 ∧ i = .int .i64 n ∧ Hid (findU s n = 0) ∧ Below w1.heap.size w1 wr) (fun i _ => 14 - (intOf i).toNat)
  case atStart => exact ⟨0, by omega, rfl, rfl, Below.refl _ _⟩
  case round =>
    obtain ⟨n, hn, rfl, hf, hbr⟩ := hrel
    by_cases hlt : n < 14
    · have hd : decide ((n : Int) < 14) = true := by simp; omega
      obtain ⟨g, rfl, hg, hgl, _, hcells, _⟩ := own_block ho (by omega)
      have hcell := (hbr.cell (p := ⟨g, n, none⟩) hgl).trans (hcells n _ (upto_get hlt))
      have hst : findU s (n + 1) = if findU s n ≠ 0 then findU s n else if (Kd.wd ((n : Int) + 1)).toList == s.toList then (n : Int) + 1 else 0 := rfl
      rw [hf.out, if_neg (by simp)] at hst
      have cw := word_any ((n : Int) + 1)
      generalize Kd.wd ((n : Int) + 1) = x at *
      have CW := Lib.hid cw
      clear cw hcells
      by_cases hx : (x.toList == s.toList) = true
      · rw [if_pos hx] at hst
        have hall : findU s 14 = (n : Int) + 1 := (find_keep (n := n + 1) (by rw [hst]; omega) 14 (by omega)).trans hst
        have hne : ((n : Int) + 1 != 0) = true := by rw [bne_iff_ne]; omega
        have HALL := Lib.hid hall
        have HNE := Lib.hid hne
        clear hst hall hne
        go_wp2_with fail
        refine (CW.out _).mono ?_; rintro e w2 ⟨rfl, hb2⟩
        go_wp2_with fail
        go_ret2
        exact ⟨by rw [HALL.out, HNE.out]; rfl, hb1.trans ((hbr.trans (hb2.mono hbr.size)).mono hb1.size)⟩
      · rw [if_neg hx] at hst
        have hx' : (x.toList == s.toList) = false := by simpa using hx
        have HST := Lib.hid hst
        clear hst hx
        go_wp2_with fail
        refine (CW.out _).mono ?_; rintro e w2 ⟨rfl, hb2⟩
        go_wp2_with fail
        go_roundw
        case rel => exact ⟨n + 1, by omega, by go_num, HST.out, hbr.trans (hb2.mono hbr.size)⟩
        case measure => simp [intOf]; omega
    · obtain rfl : n = 14 := by omega
      go_wp2_with fail
      go_ret2
      exact ⟨by rw [hf.out]; rfl, hb1.trans (hbr.mono hb1.size)⟩

theorem h0 (a : ByteArray) (b c : Int) (w : World) : (Instr.field 23 (.agg #[.string a, .int .i64 b, .int .i64 c]) 0).run Try.prog w = .ok (.string a) w := rfl
/-- The last of the first n kinds that has a word. -/
def lastU (s : ByteArray) : Nat → Int
  | 0 => 0
  | n + 1 => if (Kd.wd ((n : Int) + 1)).toList == s.toList then (n : Int) + 1 else lastU s n
theorem words_apart : ∀ i j : Fin 14, ((Kd.wd ((i.val : Int) + 1)).toList == (Kd.wd ((j.val : Int) + 1)).toList) = decide (i = j) := by decide +kernel
theorem lastU_eq (s : ByteArray) : ∀ n, n ≤ 14 → lastU s n = findU s n ∧ (∀ m, m < n → findU s n ≠ 0 → ((Kd.wd ((m : Int) + 1)).toList == s.toList) = true → findU s n = (m : Int) + 1)
  | 0, _ => ⟨rfl, fun m hm => by omega⟩
  | n + 1, hn => by
    obtain ⟨h1, h2⟩ := lastU_eq s n (by omega)
    by_cases hx : ((Kd.wd ((n : Int) + 1)).toList == s.toList) = true
    · have hz : findU s n = 0 := by
        by_cases hf : findU s n = 0
        · exact hf
        · exfalso
          have : ∃ m, m < n ∧ ((Kd.wd ((m : Int) + 1)).toList == s.toList) = true := findU_some hf
          obtain ⟨m, hm, hw⟩ := this
          have e1 : (Kd.wd ((m : Int) + 1)).toList = s.toList := by simpa using hw
          have e2 : (Kd.wd ((n : Int) + 1)).toList = s.toList := by simpa using hx
          have := words_apart ⟨m, by omega⟩ ⟨n, by omega⟩
          dsimp only at this
          rw [e1, e2] at this
          simp at this
          omega
      refine ⟨?_, fun m hm hne hw => ?_⟩
      · rw [lastU, findU, if_pos hx, if_neg (by rw [hz]; simp), if_pos hx]
      · have e1 : (Kd.wd ((m : Int) + 1)).toList = s.toList := by simpa using hw
        have e2 : (Kd.wd ((n : Int) + 1)).toList = s.toList := by simpa using hx
        have := words_apart ⟨m, by omega⟩ ⟨n, by omega⟩
        dsimp only at this
        rw [e1, e2] at this
        simp at this
        subst this
        rw [findU, if_neg (by rw [hz]; simp), if_pos hx]
    · refine ⟨?_, fun m hm hne hw => ?_⟩
      · rw [lastU, findU, if_neg hx, if_neg hx, h1]
        split
        · rfl
        · rename_i h; simpa using h
      · have hmn : m < n := by
          rcases Nat.lt_or_ge m n with h | h
          · exact h
          · obtain rfl : m = n := by omega
            exact absurd hw hx
        rw [findU, if_neg hx] at hne ⊢
        by_cases hf : findU s n = 0
        · rw [if_neg (by rw [hf]; simp)] at hne; exact absurd rfl hne
        · rw [if_pos hf]; exact h2 m hmn hf hw
theorem finds_walk (s : ByteArray) (w : World) (hs : s.size ≤ maxLen) :
    Calls Try.prog 6 #[.string s] w fun e w' => e = .returned (.bool true) ∧ Below w.heap.size w w' := by
  have hf := h0
  go_enter Try.func6, Try.ntmps6
  go_wp2_with fail
  refine (find_any s _ hs).mono ?_
  rintro e w1 ⟨rfl, hb1⟩
  go_wp2_with fail
  refine (all_any _).mono ?_
  rintro e w2 ⟨A, c, rfl, ho, hb2⟩
  have hb2' := hb1.trans (hb2.mono hb1.size)
  go_wp2_with fail
  go_loopw [5, 7] (fun v i wr => ∃ (n : Nat), n ≤ 14 ∧ i = .int .i64 ((n : Int) + 1) ∧ v = .int .i64 (lastU s n) ∧ Below w2.heap.size w2 wr) (fun _ i _ => 15 - (intOf i).toNat)
  case atStart => exact ⟨0, by omega, rfl, rfl, Below.refl _ _⟩
  case round =>
    obtain ⟨n, hn, rfl, rfl, hbr⟩ := hrel
    by_cases hlt : n < 14
    · have hd : decide ((n : Int) < 14) = true := by simp; omega
      obtain ⟨g, rfl, hg, hgl, _, hcells, _⟩ := own_block ho (by omega)
      have hcell := (hbr.cell (p := ⟨g, n, none⟩) hgl).trans (hcells n _ (upto_get hlt))
      have hst : lastU s (n + 1) = if (Kd.wd ((n : Int) + 1)).toList == s.toList then (n : Int) + 1 else lastU s n := rfl
      have co := ref_of_any ((n : Int) + 1)
      generalize Kd.wd ((n : Int) + 1) = x at *
      generalize hl1 : lastU s (n + 1) = l1 at *
      generalize lastU s n = l at *
      have CO := Lib.hid co
      have HL1 := Lib.hid hl1
      clear co hcells hl1
      by_cases hx : (x.toList == s.toList) = true
      · rw [if_pos hx] at hst
        have HST := Lib.hid hst
        clear hst
        go_wp2_with fail
        refine (CO.out _).mono ?_; rintro e w3 ⟨rfl, hb3⟩
        go_wp2_with fail
        go_roundw
        case rel => exact ⟨n + 1, by omega, by go_num, by rw [HL1.out, HST.out], hbr.trans (hb3.mono hbr.size)⟩
        case measure => simp [intOf]; omega
      · rw [if_neg hx] at hst
        have hx' : (x.toList == s.toList) = false := by simpa using hx
        have HST := Lib.hid hst
        clear hst hx
        go_wp2_with fail
        refine (CO.out _).mono ?_; rintro e w3 ⟨rfl, hb3⟩
        go_wp2_with fail
        go_roundw
        case rel => exact ⟨n + 1, by omega, by go_num, by rw [HL1.out, HST.out], hbr.trans (hb3.mono hbr.size)⟩
        case measure => simp [intOf]; omega
    · obtain rfl : n = 14 := by omega
      have hl := (lastU_eq s 14 (Nat.le_refl _)).1
      have hp := findU_pos s 14
      rw [hl]
      generalize findU s 14 = f at *
      have hq : (f != 0) = decide (0 < f) := by rw [Bool.eq_iff_iff, bne_iff_ne, decide_eq_true_iff]; omega
      have HL := Lib.hid hl
      clear hl
      rw [hq]
      clear hq
      go_wp2_with fail
      refine (live_any _).mono ?_; rintro e w3 ⟨rfl, hb3⟩
      have hbw : Below w.heap.size w wr := hb2'.trans (hbr.mono hb2'.size)
      go_wp2_with fail
      go_ret
      exact ⟨rfl, hbw.trans (hb3.mono hbw.size)⟩
end Go.Proofs.Ythpjdplobjdfmaa
