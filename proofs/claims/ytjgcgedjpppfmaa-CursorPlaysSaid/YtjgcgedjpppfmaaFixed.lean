/- A number's lowest bytes, the program's and the reference's; whether two rows of bytes are the same; the law's example. -/
import Derived.Test.YtjgcgedjpppfmaaPen2
namespace Go.Proofs.Ytjgcgedjpppfmaa
open Go.ChangeShapes Go.WideShapes Go.ChangeAt Go.RowKit
set_option linter.unusedVariables false

theorem take_succ {α : Type} {l : List α} {k : Nat} {x : α} (h : l[k]? = some x) : l.take (k + 1) = l.take k ++ [x] := by
  rw [List.take_add_one, h]; rfl
/-- The lowest m bytes, the lowest first. -/
def low : Nat → Nat → List UInt8
  | 0, _ => []
  | m + 1, x => low m x ++ [UInt8.ofNat (x / 256 ^ m)]
theorem low_length (x : Nat) : ∀ m, (low m x).length = m
  | 0 => rfl
  | m + 1 => by rw [low, List.length_append, low_length x m]; rfl
def many (n : Int) : Nat := (min (max n 0) 8).toNat
theorem many_le (n : Int) : many n ≤ 8 := by unfold many; omega

theorem fixed_any (x : Nat) (n : Int) (w : World) (hx : x < 18446744073709551616) :
    Calls Try.prog 11 #[.int .u64 (x : Int), .int .i64 n] w fun e w' => ∃ A c, e = .returned (.slice A (many n) c) ∧ w'.ownsRow w.heap.size 5 1 (.slice A (many n) c) (many n) ((low (many n) x).map bv) ∧ Below w.heap.size w w' := by
  have hcase : (n < 0 ∧ many n ≤ 0) ∨ (n = (many n : Int)) ∨ (8 < n ∧ 8 ≤ many n) := by unfold many; omega
  have h8 := many_le n
  generalize many n = m at *
  rcases hcase with ⟨h, hm⟩ | rfl | ⟨h, hm⟩
  · obtain rfl : m = 0 := by omega
    go_enter Try.func11, Try.ntmps11
    go_wp2_with fail
    go_loop [5, 9] (fun o i => o = .slice none 0 0 ∧ i = .int .i64 0) (fun _ i => 8 - (intOf i).toNat)
    case atStart => exact ⟨rfl, rfl⟩
    case round =>
      obtain ⟨rfl, rfl⟩ := hrel
      go_wp2_with fail
      go_ret
      exact ⟨none, 0, rfl, World.ownsRow_nil _ _ _ _, Below.refl _ _⟩
  all_goals
    go_enter Try.func11, Try.ntmps11
    go_wp2_with fail
    go_loopw [0, 5, 9] (fun y o i wr => ∃ (k q : Nat) (A : Option Addr) (c : Nat), k ≤ m ∧ i = .int .i64 k ∧ y = .int .u64 (q : Int) ∧ Hid (q = x / 256 ^ k) ∧ q < 18446744073709551616 ∧ o = .slice A k c ∧ wr.ownsRow w.heap.size 5 1 o k ((low k x).map bv) ∧ Below w.heap.size w wr) (fun _ _ i _ => 8 - (intOf i).toNat)
    case atStart => exact ⟨0, x, none, 0, Nat.zero_le _, rfl, rfl, by simp [Hid], hx, rfl, World.ownsRow_nil _ _ _ _, Below.refl _ _⟩
    case round =>
      obtain ⟨k, q, A, c, hk, rfl, rfl, hq, hql, rfl, ho, hbel⟩ := hrel
      by_cases hlt : k < m
      · have hnext : q / 256 = x / 256 ^ (k + 1) := by rw [hq.out, Nat.div_div_eq_div_mul, Nat.pow_succ]
        have HN := Lib.hid hnext
        clear hnext
        go_wp2_with (at_builtin; refine wpList_push_byte rfl (.tmp 11) (.tmp 15) _ rfl elemB rfl ho (by omega) hbel.size rfl (by omega) (by omega) ?_; intro u A1 c1 w1 hu ho1 hg1 hat1)
        have hbel1 : Below w.heap.size w w1 := hbel.grown hg1 hbel.size (fun k hk => (ho.lt k hk).1)
        have hub : u = UInt8.ofNat (x / 256 ^ k) := by
          apply UInt8.toNat_inj.1
          rw [UInt8.toNat_ofNat', ← hq.out]
          omega
        have hlow : low k x ++ [u] = low (k + 1) x := by rw [hub]; rfl
        rw [hlow] at ho1
        clear hu hub hlow hg1 hat1
        go_wp2_with fail
        go_roundw
        case rel => exact ⟨k + 1, q / 256, A1, c1, by omega, by go_num, by simp, HN, by omega, by go_num, ho1, hbel1⟩
        case measure => simp [intOf]; omega
      · have hkm : k = m := by omega
        subst hkm
        go_wp2_with fail
        go_ret
        exact ⟨A, c, rfl, ho, hbel⟩

theorem ref_fixed_any (x : Nat) (n : Int) (w : World) (hx : x < 18446744073709551616) (n1 : n ≤ 9223372036854775807) :
    Calls Try.prog 13 #[.int .u64 (x : Int), .int .i64 n] w fun e w' => ∃ A c, e = .returned (.slice A (many n) c) ∧ w'.ownsRow w.heap.size 5 1 (.slice A (many n) c) (many n) ((low (many n) x).map bv) ∧ Below w.heap.size w w' := by
  have hcase : (n < 0 ∧ many n ≤ 0) ∨ (0 ≤ n ∧ (many n : Int) ≤ n ∧ (many n ≤ 8) ∧ (n ≤ many n ∨ 8 ≤ many n)) := by unfold many; omega
  generalize many n = m at *
  go_enter Try.func13, Try.ntmps13
  go_wp2_with fail
  go_loopw [5, 6] (fun o i wr => ∃ (k : Nat) (A : Option Addr) (c : Nat), k ≤ m ∧ i = .int .i64 k ∧ o = .slice A k c ∧ wr.ownsRow w.heap.size 5 1 o k ((low k x).map bv) ∧ Below w.heap.size w wr) (fun _ i _ => 8 - (intOf i).toNat)
  case atStart => exact ⟨0, none, 0, Nat.zero_le _, rfl, rfl, World.ownsRow_nil _ _ _ _, Below.refl _ _⟩
  case round =>
    obtain ⟨k, A, c, hk, rfl, rfl, ho, hbel⟩ := hrel
    by_cases hlt : k < m
    · have hk8 : k < 8 := by omega
      have hkn : (k : Int) < n := by omega
      have hpow : ((x : Int) / 2 ^ (8 * (k : Int)).toNat) = ((x / 256 ^ k : Nat) : Int) := by
        have e1 : (8 * (k : Int)).toNat = 8 * k := by omega
        have e2 : (256 ^ k : Nat) = 2 ^ (8 * k) := by rw [Nat.pow_mul]
        rw [e1, e2]
        simp [Int.natCast_ediv]
      have HP := Lib.hid hpow
      clear hpow
      go_wp2_with (at_builtin; refine wpList_push_byte rfl (.tmp 16) (.tmp 23) _ rfl elemB rfl ho (by omega) hbel.size rfl (by omega) (by omega) ?_; intro u A1 c1 w1 hu ho1 hg1 hat1)
      have hbel1 : Below w.heap.size w w1 := hbel.grown hg1 hbel.size (fun k hk => (ho.lt k hk).1)
      have hub : u = UInt8.ofNat (x / 256 ^ k) := by
        apply UInt8.toNat_inj.1
        rw [UInt8.toNat_ofNat']
        have h1 := HP.out
        have e1 : (8 * (k : Int)).toNat = 8 * k := by omega
        rw [e1] at h1
        omega
      have hlow : low k x ++ [u] = low (k + 1) x := by rw [hub]; rfl
      rw [hlow] at ho1
      clear hu hub hlow hg1 hat1
      go_roundw
      case rel => exact ⟨k + 1, A1, c1, by omega, by go_num, rfl, ho1, hbel1⟩
      case measure => simp [intOf]; omega
    · have hkm : k = m := by omega
      subst hkm
      rcases hcase with ⟨hneg, h0⟩ | ⟨h0, h1, h8, h2 | h2⟩
      · have hd : decide ((k : Int) < n) = false := by simp; omega
        go_wp2_with fail
        go_ret
        exact ⟨A, c, rfl, ho, hbel⟩
      · have hd : decide ((k : Int) < n) = false := by simp; omega
        go_wp2_with fail
        go_ret
        exact ⟨A, c, rfl, ho, hbel⟩
      · obtain rfl : k = 8 := by omega
        by_cases hd : (8 : Int) < n
        · go_wp2_with fail
          go_ret
          exact ⟨A, c, rfl, ho, hbel⟩
        · go_wp2_with fail
          go_ret
          exact ⟨A, c, rfl, ho, hbel⟩
end Go.Proofs.Ytjgcgedjpppfmaa
