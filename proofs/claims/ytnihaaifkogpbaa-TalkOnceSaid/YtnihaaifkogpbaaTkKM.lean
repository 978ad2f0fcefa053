/- The table of chapter 27 as plain data, and what follows of it. -/
import Derived.WalkKit
namespace Go.Proofs.Ytnihaaifkogpbaa
open Go.RowKit
namespace Kd
def tbl : List (ByteArray × Int × Int) := [(⟨#[]⟩, 0, 0), (⟨#[114, 101, 97, 100]⟩, 1, 9), (⟨#[119, 114, 105, 116, 101]⟩, 33, 10), (⟨#[115, 101, 97, 108]⟩, 0, 11), (⟨#[116, 114, 105, 109]⟩, 1, 10), (⟨#[102, 105, 108, 108]⟩, 1, 10), (⟨#[116, 97, 107, 101]⟩, 10, 12), (⟨#[103, 101, 116]⟩, 0, 13), (⟨#[112, 117, 116]⟩, 128, 10), (⟨#[118, 97, 108, 117, 101]⟩, 36, 0), (⟨#[100, 111, 110, 101]⟩, 0, 0), (⟨#[115, 101, 97, 108, 101, 100]⟩, 64, 0), (⟨#[116, 97, 107, 101, 110]⟩, 17, 0), (⟨#[112, 114, 111, 106]⟩, 128, 0), (⟨#[102, 97, 105, 108, 101, 100]⟩, 4, 0)]
def idx (k : Int) : Nat := if 1 ≤ k ∧ k ≤ 14 then k.toNat else 0
theorem idx_lt (k : Int) : idx k < 15 := by unfold idx; split <;> omega
def rowAt (i : Nat) : ByteArray × Int × Int := tbl.getD i (⟨#[]⟩, 0, 0)
def wd (k : Int) : ByteArray := (rowAt (idx k)).1
def pt (k : Int) : Int := (rowAt (idx k)).2.1
def an (k : Int) : Int := (rowAt (idx k)).2.2
def cells (k : Int) : Array Value := #[.string (wd k), .int .i64 (pt k), .int .i64 (an k)]
def right (k : Int) : Bool := decide (1 ≤ k ∧ k ≤ 14)
def ans (k a : Int) : Bool := an k != 0 && (a == an k || a == 14)
def hasI (i : Nat) (p : Int) : Bool := (decide (0 < p) && decide (p ≤ 128) && bits .and .i64 p (p - 1) == 0) && bits .and .i64 (rowAt i).2.1 p != 0
def has (k p : Int) : Bool := hasI (idx k) p
def refHasI (i : Nat) (p : Int) : Bool := [1, 2, 4, 8, 16, 32, 64, 128].any fun q => q == p && ((rowAt i).2.1.tdiv q).tmod 2 == 1
theorem has_in : ∀ i : Fin 15, ∀ p : Fin 129, hasI i.val (p.val : Int) = refHasI i.val (p.val : Int) := by decide +kernel
theorem refHasI_out (i : Nat) (p : Int) (h : p < 1 ∨ 128 < p) : refHasI i p = false := by
  unfold refHasI
  have e : ∀ q : Int, 1 ≤ q → q ≤ 128 → (q == p) = false := fun q h1 h2 => by
    apply beq_eq_false_iff_ne.2; omega
  simp only [List.any_cons, List.any_nil, e 1 (by omega) (by omega), e 2 (by omega) (by omega), e 4 (by omega) (by omega), e 8 (by omega) (by omega), e 16 (by omega) (by omega), e 32 (by omega) (by omega), e 64 (by omega) (by omega), e 128 (by omega) (by omega), Bool.false_and, Bool.or_false]
theorem has_eq (k p : Int) : has k p = refHasI (idx k) p := by
  by_cases h : 1 ≤ p ∧ p ≤ 128
  · obtain ⟨n, rfl⟩ := Int.eq_ofNat_of_zero_le (show 0 ≤ p by omega)
    exact has_in ⟨idx k, idx_lt k⟩ ⟨n, by omega⟩
  · rw [refHasI_out _ _ (by omega)]
    unfold has hasI
    have : (decide (0 < p) && decide (p ≤ 128)) = false := by
      rw [Bool.and_eq_false_iff, decide_eq_false_iff_not, decide_eq_false_iff_not]; omega
    rw [this]; rfl
/-- What holds of each of the fifteen lines holds of every number. -/
theorem by_rows {p : Nat → Prop} (h : ∀ i : Fin 15, p i.val) (k : Int) : p (idx k) := h ⟨idx k, idx_lt k⟩
theorem right_idx (k : Int) : right k = decide (idx k ≠ 0) := by
  unfold right idx
  by_cases h : 1 ≤ k ∧ k ≤ 14
  · rw [if_pos h, decide_eq_true h]; symm; apply decide_eq_true; omega
  · rw [if_neg h, decide_eq_false h]; rfl
theorem idx_of (i : Nat) (h : i < 15) : idx (i : Int) = i := by unfold idx; split <;> omega
def ansI (i : Nat) (a : Int) : Bool := (rowAt i).2.2 != 0 && (a == (rowAt i).2.2 || a == 14)
theorem ans_ans : ∀ i : Fin 15, ∀ a : Fin 20, ansI i.val (a.val : Int) = true → an (a.val : Int) = 0 ∧ right (a.val : Int) = true := by decide +kernel
def cnt (i : Nat) : Nat → Int
  | 0 => 0
  | n + 1 => if ansI i (n : Int) then cnt i n + 1 else cnt i n
theorem cnt_all : ∀ i : Fin 15, cnt i.val 20 = if (rowAt i.val).2.2 = 0 then 0 else 2 := by decide +kernel
theorem an_pos : ∀ i : Fin 15, (decide (0 < (rowAt i.val).2.2)) = ((rowAt i.val).2.2 != 0) := by decide +kernel
theorem cnt_bd (i : Nat) : ∀ n, 0 ≤ cnt i n ∧ cnt i n ≤ n
  | 0 => by simp [cnt]
  | n + 1 => by
    have := cnt_bd i n
    rw [cnt]; split <;> omega
def sumI (i : Nat) : Nat → Int
  | 0 => 0
  | n + 1 => if hasI i (2 ^ n : Nat) then sumI i n + (2 ^ n : Nat) else sumI i n
theorem sum_all : ∀ i : Fin 15, sumI i.val 9 = (rowAt i.val).2.1 := by decide +kernel
theorem sum_bd : ∀ i : Fin 15, ∀ n : Fin 10, 0 ≤ sumI i.val n.val ∧ sumI i.val n.val ≤ 1024 := by decide +kernel
theorem has30 : ∀ i : Fin 15, hasI i.val 3 = false ∧ hasI i.val 0 = false := by decide +kernel
theorem row_bd : ∀ i : Fin 15, 0 ≤ (rowAt i.val).2.1 ∧ (rowAt i.val).2.1 ≤ 128 ∧ 0 ≤ (rowAt i.val).2.2 ∧ (rowAt i.val).2.2 ≤ 13 := by decide +kernel
/-- The kind of a word. -/
def find (s : ByteArray) : Nat → Int
  | 0 => 0
  | n + 1 => if find s n ≠ 0 then find s n else if (rowAt (n + 1)).1 == s then (n + 1 : Nat) else 0
end Kd
end Go.Proofs.Ytnihaaifkogpbaa
