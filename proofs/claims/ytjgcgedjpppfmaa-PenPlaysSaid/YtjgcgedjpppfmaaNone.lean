/- What the calls of chapter 3 answer at a nil receiver. -/
import Derived.Test.YtjgcgedjpppfmaaLive
import Derived.Lib.ConvBytes
namespace Go.Proofs.Ytjgcgedjpppfmaa
open Go.ChangeShapes Go.WideShapes Go.ChangeAt Go.RowKit
set_option linter.unusedVariables false

theorem code_nil (w : World) : Calls Try.prog 18 #[.pointer none] w fun e w' => e = .returned (.int .i64 19) ∧ w = w' := by
  go_enter Try.func18, Try.ntmps18
  go_wp2
  go_ret
  exact ⟨rfl, rfl⟩
theorem len_nil (w : World) : Calls Try.prog 17 #[.pointer none] w fun e w' => e = .returned (.int .i64 0) ∧ w = w' := by
  go_enter Try.func17, Try.ntmps17
  go_wp2
  go_ret
  exact ⟨rfl, rfl⟩
theorem room_nil (w : World) : Calls Try.prog 27 #[.pointer none] w fun e w' => e = .returned (.int .i64 0) ∧ w = w' := by
  go_enter Try.func27, Try.ntmps27
  go_wp2
  go_ret
  exact ⟨rfl, rfl⟩
theorem put_nil (w : World) (A : Option Addr) (n c : Nat) : Calls Try.prog 16 #[.pointer none, .slice A n c] w fun e w' => e = .returned (.tuple #[]) ∧ w = w' := by
  go_enter Try.func16, Try.ntmps16
  go_wp2_with fail
  refine (code_nil _).mono ?_; rintro e w' ⟨rfl, rfl⟩
  go_wp2_with fail
  go_end0
  exact ⟨rfl, rfl⟩
theorem fail_nil (w : World) (c : Int) : Calls Try.prog 25 #[.pointer none, .int .i64 c] w fun e w' => e = .returned (.tuple #[]) ∧ w = w' := by
  go_enter Try.func25, Try.ntmps25
  go_wp2_with fail
  refine (code_nil _).mono ?_; rintro e w' ⟨rfl, rfl⟩
  go_wp2_with fail
  go_end0
  exact ⟨rfl, rfl⟩
theorem bytes_nil (w : World) : Calls Try.prog 19 #[.pointer none] w fun e w' => e = .returned (.tuple #[.slice none 0 0, .int .i64 19]) ∧ w = w' := by
  go_enter Try.func19, Try.ntmps19
  go_wp2_with fail
  refine (code_nil _).mono ?_; rintro e w' ⟨rfl, rfl⟩
  go_wp2_with fail
  go_ret2
  exact ⟨rfl, rfl⟩
theorem fixedm_nil (w : World) (x : Nat) (n : Int) (hx : x < 18446744073709551616) : Calls Try.prog 24 #[.pointer none, .int .u64 (x : Int), .int .i64 n] w fun e w' => e = .returned (.tuple #[]) ∧ Below w.heap.size w w' := by
  go_enter Try.func24, Try.ntmps24
  go_wp2_with fail
  refine (fixed_any x n _ hx).mono ?_; rintro e w1 ⟨A, c, rfl, ho, hb⟩
  go_wp2_with fail
  refine (put_nil _ _ _ _).mono ?_; rintro e w' ⟨rfl, rfl⟩
  go_wp2_with fail
  go_end0
  exact ⟨rfl, hb⟩
/-- The bytes of a string in their new row. -/
theorem string_bytes (w : World) (s : ByteArray) (e : TypeId) : Below w.heap.size w (Lib.bytesWorld w e s) :=
  ⟨rfl, rfl, rfl, by rw [Lib.bytesWorld_size]; omega, fun k hk => Lib.bytesWorld_at_old w e s k hk⟩
theorem string_row (w : World) (l : List UInt8) (e : TypeId) (hl : l.length ≤ maxLen) : rpU8.sl (Lib.bytesWorld w e ⟨l.toArray⟩) (fun k => k = w.heap.size) (some ⟨w.heap.size, 0, none⟩) l.length (grownCap w l.length 0 e) l := by
  refine bytes_of_cells (cs := Lib.bytesCells w e ⟨l.toArray⟩) (fun i => by simp [World.cell?, Lib.bytesWorld_at_new]) (fun i x hx => ?_) rfl (grownCap_ge _ _ _ _) (grownCap_le_maxLen _ _ _ _ hl)
  have hi : i < l.length := by
    rcases Nat.lt_or_ge i l.length with h | h
    · exact h
    · simp [List.getElem?_eq_none h] at hx
  unfold Lib.bytesCells
  rw [Array.getElem?_append_left (by simpa using hi)]
  simp [hx]
theorem text_nil (w : World) (s : ByteArray) : Calls Try.prog 23 #[.pointer none, .string s] w fun e w' => e = .returned (.tuple #[]) ∧ Below w.heap.size w w' := by
  have kc := fun (w : World) => Lib.run_convert_string_bytes (P := Try.prog) w 9 23 5 s Try.underlying9 Try.underlying23 Try.underlying5
  go_enter Try.func23, Try.ntmps23
  go_wp2_with fail
  refine (put_nil _ _ _ _).mono ?_; rintro e w' ⟨rfl, rfl⟩
  go_wp2_with fail
  go_end0
  exact ⟨rfl, string_bytes _ _ _⟩
theorem penNone_any (A : Option Addr) (n c : Nat) (l : List UInt8) (x m : Int) (w : World) (hl : rpU8.sl w (lt w.heap.size) A n c l) (x0 : 0 ≤ x) (x1 : x ≤ 18446744073709551615) (m0 : -9223372036854775808 ≤ m) (m1 : m ≤ 9223372036854775807) :
    Calls Try.prog 6 #[.slice A n c, .int .u64 x, .int .i64 m] w fun e w' => e = .returned (.bool true) ∧ Below w.heap.size w w' := by
  obtain ⟨x, rfl⟩ := Int.eq_ofNat_of_zero_le x0
  have hx : x < 18446744073709551616 := by omega
  by_cases hbig : 200 < n
  · have hd : decide ((200 : Int) < (n : Int)) = true := by simp; omega
    clear hl
    go_enter Try.func6, Try.ntmps6
    go_wp2_with fail
    refine (live_any _).mono ?_; rintro e w1 ⟨rfl, hb⟩
    go_wp2_with fail
    go_ret
    exact ⟨rfl, hb⟩
  · have hd : decide ((200 : Int) < (n : Int)) = false := by simp; omega
    have h1 := run_bytes_string (P := Try.prog) hl 23 9 5 Try.underlying23 Try.underlying5 Try.underlying9
    clear hl
    go_enter Try.func6, Try.ntmps6
    go_wp2_with fail
    refine (put_nil _ _ _ _).mono ?_; rintro e w1 ⟨rfl, rfl⟩
    go_wp2_with fail
    refine (text_nil _ _).mono ?_; rintro e w2 ⟨rfl, hb2⟩
    go_wp2_with fail
    refine (fixedm_nil _ x _ hx).mono ?_; rintro e w3 ⟨rfl, hb3⟩
    go_wp2_with fail
    refine (fail_nil _ _).mono ?_; rintro e w4 ⟨rfl, rfl⟩
    go_wp2_with fail
    refine (bytes_nil _).mono ?_; rintro e w4 ⟨rfl, rfl⟩
    go_wp2_with fail
    refine (code_nil _).mono ?_; rintro e w4 ⟨rfl, rfl⟩
    go_wp2_with fail
    refine (len_nil _).mono ?_; rintro e w4 ⟨rfl, rfl⟩
    go_wp2_with fail
    refine (room_nil _).mono ?_; rintro e w4 ⟨rfl, rfl⟩
    go_wp2_with fail
    refine (live_any _).mono ?_; rintro e w5 ⟨rfl, hb5⟩
    go_wp2_with fail
    go_ret
    have h3 := hb2.trans (hb3.mono hb2.size)
    exact ⟨rfl, h3.trans (hb5.mono h3.size)⟩
end Go.Proofs.Ytjgcgedjpppfmaa
