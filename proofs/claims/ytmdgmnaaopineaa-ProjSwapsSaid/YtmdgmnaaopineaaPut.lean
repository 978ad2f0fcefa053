/- Numbers written, one behind the other. -/
import Derived.Test.YtmdgmnaaopineaaVarB
import Derived.Test.YtmdgmnaaopineaaPen2
namespace Go.Proofs.Ytmdgmnaaopineaa
open Go.ChangeShapes Go.WideShapes Go.ChangeAt Go.RowKit
set_option linter.unusedVariables false
theorem own_mono {w : World} {base base' : Nat} {e : TypeId} {size : Nat} {v : Value} {n : Nat} {xs : List Value} (h : w.ownsRow base e size v n xs) (hb : base' ≤ base) : w.ownsRow base' e size v n xs := by
  refine ⟨h.1, ?_⟩
  rcases h.2 with h0 | ⟨g, cap, cur, hv, hg, hr⟩
  · exact .inl h0
  · exact .inr ⟨g, cap, cur, hv, Nat.le_trans hb hg, hr⟩
/-- What a writer holds behind some pieces. -/
def putsB (most : Int) : List UInt8 × Int → List (List UInt8) → List UInt8 × Int
  | s, [] => s
  | s, x :: xs => putsB most (putB most s.1 s.2 x) xs
theorem putsB_append (most : Int) : ∀ (s : List UInt8 × Int) (xs ys : List (List UInt8)), putsB most s (xs ++ ys) = putsB most (putsB most s xs) ys
  | s, [], ys => rfl
  | s, x :: xs, ys => by rw [List.cons_append, putsB, putsB, putsB_append most _ xs ys]
theorem putsB_snoc (most : Int) (s : List UInt8 × Int) (xs : List (List UInt8)) (y : List UInt8) : putsB most s (xs ++ [y]) = putB most (putsB most s xs).1 (putsB most s xs).2 y := by
  rw [putsB_append]; rfl
theorem putsB_fit {most : Int} : ∀ {b : List UInt8} {xs : List (List UInt8)}, ((b ++ xs.flatten).length : Int) ≤ most → putsB most (b, 0) xs = (b ++ xs.flatten, 0)
  | b, [], h => by simp [putsB]
  | b, x :: xs, h => by
    have hl : ((b ++ x) ++ xs.flatten) = b ++ (x :: xs).flatten := by simp
    have e : putB most b 0 x = (b ++ x, 0) := by
      unfold putB
      rw [if_neg (by simp), if_neg (by rw [List.flatten_cons] at h; simp only [List.length_append] at h; omega)]
    rw [putsB, e, putsB_fit (by rw [hl]; exact h), hl]
theorem putsB_bad {most : Int} {b : List UInt8} {code : Int} (h : code ≠ 0) : ∀ xs : List (List UInt8), putsB most (b, code) xs = (b, code)
  | [] => rfl
  | x :: xs => by
    have e : putB most b code x = (b, code) := by unfold putB; rw [if_pos h]
    rw [putsB, e, putsB_bad h xs]
theorem putB_len (most : Int) (b : List UInt8) (code : Int) (x : List UInt8) : (putB most b code x).1.length ≤ b.length + x.length := by
  unfold putB
  split
  · exact Nat.le_add_right _ _
  · split
    · exact Nat.le_add_right _ _
    · exact Nat.le_of_eq List.length_append
theorem putsB_len (most : Int) : ∀ (s : List UInt8 × Int) (xs : List (List UInt8)), (putsB most s xs).1.length ≤ s.1.length + xs.flatten.length
  | s, [] => by simp [putsB]
  | s, x :: xs => by
    have h1 := putB_len most s.1 s.2 x
    have h2 := putsB_len most (putB most s.1 s.2 x) xs
    rw [putsB, List.flatten_cons, List.length_append]
    omega
/-- **Whatever stays under the bound is written, or the first that does not sets the code.** -/
theorem putsB_code {most : Int} : ∀ {b : List UInt8} {xs : List (List UInt8)}, (putsB most (b, 0) xs).2 = 0 → putsB most (b, 0) xs = (b ++ xs.flatten, 0)
  | b, [], h => by simp [putsB]
  | b, x :: xs, h => by
    by_cases hl : most < b.length + x.length
    · have e : putB most b 0 x = (b, 2) := by unfold putB; rw [if_neg (by simp), if_pos hl]
      rw [putsB, e, putsB_bad (by decide)] at h
      exact absurd h (by simp)
    · have e : putB most b 0 x = (b ++ x, 0) := by unfold putB; rw [if_neg (by simp), if_neg hl]
      rw [putsB, e] at h ⊢
      rw [putsB_code h]
      simp
theorem vpieces_len : ∀ xs : List Nat, (∀ x ∈ xs, x < 18446744073709551616) → ((xs.map vbytes).flatten).length ≤ 10 * xs.length
  | [], _ => by simp
  | x :: xs, h => by
    have h1 := vbytes_10 (h x (by simp))
    have h2 := vpieces_len xs (fun y hy => h y (by simp [hy]))
    simp only [List.map_cons, List.flatten_cons, List.length_append, List.length_cons]
    omega
section
variable {w : World} {F : Dom} {g : Nat} {most : Int} {b : List UInt8} {code : Int}
theorem vput_at (h : Pen w F g most b code) (h0 : 0 ≤ most) (h1 : most ≤ 9223372036854775807) (hb : b.length ≤ 1000000000) (x : Nat) (hx : x < 18446744073709551616) :
    Calls Try.prog 104 #[.pointer (some ⟨g, 0, none⟩), .int .u64 (x : Int)] w fun e w' => e = .returned (.tuple #[]) ∧ ∃ F', Pen w' F' g most (putB most b code (vbytes x)).1 (putB most b code (vbytes x)).2 ∧ Chg F w w' ∧ (∀ k, F' k → F k ∨ w.heap.size ≤ k) := by
  have HP := Lib.hid h
  have HX := Lib.hid hx
  have hl10 := vbytes_10 hx
  clear h hx
  go_enter Try.func104, Try.ntmps104
  go_wp2_with fail
  refine (vbytes_any x HX.out).mono ?_; rintro e w1 ⟨A, n, c, rfl, ho, hb1⟩
  have HB := Lib.hid hb1
  have HO := Lib.hid ho
  have hnl : n = (vbytes x).length := by have := ho.1; simpa using this.symm
  have hn : n ≤ 1000000000 := by omega
  clear hb1 ho hnl
  go_wp2_with fail
  refine (put_at (HP.out.below HB.out) h0 h1 hb (own_bytes HO.out) (fun k hk => own_lt HO.out hk) hn).mono ?_; rintro e w2 ⟨rfl, F2, hp2, hch2, hF2⟩
  have HP2 := Lib.hid hp2
  have HCH := Lib.hid hch2
  have HF2 := Lib.hid hF2
  clear hp2 hch2 hF2
  go_wp2_with fail
  go_end0
  refine ⟨rfl, F2, HP2.out, (Chg.of_pure HB.out F).trans HCH.out, fun k hk => ?_⟩
  rcases HF2.out k hk with h | h
  · exact .inl h
  · exact .inr (Nat.le_trans HB.out.size h)
end
end Go.Proofs.Ytmdgmnaaopineaa
