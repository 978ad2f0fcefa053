/- Whether two rows of bytes are the same; the law's example. -/
import Derived.Test.YtjgcgedjpppfmaaFixed
namespace Go.Proofs.Ytjgcgedjpppfmaa
open Go.ChangeShapes Go.WideShapes Go.ChangeAt Go.RowKit
set_option linter.unusedVariables false

theorem same_any (A A' : Option Addr) (n c n' c' : Nat) (l l' : List UInt8) (D D' : Dom) (w : World) (hl : rpU8.sl w D A n c l) (hl' : rpU8.sl w D' A' n' c' l') :
    Calls Try.prog 12 #[.slice A n c, .slice A' n' c'] w fun e w' => e = .returned (.bool (l == l')) ∧ w = w' := by
  have h1 := run_bytes_string (P := Try.prog) hl 23 9 5 Try.underlying23 Try.underlying5 Try.underlying9
  have h2 := run_bytes_string (P := Try.prog) hl' 23 9 5 Try.underlying23 Try.underlying5 Try.underlying9
  go_enter Try.func12, Try.ntmps12
  go_wp2
  go_ret
  exact ⟨rfl, rfl⟩

theorem built_at {g : Nat} {cs : Array Value} {w' : World} {o : List UInt8} (hw : ∀ i, w'.cell? ⟨g, i, none⟩ = cs[i]?) (hcs : ∀ (i : Nat) (x : UInt8), o[i]? = some x → cs[i]? = some (Value.int .u8 (x.toNat : Int))) (n : Nat) (hn : o.length = n) (hm : n ≤ 1000) : rpU8.sl w' (fun k => k = g) (some ⟨g, 0, none⟩) n n o :=
  bytes_of_cells hw hcs hn (Nat.le_refl _) (by unfold maxLen; omega)
theorem two_at (w : World) (a b : UInt8) (e : TypeId) : rpU8.sl (w.alloc (.cells #[.int .u8 (a.toNat : Int), .int .u8 (b.toNat : Int)] e)) (fun k => k = w.heap.size) (some ⟨w.heap.size, 0, none⟩) 2 2 [a, b] :=
  built_at (fun i => (Blk.new w _ _).cell i) (fun i x hx => by
    match i, hx with
    | 0, hx | 1, hx => cases hx; rfl) 2 rfl (by decide)
theorem four_at (w : World) (a b c d : UInt8) (e : TypeId) : rpU8.sl (w.alloc (.cells #[.int .u8 (a.toNat : Int), .int .u8 (b.toNat : Int), .int .u8 (c.toNat : Int), .int .u8 (d.toNat : Int)] e)) (fun k => k = w.heap.size) (some ⟨w.heap.size, 0, none⟩) 4 4 [a, b, c, d] :=
  built_at (fun i => (Blk.new w _ _).cell i) (fun i x hx => by
    match i, hx with
    | 0, hx | 1, hx | 2, hx | 3, hx => cases hx; rfl) 4 rfl (by decide)

theorem live_any (w : World) : Calls Try.prog 14 #[] w fun e w' => e = .returned (.bool true) ∧ Below w.heap.size w w' := by
  go_enter Try.func14, Try.ntmps14
  go_wp2_with fail
  refine (new_any _ _).mono ?_; rintro e w1 ⟨rfl, hp, hb⟩
  have HP := Lib.hid (hp.below ((Below.refl _ _).alloc (Nat.le_refl _) (.cells #[.int .u8 1, .int .u8 2] 5)))
  clear hp
  go_wp2_with fail
  refine (put_at HP.out (by decide) (by decide) (by decide) (two_at _ 1 2 _) (by simp) (by decide)).mono ?_; rintro e w2 ⟨rfl, F2, hp2, hch2, hF2⟩
  have e2 : putB (max 3 0) [] 0 [1, 2] = ([1, 2], 0) := by decide
  rw [e2] at hp2
  have HP2 := Lib.hid (hp2.below ((Below.refl _ _).alloc (Nat.le_refl _) (.cells #[.int .u8 3, .int .u8 4] 5)))
  clear hp2
  go_wp2_with fail
  refine (put_at HP2.out (by decide) (by decide) (by decide) (two_at _ 3 4 _) (by simp) (by decide)).mono ?_; rintro e w3 ⟨rfl, F3, hp3, hch3, hF3⟩
  have e3 : putB (max 3 0) [1, 2] 0 [3, 4] = ([1, 2], 2) := by decide
  rw [e3] at hp3
  have HP3 := Lib.hid hp3
  clear hp3
  go_wp2_with fail
  refine (bytes_bad HP3.out (by decide)).mono ?_; rintro e w4 ⟨rfl, rfl⟩
  go_wp2_with fail
  refine (len_at HP3.out).mono ?_; rintro e w4 ⟨rfl, rfl⟩
  go_wp2_with fail
  refine (fixed_any 258 4 _ (by decide)).mono ?_; rintro e w5 ⟨A, c, rfl, ho, hb5⟩
  have e5 : low (many 4) 258 = [2, 1, 0, 0] := by decide
  have e6 : many 4 = 4 := by decide
  rw [e5, e6] at ho
  have HO := Lib.hid (own_bytes ho)
  have HOW := Lib.hid ho
  clear ho
  go_wp2_with fail
  refine (same_any _ _ _ _ _ _ _ _ _ _ _ (Rp.sl_below HO.out ((Below.refl _ _).alloc (Nat.le_refl _) _) (fun k hk => own_lt HOW.out hk)) (four_at _ 2 1 0 0 _)).mono ?_; rintro e w6 ⟨rfl, rfl⟩
  go_wp2_with fail
  go_ret
  have hz1 := hb.size
  have s2 := hch2.size
  have s3 := hch3.size
  have b1 : Below w.heap.size w1 w2 := (Below.refl _ _ |>.alloc hz1 _).trans (hch2.below (by simp; omega) (fun k hk => by omega))
  have hF2' : ∀ k, F2 k → w.heap.size ≤ k := fun k hk => by
    rcases hF2 k hk with h | h
    · omega
    · simp at h; omega
  have hz2 : w.heap.size ≤ w2.heap.size := Nat.le_trans hz1 b1.size
  have b2 : Below w.heap.size w2 w3 := (Below.refl _ _ |>.alloc hz2 _).trans (hch3.below (by simp; omega) hF2')
  have hz3 : w.heap.size ≤ w3.heap.size := Nat.le_trans hz2 b2.size
  exact ⟨rfl, ((hb.trans b1).trans b2).trans ((hb5.mono hz3).alloc (Nat.le_trans hz3 hb5.size) _)⟩
end Go.Proofs.Ytjgcgedjpppfmaa
