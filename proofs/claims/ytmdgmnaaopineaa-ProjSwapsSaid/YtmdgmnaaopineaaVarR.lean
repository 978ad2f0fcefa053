/- The reference's numbers: Bytes. -/
import Derived.Test.YtmdgmnaaopineaaVarB
import Derived.Test.YtmdgmnaaopineaaCodM
namespace Go.Proofs.Ytmdgmnaaopineaa
open Go.ChangeShapes Go.WideShapes Go.ChangeAt Go.RowKit
set_option linter.unusedVariables false
theorem ownsRow_same {w w' : World} {base : Nat} {e : TypeId} {size : Nat} {v : Value} {n : Nat} {xs : List Value} (h : w.ownsRow base e size v n xs) (hs : ∀ k, v.ownBlock = some k → w'.heap[k]? = w.heap[k]?) : w'.ownsRow base e size v n xs := by
  refine ⟨h.1, ?_⟩
  rcases h.2 with h0 | ⟨g, cap, cur, hv, hg, hh, hr⟩
  · exact .inl h0
  · exact .inr ⟨g, cap, cur, hv, hg, (hs g (by rw [hv]; rfl)).trans hh, hr⟩
theorem row_one (w : World) (v : Value) (e : TypeId) : (w.alloc (.cells #[v] e)).ownsRow w.heap.size e 1 (.slice (some ⟨w.heap.size, 0, none⟩) 1 1) 1 [v] := World.ownsRow_lit (base := w.heap.size) (e := e) (size := 1) w #[v] 1 (Nat.le_refl _) (by unfold maxLen; decide) (by simp)
set_option maxRecDepth 100000 in
theorem rvbytes_any : ∀ (k x : Nat) (w : World), x < 128 ^ (k + 1) → k ≤ 9 → x < 18446744073709551616 → Calls Try.prog 101 #[.int .u64 (x : Int)] w fun e w' => ∃ A n c, e = .returned (.slice A n c) ∧ w'.ownsRow w.heap.size 5 1 (.slice A n c) n ((vbytes x).map bv) ∧ Below w.heap.size w w' := by
  intro k
  induction k with
  | zero =>
    intro x w hx hk h64
    have hlt : x < 128 := by simpa using hx
    rw [vbytes_lt hlt]
    have hd : decide ((x : Int) < 128) = true := by simp; omega
    have hv : (x : Int) = ((UInt8.ofNat x).toNat : Int) := by rw [ofNat_small (by omega)]
    obtain ⟨b, hb⟩ : ∃ b : UInt8, b = UInt8.ofNat x := ⟨_, rfl⟩
    rw [← hb] at hv ⊢
    clear hb hx
    go_enter Try.func101, Try.ntmps101
    go_wp2_with fail
    go_ret
    exact ⟨_, _, _, rfl, by rw [hv] at *; exact row_one w _ _, (Below.refl _ _).alloc (Nat.le_refl _) _⟩
  | succ k ih =>
    intro x w hx hk h64
    by_cases hlt : x < 128
    · rw [vbytes_lt hlt]
      have hd : decide ((x : Int) < 128) = true := by simp; omega
      have hv : (x : Int) = ((UInt8.ofNat x).toNat : Int) := by rw [ofNat_small (by omega)]
      obtain ⟨b, hb⟩ : ∃ b : UInt8, b = UInt8.ofNat x := ⟨_, rfl⟩
      rw [← hb] at hv ⊢
      clear hb hx ih
      go_enter Try.func101, Try.ntmps101
      go_wp2_with fail
      go_ret
      exact ⟨_, _, _, rfl, by rw [hv] at *; exact row_one w _ _, (Below.refl _ _).alloc (Nat.le_refl _) _⟩
    · rw [vbytes_ge hlt]
      have hlen := vbytes_len k (x / 128) (by rw [Nat.div_lt_iff_lt_mul (by decide)]; rw [Nat.pow_succ] at hx; exact hx)
      have hd : decide ((x : Int) < 128) = false := by simp; omega
      have hv : (128 + (x : Int) % 128) = ((UInt8.ofNat (128 + x % 128)).toNat : Int) := by rw [ofNat_small (by omega)]; omega
      have IH := Lib.hid (fun w => ih (x / 128) w (by rw [Nat.div_lt_iff_lt_mul (by decide)]; rw [Nat.pow_succ] at hx; exact hx) (by omega) (by omega))
      obtain ⟨b, hb⟩ : ∃ b : UInt8, b = UInt8.ofNat (128 + x % 128) := ⟨_, rfl⟩
      rw [← hb] at hv ⊢
      obtain ⟨V, hV⟩ : ∃ V, V = vbytes (x / 128) := ⟨_, rfl⟩
      rw [← hV] at IH hlen ⊢
      obtain ⟨y, hy⟩ : ∃ y, y = x / 128 := ⟨_, rfl⟩
      have hdiv : ((x : Int) / 128) = (y : Int) := by rw [hy]; simp
      rw [← hy] at IH
      have HR1 := Lib.hid (row_one w (bv b) 5)
      have HB1 := Lib.hid ((Below.refl w.heap.size w).alloc (Nat.le_refl _) (.cells #[bv b] 5))
      clear hb hx ih hV hlt hy
      go_enter Try.func101, Try.ntmps101
      go_wp2_with fail
      refine (IH.out _).mono ?_; rintro e w2 ⟨A, n, c, rfl, ho2, hb2⟩
      have hn : n ≤ 11 := by have h1 : (V.map bv).length = n * 1 := ho2.1; rw [List.length_map] at h1; omega
      have hb02 := HB1.out.trans (hb2.mono (show w.heap.size ≤ _ by simp))
      have HB2 := Lib.hid hb02
      have HR2 := Lib.hid (ownsRow_same HR1.out (fun k hk => hb2.block k (HR1.out.lt k hk).2))
      have HS2 := Lib.hid (Src.bytes (own_bytes ho2))
      have hz2 := hb02.size
      clear ho2 hb2 hb02
      go_wp2_with (refine wpList_app rfl (.tmp 12) (.tmp 15) 36 rfl elemU rfl HR2.out rfl HS2.out (by unfold maxLen; omega) (by omega) hz2 ?_; intro A3 c3 w3 ho3 hg3 hat3; have HO3 := Lib.hid ho3; have HB3 := Lib.hid (HB2.out.grown hg3 hz2 (fun k e => (HR2.out.lt k e).1)); clear ho3 hg3 hat3)
      go_ret
      exact ⟨A3, _, c3, rfl, HO3.out, HB3.out⟩
end Go.Proofs.Ytmdgmnaaopineaa
