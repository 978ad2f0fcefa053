/- The walks of chapter 3: a writer in its block, and what each of its calls makes of it. -/
import Derived.Test.YtmdgmnaaopineaaCore
import Derived.Test.YtmdgmnaaopineaaRows
namespace Go.Proofs.Ytmdgmnaaopineaa
open Go.ChangeShapes Go.WideShapes Go.ChangeAt Go.RowKit
set_option linter.unusedVariables false

theorem elemB : Elem Try.prog 36 5 1 1 := Elem.of (z := .int .u8 0) Try.underlying36 (by kernel_rfl) rfl (by decide)

/-- A writer stands in block g: its bound, what was written, its code; F are the blocks that it works on. -/
def Pen (w : World) (F : Dom) (g : Nat) (most : Int) (b : List UInt8) (code : Int) : Prop :=
  ∃ A n c, Blk w g 139 #[.int .i64 most, .slice A n c, .int .i64 code] ∧ w.ownsRow 0 5 1 (.slice A n c) n (b.map bv) ∧ b.length = n ∧ (∀ k, F k ↔ (k = g ∨ some k = (Value.slice A n c).ownBlock))
theorem own_lt {w : World} {base : Nat} {e : TypeId} {size n : Nat} {v : Value} {xs : List Value} (h : w.ownsRow base e size v n xs) {k : Nat} (hk : some k = v.ownBlock) : k < w.heap.size := (h.lt k hk.symm).2
theorem Pen.lt {w : World} {F : Dom} {g : Nat} {most : Int} {b : List UInt8} {code : Int} (h : Pen w F g most b code) : ∀ k, F k → k < w.heap.size := by
  obtain ⟨A, n, c, hb, ho, _, hF⟩ := h
  intro k hk
  rcases (hF k).1 hk with rfl | hk
  · exact hb.lt
  · exact own_lt ho hk
theorem Pen.keep {w w' : World} {F : Dom} {g : Nat} {most : Int} {b : List UInt8} {code : Int} (h : Pen w F g most b code) (hs : Same F w w') (hz : w.heap.size ≤ w'.heap.size) : Pen w' F g most b code := by
  obtain ⟨A, n, c, hb, ho, hn, hF⟩ := h
  refine ⟨A, n, c, (hs g ((hF g).2 (.inl rfl))).trans hb, ⟨ho.1, ?_⟩, hn, hF⟩
  rcases ho.2 with hv | ⟨q, cap, cur, hv, hq, hh, rest⟩
  · exact .inl hv
  · exact .inr ⟨q, cap, cur, hv, hq, (hs q ((hF q).2 (.inr (by rw [hv]; rfl)))).trans hh, rest⟩
theorem Pen.below {w w' : World} {F : Dom} {g : Nat} {most : Int} {b : List UInt8} {code : Int} (h : Pen w F g most b code) (hb : Below w.heap.size w w') : Pen w' F g most b code :=
  h.keep (Same.of_below hb h.lt) hb.size
theorem Pen.ne {w : World} {g : Nat} {e t : TypeId} {cs : Array Value} {base size n : Nat} {v : Value} {xs : List Value} (hb : Blk w g t cs) (ho : w.ownsRow base e size v n xs) (hne : e ≠ t) : some g ≠ v.ownBlock := by
  intro h
  rcases ho.2 with ⟨rfl, _⟩ | ⟨q, cap, cur, rfl, _, hh, _⟩
  · cases h
  · simp only [Value.ownBlock, Option.some.injEq] at h
    subst h
    unfold Blk at hb
    rw [hh] at hb
    injection hb with hb
    injection hb with _ he
    exact hne he

section
variable {w : World} {F : Dom} {g : Nat} {most : Int} {b : List UInt8} {code : Int}
theorem code_at (h : Pen w F g most b code) : Calls Try.prog 106 #[.pointer (some ⟨g, 0, none⟩)] w fun e w' => e = .returned (.int .i64 code) ∧ w = w' := by
  obtain ⟨A, n, c, hb, ho, hn, hF⟩ := h
  have hc := hb.cell 2
  clear hb ho hF hn
  go_enter Try.func106, Try.ntmps106
  go_wp2
  go_ret
  exact ⟨rfl, rfl⟩
theorem room_at (h : Pen w F g most b code) (h0 : 0 ≤ most) (h1 : most ≤ 9223372036854775807) (hb : b.length ≤ 1000000000) : Calls Try.prog 147 #[.pointer (some ⟨g, 0, none⟩)] w fun e w' => e = .returned (.int .i64 (most - b.length)) ∧ Below w.heap.size w w' := by
  obtain ⟨A, n, c, hb, ho, hn, hF⟩ := h
  have hc0 := hb.cell 0
  have hc := hb.cell 1
  rw [hn]
  have hn' : n ≤ 1000000000 := by omega
  clear hb ho hF hn
  go_enter Try.func147, Try.ntmps147
  go_wp2_with fail
  go_quiet (fail)
  go_wp2_with fail
  go_ret
  exact ⟨rfl, ⟨rfl, rfl, rfl, Nat.le_refl _, fun _ _ => rfl⟩⟩
theorem fail_at (h : Pen w F g most b code) (c : Int) : Calls Try.prog 103 #[.pointer (some ⟨g, 0, none⟩), .int .i64 c] w fun e w' => e = .returned (.tuple #[]) ∧ Pen w' F g most b (if code = 0 then c else code) ∧ Chg F w w' := by
  have hcode := code_at h
  have HC := Lib.hid hcode
  have HP := Lib.hid h
  obtain ⟨A, n, cc, hb, ho, hn, hF⟩ := h
  have hc := hb.cell 2
  have hf := hb.frozen 2
  have HB := Lib.hid hb
  have HO := Lib.hid ho
  have HF := Lib.hid hF
  clear hb ho hF hcode
  by_cases h0 : (code == 0) = true
  · have hif : (if code = 0 then c else code) = c := if_pos (by simpa using h0)
    rw [hif]
    clear hif
    go_enter Try.func103, Try.ntmps103
    go_wp2_with (go_at_call 106; refine HC.out.mono ?_; rintro e w' ⟨rfl, rfl⟩)
    go_end0
    refine ⟨rfl, ⟨A, n, cc, HB.out.put 2 _, ?_, hn, HF.out⟩, (Chg.refl _ _).setCell (.inl ((HF.out g).2 (.inl rfl))) _⟩
    exact HO.out.kept (grown_setCell _ _ _) (.inr (fun e => Pen.ne HB.out HO.out (by decide) e.symm))
  · have h0' : (code == 0) = false := by simpa using h0
    have hif : (if code = 0 then c else code) = code := if_neg (by simpa using h0)
    rw [hif]
    clear hif h0
    go_enter Try.func103, Try.ntmps103
    go_wp2_with (go_at_call 106; refine HC.out.mono ?_; rintro e w' ⟨rfl, rfl⟩)
    go_end0
    exact ⟨rfl, HP.out, Chg.refl _ _⟩
end
end Go.Proofs.Ytmdgmnaaopineaa
