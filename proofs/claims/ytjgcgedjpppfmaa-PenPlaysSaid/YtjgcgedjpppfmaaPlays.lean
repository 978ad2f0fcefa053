/- A living writer's Text and Fixed; the reference's writer. -/
import Derived.Test.YtjgcgedjpppfmaaBound
namespace Go.Proofs.Ytjgcgedjpppfmaa
open Go.ChangeShapes Go.WideShapes Go.ChangeAt Go.RowKit
set_option linter.unusedVariables false

section
variable {w : World} {F : Dom} {g : Nat} {most : Int} {b : List UInt8} {code : Int}
theorem text_at (h : Pen w F g most b code) (h0 : 0 ≤ most) (h1 : most ≤ 9223372036854775807) (hb : b.length ≤ 1000000000) (l : List UInt8) (hl : l.length ≤ 1000000000) :
    Calls Try.prog 23 #[.pointer (some ⟨g, 0, none⟩), .string ⟨l.toArray⟩] w fun e w' => e = .returned (.tuple #[]) ∧ ∃ F', Pen w' F' g most (putB most b code l).1 (putB most b code l).2 ∧ Chg F w w' ∧ (∀ k, F' k → F k ∨ w.heap.size ≤ k) := by
  have kc := fun (w : World) => Lib.run_convert_string_bytes (P := Try.prog) w 9 23 5 ⟨l.toArray⟩ Try.underlying9 Try.underlying23 Try.underlying5
  have hsb := string_bytes w ⟨l.toArray⟩ 5
  have HP := Lib.hid (h.below hsb)
  have HB := Lib.hid hsb
  clear h hsb
  go_enter Try.func23, Try.ntmps23
  go_wp2_with fail
  refine (put_at HP.out h0 h1 hb (string_row w l _ (by unfold maxLen; omega)) (fun k hk => by rw [Lib.bytesWorld_size]; omega) hl).mono ?_; rintro e w2 ⟨rfl, F2, hp2, hch2, hF2⟩
  have HP2 := Lib.hid hp2
  have HCH := Lib.hid hch2
  have HF2 := Lib.hid hF2
  clear hp2 hch2 hF2
  go_wp2_with fail
  go_end0
  refine ⟨rfl, F2, HP2.out, (Chg.of_pure HB.out F).trans HCH.out, fun k hk => ?_⟩
  rcases HF2.out k hk with h | h
  · exact .inl h
  · rw [Lib.bytesWorld_size] at h
    exact .inr (by omega)
theorem fixedm_at (h : Pen w F g most b code) (h0 : 0 ≤ most) (h1 : most ≤ 9223372036854775807) (hb : b.length ≤ 1000000000) (x : Nat) (n : Int) (hx : x < 18446744073709551616) :
    Calls Try.prog 24 #[.pointer (some ⟨g, 0, none⟩), .int .u64 (x : Int), .int .i64 n] w fun e w' => e = .returned (.tuple #[]) ∧ ∃ F', Pen w' F' g most (putB most b code (low (many n) x)).1 (putB most b code (low (many n) x)).2 ∧ Chg F w w' ∧ (∀ k, F' k → F k ∨ w.heap.size ≤ k) := by
  have HP := Lib.hid h
  clear h
  go_enter Try.func24, Try.ntmps24
  go_wp2_with fail
  refine (fixed_any x n _ hx).mono ?_; rintro e w1 ⟨A, c, rfl, ho, hb1⟩
  have HB := Lib.hid hb1
  have HO := Lib.hid ho
  clear hb1 ho
  go_wp2_with fail
  refine (put_at (HP.out.below HB.out) h0 h1 hb (own_bytes HO.out) (fun k hk => own_lt HO.out hk) (by have := many_le n; omega)).mono ?_; rintro e w2 ⟨rfl, F2, hp2, hch2, hF2⟩
  have HP2 := Lib.hid hp2
  have HCH := Lib.hid hch2
  have HF2 := Lib.hid hF2
  clear hp2 hch2 hF2
  go_wp2_with fail
  go_end0
  refine ⟨rfl, F2, HP2.out, (Chg.of_pure HB.out F).trans HCH.out, fun k hk => ?_⟩
  rcases HF2.out k hk with h | h
  · exact .inl h
  · exact .inr (Nat.le_trans HB.out.size h)
end

theorem ref_new_any (most : Int) (w : World) : Calls Try.prog 21 #[.int .i64 most] w fun e w' => e = .returned (.agg #[.int .i64 (max most 0), .slice none 0 0, .int .i64 0]) ∧ Below w.heap.size w w' := by
  have H : Hid ((Try.prog.info? 41).map (·.size) = some 3) := by unfold Hid; kernel_rfl
  by_cases h : most < 0
  · have hm : max most 0 = 0 := by omega
    rw [hm]
    clear hm
    go_enter Try.func21, Try.ntmps21
    go_wp2_with (refine wpList_put_row rfl 41 (.tmp 2) (.tmp 6) rfl w.heap.size #[.int .i64 0, .slice none 0 0, .int .i64 0] rfl rfl 41 _ (Blk.new w 41 _) H.out rfl (by simp [Value.oneCell']) ?_; intro w2 hblk hgr)
    have hbel : Below w.heap.size w w2 := ((Below.refl _ w).alloc (Nat.le_refl _) _).grown hgr (by simp) (by intro k hk; injection hk with hk; omega)
    refine bodyPost_ret (results_cell_row rfl _ _ w.heap.size 41 _ (0, 0) _ rfl hblk Try.underlying41 rfl H.out) rfl ⟨rfl, hbel⟩
  · have hm : max most 0 = most := by omega
    rw [hm]
    clear hm
    go_enter Try.func21, Try.ntmps21
    go_wp2_with (refine wpList_put_row rfl 41 (.tmp 2) (.tmp 6) rfl w.heap.size #[.int .i64 most, .slice none 0 0, .int .i64 0] rfl rfl 41 _ (Blk.new w 41 _) H.out rfl (by simp [Value.oneCell']) ?_; intro w2 hblk hgr)
    have hbel : Below w.heap.size w w2 := ((Below.refl _ w).alloc (Nat.le_refl _) _).grown hgr (by simp) (by intro k hk; injection hk with hk; omega)
    refine bodyPost_ret (results_cell_row rfl _ _ w.heap.size 41 _ (0, 0) _ rfl hblk Try.underlying41 rfl H.out) rfl ⟨rfl, hbel⟩
end Go.Proofs.Ytjgcgedjpppfmaa
