/- The walks of chapter 3: Put, Text, Bytes, New, and a number's lowest bytes. -/
import Derived.Test.YtmdgmnaaopineaaPen
namespace Go.Proofs.Ytmdgmnaaopineaa
open Go.ChangeShapes Go.WideShapes Go.ChangeAt Go.RowKit
set_option linter.unusedVariables false

def putB (most : Int) (b : List UInt8) (code : Int) (new : List UInt8) : List UInt8 × Int :=
  if code ≠ 0 then (b, code) else if most < b.length + new.length then (b, 2) else (b ++ new, 0)
theorem put_at {w : World} {F : Dom} {g : Nat} {most : Int} {b : List UInt8} {code : Int} (h : Pen w F g most b code) (h0 : 0 ≤ most) (h1 : most ≤ 9223372036854775807) (hb : b.length ≤ 1000000000)
    {D : Dom} {A : Option Addr} {n c : Nat} {new : List UInt8} (hs : rpU8.sl w D A n c new) (hD : ∀ k, D k → k < w.heap.size) (hn : n ≤ 1000000000) :
    Calls Try.prog 134 #[.pointer (some ⟨g, 0, none⟩), .slice A n c] w fun e w' => e = .returned (.tuple #[]) ∧ ∃ F', Pen w' F' g most (putB most b code new).1 (putB most b code new).2 ∧ Chg F w w' ∧ (∀ k, F' k → F k ∨ w.heap.size ≤ k) := by
  have hcode := code_at h
  have hroom := room_at h h0 h1 hb
  have hlt := h.lt
  obtain ⟨hsl, _, _⟩ := Rp.sl_len hs
  have HC := Lib.hid hcode
  have HR := Lib.hid hroom
  have HP := Lib.hid h
  have HS := Lib.hid hs
  clear hcode hroom hs
  by_cases hc0 : code = 0
  · subst hc0
    have hz : ((0 : Int) != 0) = false := rfl
    by_cases hbig : most < b.length + n
    · have hput : putB most b 0 new = (b, 2) := by unfold putB; rw [if_neg (by simp), if_pos (by rw [hsl]; omega)]
      rw [hput]
      have hd : decide (most - (b.length : Int) < (n : Int)) = true := by simp; omega
      have hfail := fun (w' : World) (hw : Below w.heap.size w w') => fail_at (h.below hw) 2
      have HFL := Lib.hid hfail
      clear hfail hput h hlt hD
      go_enter Try.func134, Try.ntmps134
      go_wp2_with fail
      refine HC.out.mono ?_; rintro e w' ⟨rfl, rfl⟩
      go_wp2_with fail
      refine HR.out.mono ?_; rintro e w1 ⟨rfl, hb1⟩
      go_wp2_with fail
      refine (HFL.out _ hb1).mono ?_; rintro e w2 ⟨rfl, hp2, hch⟩
      go_wp2_with fail
      go_end0
      exact ⟨rfl, F, hp2, (Chg.of_pure hb1 F).trans hch, fun k hk => .inl hk⟩
    · have hput : putB most b 0 new = (b ++ new, 0) := by unfold putB; rw [if_neg (by simp), if_neg (by rw [hsl]; omega)]
      rw [hput]
      have hd : decide (most - (b.length : Int) < (n : Int)) = false := by simp; omega
      clear hput h
      go_enter Try.func134, Try.ntmps134
      go_wp2_with fail
      refine HC.out.mono ?_; rintro e w' ⟨rfl, rfl⟩
      go_wp2_with fail
      refine HR.out.mono ?_; rintro e w1 ⟨rfl, hb1⟩
      obtain ⟨A0, n0, c0, hblk, ho, hbn, hF⟩ := HP.out.below hb1
      have hc1 := hblk.cell 1
      have hsrc := Src.bytes (Rp.sl_below HS.out hb1 hD)
      have HB := Lib.hid hblk
      have HO := Lib.hid ho
      have HFF := Lib.hid hF
      have HSR := Lib.hid hsrc
      clear hblk ho hF hsrc hlt hD
      go_wp2_with (at_builtin; refine wpList_app rfl (.tmp 8) (.tmp 9) _ rfl elemB rfl HO.out rfl HSR.out (by unfold maxLen; omega) (by omega) (Nat.zero_le _) ?_; intro A2 c2 w2 ho2 hg2 hat2
                   have hblk2 := HB.out.grown hg2 (Pen.ne HB.out HO.out (by decide))
                   have hc2 := hblk2.cell 1
                   have hf2 := hblk2.frozen 1)
      go_end0
      have hne2 : some g ≠ (Value.slice A2 (n0 + n) c2).ownBlock := Pen.ne hblk2 ho2 (by decide)
      refine ⟨rfl, fun k => k = g ∨ some k = (Value.slice A2 (n0 + n) c2).ownBlock, ⟨A2, n0 + n, c2, hblk2.put 1 _, ?_, by rw [List.length_append, hbn, hsl], fun k => Iff.rfl⟩, ?_, ?_⟩
      · rw [List.map_append]
        exact ho2.kept (grown_setCell _ _ _) (.inr (fun e => hne2 e.symm))
      · refine (Chg.of_pure hb1 F).trans (((Chg.of_grown hg2).more (fun k _ hk => (HFF.out k).2 (.inr hk))).setCell (.inl ((HFF.out g).2 (.inl rfl))) _)
      · rintro k (rfl | hk)
        · exact .inl ((HFF.out _).2 (.inl rfl))
        · rcases hat2 with h | h
          · exact .inl ((HFF.out k).2 (.inr (hk.trans h)))
          · right
            rw [h] at hk
            injection hk with hk
            have := hb1.size
            omega
  · have hput : putB most b code new = (b, code) := by unfold putB; rw [if_pos hc0]
    rw [hput]
    have hz : (code != 0) = true := bne_iff_ne.2 hc0
    clear hput h hc0 hlt hD
    go_enter Try.func134, Try.ntmps134
    go_wp2_with fail
    refine HC.out.mono ?_; rintro e w' ⟨rfl, rfl⟩
    go_wp2_with fail
    go_end0
    exact ⟨rfl, F, HP.out, Chg.refl _ _, fun k hk => .inl hk⟩

theorem new_any (most : Int) (w : World) : Calls Try.prog 50 #[.int .i64 most] w fun e w' => e = .returned (.pointer (some ⟨w.heap.size, 0, none⟩)) ∧ Pen w' (fun k => k = w.heap.size) w.heap.size (max most 0) [] 0 ∧ Below w.heap.size w w' := by
  by_cases h : most < 0
  · have hm : max most 0 = 0 := by omega
    rw [hm]
    clear hm
    go_enter Try.func50, Try.ntmps50
    go_wp2_with fail
    go_ret
    exact ⟨rfl, ⟨none, 0, 0, Blk.new w _ _, World.ownsRow_nil _ _ _ _, rfl, fun k => by simp [Value.ownBlock]⟩, (Below.refl _ _).alloc (Nat.le_refl _) _⟩
  · have hm : max most 0 = most := by omega
    rw [hm]
    clear hm
    go_enter Try.func50, Try.ntmps50
    go_wp2_with fail
    go_ret
    exact ⟨rfl, ⟨none, 0, 0, Blk.new w _ _, World.ownsRow_nil _ _ _ _, rfl, fun k => by simp [Value.ownBlock]⟩, (Below.refl _ _).alloc (Nat.le_refl _) _⟩
theorem bytes_ok {w : World} {F : Dom} {g : Nat} {most : Int} {b : List UInt8} (h : Pen w F g most b 0) (hb : b.length ≤ 1000000000) :
    Calls Try.prog 52 #[.pointer (some ⟨g, 0, none⟩)] w fun e w' => ∃ A n c, e = .returned (.tuple #[.slice A n c, .int .i64 0]) ∧ w'.ownsRow w.heap.size 5 1 (.slice A n c) n (b.map bv) ∧ Below w.heap.size w w' := by
  have hcode := code_at h
  have HC := Lib.hid hcode
  obtain ⟨A, n, cc, hblk, ho, hn, hF⟩ := h
  have hc1 := ((hblk.alloc (.cells #[] 5)).cell 1)
  have hsrc := (Src.bytes (own_bytes (ho.alloc (.cells #[] 5))))
  have hmade := World.ownsRow_made (e := 5) (size := 1) (base := w.heap.size) w #[] 0 (Nat.le_refl _) (by decide) rfl
  have HM := Lib.hid hmade
  have HS := Lib.hid hsrc
  clear hmade hsrc hblk ho hF hcode
  go_enter Try.func52, Try.ntmps52
  go_wp2_with (first
    | (go_at_call 106; refine HC.out.mono ?_; rintro e w' ⟨rfl, rfl⟩)
    | (at_builtin; refine wpList_app rfl (.tmp 10) (.tmp 14) _ rfl elemB rfl HM.out rfl HS.out (by unfold maxLen; omega) (by omega) (by simp) ?_; intro A1 c1 w1 ho1 hg1 hat1; have ho1' := ho1; rw [Nat.zero_add, List.nil_append] at ho1'))
  have hb1 : Below w.heap.size w w1 := ((Below.refl _ _).alloc (Nat.le_refl _) _).grown hg1 (by simp) (fun k hk => (HM.out.lt k hk).1)
  go_ret2
  exact ⟨A1, n, c1, by simp, ho1', hb1⟩
theorem bytes_bad {w : World} {F : Dom} {g : Nat} {most : Int} {b : List UInt8} {code : Int} (h : Pen w F g most b code) (hc0 : code ≠ 0) :
    Calls Try.prog 52 #[.pointer (some ⟨g, 0, none⟩)] w fun e w' => e = .returned (.tuple #[.slice none 0 0, .int .i64 code]) ∧ w = w' := by
  have hcode := code_at h
  have HC := Lib.hid hcode
  have hz : (code != 0) = true := bne_iff_ne.2 hc0
  clear hcode hc0 h
  go_enter Try.func52, Try.ntmps52
  go_wp2_with (go_at_call 106; refine HC.out.mono ?_; rintro e w' ⟨rfl, rfl⟩)
  go_ret2
  exact ⟨rfl, rfl⟩
end Go.Proofs.Ytmdgmnaaopineaa
