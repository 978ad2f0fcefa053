/- The reference's cursor, a value: Fail, Take, End, Part. -/
import Derived.Test.YtmdgmnaaopineaaCur2
namespace Go.Proofs.Ytmdgmnaaopineaa
open Go.ChangeShapes Go.WideShapes Go.ChangeAt Go.RowKit
set_option linter.unusedVariables false

theorem cblk_top (w : World) (cs cs' : Array Value) (t t' : TypeId) : Blk ((w.alloc (.cells cs t)).alloc (.cells cs' t')) (w.heap.size + 1) t' cs' := by
  have h := Blk.new (w.alloc (.cells cs t)) t' cs'
  have e : (w.alloc (.cells cs t)).heap.size = w.heap.size + 1 := by simp
  rw [e] at h
  exact h
theorem cbelow_two (w : World) (o o' : Obj) : Below w.heap.size w ((w.alloc o).alloc o') :=
  ((Below.refl _ w).alloc (Nat.le_refl _) _).alloc (by simp) _
theorem Pen.ne' {w : World} {g : Nat} {e t : TypeId} {cs : Array Value} {base size n : Nat} {v : Value} {xs : List Value} (hb : Blk w g t cs) (ho : w.ownsRow base e size v n xs) (hne : e ≠ t) : some g ≠ v.ownBlock := by
  intro h
  rcases ho.2 with ⟨rfl, _⟩ | ⟨q, cap, cur, rfl, _, hh, _⟩
  · cases h
  · simp only [Value.ownBlock, Option.some.injEq] at h
    subst h
    unfold Blk at hb
    rw [hh] at hb
    injection hb with hb
    injection hb with _ he
    exact hne he
/-- The reference's reader as a value. -/
abbrev rdV (A : Option Addr) (n c : Nat) (p : Int) (f : Flt) : Array Value := #[.slice A n c, .int .i64 p, .int .i64 f.1, .int .i64 f.2]
abbrev rdZ : Array Value := #[.slice none 0 0, .int .i64 0, .int .i64 0, .int .i64 0]

theorem rat_any (c a : Int) (w : World) : Calls Try.prog 132 #[.int .i64 c, .int .i64 a] w fun e w' => e = .returned (.agg #[.int .i64 (failF (0, 0) c a).1, .int .i64 (failF (0, 0) c a).2]) ∧ Below w.heap.size w w' := by
  by_cases h : c = 0
  · subst h
    have e : failF (0, 0) 0 a = (0, 0) := rfl
    rw [e]
    clear e
    go_enter Try.func132, Try.ntmps132
    go_wp2_with fail
    refine bodyPost_ret (v := .agg #[.int .i64 0, .int .i64 0]) (by simp [results, Try.results132, go_sem]) rfl ⟨rfl, ?_⟩
    exact cbelow_two _ _ _
  · have e : failF (0, 0) c a = (c, a) := by unfold failF; rw [if_pos rfl, if_neg h]
    rw [e]
    have hd : (c == 0) = false := by simpa using h
    have hd' : (c != 0) = true := by simpa using h
    clear e
    go_enter Try.func132, Try.ntmps132
    go_wp2_with fail
    refine bodyPost_ret (v := .agg #[.int .i64 c, .int .i64 a]) (by simp [results, Try.results132, go_sem]) rfl ⟨rfl, ?_⟩
    exact cbelow_two _ _ _

theorem rfail_any (A : Option Addr) (n c : Nat) (p : Int) (f : Flt) (cd a : Int) (w : World) : Calls Try.prog 95 #[.agg (rdV A n c p f), .int .i64 cd, .int .i64 a] w fun e w' => e = .returned (.agg (rdV A n c p (failF f cd a))) ∧ Below w.heap.size w w' := by
  have H : Hid ((Try.prog.info? 71).map (·.size) = some 4) := by unfold Hid; kernel_rfl
  by_cases h0 : f.1 = 0
  · have e : failF f cd a = failF (0, 0) cd a := by unfold failF; rw [if_pos h0, if_pos rfl]
    rw [e]
    have hq : (f.1 == 0) = true := by simpa using h0
    have hat := fun w => rat_any cd a w
    clear e h0
    generalize failF (0, 0) cd a = f' at *
    have HAT := Lib.hid hat
    have HK := Lib.hid ((Blk.new w 71 (rdV A n c p f)).alloc (.cells rdZ 71))
    have HR := Lib.hid (cblk_top w (rdV A n c p f) rdZ 71 71)
    have HZ := Lib.hid (cbelow_two w (.cells (rdV A n c p f) 71) (.cells rdZ 71))
    clear hat
    go_enter Try.func95, Try.ntmps95
    go_wp2_with fail
    refine (HAT.out _).mono ?_; rintro e w1 ⟨rfl, hb1⟩
    have hk1 := HK.out.below hb1 HK.out.lt
    have d0 := hk1.cell 0
    have d1 := hk1.cell 1
    have d2 := hk1.cell 2
    have d3 := hk1.cell 3
    have f2 := hk1.frozen 2
    have f3 := hk1.frozen 3
    have HK1 := Lib.hid hk1
    have HR1 := Lib.hid (HR.out.below hb1 HR.out.lt)
    have HB1 := Lib.hid (HZ.out.trans (hb1.mono (by simp; omega)))
    clear hk1 hb1
    go_wp2_with (first
      | (refine wpList_load_at rfl 71 (.tmp 3) rfl ⟨w.heap.size, 0, none⟩ rfl (rdV A n c p f') _ (fun j v hv => by rw [add_plain, Nat.zero_add, ((HK1.out.put 2 _).put 3 _).cell]; exact hv) Try.underlying71 rfl H.out ?_)
      | (refine wpList_put_row rfl 71 (.tmp 6) (.tmp 15) rfl (w.heap.size + 1) (rdV A n c p f') rfl rfl 71 _ ((HR1.out.far (by simp) _).far (by simp) _) H.out rfl (by simp [Value.oneCell']) ?_; intro w3 hblk hgr))
    have hbz : Below w.heap.size w w3 := ((HB1.out.setCell (p := ⟨w.heap.size, 2, none⟩) (Nat.le_refl _) _).setCell (p := ⟨w.heap.size, 3, none⟩) (Nat.le_refl _) _).grown hgr (by have := HB1.out.size; simp; omega) (fun k hk => by injection hk with hk; omega)
    refine bodyPost_ret (results_cell_row rfl _ _ (w.heap.size + 1) 71 _ (0, 0) _ rfl hblk Try.underlying71 rfl H.out) rfl ⟨rfl, hbz⟩
  · have e : failF f cd a = f := by unfold failF; rw [if_neg h0]
    rw [e]
    have hq : (f.1 == 0) = false := by simpa using h0
    clear e h0
    go_enter Try.func95, Try.ntmps95
    go_wp2_with fail
    refine bodyPost_ret (results_cell_row rfl _ _ (w.heap.size + 1) 71 _ (0, 0) _ rfl (cblk_top _ _ _ _ _) Try.underlying71 rfl H.out) rfl ⟨rfl, cbelow_two _ _ _⟩
theorem rend_any (A : Option Addr) (n c p : Nat) (f : Flt) (w : World) (hp : p ≤ n) (hn : n ≤ 1000000000) : Calls Try.prog 61 #[.agg (rdV A n c p f)] w fun e w' => e = .returned (.agg (rdV A n c p (endF n p f))) ∧ Below w.heap.size w w' := by
  have H : Hid ((Try.prog.info? 71).map (·.size) = some 4) := by unfold Hid; kernel_rfl
  by_cases hlt : p < n
  · have e : endF n p f = failF f 9 p := by unfold endF; rw [if_pos hlt]
    rw [e]
    have hd : decide ((p : Int) < (n : Int)) = true := by simpa using hlt
    have HR := Lib.hid (cblk_top w (rdV A n c p f) rdZ 71 71)
    have HZ := Lib.hid (cbelow_two w (.cells (rdV A n c p f) 71) (.cells rdZ 71))
    obtain ⟨f', hf'⟩ : ∃ f', f' = failF f 9 p := ⟨_, rfl⟩
    rw [← hf']
    have HF' := Lib.hid hf'
    clear e hf'
    go_enter Try.func61, Try.ntmps61
    go_wp2_with fail
    refine (rfail_any A n c p f 9 _ _).mono ?_; rintro e w1 ⟨rfl, hb1⟩
    rw [← HF'.out]
    have HR1 := Lib.hid (HR.out.below hb1 HR.out.lt)
    have HB1 := Lib.hid (HZ.out.trans (hb1.mono (by simp; omega)))
    clear hb1
    go_wp2_with (refine wpList_put_row rfl 71 (.tmp 2) (.tmp 12) rfl (w.heap.size + 1) (rdV A n c p f') rfl rfl 71 _ HR1.out H.out rfl (by simp [Value.oneCell']) ?_; intro w3 hblk hgr)
    have hbz : Below w.heap.size w w3 := HB1.out.grown hgr HB1.out.size (fun k hk => by injection hk with hk; omega)
    refine bodyPost_ret (results_cell_row rfl _ _ (w.heap.size + 1) 71 _ (0, 0) _ rfl hblk Try.underlying71 rfl H.out) rfl ⟨rfl, hbz⟩
  · have e : endF n p f = f := by unfold endF; rw [if_neg hlt]
    rw [e]
    have hd : decide ((p : Int) < (n : Int)) = false := by simpa using hlt
    clear e
    go_enter Try.func61, Try.ntmps61
    go_wp2_with fail
    refine bodyPost_ret (results_cell_row rfl _ _ (w.heap.size + 1) 71 _ (0, 0) _ rfl (cblk_top _ _ _ _ _) Try.underlying71 rfl H.out) rfl ⟨rfl, cbelow_two _ _ _⟩
end Go.Proofs.Ytmdgmnaaopineaa
