/- The reference's cursor, a value: Fail, Take, End, Part. -/
import Derived.Test.YtjgcgedjpppfmaaCur2
namespace Go.Proofs.Ytjgcgedjpppfmaa
open Go.ChangeShapes Go.WideShapes Go.ChangeAt Go.RowKit
set_option linter.unusedVariables false

theorem cblk_top (w : World) (cs cs' : Array Value) (t t' : TypeId) : Blk ((w.alloc (.cells cs t)).alloc (.cells cs' t')) (w.heap.size + 1) t' cs' := by
  have h := Blk.new (w.alloc (.cells cs t)) t' cs'
  have e : (w.alloc (.cells cs t)).heap.size = w.heap.size + 1 := by simp
  rw [e] at h
  exact h
theorem cbelow_two (w : World) (o o' : Obj) : Below w.heap.size w ((w.alloc o).alloc o') :=
  ((Below.refl _ w).alloc (Nat.le_refl _) _).alloc (by simp) _
theorem Pen.ne' {w : World} {g : Nat} {e t : TypeId} {cs : Array Value} {base size n : Nat} {v : Value} {xs : List Value} (hb : Blk w g t cs) (ho : w.ownsRow base e size v n xs) (hne : e ≠ t) : some g ≠ v.ownBlock := by
  intro h
  rcases ho.2 with ⟨rfl, _⟩ | ⟨q, cap, cur, rfl, _, hh, _⟩
  · cases h
  · simp only [Value.ownBlock, Option.some.injEq] at h
    subst h
    unfold Blk at hb
    rw [hh] at hb
    injection hb with hb
    injection hb with _ he
    exact hne he
/-- The reference's reader as a value. -/
abbrev rdV (A : Option Addr) (n c : Nat) (p : Int) (f : Flt) : Array Value := #[.slice A n c, .int .i64 p, .int .i64 f.1, .int .i64 f.2]
abbrev rdZ : Array Value := #[.slice none 0 0, .int .i64 0, .int .i64 0, .int .i64 0]

theorem rat_any (c a : Int) (w : World) : Calls Try.prog 48 #[.int .i64 c, .int .i64 a] w fun e w' => e = .returned (.agg #[.int .i64 (failF (0, 0) c a).1, .int .i64 (failF (0, 0) c a).2]) ∧ Below w.heap.size w w' := by
  by_cases h : c = 0
  · subst h
    have e : failF (0, 0) 0 a = (0, 0) := rfl
    rw [e]
    clear e
    go_enter Try.func48, Try.ntmps48
    go_wp2_with fail
    refine bodyPost_ret (v := .agg #[.int .i64 0, .int .i64 0]) (by simp [results, Try.results48, go_sem]) rfl ⟨rfl, ?_⟩
    exact cbelow_two _ _ _
  · have e : failF (0, 0) c a = (c, a) := by unfold failF; rw [if_pos rfl, if_neg h]
    rw [e]
    have hd : (c == 0) = false := by simpa using h
    have hd' : (c != 0) = true := by simpa using h
    clear e
    go_enter Try.func48, Try.ntmps48
    go_wp2_with fail
    refine bodyPost_ret (v := .agg #[.int .i64 c, .int .i64 a]) (by simp [results, Try.results48, go_sem]) rfl ⟨rfl, ?_⟩
    exact cbelow_two _ _ _

theorem rfail_any (A : Option Addr) (n c : Nat) (p : Int) (f : Flt) (cd a : Int) (w : World) : Calls Try.prog 45 #[.agg (rdV A n c p f), .int .i64 cd, .int .i64 a] w fun e w' => e = .returned (.agg (rdV A n c p (failF f cd a))) ∧ Below w.heap.size w w' := by
  have H : Hid ((Try.prog.info? 68).map (·.size) = some 4) := by unfold Hid; kernel_rfl
  by_cases h0 : f.1 = 0
  · have e : failF f cd a = failF (0, 0) cd a := by unfold failF; rw [if_pos h0, if_pos rfl]
    rw [e]
    have hq : (f.1 == 0) = true := by simpa using h0
    have hat := fun w => rat_any cd a w
    clear e h0
    generalize failF (0, 0) cd a = f' at *
    have HAT := Lib.hid hat
    have HK := Lib.hid ((Blk.new w 68 (rdV A n c p f)).alloc (.cells rdZ 68))
    have HR := Lib.hid (cblk_top w (rdV A n c p f) rdZ 68 68)
    have HZ := Lib.hid (cbelow_two w (.cells (rdV A n c p f) 68) (.cells rdZ 68))
    clear hat
    go_enter Try.func45, Try.ntmps45
    go_wp2_with fail
    refine (HAT.out _).mono ?_; rintro e w1 ⟨rfl, hb1⟩
    have hk1 := HK.out.below hb1 HK.out.lt
    have d0 := hk1.cell 0
    have d1 := hk1.cell 1
    have d2 := hk1.cell 2
    have d3 := hk1.cell 3
    have f2 := hk1.frozen 2
    have f3 := hk1.frozen 3
    have HK1 := Lib.hid hk1
    have HR1 := Lib.hid (HR.out.below hb1 HR.out.lt)
    have HB1 := Lib.hid (HZ.out.trans (hb1.mono (by simp; omega)))
    clear hk1 hb1
    go_wp2_with (first
      | (refine wpList_load_at rfl 68 (.tmp 3) rfl ⟨w.heap.size, 0, none⟩ rfl (rdV A n c p f') _ (fun j v hv => by rw [add_plain, Nat.zero_add, ((HK1.out.put 2 _).put 3 _).cell]; exact hv) Try.underlying68 rfl H.out ?_)
      | (refine wpList_put_row rfl 68 (.tmp 6) (.tmp 15) rfl (w.heap.size + 1) (rdV A n c p f') rfl rfl 68 _ ((HR1.out.far (by simp) _).far (by simp) _) H.out rfl (by simp [Value.oneCell']) ?_; intro w3 hblk hgr))
    have hbz : Below w.heap.size w w3 := ((HB1.out.setCell (p := ⟨w.heap.size, 2, none⟩) (Nat.le_refl _) _).setCell (p := ⟨w.heap.size, 3, none⟩) (Nat.le_refl _) _).grown hgr (by have := HB1.out.size; simp; omega) (fun k hk => by injection hk with hk; omega)
    refine bodyPost_ret (results_cell_row rfl _ _ (w.heap.size + 1) 68 _ (0, 0) _ rfl hblk Try.underlying68 rfl H.out) rfl ⟨rfl, hbz⟩
  · have e : failF f cd a = f := by unfold failF; rw [if_neg h0]
    rw [e]
    have hq : (f.1 == 0) = false := by simpa using h0
    clear e h0
    go_enter Try.func45, Try.ntmps45
    go_wp2_with fail
    refine bodyPost_ret (results_cell_row rfl _ _ (w.heap.size + 1) 68 _ (0, 0) _ rfl (cblk_top _ _ _ _ _) Try.underlying68 rfl H.out) rfl ⟨rfl, cbelow_two _ _ _⟩
theorem rtake_any {D : Dom} {A : Option Addr} {n c : Nat} {l : List UInt8} {p : Nat} {f : Flt} {w : World} (h : rpU8.sl w D A n c l) (hD : ∀ k, D k → k < w.heap.size) (hp : p ≤ n) (hn : n ≤ 1000000000) (k : Int) (k0 : -9223372036854775808 ≤ k) (k1 : k ≤ 9223372036854775807) :
    Calls Try.prog 44 #[.agg (rdV A n c p f), .int .i64 k] w fun e w' => ∃ A2 n2 c2, e = .returned (.tuple #[.agg (rdV A n c (skipF n p f k).1 (skipF n p f k).2.1), .slice A2 n2 c2]) ∧ w'.ownsRow w.heap.size 5 1 (.slice A2 n2 c2) n2 ((takeB l p f k).map bv) ∧ Below w.heap.size w w' := by
  have H : Hid ((Try.prog.info? 68).map (·.size) = some 4) := by unfold Hid; kernel_rfl
  obtain ⟨hlen, hnc, hcm⟩ := Rp.sl_len h
  unfold maxLen at hcm
  have HS := Lib.hid h
  have HL := Lib.hid hlen
  clear h
  by_cases h0 : f.1 = 0
  · have hq : (f.1 != 0) = false := by simpa using h0
    have HF0 := Lib.hid h0
    clear h0
    by_cases hneg : k < 0
    · have hs := skipF_bad2 (len := n) (p := p) HF0.out hneg
      have ht : takeB l p f k = [] := by unfold takeB; rw [hlen, hs]; rfl
      rw [hs, ht]
      have hd : decide (k < 0) = true := by simpa using hneg
      clear hs ht hlen
      have HK := Lib.hid ((Blk.new w 68 (rdV A n c p f)).alloc (.cells rdZ 68))
      have HR := Lib.hid (cblk_top w (rdV A n c p f) rdZ 68 68)
      have HZ := Lib.hid (cbelow_two w (.cells (rdV A n c p f) 68) (.cells rdZ 68))
      go_enter Try.func44, Try.ntmps44
      go_wp2_with fail
      refine (rfail_any A n c p f 17 _ _).mono ?_; rintro e w1 ⟨rfl, hb1⟩
      rw [failF_set HF0.out (by decide)]
      have HR1 := Lib.hid (HR.out.below hb1 HR.out.lt)
      have HB1 := Lib.hid (HZ.out.trans (hb1.mono (by simp; omega)))
      clear hb1
      go_wp2_with (refine wpList_put_row rfl 68 (.tmp 4) (.tmp 17) rfl (w.heap.size + 1) (rdV A n c p (17, (p : Int))) rfl rfl 68 _ HR1.out H.out rfl (by simp [Value.oneCell']) ?_; intro w3 hblk hgr)
      have hbz : Below w.heap.size w w3 := HB1.out.grown hgr HB1.out.size (fun k hk => by injection hk with hk; omega)
      have e0 := hblk.cell 0
      have e1 := hblk.cell 1
      have e2 := hblk.cell 2
      have e3 := hblk.cell 3
      refine bodyPost_ret (v := .tuple #[.agg (rdV A n c p (17, (p : Int))), .slice none 0 0]) (by simp [results, Try.results44, go_sem, e0, e1, e2, e3]) rfl ⟨none, 0, 0, rfl, World.ownsRow_nil _ _ _ _, hbz⟩
    · by_cases hbig : (n : Int) - p < k
      · have hs := skipF_bad3 (len := n) (p := p) HF0.out hneg hbig
        have ht : takeB l p f k = [] := by unfold takeB; rw [hlen, hs]; rfl
        rw [hs, ht]
        have hd : decide (k < 0) = false := by simpa using hneg
        have hd2 : decide ((n : Int) - p < k) = true := by simpa using hbig
        clear hs ht hlen
        have HK := Lib.hid ((Blk.new w 68 (rdV A n c p f)).alloc (.cells rdZ 68))
        have HR := Lib.hid (cblk_top w (rdV A n c p f) rdZ 68 68)
        have HZ := Lib.hid (cbelow_two w (.cells (rdV A n c p f) 68) (.cells rdZ 68))
        go_enter Try.func44, Try.ntmps44
        go_wp2_with fail
        refine (rfail_any A n c p f 1 _ _).mono ?_; rintro e w1 ⟨rfl, hb1⟩
        rw [failF_set HF0.out (by decide)]
        have HR1 := Lib.hid (HR.out.below hb1 HR.out.lt)
        have HB1 := Lib.hid (HZ.out.trans (hb1.mono (by simp; omega)))
        clear hb1
        go_wp2_with (refine wpList_put_row rfl 68 (.tmp 4) (.tmp 30) rfl (w.heap.size + 1) (rdV A n c p (1, (n : Int))) rfl rfl 68 _ HR1.out H.out rfl (by simp [Value.oneCell']) ?_; intro w3 hblk hgr)
        have hbz : Below w.heap.size w w3 := HB1.out.grown hgr HB1.out.size (fun k hk => by injection hk with hk; omega)
        have e0 := hblk.cell 0
        have e1 := hblk.cell 1
        have e2 := hblk.cell 2
        have e3 := hblk.cell 3
        refine bodyPost_ret (v := .tuple #[.agg (rdV A n c p (1, (n : Int))), .slice none 0 0]) (by simp [results, Try.results44, go_sem, e0, e1, e2, e3]) rfl ⟨none, 0, 0, rfl, World.ownsRow_nil _ _ _ _, hbz⟩
      · have hs := skipF_ok (len := n) (p := p) HF0.out hneg hbig
        obtain ⟨k, rfl⟩ : ∃ k' : Nat, k = k' := ⟨k.toNat, by omega⟩
        have ht : takeB l p f k = cutB l p k := by unfold takeB; rw [hlen, hs]; rfl
        rw [hs, ht]
        rw [Int.toNat_natCast]
        obtain ⟨A', hcut, hsl2⟩ := run_cut_lh elemU HS.out rfl (p : Int) ((p : Int) + k) (by omega) (by omega) (by omega)
        have e1 : ((p : Int) + k).toNat = p + k := by omega
        rw [e1] at hcut hsl2
        rw [Int.toNat_natCast, show p + k - p = k by omega] at hcut hsl2
        have hd : decide ((k : Int) < 0) = false := by simp
        have hd2 : decide ((n : Int) - p < (k : Int)) = false := by simpa using hbig
        have HK := Lib.hid ((Blk.new w 68 (rdV A n c p f)).alloc (.cells rdZ 68))
        have HR := Lib.hid (cblk_top w (rdV A n c p f) rdZ 68 68)
        have hz := (cbelow_two w (.cells (rdV A n c p f) 68) (.cells rdZ 68))
        have HZ := Lib.hid hz
        have HSR := Lib.hid (Src.bytes (Rp.sl_below hsl2 hz hD))
        clear hs ht e1 hsl2 hlen hz
        go_enter Try.func44, Try.ntmps44
        go_wp2_with (first
          | (at_builtin; refine wpList_app rfl (.tmp 31) (.tmp 40) _ rfl elemU rfl (show World.ownsRow _ w.heap.size 5 1 (.slice none 0 0) 0 (List.map bv []) from World.ownsRow_nil _ _ _ _) rfl HSR.out (by unfold maxLen; omega) (by omega) (by simp; omega) ?_; intro A1 c1 w1 ho1 hg1 hat1
             change World.grownBy _ _ none at hg1
             have hb1 : Below w.heap.size w w1 := HZ.out.grown hg1 (by simp; omega) (fun k hk => by cases hk)
             have HB1 := Lib.hid hb1
             have hk1 := HK.out.grown hg1 (by simp)
             have HK1 := Lib.hid hk1
             have HR1 := Lib.hid (HR.out.grown hg1 (by simp))
             rw [Nat.zero_add, ← List.map_append, List.nil_append] at ho1
             have HO1 := Lib.hid ho1
             have hz1 := hb1.size
             have d0 := hk1.cell 0
             have d1 := hk1.cell 1
             have d2 := hk1.cell 2
             have d3 := hk1.cell 3
             have f1 := hk1.frozen 1
             clear ho1 hg1 hat1 hb1 hk1)
          | (refine wpList_load_at rfl 68 (.tmp 2) rfl ⟨w.heap.size, 0, none⟩ rfl (rdV A n c ((p : Int) + k) f) _ (fun j v hv => by rw [add_plain, Nat.zero_add, (HK1.out.put 1 _).cell]; exact hv) Try.underlying68 rfl H.out ?_)
          | (refine wpList_put_row rfl 68 (.tmp 4) (.tmp 47) rfl (w.heap.size + 1) (rdV A n c ((p : Int) + k) f) rfl rfl 68 _ (HR1.out.far (by simp) _) H.out rfl (by simp [Value.oneCell']) ?_; intro w3 hblk hgr))
        have hne : ∀ q, (Value.slice A1 k c1).ownBlock ≠ some (w.heap.size + q) ∨ True := fun _ => .inr trivial
        have hn0 : some w.heap.size ≠ (Value.slice A1 k c1).ownBlock := Pen.ne' HK1.out HO1.out (by decide)
        have hn1 : some (w.heap.size + 1) ≠ (Value.slice A1 k c1).ownBlock := Pen.ne' HR1.out HO1.out (by decide)
        have ho3 := ((HO1.out.kept (grown_setCell w1 ⟨w.heap.size, 1, none⟩ (.int .i64 ((p : Int) + k))) (.inr (fun e => hn0 e.symm))).kept hgr (.inr (fun e => hn1 e.symm)))
        have hbz : Below w.heap.size w w3 := (HB1.out.setCell (p := ⟨w.heap.size, 1, none⟩) (Nat.le_refl _) _).grown hgr (by have := HB1.out.size; simp; omega) (fun k hk => by injection hk with hk; omega)
        have e0 := hblk.cell 0
        have e1 := hblk.cell 1
        have e2 := hblk.cell 2
        have e3 := hblk.cell 3
        refine bodyPost_ret (v := .tuple #[.agg (rdV A n c ((p : Int) + k) f), .slice A1 k c1]) (by simp [results, Try.results44, go_sem, e0, e1, e2, e3]) rfl ⟨A1, k, c1, by simp, ho3, hbz⟩
  · have hs := skipF_bad1 (len := n) (p := p) (n := k) h0
    have ht : takeB l p f k = [] := by unfold takeB; rw [hlen, hs]; rfl
    rw [hs, ht]
    have hq : (f.1 != 0) = true := by simpa using h0
    clear hs ht hlen h0
    go_enter Try.func44, Try.ntmps44
    go_wp2_with fail
    have hblk := cblk_top w (rdV A n c p f) (rdV A n c p f) 68 68
    refine bodyPost_ret (v := .tuple #[.agg (rdV A n c p f), .slice none 0 0]) (by simp [results, Try.results44, go_sem]) rfl ⟨none, 0, 0, rfl, World.ownsRow_nil _ _ _ _, cbelow_two _ _ _⟩
theorem rend_any (A : Option Addr) (n c p : Nat) (f : Flt) (w : World) (hp : p ≤ n) (hn : n ≤ 1000000000) : Calls Try.prog 46 #[.agg (rdV A n c p f)] w fun e w' => e = .returned (.agg (rdV A n c p (endF n p f))) ∧ Below w.heap.size w w' := by
  have H : Hid ((Try.prog.info? 68).map (·.size) = some 4) := by unfold Hid; kernel_rfl
  by_cases hlt : p < n
  · have e : endF n p f = failF f 9 p := by unfold endF; rw [if_pos hlt]
    rw [e]
    have hd : decide ((p : Int) < (n : Int)) = true := by simpa using hlt
    have HR := Lib.hid (cblk_top w (rdV A n c p f) rdZ 68 68)
    have HZ := Lib.hid (cbelow_two w (.cells (rdV A n c p f) 68) (.cells rdZ 68))
    obtain ⟨f', hf'⟩ : ∃ f', f' = failF f 9 p := ⟨_, rfl⟩
    rw [← hf']
    have HF' := Lib.hid hf'
    clear e hf'
    go_enter Try.func46, Try.ntmps46
    go_wp2_with fail
    refine (rfail_any A n c p f 9 _ _).mono ?_; rintro e w1 ⟨rfl, hb1⟩
    rw [← HF'.out]
    have HR1 := Lib.hid (HR.out.below hb1 HR.out.lt)
    have HB1 := Lib.hid (HZ.out.trans (hb1.mono (by simp; omega)))
    clear hb1
    go_wp2_with (refine wpList_put_row rfl 68 (.tmp 2) (.tmp 12) rfl (w.heap.size + 1) (rdV A n c p f') rfl rfl 68 _ HR1.out H.out rfl (by simp [Value.oneCell']) ?_; intro w3 hblk hgr)
    have hbz : Below w.heap.size w w3 := HB1.out.grown hgr HB1.out.size (fun k hk => by injection hk with hk; omega)
    refine bodyPost_ret (results_cell_row rfl _ _ (w.heap.size + 1) 68 _ (0, 0) _ rfl hblk Try.underlying68 rfl H.out) rfl ⟨rfl, hbz⟩
  · have e : endF n p f = f := by unfold endF; rw [if_neg hlt]
    rw [e]
    have hd : decide ((p : Int) < (n : Int)) = false := by simpa using hlt
    clear e
    go_enter Try.func46, Try.ntmps46
    go_wp2_with fail
    refine bodyPost_ret (results_cell_row rfl _ _ (w.heap.size + 1) 68 _ (0, 0) _ rfl (cblk_top _ _ _ _ _) Try.underlying68 rfl H.out) rfl ⟨rfl, cbelow_two _ _ _⟩
end Go.Proofs.Ytjgcgedjpppfmaa
