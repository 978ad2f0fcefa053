/- (*Chain).Add, AddTo. -/
import Derived.Test.YtkffgmpkpafkmaaCh
namespace Go.Proofs.Ytkffgmpkpafkmaa
open Go.ChangeShapes Go.WideShapes Go.ChangeAt Go.RowKit Go.Maps
set_option linter.unusedVariables false
section
variable {U : Dom} {w : World} {B g m : Nat} {l : List UInt8}
theorem add_none : Calls Try.prog 22 #[.pointer none] w fun e w' => e = .returned (.bool false) ∧ w = w' := by
  go_enter Try.func22, Try.ntmps22
  go_wp2_with fail
  refine added_none.mono ?_; rintro e w1 ⟨rfl, rfl⟩
  go_wp2_with fail
  go_ret
  exact ⟨rfl, rfl⟩
theorem add_full (h : Chn U w B g l l.length) (hl : l.length ≤ 1000000) : Calls Try.prog 22 #[.pointer (some ⟨g, 0, none⟩)] w fun e w' => e = .returned (.bool false) ∧ w = w' := by
  have hc := added_any h
  obtain ⟨Ab, cb, mb, Ap, cp, Db, Dm, h1, h2, h3, hu, h4, h6, h7, h8, h9, hr⟩ := h
  have k0 : w.cell? ⟨g, 0, none⟩ = some (.slice Ab l.length cb) := h1.cell 0
  have HC := Lib.hid hc
  clear hc h1 h2 h3 hu h4 h6 h7 h8 h9 hr
  go_enter Try.func22, Try.ntmps22
  go_wp2_with fail
  refine HC.out.mono ?_; rintro e w1 ⟨rfl, rfl⟩
  go_wp2_with fail
  go_ret
  exact ⟨rfl, rfl⟩
theorem lt_maxLen {m : Nat} (h : m ≤ 1000000) : m < maxLen := by unfold maxLen; omega
theorem el_wf (m : Nat) (h : m ≤ 1000000) : El (.int .i64 ((m : Int) + 1)) = some (.lit (.int .i64 ((m : Int) + 1)), []) := plainElem_int Try.underlying3 (by simp [Lit.wf, IntKind.min, IntKind.max, IntKind.signed, IntKind.bits]; omega)
/-- What is not of U lies as it lay. -/
def Off (U : Dom) (w w' : World) : Prop := ∀ k, k < w.heap.size → ¬ U k → w'.heap[k]? = w.heap[k]?
theorem Off.refl (U : Dom) (w : World) : Off U w w := fun _ _ _ => rfl
theorem Off.trans {U : Dom} {a b c : World} (h : Off U a b) (hz : a.heap.size ≤ b.heap.size) (k : Off U b c) : Off U a c := fun j hj hn => (k j (Nat.lt_of_lt_of_le hj hz) hn).trans (h j hj hn)
/-- One place more. -/
theorem Chn.push {w1 w2 : World} {o : Obj} {Ab : Option Addr} {cb mb : Nat} {Ap : Option Addr} {cp : Nat} {Db : Dom} {Dm : DataW Unit} {A1 : Option Addr} {c1 : Nat}
    (h1 : Blk w g 54 #[.slice Ab l.length cb, .map (some mb), .slice Ap m cp]) (h2 : rpU8.sl w Db Ab l.length cb l) (h3 : ∀ k, Db k → B ≤ k ∧ k < w.heap.size ∧ k ≠ g ∧ k ≠ mb ∧ some k ≠ (Value.slice Ap m cp).ownBlock)
    (hu : (∀ k, Db k → U k) ∧ U g ∧ U mb ∧ ∀ k, (Value.slice Ap m cp).ownBlock = some k → U k) (hU : ∀ k, w.heap.size ≤ k → U k)
    (h4 : w1.ownsMap Try.prog 24 El mb (m + 1) Dm) (h6 : LastMap l (m + 1) Dm) (hg1 : w.grownBy w1 (some mb)) (hmb : mb < w.heap.size)
    (h8 : B ≤ g) (h9 : B ≤ mb) (h10 : mb ≠ g) (h11 : (Value.slice Ap m cp).ownBlock ≠ some g) (h12 : (Value.slice Ap m cp).ownBlock ≠ some mb) (hAp : ∀ k, (Value.slice Ap m cp).ownBlock = some k → B ≤ k) (hm : m < l.length)
    (ho2 : w2.ownsRow B 3 1 (.slice A1 (m + 1) c1) (m + 1) ((prevs l (m + 1)).map iv)) (hg2 : (w1.alloc o).grownBy w2 (Value.slice Ap m cp).ownBlock)
    (hat : (Value.slice A1 (m + 1) c1).ownBlock = (Value.slice Ap m cp).ownBlock ∨ (Value.slice A1 (m + 1) c1).ownBlock = some (w1.heap.size + 1)) :
    Chn U (w2.setCell ⟨g, 2, none⟩ (.slice A1 (m + 1) c1)) B g l (m + 1) ∧ Below B w (w2.setCell ⟨g, 2, none⟩ (.slice A1 (m + 1) c1)) ∧ Off U w (w2.setCell ⟨g, 2, none⟩ (.slice A1 (m + 1) c1)) := by
  have hgl := h1.lt
  have z1 := hg1.size
  have z2 := hg2.size
  rw [size_alloc] at z2
  have kg1 : Blk w1 g 54 #[.slice Ab l.length cb, .map (some mb), .slice Ap m cp] := h1.grown hg1 (fun e => by injection e with e; exact h10 e.symm)
  have kg2 := (kg1.alloc o).grown hg2 (fun e => h11 e.symm)
  have hA1g : (Value.slice A1 (m + 1) c1).ownBlock ≠ some g := by
    rcases hat with e | e
    · rw [e]; exact h11
    · rw [e]; intro e2; injection e2 with e2; omega
  have hA1m : (Value.slice A1 (m + 1) c1).ownBlock ≠ some mb := by
    rcases hat with e | e
    · rw [e]; exact h12
    · rw [e]; intro e2; injection e2 with e2; omega
  have hblk : ∀ k, k < w.heap.size → k ≠ g → k ≠ mb → some k ≠ (Value.slice Ap m cp).ownBlock → (w2.setCell ⟨g, 2, none⟩ (.slice A1 (m + 1) c1)).heap[k]? = w.heap[k]? := fun k hk hk1 hk2 hk3 => by
    rw [Below.heap_setCell w2 ⟨g, 2, none⟩ _ k hk1, hg2.block k (by rw [size_alloc]; omega) hk3, Below.heap_alloc w1 o k (by omega), hg1.block k hk (fun e => by injection e with e; exact hk2 e)]
  have hB : Below B w (w2.setCell ⟨g, 2, none⟩ (.slice A1 (m + 1) c1)) := by
    have b1 : Below B w w1 := (Below.refl B w).grown hg1 (by omega) (fun k e => by injection e with e; omega)
    have b2 : Below B w (w1.alloc o) := b1.alloc (by omega) _
    have b3 : Below B w w2 := b2.grown hg2 (by simp; omega) (fun k e => hAp k e)
    exact b3.setCell (p := ⟨g, 2, none⟩) h8 _
  refine ⟨⟨Ab, cb, mb, A1, c1, Db, Dm, kg2.put 2 _, Rp.sl_keep h2 (fun k hk => hblk k (h3 k hk).2.1 (h3 k hk).2.2.1 (h3 k hk).2.2.2.1 (h3 k hk).2.2.2.2), fun k hk => ⟨(h3 k hk).1, Nat.lt_of_lt_of_le (h3 k hk).2.1 hB.size, (h3 k hk).2.2.1, (h3 k hk).2.2.2.1, ?_⟩, ⟨hu.1, hu.2.1, hu.2.2.1, ?_⟩, ?_, h6, ?_, h8, h9, h10, hA1g, hA1m, hm⟩, hB, fun k hk hn => hblk k hk (fun e => hn (e ▸ hu.2.1)) (fun e => hn (e ▸ hu.2.2.1)) (fun e => hn (hu.2.2.2 k e.symm))⟩
  · rcases hat with e | e
    · rw [e]; exact (h3 k hk).2.2.2.2
    · rw [e]; intro e2; injection e2 with e2; have := (h3 k hk).2.1; omega
  · intro k hk
    rcases hat with e | e
    · exact hu.2.2.2 k (e ▸ hk)
    · rw [e] at hk; injection hk with hk; exact hU k (by omega)
  · exact ((h4.alloc o).kept hg2 (fun e => h12 e.symm)).setCell (a := ⟨g, 2, none⟩) h10 _
  · exact ownsRow_setCell_other ho2 (a := ⟨g, 2, none⟩) hA1g _
set_option maxRecDepth 100000 in
set_option maxHeartbeats 4000000 in
theorem add_tail (hU : ∀ k, w.heap.size ≤ k → U k) (h : Chn U w B g l m) (hm : m < l.length) (hk : l.length < m + 4) (hl : l.length ≤ 1000000) : Calls Try.prog 22 #[.pointer (some ⟨g, 0, none⟩)] w fun e w' => e = .returned (.bool true) ∧ Chn U w' B g l (m + 1) ∧ Below B w w' ∧ Off U w w' := by
  have hc := added_any h
  obtain ⟨Ab, cb, mb, Ap, cp, Db, Dm, h1, h2, h3, hu, h4, h6, h7, h8, h9, h10, h11, h12, hml⟩ := h
  have k0 : w.cell? ⟨g, 0, none⟩ = some (.slice Ab l.length cb) := h1.cell 0
  have k2 : w.cell? ⟨g, 2, none⟩ = some (.slice Ap m cp) := h1.cell 2
  have hkey := key_bad (w := w) (m : Int) h2 (by omega) (by omega) (.inr (by omega))
  have HC := Lib.hid hc
  have HKEY := Lib.hid hkey
  have HO := Lib.hid h7
  have H1 := Lib.hid h1
  have hBs : B ≤ w.heap.size := by have := h1.lt; omega
  have HFIN : Hid (∀ (A1 : Option Addr) (c1 : Nat) (w2 : World) (o : Obj), w2.ownsRow B 3 1 (.slice A1 (m + 1) c1) (m + 1) ((prevs l m).map iv ++ [iv 0]) → (w.alloc o).grownBy w2 (Value.slice Ap m cp).ownBlock →
    ((Value.slice A1 (m + 1) c1).ownBlock = (Value.slice Ap m cp).ownBlock ∨ (Value.slice A1 (m + 1) c1).ownBlock = some (w.alloc o).heap.size) →
    Chn U (w2.setCell ⟨g, 2, none⟩ (.slice A1 (m + 1) c1)) B g l (m + 1) ∧ Below B w (w2.setCell ⟨g, 2, none⟩ (.slice A1 (m + 1) c1)) ∧ Off U w (w2.setCell ⟨g, 2, none⟩ (.slice A1 (m + 1) c1))) := fun A1 c1 w2 o ho2 hg2 hat =>
    Chn.push h1 h2 h3 hu hU (h4.mono (Nat.le_succ m)) (h6.skip hk) (World.grownBy.refl w _) h4.lt h8 h9 h10 h11 h12 (fun k hk => (h7.lt k hk).1) hm (by rw [prevs_succ, List.map_append]; unfold prevOf; rw [if_neg (by omega)]; exact ho2) hg2 (by rwa [size_alloc] at hat)
  have H11 := Lib.hid h11
  clear hc hkey h1 h2 h3 hu h4 h6 h7 h8 h9 h10 h11 h12
  go_enter Try.func22, Try.ntmps22
  go_wp2_with fail
  refine HC.out.mono ?_; rintro e w1 ⟨rfl, rfl⟩
  go_wp2_with fail
  refine HKEY.out.mono ?_; rintro e w1 ⟨rfl, rfl⟩
  go_wp2_with (refine wpList_app rfl (.tmp 47) (.tmp 49) 35 rfl elemI rfl (HO.out.alloc _) rfl (Src.new w (iv 0) _ rfl) (by unfold maxLen; omega) (by omega) (by simp; omega) ?_; intro A1 c1 w2 ho2 hg2 hat2; have hk2 := Blk.grown ((show Blk _ _ _ _ from H1.out).alloc _) hg2 (fun e => H11.out e.symm); have q2 := hk2.cell 2; have q2f := hk2.frozen 2; have HF := Lib.hid (HFIN.out A1 c1 w2 _ ho2 hg2 hat2); clear ho2 hg2 hat2 hk2)
  go_ret
  exact ⟨rfl, HF.out⟩
set_option maxRecDepth 100000 in
set_option maxHeartbeats 4000000 in
theorem add_key (hU : ∀ k, w.heap.size ≤ k → U k) (h : Chn U w B g l m) (hk : m + 4 ≤ l.length) (hl : l.length ≤ 1000000) : Calls Try.prog 22 #[.pointer (some ⟨g, 0, none⟩)] w fun e w' => e = .returned (.bool true) ∧ Chn U w' B g l (m + 1) ∧ Below B w w' ∧ Off U w w' := by
  have hc := added_any h
  obtain ⟨Ab, cb, mb, Ap, cp, Db, Dm, h1, h2, h3, hu, h4, h6, h7, h8, h9, h10, h11, h12, hml⟩ := h
  have k0 : w.cell? ⟨g, 0, none⟩ = some (.slice Ab l.length cb) := h1.cell 0
  have k1 : w.cell? ⟨g, 1, none⟩ = some (.map (some mb)) := h1.cell 1
  have k2 : w.cell? ⟨g, 2, none⟩ = some (.slice Ap m cp) := h1.cell 2
  have hkey := key_ok (w := w) m h2 hk
  have hlook := h6.look _ (keyAt_lt l m)
  obtain ⟨x, hx⟩ : ∃ x, x = keyAt l m := ⟨_, rfl⟩
  have hxl : x < 4294967296 := by rw [hx]; exact keyAt_lt l m
  have HX := Lib.hid (u32_key x hxl)
  have hlo : lastOf l m (keyAt l m) = prevOf l m := by unfold prevOf; rw [if_pos hk]
  rw [hlo] at hlook
  have hpl := prevOf_le l m
  obtain ⟨y, hy⟩ : ∃ y, y = prevOf l m := ⟨_, rfl⟩
  rw [← hx] at hkey hlook
  rw [← hy] at hlook hpl
  have HL := Lib.hid hlook
  have HC := Lib.hid hc
  have HKEY := Lib.hid hkey
  have HO := Lib.hid h7
  have HM := Lib.hid h4
  have H1 := Lib.hid h1
  have hgl := h1.lt
  have hBs : B ≤ w.heap.size := by omega
  have HFIN : Hid (∀ (A1 : Option Addr) (c1 : Nat) (w1 w2 : World) (o : Obj), w1.ownsMap Try.prog 24 El mb (m + 1) (Dm.put (.int .u32 (x : Int)) (.lit (.int .i64 ((m : Int) + 1)))) → w.grownBy w1 (some mb) → w2.ownsRow B 3 1 (.slice A1 (m + 1) c1) (m + 1) ((prevs l m).map iv ++ [iv (y : Int)]) → (w1.alloc o).grownBy w2 (Value.slice Ap m cp).ownBlock →
    ((Value.slice A1 (m + 1) c1).ownBlock = (Value.slice Ap m cp).ownBlock ∨ (Value.slice A1 (m + 1) c1).ownBlock = some (w1.alloc o).heap.size) →
    Chn U (w2.setCell ⟨g, 2, none⟩ (.slice A1 (m + 1) c1)) B g l (m + 1) ∧ Below B w (w2.setCell ⟨g, 2, none⟩ (.slice A1 (m + 1) c1)) ∧ Off U w (w2.setCell ⟨g, 2, none⟩ (.slice A1 (m + 1) c1))) := fun A1 c1 w1 w2 o hm1 hg1 ho2 hg2 hat =>
    Chn.push h1 h2 h3 hu hU hm1 (by rw [hx]; exact h6.put hk) hg1 h4.lt h8 h9 h10 h11 h12 (fun k hk => (h7.lt k hk).1) (by omega) (by rw [prevs_succ, List.map_append, ← hy]; exact ho2) hg2 (by rwa [size_alloc] at hat)
  have H11 := Lib.hid h11
  have H12 := Lib.hid h12
  have H10 := Lib.hid h10
  have hml2 : m < l.length := by omega
  have HPL := Lib.hid hpl
  have HMX : Hid (m < maxLen) := lt_maxLen (by omega)
  have hm6 : m ≤ 1000000 := by omega
  clear hpl
  clear hgl
  clear hc hkey h1 h2 h3 hu h4 h6 h7 h8 h9 h10 h11 h12 hx hy hlo hlook hxl hk
  go_enter Try.func22, Try.ntmps22
  go_wp2_with fail
  refine HC.out.mono ?_; rintro e w1 ⟨rfl, rfl⟩
  go_wp2_with fail
  refine HKEY.out.mono ?_; rintro e w1 ⟨rfl, rfl⟩
  go_wp2_with (first
    | (at_lookup; refine wpList_lookup_own_int w rfl (.tmp 33) (.tmp 34) 52 rfl 24 3 .i64 keyedU Try.underlying52 Try.underlying3 (Try.zeroValue3 _) mb m Dm rfl HM.out _ _ rfl HX.out ?_; intro cc hat hwc; have hcc : cc = (y : Int) := (by rw [HL.out] at hat; injection hat with hat; injection hat with _ hat; exact hat.symm); subst hcc; clear hat hwc)
    | (at_mapUpdate; refine wpList_mapUpdate_own w rfl (.tmp 39) (.tmp 40) (.tmp 42) 52 rfl 24 3 keyedU Try.underlying52 El mb m Dm rfl HM.out HMX.out (.int .u32 (x : Int)) (.int .i64 ((m : Int) + 1)) (.int .u32 (x : Int)) rfl rfl HX.out (.lit (.int .i64 ((m : Int) + 1))) [] (el_wf m hm6) ?_; intro w1 hm1 hg1; have hk1 := Blk.grown (show Blk _ _ _ _ from H1.out) hg1 (fun e => by injection e with e; exact H10.out e.symm); have p2 := hk1.cell 2; have HM1 := Lib.hid hm1; have HG1 := Lib.hid hg1; have HK1 := Lib.hid hk1; have HO1 := Lib.hid (HO.out.kept hg1 (.inr H12.out)); have hz1 := hg1.size; clear hm1 hg1 hk1)
    | (refine wpList_app rfl (.tmp 47) (.tmp 49) 35 rfl elemI rfl (HO1.out.alloc _) rfl (Src.new w1 (iv (y : Int)) _ rfl) (by unfold maxLen; omega) (by omega) (by simp; omega) ?_; intro A1 c1 w2 ho2 hg2 hat2; have hk2 := Blk.grown ((show Blk _ _ _ _ from HK1.out).alloc _) hg2 (fun e => H11.out e.symm); have q2 := hk2.cell 2; have q2f := hk2.frozen 2; have HF := Lib.hid (HFIN.out A1 c1 w1 w2 _ HM1.out HG1.out ho2 hg2 hat2); clear ho2 hg2 hat2 hk2))
  go_ret
  exact ⟨rfl, HF.out⟩
/-- Add, of any chain. -/
theorem add_any (hU : ∀ k, w.heap.size ≤ k → U k) (h : Chn U w B g l m) (hl : l.length ≤ 1000000) : Calls Try.prog 22 #[.pointer (some ⟨g, 0, none⟩)] w fun e w' => e = .returned (.bool (decide (m < l.length))) ∧ Chn U w' B g l (min (m + 1) l.length) ∧ Below B w w' ∧ Off U w w' := by
  have hm := h.le
  by_cases h1 : m < l.length
  · rw [decide_eq_true h1, show min (m + 1) l.length = m + 1 by omega]
    by_cases h2 : m + 4 ≤ l.length
    · exact add_key hU h h2 hl
    · exact add_tail hU h h1 (by omega) hl
  · obtain rfl : m = l.length := by omega
    rw [decide_eq_false h1, show min (l.length + 1) l.length = l.length by omega]
    refine (add_full h hl).mono ?_
    rintro e w' ⟨rfl, rfl⟩
    exact ⟨rfl, h, Below.refl _ _, Off.refl _ _⟩
end
end Go.Proofs.Ytkffgmpkpafkmaa
