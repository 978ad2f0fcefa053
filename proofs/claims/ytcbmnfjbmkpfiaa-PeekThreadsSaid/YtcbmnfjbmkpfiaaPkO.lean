/- peek.Cut. -/
import Derived.Test.YtcbmnfjbmkpfiaaPkW
namespace Go.Proofs.Ytcbmnfjbmkpfiaa
open Go.ChangeShapes Go.WideShapes Go.ChangeAt Go.RowKit
set_option linter.unusedVariables false
theorem run_cutU {α : Type} {P : Program} {T e : TypeId} {size bytes : Nat} {r : Rp α} {w : World} {D : Dom} {A : Option Addr} {n c : Nat} {l : List α} (E : Elem P T e size bytes) (h : r.sl w D A n c l) (hs : r.size = size) (lo hi : Nat) (h1 : lo ≤ hi) (h2 : hi ≤ n) :
    ∃ A', (∀ w', (Instr.slice T (.slice A n c) (some (.int .u64 (lo : Int))) (some (.int .u64 (hi : Int))) (some (.int .u64 (hi : Int)))).run P w' = .ok (.slice A' (hi - lo) (hi - lo)) w') ∧ ∀ w2 D2, r.sl w2 D2 A n c l → r.sl w2 D2 A' (hi - lo) (hi - lo) ((l.take hi).drop lo) := by
  obtain ⟨hlen, hnc, hcm⟩ := Rp.sl_len h
  refine ⟨_, fun w' => ?_, fun w2 D2 h => Rp.cut h h1 h2 (Nat.le_refl hi) (by omega)⟩
  rw [run_slice_lhm w' T A n c (by rw [E.elem]; exact E.ht) .u64 .u64 .u64 (lo : Int) (hi : Int) (hi : Int) (by omega) (by omega) (by omega) (by omega), E.elem, E.sizeOf, hs]
  rfl
def CutOk (ep b : Nat) (es : List Ent) (fr tt : Nat) : Prop := BatOk ep b es ∧ b ≤ fr ∧ fr < tt ∧ tt ≤ b + es.length
def CutIs (w : World) (ep b : Nat) (es : List Ent) (fr tt : Nat) (e : Ending) (w' : World) : Prop :=
  Below w.heap.size w w' ∧ ((CutOk ep b es fr tt ∧ ∃ A' c', e = .returned (.tuple #[.agg (batV ep fr A' (tt - fr) c'), .bool true]) ∧ rpEnt.sl w' (fun k => k < w'.heap.size) A' (tt - fr) c' ((es.take (tt - b)).drop (fr - b))) ∨
    (¬ CutOk ep b es fr tt ∧ e = .returned (.tuple #[.agg zB, .bool false])))
section
variable {D : Dom} {A : Option Addr} {n c ep b fr tt : Nat} {es : List Ent} {w : World}
set_option maxRecDepth 100000 in
set_option maxHeartbeats 4000000 in
theorem cut_any (hs : rpEnt.sl w D A n c es) (hD : ∀ k, D k → k < w.heap.size) (hE : EBd es) (hT : totL es ≤ 100000) (he : ep ≤ 18446744073709551615) (hb : b ≤ 18446744073709551615) (hf : fr ≤ 18446744073709551615) (ht : tt ≤ 18446744073709551615) :
    Calls Try.prog 12 #[.agg (batV ep b A n c), .int .u64 (fr : Int), .int .u64 (tt : Int)] w (CutIs w ep b es fr tt) := by
  have hb2 := below2 w (.cells (batV ep b A n c) 25) (.cells zB 25)
  have HB2 := Lib.hid hb2
  have K1 := Lib.hid (blk21 w 25 25 (batV ep b A n c) zB)
  have K2 := Lib.hid (blk22 w 25 25 (batV ep b A n c) zB)
  have HS2 := Lib.hid (keepS (show Sl rpEnt w D A n c es from ⟨hs, hD⟩) hb2)
  have HN := Lib.hid (Rp.sl_len hs).1
  have HE := Lib.hid hE
  have HT := Lib.hid hT
  have HHE := Lib.hid he
  have HHB := Lib.hid hb
  have hn1 : n ≤ 1000 := by rw [← HN.out]; exact hE.1
  have HSZ : Hid ((Try.prog.info? 25).map (·.size) = some 3) := by show _ = _; kernel_rfl
  obtain ⟨gz, hgz⟩ : ∃ gz, gz = w.heap.size := ⟨_, rfl⟩
  rw [← hgz] at K1 K2
  have HGZ := Lib.hid hgz
  clear hs hD hb2 hE hT he hb
  obtain ⟨q1, hq1⟩ : ∃ q, dec (BatOk ep b es) = q := ⟨_, rfl⟩
  have HQ1 := Lib.hid hq1
  clear hq1
  have BADF : Hid (∀ (w5 : World), Below w.heap.size w w5 → ∀ w6, w5.grownBy w6 (some (gz + 1)) → ¬ CutOk ep b es fr tt → CutIs w ep b es fr tt (.returned (.tuple #[.agg zB, .bool false])) w6) := fun w5 hb5 w6 hg hno =>
    ⟨hb5.grown hg hb5.size (fun q hq => by have e' : gz + 1 = q := Option.some.inj hq; have := HGZ.out; omega), .inr ⟨hno, rfl⟩⟩
  go_enter Try.func12, Try.ntmps12
  go_upto_region 1 with (fail)
  rw [← hgz]
  clear hgz
  generalize World.alloc (World.alloc w _) _ = w2 at *
  have k0 := (show Blk w2 gz 25 (batV ep b A n c) from K1.out).cell 0
  have k1 := (show Blk w2 gz 25 (batV ep b A n c) from K1.out).cell 1
  have k2 := (show Blk w2 gz 25 (batV ep b A n c) from K1.out).cell 2
  have hbr := bright_any HS2.out.1 HS2.out.2 hn1 HT.out HHE.out HHB.out
  rw [HQ1.out] at hbr
  have HBR := Lib.hid hbr
  clear hbr
  go_wp2_with fail
  refine HBR.out.mono ?_; rintro e w3 ⟨rfl, hb3⟩
  have HB3 := Lib.hid (stepB HB2.out hb3)
  have K13 := Lib.hid (keepB (show Blk w2 gz 25 (batV ep b A n c) from K1.out) hb3)
  have K23 := Lib.hid (keepB (show Blk w2 (gz + 1) 25 zB from K2.out) hb3)
  have HS3 := Lib.hid (keepS HS2.out hb3)
  clear hb3 k0 k1 k2
  cases q1
  case false =>
    have HNO : Hid (¬ CutOk ep b es fr tt) := fun h => of_not_dec HQ1.out h.1
    go_wp2_with (refine wpList_put_row rfl 25 (.tmp 6) (.tmp 29) rfl (gz + 1) zB rfl rfl 25 _ K23.out HSZ.out rfl (by simp [Value.oneCell']) ?_; intro w6 hblk hgr)
    try rw [Exit.noGoto_ret]
    have x0 := (show Blk w6 (gz + 1) 25 zB from hblk).cell 0
    have x1 := (show Blk w6 (gz + 1) 25 zB from hblk).cell 1
    have x2 := (show Blk w6 (gz + 1) 25 zB from hblk).cell 2
    refine bodyPost_ret (v := .tuple #[.agg zB, .bool false]) (by simp [results, Try.results12, go_sem, x0, x1, x2]) rfl (BADF.out _ HB3.out _ hgr HNO.out)
  case true =>
  have HOK : Hid (BatOk ep b es) := of_dec HQ1.out
  have k0 := (show Blk w3 gz 25 (batV ep b A n c) from K13.out).cell 0
  have k1 := (show Blk w3 gz 25 (batV ep b A n c) from K13.out).cell 1
  have k2 := (show Blk w3 gz 25 (batV ep b A n c) from K13.out).cell 2
  by_cases c1 : fr < b
  case pos =>
    have c1a : decide ((fr : Int) < (b : Int)) = true := by simp; omega
    have HNO : Hid (¬ CutOk ep b es fr tt) := fun h => by have := h.2.1; omega
    go_wp2_with (refine wpList_put_row rfl 25 (.tmp 6) (.tmp 29) rfl (gz + 1) zB rfl rfl 25 _ K23.out HSZ.out rfl (by simp [Value.oneCell']) ?_; intro w6 hblk hgr)
    try rw [Exit.noGoto_ret]
    have x0 := (show Blk w6 (gz + 1) 25 zB from hblk).cell 0
    have x1 := (show Blk w6 (gz + 1) 25 zB from hblk).cell 1
    have x2 := (show Blk w6 (gz + 1) 25 zB from hblk).cell 2
    refine bodyPost_ret (v := .tuple #[.agg zB, .bool false]) (by simp [results, Try.results12, go_sem, x0, x1, x2]) rfl (BADF.out _ HB3.out _ hgr HNO.out)
  case neg =>
  have c1a : decide ((fr : Int) < (b : Int)) = false := by simp; omega
  have c1b : decide (fr < b) = false := by simp; omega
  have c1c : b ≤ fr := by omega
  clear c1
  by_cases c2 : fr < tt
  case neg =>
    have c2a : decide ((tt : Int) ≤ (fr : Int)) = true := by simp; omega
    have c2b : tt ≤ fr := by omega
    clear c2
    have HNO : Hid (¬ CutOk ep b es fr tt) := fun h => by have := h.2.2.1; omega
    go_wp2_with (refine wpList_put_row rfl 25 (.tmp 6) (.tmp 29) rfl (gz + 1) zB rfl rfl 25 _ K23.out HSZ.out rfl (by simp [Value.oneCell']) ?_; intro w6 hblk hgr)
    try rw [Exit.noGoto_ret]
    have x0 := (show Blk w6 (gz + 1) 25 zB from hblk).cell 0
    have x1 := (show Blk w6 (gz + 1) 25 zB from hblk).cell 1
    have x2 := (show Blk w6 (gz + 1) 25 zB from hblk).cell 2
    refine bodyPost_ret (v := .tuple #[.agg zB, .bool false]) (by simp [results, Try.results12, go_sem, x0, x1, x2]) rfl (BADF.out _ HB3.out _ hgr HNO.out)
  case pos =>
  have c2a : decide ((tt : Int) ≤ (fr : Int)) = false := by simp; omega
  have c2b : decide (tt ≤ fr) = false := by simp; omega
  have HEN : Hid (endN b n = b + n) := by
    have h1 := HOK.out.2.1.2.2.2
    rw [HN.out] at h1
    show _ = _
    unfold endN
    exact Nat.mod_eq_of_lt (by omega)
  have HED := Lib.hid (end_any (ep := ep) (A := A) (c := c) w3 (show n ≤ 1000000 by omega) HHB.out)
  obtain ⟨en, hen⟩ : ∃ en, en = endN b n := ⟨_, rfl⟩
  rw [← hen] at HED HEN
  have HEE := Lib.hid hen
  clear hen
  go_wp2_with fail
  refine HED.out.mono ?_; rintro e w4 ⟨rfl, hb4⟩
  have HB4 := Lib.hid (stepB HB3.out hb4)
  have K14 := Lib.hid (keepB (show Blk w3 gz 25 (batV ep b A n c) from K13.out) hb4)
  have K24 := Lib.hid (keepB (show Blk w3 (gz + 1) 25 zB from K23.out) hb4)
  have HS4 := Lib.hid (keepS HS3.out hb4)
  clear hb4 k0 k1 k2
  by_cases c3 : en < tt
  case pos =>
    have c3a : decide ((en : Int) < (tt : Int)) = true := by simp; omega
    have HNO : Hid (¬ CutOk ep b es fr tt) := fun h => by have h1 := h.2.2.2; have h2 := HEN.out; rw [HN.out] at h1; omega
    go_wp2_with (refine wpList_put_row rfl 25 (.tmp 6) (.tmp 29) rfl (gz + 1) zB rfl rfl 25 _ K24.out HSZ.out rfl (by simp [Value.oneCell']) ?_; intro w6 hblk hgr)
    try rw [Exit.noGoto_ret]
    have x0 := (show Blk w6 (gz + 1) 25 zB from hblk).cell 0
    have x1 := (show Blk w6 (gz + 1) 25 zB from hblk).cell 1
    have x2 := (show Blk w6 (gz + 1) 25 zB from hblk).cell 2
    refine bodyPost_ret (v := .tuple #[.agg zB, .bool false]) (by simp [results, Try.results12, go_sem, x0, x1, x2]) rfl (BADF.out _ HB4.out _ hgr HNO.out)
  case neg =>
  have c3a : decide ((en : Int) < (tt : Int)) = false := by simp; omega
  have c3b : decide (en < tt) = false := by simp; omega
  have HTE : Hid (tt ≤ b + n) := by show _ ≤ _; rw [← HEN.out]; omega
  clear c3
  have k0 := (show Blk w4 gz 25 (batV ep b A n c) from K14.out).cell 0
  have k1 := (show Blk w4 gz 25 (batV ep b A n c) from K14.out).cell 1
  have k2 := (show Blk w4 gz 25 (batV ep b A n c) from K14.out).cell 2
  have HC := Lib.hid (bcopy_any (ep := ep) (b := b) HS4.out.1 HS4.out.2 HE.out)
  go_upto_region 4 with
    (go_at_call 31
     refine HC.out.mono ?_
     rintro e w5 ⟨A5, c5, rfl, ht5, hb5⟩
     have hba := below1 w5 (.cells (batV ep b A5 n c5) 25)
     have HB6 := Lib.hid (stepB HB4.out (stepB hb5 hba))
     have HT6 := Lib.hid (TB.below ht5 hba)
     have KO6 := Lib.hid (blk11 w5 25 (batV ep b A5 n c5))
     have K16 := Lib.hid (keepB (show Blk w4 gz 25 (batV ep b A n c) from K14.out) (stepB hb5 hba))
     have K26 := Lib.hid (keepB (show Blk w4 (gz + 1) 25 zB from K24.out) (stepB hb5 hba))
     have HZ5 := Lib.hid (Nat.lt_of_lt_of_le (show Blk w4 (gz + 1) 25 zB from K24.out).lt hb5.size)
     clear ht5 hb5 hba k0 k1 k2)
  obtain ⟨go, hgo⟩ : ∃ go, go = w5.heap.size := ⟨_, rfl⟩
  rw [← hgo] at KO6 HZ5 ⊢
  clear hgo
  generalize World.alloc w5 _ = w6 at *
  have k1 := (show Blk w6 gz 25 (batV ep b A n c) from K16.out).cell 1
  have o0 := (show Blk w6 go 25 (batV ep b A5 n c5) from KO6.out).cell 0
  have o1 := (show Blk w6 go 25 (batV ep b A5 n c5) from KO6.out).cell 1
  have o2 := (show Blk w6 go 25 (batV ep b A5 n c5) from KO6.out).cell 2
  have of2 := (show Blk w6 go 25 (batV ep b A5 n c5) from KO6.out).frozen 2
  obtain ⟨A7, hrun, hcut⟩ := run_cutU elemEnt (TB.sl HT6.out) ent_size (fr - b) (tt - b) (by omega) (by have := HTE.out; omega)
  have hcast1 : (((fr - b : Nat)) : Int) = (fr : Int) - (b : Int) := by omega
  have hcast2 : (((tt - b : Nat)) : Int) = (tt : Int) - (b : Int) := by omega
  have hcast3 : (tt - b) - (fr - b) = tt - fr := by omega
  rw [hcast1, hcast2, hcast3] at hrun
  rw [hcast3] at hcut
  have HCUT := Lib.hid hcut
  have hw1 : IntKind.u64.wrap ((fr : Int) - (b : Int)) = (fr : Int) - (b : Int) := IntWalk.u64_in _ (by omega)
  have hw2 : IntKind.u64.wrap ((tt : Int) - (b : Int)) = (tt : Int) - (b : Int) := IntWalk.u64_in _ (by omega)
  clear hcut hcast1 hcast2 hcast3
  have HG1 : Hid (Blk (w6.setCell ⟨go, 2, none⟩ (.slice A7 (tt - fr) (tt - fr))) go 25 (batV ep b A7 (tt - fr) (tt - fr))) := (show Blk w6 go 25 (batV ep b A5 n c5) from KO6.out).put 2 _
  have HG2 : Hid (w6.grownBy (w6.setCell ⟨go, 2, none⟩ (.slice A7 (tt - fr) (tt - fr))) (some go)) := grown_setCell w6 ⟨go, 2, none⟩ _
  have HB7 : Hid (Below w.heap.size w (w6.setCell ⟨go, 2, none⟩ (.slice A7 (tt - fr) (tt - fr)))) := HB6.out.grown HG2.out HB6.out.size (fun q hq => by have e' : go = q := Option.some.inj hq; have := HZ5.out; have := HGZ.out; omega)
  have HT7 : Hid (TB (fun _ => False) (w6.setCell ⟨go, 2, none⟩ (.slice A7 (tt - fr) (tt - fr))) w4.heap.size A5 n c5 es) := TB.turned HT6.out KO6.out (by unfold TD; decide) (fun h => h) (.inl ⟨by decide, by decide⟩) HG2.out
  have K27 : Hid (Blk (w6.setCell ⟨go, 2, none⟩ (.slice A7 (tt - fr) (tt - fr))) (gz + 1) 25 zB) := (show Blk w6 (gz + 1) 25 zB from K26.out).far (p := ⟨go, 2, none⟩) (by show gz + 1 ≠ go; have := HZ5.out; omega) _
  go_upto_region 5 with (fail)
  clear k1 o0 o1 o2 of2 hrun
  generalize World.setCell w6 _ _ = w7 at *
  have of1 := (show Blk w7 go 25 (batV ep b A7 (tt - fr) (tt - fr)) from HG1.out).frozen 1
  have o1 := (show Blk w7 go 25 (batV ep b A7 (tt - fr) (tt - fr)) from HG1.out).cell 1
  have HG3 : Hid (Blk (w7.setCell ⟨go, 1, none⟩ (.int .u64 (fr : Int))) go 25 (batV ep fr A7 (tt - fr) (tt - fr))) := (show Blk w7 go 25 (batV ep b A7 (tt - fr) (tt - fr)) from HG1.out).put 1 _
  have HG4 : Hid (w7.grownBy (w7.setCell ⟨go, 1, none⟩ (.int .u64 (fr : Int))) (some go)) := grown_setCell w7 ⟨go, 1, none⟩ _
  have HB8 : Hid (Below w.heap.size w (w7.setCell ⟨go, 1, none⟩ (.int .u64 (fr : Int)))) := HB7.out.grown HG4.out HB7.out.size (fun q hq => by have e' : go = q := Option.some.inj hq; have := HZ5.out; have := HGZ.out; omega)
  have HT8 : Hid (TB (fun _ => False) (w7.setCell ⟨go, 1, none⟩ (.int .u64 (fr : Int))) w4.heap.size A5 n c5 es) := TB.turned HT7.out (show Blk w7 go 25 _ from HG1.out) (by unfold TD; decide) (fun h => h) (.inl ⟨by decide, by decide⟩) HG4.out
  have K28 : Hid (Blk (w7.setCell ⟨go, 1, none⟩ (.int .u64 (fr : Int))) (gz + 1) 25 zB) := (show Blk w7 (gz + 1) 25 zB from K27.out).far (p := ⟨go, 1, none⟩) (by show gz + 1 ≠ go; have := HZ5.out; omega) _
  go_upto_region 6 with (fail)
  clear of1 o1
  generalize World.setCell w7 _ _ = w8 at *
  have o0 := (show Blk w8 go 25 (batV ep fr A7 (tt - fr) (tt - fr)) from HG3.out).cell 0
  have o1 := (show Blk w8 go 25 (batV ep fr A7 (tt - fr) (tt - fr)) from HG3.out).cell 1
  have o2 := (show Blk w8 go 25 (batV ep fr A7 (tt - fr) (tt - fr)) from HG3.out).cell 2
  have HYES : Hid (CutOk ep b es fr tt) := ⟨HOK.out, c1c, c2, by rw [HN.out]; exact HTE.out⟩
  go_wp2_with (refine wpList_put_row rfl 25 (.tmp 6) (.tmp 50) rfl (gz + 1) (batV ep fr A7 (tt - fr) (tt - fr)) rfl rfl 25 _ K28.out HSZ.out rfl (by simp [Value.oneCell']) ?_; intro w9 hblk hgr)
  try rw [Exit.noGoto_ret]
  have x0 := (show Blk w9 (gz + 1) 25 (batV ep fr A7 (tt - fr) (tt - fr)) from hblk).cell 0
  have x1 := (show Blk w9 (gz + 1) 25 (batV ep fr A7 (tt - fr) (tt - fr)) from hblk).cell 1
  have x2 := (show Blk w9 (gz + 1) 25 (batV ep fr A7 (tt - fr) (tt - fr)) from hblk).cell 2
  refine bodyPost_ret (v := .tuple #[.agg (batV ep fr A7 (tt - fr) (tt - fr)), .bool true]) (by simp [results, Try.results12, go_sem, x0, x1, x2]) rfl ⟨HB8.out.grown hgr HB8.out.size (fun q hq => by have e' : gz + 1 = q := Option.some.inj hq; have := HGZ.out; omega), .inl ⟨HYES.out, A7, tt - fr, rfl, HCUT.out _ _ (TB.sl (TB.turned HT8.out K28.out (by unfold TD; decide) (fun h => h) (.inl ⟨by decide, by decide⟩) hgr))⟩⟩
end
end Go.Proofs.Ytcbmnfjbmkpfiaa
