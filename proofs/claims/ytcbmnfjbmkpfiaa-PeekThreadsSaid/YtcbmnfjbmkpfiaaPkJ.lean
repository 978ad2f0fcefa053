/- peek.Thread. -/
import Derived.Test.YtcbmnfjbmkpfiaaPkF
import Derived.Test.YtcbmnfjbmkpfiaaPkH
import Derived.Test.YtcbmnfjbmkpfiaaPkI
namespace Go.Proofs.Ytcbmnfjbmkpfiaa
open Go.ChangeShapes Go.WideShapes Go.ChangeAt Go.RowKit
set_option linter.unusedVariables false
theorem bare_len (es : List Ent) : (bareL es).length = es.length := List.length_map ..
theorem bare_at {es : List Ent} {i : Nat} {x : Ent} (h : (bareL es)[i]? = some x) : ∃ y, es[i]? = some y ∧ x = bareE y := by
  unfold bareL at h
  rw [List.getElem?_map] at h
  cases hy : es[i]? with
  | none => rw [hy] at h; cases h
  | some y => rw [hy] at h; injection h with h; exact ⟨y, rfl, h.symm⟩
theorem bare_tot (es : List Ent) : totL (bareL es) = totL es := by
  unfold totL bareL
  rw [List.map_map]; rfl
theorem bare_ebd {es : List Ent} (h : EBd es) : EBd (bareL es) := by
  refine ⟨by rw [bare_len]; exact h.1, fun e he => ?_⟩
  obtain ⟨i, hi⟩ := List.getElem?_of_mem he
  obtain ⟨y, hy, rfl⟩ := bare_at hi
  obtain ⟨h1, h2, h3⟩ := h.2 y (List.mem_of_getElem? hy)
  refine ⟨by show (y.1.map nilB).length ≤ 1000; rw [List.length_map]; exact h1, fun x hx => ?_, h3⟩
  obtain ⟨z, _, rfl⟩ := List.mem_map.1 hx
  exact Nat.zero_le _
theorem thE_dat {b : Nat} {es : List Ent} {t : List Lnk} : ∀ i, ((thE b es t i).1.map (fun e => e.2.length)) = ((es.take i).map (fun e => e.2.length))
  | 0 => rfl
  | i + 1 => by
    have ih := thE_dat (b := b) (es := es) (t := t) i
    cases hx : es[i]? with
    | none => rw [thE, hx, List.take_add_one, hx]; simpa using ih
    | some e => rw [thE_succ hx, List.take_add_one, hx, List.map_append, List.map_append, ih]; rfl
theorem thE_tot (b : Nat) (es : List Ent) (t : List Lnk) : totL (thE b es t es.length).1 = totL es := by
  unfold totL
  rw [thE_dat, List.take_of_length_le (Nat.le_refl _)]
/-- What comes of threading a batch by tails, if something does. -/
def ThOk (e b : Nat) (es : List Ent) (tl : List Lnk) : Prop := BatOk e b (bareL es) ∧ StrUp tl ∧ BatOk e b (thE b (bareL es) tl es.length).1
section
variable {D D' : Dom} {A At : Option Addr} {n c ep b nt ct : Nat} {es : List Ent} {tl : List Lnk} {w : World}
def ThreadIs (w : World) (ep b n : Nat) (es : List Ent) (tl : List Lnk) (e : Ending) (w' : World) : Prop :=
  Below w.heap.size w w' ∧ ((ThOk ep b es tl ∧ ∃ A' c' At' nt' ct', e = .returned (.tuple #[.agg (batV ep b A' n c'), .slice At' nt' ct', .int .i64 0]) ∧ rpEnt.sl w' (fun k => k < w'.heap.size) A' n c' (thE b (bareL es) tl es.length).1 ∧ rpLnk.sl w' (fun k => k < w'.heap.size) At' nt' ct' (thE b (bareL es) tl es.length).2) ∨
    ¬ ThOk ep b es tl ∧ e = .returned (.tuple #[.agg zB, .slice none 0 0, .int .i64 3]))
set_option maxRecDepth 100000 in
set_option maxHeartbeats 8000000 in
theorem thread_any (hs : rpEnt.sl w D A n c es) (hD : ∀ k, D k → k < w.heap.size) (hE : EBd es) (hT : totL es ≤ 100000) (he : ep ≤ 18446744073709551615) (hb : b ≤ 18446744073709551615) (ht : rpLnk.sl w D' At nt ct tl) (hD' : ∀ k, D' k → k < w.heap.size) (htk : TOk 1000 tl) :
    Calls Try.prog 14 #[.agg (batV ep b A n c), .slice At nt ct] w (ThreadIs w ep b n es tl) := by
  have hb2 := below2 w (.cells (batV ep b A n c) 25) (.cells zB 25)
  have HB2 := Lib.hid hb2
  have K1 := Lib.hid (blk21 w 25 25 (batV ep b A n c) zB)
  have K2 := Lib.hid (blk22 w 25 25 (batV ep b A n c) zB)
  have HS2 := Lib.hid (keepS (show Sl rpEnt w D A n c es from ⟨hs, hD⟩) hb2)
  have HL2 := Lib.hid (keepS (show Sl rpLnk w D' At nt ct tl from ⟨ht, hD'⟩) hb2)
  have HN := Lib.hid (Rp.sl_len hs).1
  have HNT := Lib.hid (Rp.sl_len ht).1
  have HE := Lib.hid hE
  have HT := Lib.hid hT
  have HHE := Lib.hid he
  have HHB := Lib.hid hb
  have HTK := Lib.hid htk
  have hn1 : n ≤ 1000 := by rw [← HN.out]; exact hE.1
  have hnt1 : nt ≤ 1000 := by rw [← HNT.out]; exact htk.1
  have HSZ : Hid ((Try.prog.info? 25).map (·.size) = some 3) := by show _ = _; kernel_rfl
  clear hs hD hb2 hE hT he hb ht hD' htk
  obtain ⟨q1, hq1⟩ : ∃ q, dec (BatOk ep b (bareL es)) = q := ⟨_, rfl⟩
  obtain ⟨q2, hq2⟩ : ∃ q, dec (StrUp tl) = q := ⟨_, rfl⟩
  have HQ1 := Lib.hid hq1
  have HQ2 := Lib.hid hq2
  clear hq1 hq2
  go_enter Try.func14, Try.ntmps14
  go_upto_region 1 with (fail)
  obtain ⟨gz, hgz⟩ : ∃ gz, gz = w.heap.size := ⟨_, rfl⟩
  rw [← hgz] at K1 K2 ⊢
  have HGZ : Hid (w.heap.size ≤ gz) := by show _ ≤ _; omega
  clear hgz
  generalize World.alloc (World.alloc w _) _ = w2 at *
  have k0 := (show Blk w2 gz 25 (batV ep b A n c) from K1.out).cell 0
  have k1 := (show Blk w2 gz 25 (batV ep b A n c) from K1.out).cell 1
  have k2 := (show Blk w2 gz 25 (batV ep b A n c) from K1.out).cell 2
  have HBR := Lib.hid (bare_any (ep := ep) (b := b) HS2.out.1 HS2.out.2 HE.out)
  -- what is told where nothing comes of it
  have BADF : Hid (∀ (w5 : World), Below w.heap.size w w5 → Blk w5 (gz + 1) 25 zB → ∀ w6, Blk w6 (gz + 1) 25 zB → w5.grownBy w6 (some (gz + 1)) → ¬ ThOk ep b es tl → ThreadIs w ep b n es tl (.returned (.tuple #[.agg zB, .slice none 0 0, .int .i64 3])) w6) := fun w5 hb5 _ w6 _ hg hno =>
    ⟨hb5.grown hg hb5.size (fun q hq => by have e' : gz + 1 = q := Option.some.inj hq; have := HGZ.out; omega), .inr ⟨hno, rfl⟩⟩
  go_wp2_with fail
  refine HBR.out.mono ?_; rintro e w3 ⟨A3, c3, rfl, ht3, hb3⟩
  have HB3 := Lib.hid (stepB HB2.out hb3)
  have K13 := Lib.hid (keepB (show Blk w2 gz 25 (batV ep b A n c) from K1.out) hb3)
  have K23 := Lib.hid (keepB (show Blk w2 (gz + 1) 25 zB from K2.out) hb3)
  have HS3 := Lib.hid (keepS HS2.out hb3)
  have HL3 := Lib.hid (keepS HL2.out hb3)
  have hbr := bright_any (TB.sl ht3) (fun k hk => hk) hn1 (by rw [bare_tot]; exact HT.out) HHE.out HHB.out
  rw [HQ1.out] at hbr
  have HBR3 := Lib.hid hbr
  clear ht3 hb3 hbr k0 k1 k2
  go_wp2_with fail
  refine HBR3.out.mono ?_; rintro e w4 ⟨rfl, hb4⟩
  have HB4 := Lib.hid (stepB HB3.out hb4)
  have K14 := Lib.hid (keepB (show Blk w3 gz 25 (batV ep b A n c) from K13.out) hb4)
  have K24 := Lib.hid (keepB (show Blk w3 (gz + 1) 25 zB from K23.out) hb4)
  have HS4 := Lib.hid (keepS HS3.out hb4)
  have HL4 := Lib.hid (keepS HL3.out hb4)
  clear hb4
  cases q1
  case false =>
    have HNO : Hid (¬ ThOk ep b es tl) := fun h => of_not_dec HQ1.out h.1
    go_wp2_with (refine wpList_put_row rfl 25 (.tmp 4) (.tmp 18) rfl (gz + 1) zB rfl rfl 25 _ K24.out HSZ.out rfl (by simp [Value.oneCell']) ?_; intro w6 hblk hgr)
    try rw [Exit.noGoto_ret]
    have x0 := (show Blk w6 (gz + 1) 25 zB from hblk).cell 0
    have x1 := (show Blk w6 (gz + 1) 25 zB from hblk).cell 1
    have x2 := (show Blk w6 (gz + 1) 25 zB from hblk).cell 2
    refine bodyPost_ret (v := .tuple #[.agg zB, .slice none 0 0, .int .i64 3]) (by simp [results, Try.results14, go_sem, x0, x1, x2]) rfl (BADF.out _ HB4.out K24.out _ hblk hgr HNO.out)
  case true =>
  have hri := rise_any HL4.out.1 HL4.out.2 (by omega)
  rw [HQ2.out] at hri
  have HRI := Lib.hid hri
  clear hri
  go_wp2_with fail
  refine HRI.out.mono ?_; rintro e w5 ⟨rfl, hb5⟩
  have HB5 := Lib.hid (stepB HB4.out hb5)
  have K15 := Lib.hid (keepB (show Blk w4 gz 25 (batV ep b A n c) from K14.out) hb5)
  have K25 := Lib.hid (keepB (show Blk w4 (gz + 1) 25 zB from K24.out) hb5)
  have HS5 := Lib.hid (keepS HS4.out hb5)
  have HL5 := Lib.hid (keepS HL4.out hb5)
  clear hb5
  cases q2
  case false =>
    have HNO : Hid (¬ ThOk ep b es tl) := fun h => of_not_dec HQ2.out h.2.1
    go_wp2_with (refine wpList_put_row rfl 25 (.tmp 4) (.tmp 18) rfl (gz + 1) zB rfl rfl 25 _ K25.out HSZ.out rfl (by simp [Value.oneCell']) ?_; intro w6 hblk hgr)
    try rw [Exit.noGoto_ret]
    have x0 := (show Blk w6 (gz + 1) 25 zB from hblk).cell 0
    have x1 := (show Blk w6 (gz + 1) 25 zB from hblk).cell 1
    have x2 := (show Blk w6 (gz + 1) 25 zB from hblk).cell 2
    refine bodyPost_ret (v := .tuple #[.agg zB, .slice none 0 0, .int .i64 3]) (by simp [results, Try.results14, go_sem, x0, x1, x2]) rfl (BADF.out _ HB5.out K25.out _ hblk hgr HNO.out)
  case true =>
  have HOK1 : Hid (BatOk ep b (bareL es)) := of_dec HQ1.out
  have k0 := (show Blk w5 gz 25 (batV ep b A n c) from K15.out).cell 0
  have k1 := (show Blk w5 gz 25 (batV ep b A n c) from K15.out).cell 1
  have k2 := (show Blk w5 gz 25 (batV ep b A n c) from K15.out).cell 2
  have HBR5 := Lib.hid (bare_any (ep := ep) (b := b) HS5.out.1 HS5.out.2 HE.out)
  have HZ5 : Hid (gz + 1 < w5.heap.size) := (show Blk w5 (gz + 1) 25 zB from K25.out).lt
  go_wp2_with fail
  refine HBR5.out.mono ?_; rintro e w6 ⟨A6, c6, rfl, ht6, hb6⟩
  have HT6 := Lib.hid ht6.toB
  have HBD6 := Lib.hid hb6
  have HL6 := Lib.hid (keepS HL5.out hb6)
  have HCP := Lib.hid (lcopy_any HL6.out.1 HL6.out.2 (by omega) (fun x hx => Nat.le_trans (HTK.out.2 x hx) (by decide)))
  clear ht6 hb6 k0 k1 k2
  go_wp2_with fail
  refine HCP.out.mono ?_; rintro e w7 ⟨A7, c7, rfl, ho7, hb7⟩
  have HBD7 := Lib.hid (stepB HBD6.out hb7)
  have HTD := Lib.hid (threaded_any (ep := ep) (b := b) (HT6.out.below hb7) ho7 (bare_ebd HE.out) HTK.out HBD6.out.size (Nat.le_refl _) hb7.size (by have := HOK1.out.2.1.2.2.2; rw [bare_len, HN.out] at this; exact this) (by have := HOK1.out.2.1.2.1; rw [bare_len, HN.out] at this; exact this) (fun e he => by
    obtain ⟨i, hi⟩ := List.getElem?_of_mem he
    exact (HOK1.out.2.2 i e hi).1))
  clear ho7 hb7
  obtain ⟨q3, hq3⟩ : ∃ q, dec (BatOk ep b (thE b (bareL es) tl es.length).1) = q := ⟨_, rfl⟩
  have HQ3 := Lib.hid hq3
  have HE1 : Hid (thE b (bareL es) tl n = thE b (bareL es) tl es.length) := by show _ = _; rw [HN.out]
  have HTT : Hid (totL (thE b (bareL es) tl es.length).1 ≤ 100000) := by
    show _ ≤ _
    have h := thE_tot b (bareL es) tl
    rw [bare_len, bare_tot] at h
    rw [h]; exact HT.out
  clear hq3
  go_upto_region 4 with
    (go_at_call 38
     refine HTD.out.mono ?_
     rintro e w8 ⟨A8, c8, At8, nt8, ct8, rfl, ht8, ho8, hb8⟩
     have hba := below1 w8 (.cells (batV ep b A8 n c8) 25)
     have HBD8 := Lib.hid (show Below w5.heap.size w5 w8 from HBD7.out.trans hb8)
     have HB9 := Lib.hid (stepB HB5.out (stepB HBD8.out hba))
     have K29 := Lib.hid (keepB (show Blk w5 (gz + 1) 25 zB from K25.out) (stepB HBD8.out hba))
     have KO9 := Lib.hid (blk11 w8 25 (batV ep b A8 n c8))
     have HTB9 := Lib.hid (ht8.tb.below hba)
     have HOL9 := Lib.hid (OL.below ho8 hba)
     have hsl := TB.sl (ht8.tb.below hba)
     rw [HE1.out] at hsl
     have HSL9 := Lib.hid hsl
     clear ht8 ho8 hb8 hba hsl)
  obtain ⟨go, hgo⟩ : ∃ go, go = w8.heap.size := ⟨_, rfl⟩
  rw [← hgo]
  rw [← hgo] at KO9
  clear hgo
  generalize World.alloc w8 _ = w9 at *
  have o0 := (show Blk w9 go 25 (batV ep b A8 n c8) from KO9.out).cell 0
  have o1 := (show Blk w9 go 25 (batV ep b A8 n c8) from KO9.out).cell 1
  have o2 := (show Blk w9 go 25 (batV ep b A8 n c8) from KO9.out).cell 2
  have hbr := bright_any (ep := ep) (b := b) HSL9.out (fun k hk => hk) hn1 HTT.out HHE.out HHB.out
  rw [HQ3.out] at hbr
  have HBR9 := Lib.hid hbr
  clear hbr
  go_wp2_with fail
  refine HBR9.out.mono ?_; rintro e w10 ⟨rfl, hb10⟩
  have HB10 := Lib.hid (stepB HB9.out hb10)
  have K210 := Lib.hid (keepB (show Blk w9 (gz + 1) 25 zB from K29.out) hb10)
  have KO10 := Lib.hid (keepB (show Blk w9 go 25 (batV ep b A8 n c8) from KO9.out) hb10)
  have HTB10 := Lib.hid (TB.below HTB9.out hb10)
  have HOL10 := Lib.hid (OL.below HOL9.out hb10)
  clear hb10 o0 o1 o2
  cases q3
  case false =>
    have HNO : Hid (¬ ThOk ep b es tl) := fun h => of_not_dec HQ3.out h.2.2
    go_wp2_with (refine wpList_put_row rfl 25 (.tmp 4) (.tmp 30) rfl (gz + 1) zB rfl rfl 25 _ K210.out HSZ.out rfl (by simp [Value.oneCell']) ?_; intro w6 hblk hgr)
    try rw [Exit.noGoto_ret]
    have x0 := (show Blk w6 (gz + 1) 25 zB from hblk).cell 0
    have x1 := (show Blk w6 (gz + 1) 25 zB from hblk).cell 1
    have x2 := (show Blk w6 (gz + 1) 25 zB from hblk).cell 2
    refine bodyPost_ret (v := .tuple #[.agg zB, .slice none 0 0, .int .i64 3]) (by simp [results, Try.results14, go_sem, x0, x1, x2]) rfl (BADF.out _ HB10.out K210.out _ hblk hgr HNO.out)
  case true =>
    have HYES : Hid (ThOk ep b es tl) := ⟨HOK1.out, of_dec HQ2.out, of_dec HQ3.out⟩
    have o0 := (show Blk w10 go 25 (batV ep b A8 n c8) from KO10.out).cell 0
    have o1 := (show Blk w10 go 25 (batV ep b A8 n c8) from KO10.out).cell 1
    have o2 := (show Blk w10 go 25 (batV ep b A8 n c8) from KO10.out).cell 2
    go_wp2_with (refine wpList_put_row rfl 25 (.tmp 4) (.tmp 31) rfl (gz + 1) (batV ep b A8 n c8) rfl rfl 25 _ K210.out HSZ.out rfl (by simp [Value.oneCell']) ?_; intro w6 hblk hgr)
    try rw [Exit.noGoto_ret]
    have x0 := (show Blk w6 (gz + 1) 25 (batV ep b A8 n c8) from hblk).cell 0
    have x1 := (show Blk w6 (gz + 1) 25 (batV ep b A8 n c8) from hblk).cell 1
    have x2 := (show Blk w6 (gz + 1) 25 (batV ep b A8 n c8) from hblk).cell 2
    refine bodyPost_ret (v := .tuple #[.agg (batV ep b A8 n c8), .slice At8 nt8 ct8, .int .i64 0]) (by simp [results, Try.results14, go_sem, x0, x1, x2]) rfl ⟨HB10.out.grown hgr HB10.out.size (fun q hq => by have e' : gz + 1 = q := Option.some.inj hq; have := HGZ.out; omega), .inl ⟨HYES.out, A8, c8, At8, nt8, ct8, rfl, ?_, ?_⟩⟩
    · have h := TB.sl (TB.turned HTB10.out K210.out (by unfold TD; decide) (fun h => h) (.inl ⟨by decide, by decide⟩) hgr)
      rw [HE1.out] at h
      exact h
    · have h := OL.sl (OLk.other HOL10.out K210.out (by decide) (fun e => by
        obtain ⟨vals, ho, _⟩ := HOL10.out
        obtain ⟨cs, hcs⟩ := own_type ho e
        exact absurd (blk_type K210.out hcs) (by decide)) hgr)
      rw [HE1.out] at h
      exact h
end
end Go.Proofs.Ytcbmnfjbmkpfiaa
