/- entry.Copy, batch.Copy. -/
import Derived.Test.YtcbmnfjbmkpfiaaPkT
import Derived.Deep.RegionLaw
namespace Go.Proofs.Ytcbmnfjbmkpfiaa
open Go.ChangeShapes Go.WideShapes Go.ChangeAt Go.RowKit
set_option linter.unusedVariables false
/-- A row of bytes that the call has made. -/
def Row8 (w : World) (base : Nat) (A : Option Addr) (n c : Nat) (l : List UInt8) : Prop := w.ownsRow base 5 1 (.slice A n c) n (l.map bv)
theorem Row8.len {w : World} {base n c : Nat} {A : Option Addr} {l : List UInt8} (h : Row8 w base A n c l) : l.length = n := by have := h.1; simpa using this
theorem Row8.below {w w' : World} {base n c : Nat} {A : Option Addr} {l : List UInt8} (h : Row8 w base A n c l) (hb : Below w.heap.size w w') : Row8 w' base A n c l := keepO h hb
theorem Row8.sl {w : World} {base n c : Nat} {A : Option Addr} {l : List UInt8} (h : Row8 w base A n c l) {TS : TypeId → Prop} (hT : TS 5) (D0 : Dom) : rpU8.sl w (Tb TS D0 w) A n c l :=
  Rp.sl_more (own_bytes h) (fun k hk => ⟨(h.lt k hk.symm).2, .inr (by
    obtain ⟨cs, hh⟩ := own_type h hk.symm
    exact ⟨cs, _, hh, hT⟩)⟩)
abbrev zE : Array Value := #[.slice none 0 0, .slice none 0 0]
section
variable {D D' : Dom} {A B : Option Addr} {n c m d : Nat} {L : List Lnk} {data : List UInt8} {w : World}
def ECopyIs (w : World) (n m : Nat) (L : List Lnk) (data : List UInt8) (e : Ending) (w' : World) : Prop :=
  ∃ A' c' B' d', e = .returned (.agg (entV A' n c' B' m d')) ∧ OLk w' w.heap.size A' n c' L ∧ Row8 w' w.heap.size B' m d' data ∧ Below w.heap.size w w'
set_option maxRecDepth 100000 in
set_option maxHeartbeats 4000000 in
theorem ecopy_any (hs : rpLnk.sl w D A n c L) (hD : ∀ k, D k → k < w.heap.size) (hn : n ≤ 100000) (hL : ∀ x ∈ L, x.2.length ≤ 1000000) (hb : rpU8.sl w D' B m d data) (hD' : ∀ k, D' k → k < w.heap.size) (hm : m ≤ 1000000) :
    Calls Try.prog 52 #[.agg (entV A n c B m d)] w (ECopyIs w n m L data) := by
  have hb2 := below2 w (.cells (entV A n c B m d) 45) (.cells zE 45)
  have HB2 := Lib.hid hb2
  have K1 := Lib.hid (blk21 w 45 45 (entV A n c B m d) zE)
  have K2 := Lib.hid (blk22 w 45 45 (entV A n c B m d) zE)
  have HS2 := Lib.hid (keepS (show Sl rpLnk w D A n c L from ⟨hs, hD⟩) hb2)
  have HT2 := Lib.hid (keepS (show Sl rpU8 w D' B m d data from ⟨hb, hD'⟩) hb2)
  have HL := Lib.hid hL
  have HZ2 : Hid ((((w.alloc (.cells (entV A n c B m d) 45)).alloc (.cells zE 45))).heap.size = w.heap.size + 2) := by show _ = _; simp
  clear hs hD hb hD' hb2 hL
  go_enter Try.func52, Try.ntmps52
  go_upto_region 1 with (fail)
  generalize World.alloc (World.alloc w _) _ = w2 at *
  have k0 := (show Blk w2 w.heap.size 45 (entV A n c B m d) from K1.out).cell 0
  have k1 := (show Blk w2 w.heap.size 45 (entV A n c B m d) from K1.out).cell 1
  have kl := (show Blk w2 w.heap.size 45 (entV A n c B m d) from K1.out).lt
  have HCP : Hid (∀ w', Below w2.heap.size w2 w' → Calls Try.prog 39 #[.slice A n c] w' fun e w'' => ∃ A' c', e = .returned (.slice A' n c') ∧ OLk w'' w'.heap.size A' n c' L ∧ Below w'.heap.size w' w'') := fun w' hu => by
    have h := keepS HS2.out hu
    exact lcopy_any h.1 h.2 hn HL.out
  have FIN : Hid (∀ (w6 : World) (b5 : Nat) (A5 A6 : Option Addr) (c5 c6 : Nat), OLk w6 b5 A5 n c5 L → w2.heap.size ≤ b5 → w6.ownsRow w2.heap.size 5 1 (.slice A6 m c6) m (data.map bv) → Blk w6 (w.heap.size + 1) 45 zE → Below w2.heap.size w2 w6 →
      ECopyIs w n m L data (.returned (.agg (entV A5 n c5 A6 m c6))) ((w6.setCell ⟨w.heap.size + 1, 0, none⟩ (.slice A5 n c5)).setCell ⟨w.heap.size + 1, 1, none⟩ (.slice A6 m c6))) := fun w6 b5 A5 A6 c5 c6 ho hb5 hr hk hbl => by
    have hz := HZ2.out
    have hch : Chg (fun k => k = w.heap.size + 1) w6 ((w6.setCell ⟨w.heap.size + 1, 0, none⟩ (.slice A5 n c5)).setCell ⟨w.heap.size + 1, 1, none⟩ (.slice A6 m c6)) :=
      ((Chg.refl (fun k => k = w.heap.size + 1) w6).setCell (p := ⟨w.heap.size + 1, 0, none⟩) (.inl (show w.heap.size + 1 = w.heap.size + 1 from rfl)) _).setCell (p := ⟨w.heap.size + 1, 1, none⟩) (.inl (show w.heap.size + 1 = w.heap.size + 1 from rfl)) _
    refine ⟨A5, c5, A6, c6, rfl, OL.mono (OL.put (OL.put ho hk (fun h => h) (by unfold T64; decide) (by decide) (a := ⟨w.heap.size + 1, 0, none⟩) rfl _) (hk.put 0 _) (fun h => h) (by unfold T64; decide) (by decide) (a := ⟨w.heap.size + 1, 1, none⟩) rfl _) (by omega), own_less2 (chO hr hch (fun k hk hf => ?_)) (by omega), ?_⟩
    · have := (hr.lt k hk).1
      omega
    · exact chBase (HB2.out.trans (hbl.mono (by omega))) hch (fun k hk => by omega)
  have y0 := (show Blk w2 (w.heap.size + 1) 45 zE from K2.out).cell 0
  have y1 := (show Blk w2 (w.heap.size + 1) 45 zE from K2.out).cell 1
  have HM2 : Hid (((w2.alloc (.cells #[] 5)).drew).ownsRow w2.heap.size 5 1 (.slice (some ⟨w2.heap.size, 0, none⟩) 0 0) 0 []) := World.ownsRow_made (e := 5) (size := 1) (base := w2.heap.size) w2 #[] 0 (Nat.le_refl _) (by decide) rfl
  have HX2 : Hid (Blk ((w2.alloc (.cells #[] 5)).drew) w2.heap.size 5 #[]) := blk11 w2 _ _
  have HBD2 : Hid (Below w2.heap.size w2 ((w2.alloc (.cells #[] 5)).drew)) := ((Below.refl _ w2).alloc (Nat.le_refl _) _).drew
  have hm16 : m ≤ maxLen := by unfold maxLen; omega
  go_region_law ((first
    | (refine step_app rfl (.tmp 6) (.tmp 8) _ (by rfl) elem8 (by rfl) HMM.out (by rfl) HSR.out (by unfold maxLen; omega) (by omega) HZM.out ?_
       intro A6 c6 w6 ho6 hg6 hat6
       have HO6 := Lib.hid (own_zeroA ho6)
       have hk6 := (show Blk _ (w.heap.size + 1) 45 zE from HKM.out).grown hg6 (fun e => by have := HGM.out _ e.symm; have := HZ2.out; omega)
       have k6 := hk6.cell 0
       have k6' := hk6.cell 1
       have kf6 := hk6.frozen 0
       have kf6' := hk6.frozen 1
       have HK6 := Lib.hid hk6
       have HL6 := Lib.hid (OL.grown HLM.out HXM.out (fun h => h) (by unfold T64; decide) (by decide) hg6)
       have HB6 := Lib.hid (HBM.out.grown hg6 HBM.out.size HGM.out)
       clear ho6 hg6 hat6 hk6)
    | (go_simp; with_reducible refine (HCP.out _ ((Below.refl _ _).drew)).mono ?_
       rintro e w5 ⟨A5, c5, rfl, hl5, hb5⟩
       have hb5' : Below w2.heap.size w2 w5 := ⟨hb5.os, hb5.tape, hb5.output, hb5.size, hb5.block⟩
       have hbm := below1 w5 (.cells #[] 5)
       have HBM := Lib.hid (stepB hb5' hbm)
       have HMM := Lib.hid (World.ownsRow_made (e := 5) (size := 1) (base := w2.heap.size) w5 #[] 0 hb5'.size (by decide) rfl)
       have HXM := Lib.hid (blk11 w5 5 #[])
       have HLM := Lib.hid (OL.below hl5 hbm)
       have HSR := Lib.hid (Src.bytes (keepS HT2.out (stepB hb5' hbm)).1)
       have HKM := Lib.hid (keepB (show Blk w2 (w.heap.size + 1) 45 zE from K2.out) (stepB hb5' hbm))
       have HB5L : Hid (w2.heap.size ≤ w2.drew.heap.size) := Nat.le_refl _
       have HZM := Lib.hid HBM.out.size
       have HGM : Hid (∀ q, (Value.slice (some ⟨w5.heap.size, 0, none⟩) 0 0).ownBlock = some q → w2.heap.size ≤ q) := fun q hq => by
         have e' : w5.heap.size = q := Option.some.inj hq
         have h9 : w2.heap.size ≤ w5.heap.size := hb5'.size
         omega
       have v0 := (keepB (show Blk w2 w.heap.size 45 (entV A n c B m d) from K1.out) hb5').cell 0
       have v1 := (keepB (show Blk w2 w.heap.size 45 (entV A n c B m d) from K1.out) hb5').cell 1
       have vl := (keepB (show Blk w2 w.heap.size 45 (entV A n c B m d) from K1.out) hb5').lt
       clear hl5 hb5 hb5' hbm
       dsimp only)
    | (go_simp; with_reducible refine (HCP.out _ HBD2.out).mono ?_
       rintro e w5 ⟨A5, c5, rfl, hl5, hb5⟩
       have HBM := Lib.hid (stepB HBD2.out hb5)
       have HMM := Lib.hid (keepO HM2.out hb5)
       have HXM := Lib.hid (keepB (show Blk _ w2.heap.size 5 #[] from HX2.out) hb5)
       have HLM := Lib.hid hl5
       have HSR := Lib.hid (Src.bytes (keepS HT2.out (stepB HBD2.out hb5)).1)
       have HKM := Lib.hid (keepB (show Blk w2 (w.heap.size + 1) 45 zE from K2.out) (stepB HBD2.out hb5))
       have HB5L : Hid (w2.heap.size ≤ ((w2.alloc (.cells #[] 5)).drew).heap.size) := HBD2.out.size
       have HZM := Lib.hid HBM.out.size
       have HGM : Hid (∀ q, (Value.slice (some ⟨w2.heap.size, 0, none⟩) 0 0).ownBlock = some q → w2.heap.size ≤ q) := fun q hq => by
         have e' : w2.heap.size = q := Option.some.inj hq
         have h9 : w2.heap.size ≤ w2.heap.size := Nat.le_refl _
         omega
       have v0 := (keepB (show Blk w2 w.heap.size 45 (entV A n c B m d) from K1.out) HBM.out).cell 0
       have v1 := (keepB (show Blk w2 w.heap.size 45 (entV A n c B m d) from K1.out) HBM.out).cell 1
       have vl := (keepB (show Blk w2 w.heap.size 45 (entV A n c B m d) from K1.out) HBM.out).lt
       clear hl5 hb5
       dsimp only)))
  all_goals
    have hfin := FIN.out w6 _ A5 A6 c5 c6 HL6.out HB5L.out HO6.out HK6.out HB6.out
    have hblk : Blk ((w6.setCell ⟨w.heap.size + 1, 0, none⟩ (.slice A5 n c5)).setCell ⟨w.heap.size + 1, 1, none⟩ (.slice A6 m c6)) (w.heap.size + 1) 45 (entV A5 n c5 A6 m c6) := (HK6.out.put 0 _).put 1 _
    clear k0 k1 kl y0 y1 v0 v1 vl k6 k6' kf6 kf6'
    generalize (w6.setCell ⟨w.heap.size + 1, 0, none⟩ (.slice A5 n c5)).setCell ⟨w.heap.size + 1, 1, none⟩ (.slice A6 m c6) = w7 at *
    have x0 := hblk.cell 0
    have x1 := hblk.cell 1
    have HFIN := Lib.hid hfin
    clear hfin hblk
    go_wp2_with fail
    try rw [Exit.noGoto_ret]
    refine bodyPost_ret (v := .agg (entV A5 n c5 A6 m c6)) (by simp [results, Try.results52, go_sem, x0, x1]) rfl HFIN.out
end
end Go.Proofs.Ytcbmnfjbmkpfiaa
