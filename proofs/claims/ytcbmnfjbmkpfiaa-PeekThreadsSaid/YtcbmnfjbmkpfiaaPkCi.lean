/- peek.Chained. -/
import Derived.Test.YtcbmnfjbmkpfiaaPkCh
import Derived.Test.YtcbmnfjbmkpfiaaPkEa
import Derived.Test.YtcbmnfjbmkpfiaaPkH
namespace Go.Proofs.Ytcbmnfjbmkpfiaa
open Go.ChangeShapes Go.WideShapes Go.ChangeAt Go.RowKit
set_option linter.unusedVariables false
/-- What peek.Chained tells. -/
noncomputable def chG (ep b : Nat) (es : List Ent) : Bool := ((lkB b 0 es).foldl chF (dec (BatOk ep b es), [])).1
/-- Bounds of what is looked at. -/
def CBd (es : List Ent) : Prop := es.length ≤ 30 ∧ ∀ e ∈ es, e.1.length ≤ 50 ∧ ∀ x ∈ e.1, x.2.length ≤ 1000
theorem chF_ok : ∀ (L : List (Nat × Lnk)) (m : Nat) (g : Bool × List Lnk), TOk m g.2 → TOk (m + L.length) (L.foldl chF g).2
  | [], m, g, h => h
  | y :: L, m, g, h => by
    have h1 : TOk (m + 1) (chF g y).2 := TOk.with (s := y.2.1) (l := y.2.2) (p := y.1) h
    have := chF_ok L (m + 1) (chF g y) h1
    rw [List.foldl_cons, List.length_cons, show m + (L.length + 1) = m + 1 + L.length by omega]; exact this
theorem lkB_len {b M : Nat} : ∀ (i : Nat) (es : List Ent), (∀ e ∈ es, e.1.length ≤ M) → (lkB b i es).length ≤ M * es.length
  | i, [], _ => Nat.zero_le _
  | i, e :: es, h => by
    have h1 := lkB_len (b := b) (i + 1) es (fun e he => h e (List.mem_cons_of_mem _ he))
    have h2 := h e (List.mem_cons_self ..)
    rw [lkB, List.length_append, List.length_map, List.length_cons, Nat.mul_succ]; omega
theorem lkB_mem {b : Nat} : ∀ (i : Nat) (es : List Ent) (y : Nat × Lnk), y ∈ lkB b i es → ∃ e ∈ es, y.2 ∈ e.1
  | i, [], y, h => by cases h
  | i, e :: es, y, h => by
    rw [lkB, List.mem_append] at h
    rcases h with h | h
    · rw [List.mem_map] at h
      obtain ⟨x, hx, rfl⟩ := h
      exact ⟨e, List.mem_cons_self .., hx⟩
    · obtain ⟨e', h1, h2⟩ := lkB_mem (i + 1) es y h
      exact ⟨e', List.mem_cons_of_mem _ h1, h2⟩
section
variable {D : Dom} {A : Option Addr} {n c ep b : Nat} {es : List Ent} {w : World}
set_option maxRecDepth 100000 in
set_option maxHeartbeats 4000000 in
theorem chained_any (hs : rpEnt.sl w D A n c es) (hD : ∀ k, D k → k < w.heap.size) (hC : CBd es) (hT : totL es ≤ 100000) (he : ep ≤ 18446744073709551615) (hb : b ≤ 18446744073709551615) :
    Calls Try.prog 17 #[.agg (batV ep b A n c)] w fun e w' => e = .returned (.bool (chG ep b es)) ∧ Below w.heap.size w w' := by
  have hb1 := below1 w (.cells (batV ep b A n c) 25)
  have HB1 := Lib.hid hb1
  have K1 := Lib.hid (blk11 w 25 (batV ep b A n c))
  have HS1 := Lib.hid (keepS (show Sl rpEnt w D A n c es from ⟨hs, hD⟩) hb1)
  have HN := Lib.hid (Rp.sl_len hs).1
  have HC := Lib.hid hC
  have HD0 := Lib.hid hD
  have hn30 : n ≤ 30 := by rw [← HN.out]; exact hC.1
  have HT := Lib.hid hT
  have HHE := Lib.hid he
  have HHB := Lib.hid hb
  obtain ⟨r, hr⟩ : ∃ r, r = chG ep b es := ⟨_, rfl⟩
  rw [← hr]
  have HR := Lib.hid hr
  obtain ⟨q, hq⟩ : ∃ q, dec (BatOk ep b es) = q := ⟨_, rfl⟩
  have HQ := Lib.hid hq
  clear hs hD hb1 hC hT he hb hr hq
  go_enter Try.func17, Try.ntmps17
  go_upto_region 1 with (fail)
  obtain ⟨gz, hgz⟩ : ∃ gz, gz = w.heap.size := ⟨_, rfl⟩
  rw [← hgz] at K1 ⊢
  have HGZ := Lib.hid hgz
  clear hgz
  generalize World.alloc w _ = w1 at *
  have k0 := (show Blk w1 gz 25 (batV ep b A n c) from K1.out).cell 0
  have k1 := (show Blk w1 gz 25 (batV ep b A n c) from K1.out).cell 1
  have k2 := (show Blk w1 gz 25 (batV ep b A n c) from K1.out).cell 2
  have hbr := bright_any (ep := ep) (b := b) HS1.out.1 HS1.out.2 (by omega) HT.out HHE.out HHB.out
  rw [HQ.out] at hbr
  have HBR := Lib.hid hbr
  clear hbr
  go_upto_region 2 with
    (go_at_call 29
     refine HBR.out.mono ?_
     rintro e w2 ⟨rfl, hb2⟩
     have hb3 := below1 w2 (.cells #[.bool q] 4)
     have HB3 := Lib.hid (stepB hb2 hb3)
     have HBS := Lib.hid hb2.size
     have G3 := Lib.hid (blk11 w2 4 #[.bool q])
     clear hb2 hb3 k0 k1 k2)
  obtain ⟨gg, hgg⟩ : ∃ gg, gg = w2.heap.size := ⟨_, rfl⟩
  rw [← hgg] at G3 ⊢
  have HGG : Hid (gz < gg) := by
    have h := HB3.out.size
    have h2 := (show Blk w1 gz 25 _ from K1.out).lt
    show gz < gg
    have h3 : w1.heap.size ≤ gg := by rw [hgg]; exact HBS.out
    omega
  clear hgg
  generalize World.alloc w2 _ = w3 at *
  have hb4 := below1 w3 (.cells #[.slice none 0 0] 35)
  have HB4 := Lib.hid (stepB HB3.out hb4)
  have G4 := Lib.hid (keepB (show Blk w3 gg 4 #[.bool q] from G3.out) hb4)
  have T4 := Lib.hid (blk11 w3 35 #[.slice none 0 0])
  clear hb4
  go_upto_region 3 with (fail)
  obtain ⟨gt, hgt⟩ : ∃ gt, gt = w3.heap.size := ⟨_, rfl⟩
  rw [← hgt] at T4 ⊢
  have HGT : Hid (gg < gt) := by show gg < gt; rw [hgt]; exact (show Blk w3 gg 4 _ from G3.out).lt
  clear hgt
  generalize World.alloc w3 _ = w4 at *
  have K4 := Lib.hid (keepB (show Blk w1 gz 25 (batV ep b A n c) from K1.out) HB4.out)
  have S4 := Lib.hid (keepS HS1.out HB4.out)
  have HB04 := Lib.hid (stepB HB1.out HB4.out)
  have k0 := (show Blk w4 gz 25 (batV ep b A n c) from K4.out).cell 0
  have k1 := (show Blk w4 gz 25 (batV ep b A n c) from K4.out).cell 1
  have k2 := (show Blk w4 gz 25 (batV ep b A n c) from K4.out).cell 2
  have heach := eachC_any (F := fun k => k = gg ∨ k = gt) (ep := ep) (b := b) (a0 := ⟨gt, 0, none⟩) (a1 := ⟨gg, 0, none⟩) (w := w4)
    (I := fun L u => Blk u gg 4 #[.bool (L.foldl chF (q, [])).1] ∧ ∃ A' n' c', Blk u gt 35 #[.slice A' n' c'] ∧ OLk u w.heap.size A' n' c' (L.foldl chF (q, [])).2)
    S4.out.1 S4.out.2 (fun k hk h => by have h1 := HD0.out k hk; have := HGZ.out; have := HGG.out; have := HGT.out; omega)
    (fun k h => by have h1 := (show Blk w4 gg 4 _ from G4.out).lt; have h2 := (show Blk w4 gt 35 _ from T4.out).lt; rcases h with rfl | rfl <;> assumption)
    (by omega) (fun e he => Nat.le_trans (HC.out.2 e he).1 (by decide)) HHB.out
    (fun L u u' h hb => by
      obtain ⟨h1, A', n', c', h2, h3⟩ := h
      exact ⟨keepB h1 hb, A', n', c', keepB h2 hb, OL.below h3 hb⟩)
    ⟨G4.out, none, 0, 0, T4.out, OL.nil _ _ _ _ _ _⟩
    (fun L u p s l A' n' c' hR hp hss hx hD' hIu hFu => by
      obtain ⟨h1, At, nt, ct, h2, h3⟩ := hIu
      obtain ⟨R, hR⟩ := hR
      have hlen : L.length ≤ 1500 := by
        have h4 := lkB_len (b := b) 0 es (fun e he => (HC.out.2 e he).1)
        have h5 := HC.out.1
        rw [hR, List.length_append] at h4
        omega
      have hTK := chF_ok L 0 (q, []) ⟨Nat.le_refl _, fun x hx => by cases hx⟩
      have hmem : (p, (s, l)) ∈ lkB b 0 es := by rw [hR]; simp
      obtain ⟨e, he, hxe⟩ := lkB_mem 0 es _ hmem
      have hl := (HC.out.2 e he).2 _ hxe
      have hnn := (Rp.sl_len hx).1
      simp only at hl
      have hbw : w.heap.size ≤ u.heap.size := by have := hFu gt (.inr rfl); have := HGT.out; have := HGG.out; have := HGZ.out; omega
      have h6 := chained1_any (D := D) (p := p) (s := s) (base := w.heap.size) h1 h2 h3 hTK (by omega) hbw hx hD' (fun k hk h => by have h1 := HD0.out k hk; have := HGZ.out; have := HGG.out; have := HGT.out; omega) (by omega) hp hss
      refine h6.mono ?_
      rintro e w' ⟨h7, h8, h9, h10⟩
      rw [List.foldl_append, List.foldl_cons, List.foldl_nil]
      exact ⟨h7, ⟨h8, h9⟩, h10⟩)
  have HEA := Lib.hid heach
  clear heach
  go_upto_region 4 with
    (go_at_call 45
     refine HEA.out.mono ?_
     rintro e w5 ⟨rfl, hi5, hc5⟩
     have HI5 := Lib.hid hi5.1
     have HC5 := Lib.hid hc5
     clear hi5 hc5 k0 k1 k2)
  have HRQ : Hid ((List.foldl chF (q, []) (lkB b 0 es)).1 = r) := by
    show _ = _
    rw [HR.out, ← HQ.out]; rfl
  have g0 := (show Blk w5 gg 4 #[.bool _] from HI5.out).cell 0
  rw [HRQ.out] at g0
  have g1 : w5.cell? ⟨gg, 0, none⟩ = some (.bool r) := g0
  clear g0
  have HB5 := Lib.hid (chBase HB04.out HC5.out (fun k hk => by have := HGZ.out; have := HGG.out; have := HGT.out; omega))
  go_wp2_with fail
  go_ret
  exact ⟨rfl, HB5.out⟩
end
end Go.Proofs.Ytcbmnfjbmkpfiaa
