/- The literal of peek.Chained. -/
import Derived.Test.YtcbmnfjbmkpfiaaPkEq
import Derived.Test.YtcbmnfjbmkpfiaaPkF
namespace Go.Proofs.Ytcbmnfjbmkpfiaa
open Go.ChangeShapes Go.WideShapes Go.ChangeAt Go.RowKit
set_option linter.unusedVariables false
/-- One link more: whether all was good, and the tails. -/
noncomputable def chF (g : Bool × List Lnk) (y : Nat × Lnk) : Bool × List Lnk := ((if (fnd g.2 y.2.1).1 then g.1 && dec ((fnd g.2 y.2.1).2.2 = y.2.2) else g.1), withL g.2 (extL y.2 y.1))
/-- The store of the Bool. -/
theorem store_good {D : Dom} {A At : Option Addr} {n c nt ct gg gt gx base : Nat} {xl : List Nat} {T : List Lnk} {w u : World} {b : Bool} {v : Array Value} (b' : Bool) (hne : gg ≠ gt) (hgx : gx ≠ gg) (hDg : ∀ k, D k → ¬ (k = gg ∨ k = gt))
    (hg : Blk u gg 4 #[.bool b]) (ht : Blk u gt 35 #[.slice At nt ct]) (hx : Blk u gx 57 v) (ho : OLk u base At nt ct T) (hl : Sl rpU64 u D A n c xl) (hb : Below w.heap.size w u) :
    Hid (Blk (u.setCell ⟨gg, 0, none⟩ (.bool b')) gg 4 #[.bool b']) ∧ Hid (Blk (u.setCell ⟨gg, 0, none⟩ (.bool b')) gt 35 #[.slice At nt ct]) ∧ Hid (Blk (u.setCell ⟨gg, 0, none⟩ (.bool b')) gx 57 v) ∧
      Hid (OLk (u.setCell ⟨gg, 0, none⟩ (.bool b')) base At nt ct T) ∧ Hid (Sl rpU64 (u.setCell ⟨gg, 0, none⟩ (.bool b')) D A n c xl) ∧ Hid (Chg (fun k => k = gg ∨ k = gt) w (u.setCell ⟨gg, 0, none⟩ (.bool b'))) :=
  ⟨hg.put 0 _, ht.far (p := ⟨gg, 0, none⟩) (by show gt ≠ gg; omega) _, hx.far (p := ⟨gg, 0, none⟩) (by show gx ≠ gg; omega) _, OL.put ho hg (fun h => h) (by unfold T64; decide) (by decide) (a := ⟨gg, 0, none⟩) rfl _,
    chS hl ((Chg.refl (fun k => k = gg ∨ k = gt) u).setCell (p := ⟨gg, 0, none⟩) (.inl (.inl rfl)) _) hDg, (Chg.of_pure hb (fun k => k = gg ∨ k = gt)).setCell (p := ⟨gg, 0, none⟩) (.inl (.inl rfl)) _⟩
section
variable {D : Dom} {A At : Option Addr} {n c nt ct p s gg gt base M : Nat} {xl : List Nat} {T : List Lnk} {w : World} {q : Bool}
set_option maxRecDepth 100000 in
set_option maxHeartbeats 4000000 in
theorem chained1_any (hg : Blk w gg 4 #[.bool q]) (ht : Blk w gt 35 #[.slice At nt ct]) (ho : OLk w base At nt ct T) (hT : TOk M T) (hM : M ≤ 90000) (hbz : base ≤ w.heap.size)
    (hx : rpU64.sl w D A n c xl) (hD : ∀ k, D k → k < w.heap.size) (hDg : ∀ k, D k → ¬ (k = gg ∨ k = gt)) (hn : n ≤ 1000) (hp : p ≤ 18446744073709551615) (hs : s ≤ 18446744073709551615) :
    Calls Try.prog 46 #[.int .u64 (p : Int), .agg (lkV s A n c), .pointer (some ⟨gt, 0, none⟩), .pointer (some ⟨gg, 0, none⟩)] w fun e w' => e = .returned (.tuple #[]) ∧
      Blk w' gg 4 #[.bool (chF (q, T) (p, (s, xl))).1] ∧ (∃ A' n' c', Blk w' gt 35 #[.slice A' n' c'] ∧ OLk w' base A' n' c' (chF (q, T) (p, (s, xl))).2) ∧ Chg (fun k => k = gg ∨ k = gt) w w' := by
  have hne : gg ≠ gt := fun e => by subst e; exact absurd (blk_type hg ht) (by decide)
  have hb1 := below1 w (.cells (lkV s A n c) 57)
  have HB1 := Lib.hid hb1
  have K1 := Lib.hid (blk11 w 57 (lkV s A n c))
  have G1 := Lib.hid (keepB hg hb1)
  have T1 := Lib.hid (keepB ht hb1)
  have HO1 := Lib.hid (OL.below ho hb1)
  have HX1 := Lib.hid (keepS (show Sl rpU64 w D A n c xl from ⟨hx, hD⟩) hb1)
  have HTK := Lib.hid hT
  have hnt : nt ≤ 90000 := by have := ho.len; have := hT.1; omega
  have HGL := Lib.hid hg.lt
  have HTL := Lib.hid ht.lt
  have HBZ := Lib.hid hbz
  have HDG := Lib.hid hDg
  obtain ⟨q', hq'⟩ : ∃ q', q' = (chF (q, T) (p, (s, xl))).1 := ⟨_, rfl⟩
  rw [← hq']
  have HQ : Hid (q' = if (fnd T s).1 then q && dec ((fnd T s).2.2 = xl) else q) := hq'
  obtain ⟨T', hT'⟩ : ∃ T', T' = (chF (q, T) (p, (s, xl))).2 := ⟨_, rfl⟩
  rw [← hT']
  have HT2 : Hid (T' = withL T (extL (s, xl) p)) := hT'
  clear hg ht ho hT hx hD hb1 hbz hq' hT' hDg
  go_enter Try.func46, Try.ntmps46
  go_upto_region 1 with (fail)
  obtain ⟨gx, hgx⟩ : ∃ gx, gx = w.heap.size := ⟨_, rfl⟩
  rw [← hgx] at K1 ⊢
  have HGX := Lib.hid hgx
  clear hgx
  generalize World.alloc w _ = w1 at *
  obtain ⟨fl, hfl⟩ : ∃ fl, fl = (fnd T s).2.2 := ⟨_, rfl⟩
  obtain ⟨fs, hfs⟩ : ∃ fs, fs = (fnd T s).2.1 := ⟨_, rfl⟩
  obtain ⟨fb, hfb⟩ : ∃ fb, fb = (fnd T s).1 := ⟨_, rfl⟩
  have HQ2 : Hid (q' = if fb then q && dec (fl = xl) else q) := by show _ = _; rw [hfl, hfb]; exact HQ.out
  have HF : Hid (Calls Try.prog 47 #[.slice At nt ct, .int .u64 (s : Int)] w1 fun e w' => ∃ (A' : Option Addr) (n' c' : Nat), e = .returned (.tuple #[.agg (lkV fs A' n' c'), .bool fb]) ∧ Row64 w' w1.heap.size A' n' c' fl ∧ Below w1.heap.size w1 w') := by
    have h := find_any (id := s) (OL.sl HO1.out) (fun k hk => hk) (by omega) (fun x hx => Nat.le_trans (HTK.out.2 x hx) (by decide)) hs
    refine h.mono fun e w' hh => ?_
    obtain ⟨A', n', c', he, hr, hb⟩ := hh
    exact ⟨A', n', c', by rw [he, hfs, hfb], by rw [hfl]; exact hr, hb⟩
  clear hfl hfs hfb
  have t0 := (show Blk w1 gt 35 #[.slice At nt ct] from T1.out).cell 0
  have x0 := (show Blk w1 gx 57 (lkV s A n c) from K1.out).cell 0
  go_cut [6, 7] (fun v6 v7 wx => ∃ (gf : Nat) (A5 : Option Addr) (fn c5 : Nat), v6 = .pointer (some ⟨gf, 0, none⟩) ∧ v7 = .bool fb ∧ Hid (Blk wx gf 57 (lkV fs A5 fn c5)) ∧ Hid (Row64 wx w1.heap.size A5 fn c5 fl) ∧ Hid (Below w1.heap.size w1 wx))
  case first =>
    go_wp2_with
      (go_at_call 47
       refine HF.out.mono ?_
       rintro e w2 ⟨A5, fn, c5, rfl, hr5, hb5⟩
       have hb6 := below1 w2 (.cells (lkV fs A5 fn c5) 57)
       have HB3 := Lib.hid (stepB hb5 hb6)
       have HR3 := Lib.hid (hr5.below hb6)
       have HKT := Lib.hid (blk11 w2 57 (lkV fs A5 fn c5))
       clear hr5 hb5 hb6 x0 t0)
    go_meet
    exact ⟨w2.heap.size, A5, fn, c5, rfl, rfl, HKT, HR3, HB3⟩
  case rest =>
  obtain ⟨gf, A5, fn, c5, rfl, rfl, HKT, HR3, HB3⟩ := hcut
  obtain ⟨w3, hw3⟩ : ∃ w3, w3 = wc := ⟨_, rfl⟩
  subst hw3
  have G3 := Lib.hid (keepB (show Blk w1 gg 4 #[.bool q] from G1.out) HB3.out)
  have T3 := Lib.hid (keepB (show Blk w1 gt 35 #[.slice At nt ct] from T1.out) HB3.out)
  have K3 := Lib.hid (keepB (show Blk w1 gx 57 (lkV s A n c) from K1.out) HB3.out)
  have HO3 := Lib.hid (OL.below HO1.out HB3.out)
  have HX3 := Lib.hid (keepS HX1.out HB3.out)
  have HB03 := Lib.hid (stepB HB1.out HB3.out)
  clear t0 x0 K1 G1 T1 HO1 HX1 HF
  have HXG : Hid (gx ≠ gg) := by have := HGX.out; have := HGL.out; show gx ≠ gg; omega
  rename_i hKK
  refine hKK _ _ ?_
  clear hKK
  go_cut [] (fun wx => Hid (Blk wx gg 4 #[.bool q']) ∧ Hid (Blk wx gt 35 #[.slice At nt ct]) ∧ Hid (Blk wx gx 57 (lkV s A n c)) ∧ Hid (OLk wx base At nt ct T) ∧ Hid (Sl rpU64 wx D A n c xl) ∧ Hid (Chg (fun k => k = gg ∨ k = gt) w wx))
  case first =>
    cases fb
    case false =>
      have e : q' = q := HQ2.out
      subst e
      go_wp2_with fail
      go_meet
      exact ⟨G3, T3, K3, HO3, HX3, Chg.of_pure HB03.out _⟩
    case true =>
      have g0 := (show Blk w3 gg 4 #[.bool q] from G3.out).cell 0
      have gf0 := (show Blk w3 gg 4 #[.bool q] from G3.out).frozen 0
      cases q
      case false =>
        have e : q' = false := by rw [HQ2.out]; rfl
        subst e
        go_wp2_with fail
        go_meet
        exact store_good false hne HXG.out HDG.out G3.out T3.out K3.out HO3.out HX3.out HB03.out
      case true =>
        have f1 := (show Blk w3 gf 57 (lkV fs A5 fn c5) from HKT.out).cell 1
        have x1 := (show Blk w3 gx 57 (lkV s A n c) from K3.out).cell 1
        have heq := eqq64_any HR3.out.rd HX3.out.1 (fun k hk => hk) HX3.out.2
        obtain ⟨b, hb⟩ : ∃ b, b = dec (fl = xl) := ⟨_, rfl⟩
        rw [← hb] at heq
        have HEQ := Lib.hid heq
        have e : q' = b := by rw [HQ2.out, hb]; rfl
        subst e
        clear heq hb
        go_wp2_with fail
        refine HEQ.out.mono ?_; rintro e w4 ⟨rfl, hb4⟩
        have HB04 := Lib.hid (stepB HB03.out hb4)
        have G4 := Lib.hid (keepB (show Blk w3 gg 4 #[.bool true] from G3.out) hb4)
        have T4 := Lib.hid (keepB (show Blk w3 gt 35 #[.slice At nt ct] from T3.out) hb4)
        have K4 := Lib.hid (keepB (show Blk w3 gx 57 (lkV s A n c) from K3.out) hb4)
        have HO4 := Lib.hid (OL.below HO3.out hb4)
        have HX4 := Lib.hid (keepS HX3.out hb4)
        clear hb4 f1 x1 g0 gf0
        have g0 := (show Blk w4 gg 4 #[.bool true] from G4.out).cell 0
        have gf0 := (show Blk w4 gg 4 #[.bool true] from G4.out).frozen 0
        have HST := Lib.hid (store_good q' hne HXG.out HDG.out G4.out T4.out K4.out HO4.out HX4.out HB04.out)
        go_wp2_with fail
        go_meet
        exact HST.out
  case rest =>
    clear G3 T3 K3 HO3 HX3 HKT HR3
    obtain ⟨G1, T1, K1, HO1, HX1, HC1⟩ := hcut
    obtain ⟨w6, hw6⟩ : ∃ w6, w6 = wc := ⟨_, rfl⟩
    subst hw6
    have hbd : Below w6.heap.size w6 w6.drew := (Below.refl _ _).drew
    have T6 := Lib.hid (keepB (show Blk w6 gt 35 #[.slice At nt ct] from T1.out) hbd)
    have G6 := Lib.hid (keepB (show Blk w6 gg 4 #[.bool q'] from G1.out) hbd)
    have K6 := Lib.hid (keepB (show Blk w6 gx 57 (lkV s A n c) from K1.out) hbd)
    have HO6 := Lib.hid (OL.below HO1.out hbd)
    have HX6 := Lib.hid (keepS HX1.out hbd)
    have HC6 := Lib.hid (HC1.out.drew)
    have HEX := Lib.hid (extend_any (s := s) (p := p) HX6.out.1 HX6.out.2 (by omega) hp)
    have v0 := (show Blk w6.drew gt 35 #[.slice At nt ct] from T6.out).cell 0
    have vx := (show Blk w6.drew gx 57 (lkV s A n c) from K6.out).cell 0
    have vy := (show Blk w6.drew gx 57 (lkV s A n c) from K6.out).cell 1
    clear hbd
    have t0 := (show Blk w6 gt 35 #[.slice At nt ct] from T1.out).cell 0
    have tf0 := (show Blk w6 gt 35 #[.slice At nt ct] from T1.out).frozen 0
    have x0 := (show Blk w6 gx 57 (lkV s A n c) from K1.out).cell 0
    have x1 := (show Blk w6 gx 57 (lkV s A n c) from K1.out).cell 1
    go_wp2_with fail
    go_region_with (
      (first
       | (go_at_call 50
          refine (HEX.out).mono ?_
          rintro e w7 ⟨A6, n6, c6, rfl, hr7, hb7⟩
          have HB7 := Lib.hid hb7
          have T7 := Lib.hid (keepB (show Blk w6.drew gt 35 #[.slice At nt ct] from T6.out) hb7)
          have G7 := Lib.hid (keepB (show Blk w6.drew gg 4 #[.bool q'] from G6.out) hb7)
          have K7 := Lib.hid (keepB (show Blk w6.drew gx 57 (lkV s A n c) from K6.out) hb7)
          have u0 := (show Blk w7 gt 35 #[.slice At nt ct] from T7.out).cell 0
          have y0 := (show Blk w7 gx 57 (lkV s A n c) from K7.out).cell 0
          have y1 := (show Blk w7 gx 57 (lkV s A n c) from K7.out).cell 1
          have HN6 : Hid (n6 ≤ 1000000) := by
            show _ ≤ _
            have h1 := hr7.len
            have h2 := extL_len (s, xl) p
            omega
          have HWT := Lib.hid (with_any (s := s) (OL.sl (OL.below HO6.out hb7)) (fun k hk => hk) (by omega) (fun x hx => Nat.le_trans (HTK.out.2 x hx) (by decide)) hr7.rd (fun k hk => hk) HN6.out hs)
          clear hr7 hb7)
       | (go_at_call 49
          refine HWT.out.mono ?_
          rintro e w8 ⟨A7, n7, c7, rfl, ho8, hb8⟩
          have T8 := Lib.hid (keepB (show Blk w7 gt 35 #[.slice At nt ct] from T7.out) hb8)
          have G8 := Lib.hid (keepB (show Blk w7 gg 4 #[.bool q'] from G7.out) hb8)
          have K8 := Lib.hid (keepB (show Blk w7 gx 57 (lkV s A n c) from K7.out) hb8)
          have z0 := (show Blk w8 gt 35 #[.slice At nt ct] from T8.out).cell 0
          have zf0 := (show Blk w8 gt 35 #[.slice At nt ct] from T8.out).frozen 0
          have zx := (show Blk w8 gx 57 (lkV s A n c) from K8.out).cell 0
          have zy := (show Blk w8 gx 57 (lkV s A n c) from K8.out).cell 1
          have HO8 := Lib.hid ho8
          have HB8 := Lib.hid hb8
          clear ho8 hb8)))
    all_goals
      have hgr : w8.grownBy (w8.setCell ⟨gt, 0, none⟩ (.slice A7 n7 c7)) (some gt) := grown_setCell w8 ⟨gt, 0, none⟩ _
      have HB68 := Lib.hid (stepB HB7.out HB8.out)
      have T9 : Blk (w8.setCell ⟨gt, 0, none⟩ (.slice A7 n7 c7)) gt 35 #[.slice A7 n7 c7] := (show Blk w8 gt 35 #[.slice At nt ct] from T8.out).put 0 _
      have G9 : Blk (w8.setCell ⟨gt, 0, none⟩ (.slice A7 n7 c7)) gg 4 #[.bool q'] := (show Blk w8 gg 4 #[.bool q'] from G8.out).far (p := ⟨gt, 0, none⟩) hne _
      have ho9 : OLk w8 base A7 n7 c7 T' := by
        rw [HT2.out]
        exact OL.mono HO8.out (by have := HC6.out.size; have := HB7.out.size; have := HBZ.out; omega)
      have HO9 := OL.put ho9 (show Blk w8 gt 35 #[.slice At nt ct] from T8.out) (fun h => h) (by unfold T64; decide) (by decide) (a := ⟨gt, 0, none⟩) rfl (.slice A7 n7 c7)
      have HC9 := (HC6.out.trans (Chg.of_pure HB68.out (fun k => k = gg ∨ k = gt))).setCell (p := ⟨gt, 0, none⟩) (.inl (.inr rfl)) (.slice A7 n7 c7)
      go_wp2_with fail
      go_end0
      exact ⟨rfl, G9, ⟨A7, n7, c7, T9, HO9⟩, HC9⟩
end
end Go.Proofs.Ytcbmnfjbmkpfiaa
