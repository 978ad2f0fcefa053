/- PeekJoins: the walk. -/
import Derived.Test.YtcbmnfjbmkpfiaaPkQ
namespace Go.Proofs.Ytcbmnfjbmkpfiaa
open Go.ChangeShapes Go.WideShapes Go.ChangeAt Go.RowKit
set_option linter.unusedVariables false
theorem EV.of2 {w : World} {D : Dom} {A : Option Addr} {n c : Nat} {es : List Ent} (h : rpEnt.sl w D A n c es) (hD : ∀ k, D k → k < w.heap.size) : ∃ vals, EV w D vals es ∧ ∀ w', Below w.heap.size w w' → Src w' A n 2 vals := by
  obtain ⟨vals, hev, hl, h1, hc⟩ := EV.of h
  refine ⟨vals, hev, fun w' hb => ⟨hl, h1, fun hp => ?_⟩⟩
  obtain ⟨a, ha, hca⟩ := hc hp
  obtain ⟨b, off, x, _, _, _, _, hA, hDb, _⟩ := ent_at h (k := 0) (by omega)
  rw [ha] at hA
  injection hA with hA
  subst hA
  exact ⟨_, ha, fun j u hu => by
    have h2 := hca j u hu
    rw [add_plain] at h2 ⊢
    exact (hb.cell (p := ⟨b, off + j, none⟩) (hD b hDb)).trans h2⟩
theorem end_wrap {b n : Nat} (hb : b ≤ 18446744073709551615) (hn : n ≤ 30) : IntKind.u64.wrap ((b : Int) + (n : Int)) = (endN b n : Int) := by
  unfold endN
  rcases Nat.lt_or_ge (b + n) 18446744073709551616 with h | h
  · rw [IntWalk.u64_in _ (by omega), Nat.mod_eq_of_lt h]; omega
  · have e : (b + n) % 18446744073709551616 = b + n - 18446744073709551616 := by omega
    rw [e, IntKind.wrap_u64]; omega
theorem cuts_eq {ep b t : Nat} {es : List Ent} (h1 : CutOk ep b es b t) (h2 : CutOk ep b es t (endN b es.length)) :
    (es.take (t - b)).drop (b - b) = es.take (t - b) ∧ (es.take (endN b es.length - b)).drop (t - b) = es.drop (t - b) ∧ joinC ep b (es.take (t - b)) ep t (es.drop (t - b)) = 0 := by
  obtain ⟨h3, _, h4, h5⟩ := h1
  obtain ⟨_, _, h6, h7⟩ := h2
  have h8 := h3.2.1.2.2.2
  have he : endN b es.length = b + es.length := by unfold endN; exact Nat.mod_eq_of_lt (by omega)
  rw [he] at h6 ⊢
  refine ⟨by rw [Nat.sub_self, List.drop_zero], by rw [Nat.add_sub_cancel_left, List.take_length], ?_⟩
  have := cut_join (k := t - b) h3 (by omega) (by omega)
  rwa [show b + (t - b) = t by omega] at this
theorem joinback_any {w : World} {D D' : Dom} {A A2 : Option Addr} {n c ep b m c2 t k : Nat} {es : List Ent} (hs : rpEnt.sl w D A n c (es.take k)) (hD : ∀ k, D k → k < w.heap.size)
    (hs2 : rpEnt.sl w D' A2 m c2 (es.drop k)) (hD2 : ∀ k, D' k → k < w.heap.size) (hB : BBd es) (he : ep ≤ 18446744073709551615) (hb : b ≤ 18446744073709551615) (ht : t ≤ 18446744073709551615)
    (h0 : joinC ep b (es.take k) ep t (es.drop k) = 0) :
    Calls Try.prog 9 #[.agg (batV ep b A n c), .agg (batV ep t A2 m c2)] w fun e w' => ∃ Ay ny cy, e = .returned (.tuple #[.agg (batV ep b Ay ny cy), .int .i64 0]) ∧ rpEnt.sl w' (fun k => k < w'.heap.size) Ay ny cy es ∧ Below w.heap.size w w' := by
  have hl1 := (Rp.sl_len hs).1
  have hl2 := (Rp.sl_len hs2).1
  have hl := hB.1.1
  rw [List.length_take] at hl1
  rw [List.length_drop] at hl2
  refine (join_any (ep := ep) (b := b) (ep2 := ep) (b2 := t) hs hD (ebd_sub hB.ebd (by rw [List.length_take]; omega) (fun e he => List.mem_of_mem_take he)) (Nat.le_trans (tot_le _) (Nat.le_trans hB.2 (by decide))) he hb
    hs2 hD2 (ebd_sub hB.ebd (by rw [List.length_drop]; omega) (fun e he => List.mem_of_mem_drop he)) (Nat.le_trans (tot_drop _) (Nat.le_trans hB.2 (by decide))) he ht (by omega)).mono ?_
  intro e w' hj
  obtain ⟨ye, yb, Ay, ny, cy, ys, he, hsy, hby, hy1, _⟩ := join_form hj
  obtain ⟨g1, g2, g3⟩ := hy1 h0
  rw [h0, g1, g2] at he
  rw [g3, List.take_append_drop] at hsy
  exact ⟨Ay, ny, cy, he, hsy, hby⟩
section
variable {D D' : Dom} {A A2 : Option Addr} {n c ep b m c2 ep2 b2 t : Nat} {es es2 : List Ent} {w : World}
set_option maxRecDepth 100000 in
set_option maxHeartbeats 8000000 in
theorem peekJoins_any (hs : rpEnt.sl w D A n c es) (hD : ∀ k, D k → k < w.heap.size) (he : ep ≤ 18446744073709551615) (hb : b ≤ 18446744073709551615)
    (hs2 : rpEnt.sl w D' A2 m c2 es2) (hD2 : ∀ k, D' k → k < w.heap.size) (he2 : ep2 ≤ 18446744073709551615) (hb2 : b2 ≤ 18446744073709551615) (ht : t ≤ 18446744073709551615) :
    Calls Try.prog 3 #[.agg (batV ep b A n c), .agg (batV ep2 b2 A2 m c2), .int .u64 (t : Int)] w fun e w' => e = .returned (.bool true) ∧ Below w.heap.size w w' := by
  have hbl := below2 w (.cells (batV ep b A n c) 25) (.cells (batV ep2 b2 A2 m c2) 25)
  have HB2 := Lib.hid hbl
  have K1 := Lib.hid (blk21 w 25 25 (batV ep b A n c) (batV ep2 b2 A2 m c2))
  have K2 := Lib.hid (blk22 w 25 25 (batV ep b A n c) (batV ep2 b2 A2 m c2))
  have SA := Lib.hid (keepS (show Sl rpEnt w D A n c es from ⟨hs, hD⟩) hbl)
  have SB := Lib.hid (keepS (show Sl rpEnt w D' A2 m c2 es2 from ⟨hs2, hD2⟩) hbl)
  have SA0 := Lib.hid (show Sl rpEnt w D A n c es from ⟨hs, hD⟩)
  have SB0 := Lib.hid (show Sl rpEnt w D' A2 m c2 es2 from ⟨hs2, hD2⟩)
  obtain ⟨vals1, ev1, src1⟩ := EV.of2 hs hD
  obtain ⟨vals2, ev2, src2⟩ := EV.of2 hs2 hD2
  have EV1 := Lib.hid ev1
  have EV2 := Lib.hid ev2
  have SR1 := Lib.hid src1
  have SR2 := Lib.hid src2
  clear ev1 ev2 src1 src2
  have HN := Lib.hid (Rp.sl_len hs).1
  have HM := Lib.hid (Rp.sl_len hs2).1
  have HHE := Lib.hid he
  have HHB := Lib.hid hb
  have HHE2 := Lib.hid he2
  have HHB2 := Lib.hid hb2
  have HHT := Lib.hid ht
  obtain ⟨gz, hgz⟩ : ∃ gz, gz = w.heap.size := ⟨_, rfl⟩
  rw [← hgz] at K1 K2
  have HGZ := Lib.hid hgz
  clear hs hD hbl he hb hs2 hD2 he2 hb2 ht
  go_enter Try.func3, Try.ntmps3
  go_upto_region 1 with (fail)
  rw [← hgz]
  clear hgz
  generalize World.alloc (World.alloc w _) _ = w2 at *
  have k0 := (show Blk w2 gz 25 (batV ep b A n c) from K1.out).cell 0
  have k1 := (show Blk w2 gz 25 (batV ep b A n c) from K1.out).cell 1
  have k2 := (show Blk w2 gz 25 (batV ep b A n c) from K1.out).cell 2
  have HLG := Lib.hid (blong_any (ep := ep) (b := b) SA.out.1 SA.out.2)
  go_wp2_with fail
  refine HLG.out.mono ?_; rintro e w3 ⟨r1, rfl, hr1, hb3⟩
  have HB3 := Lib.hid (stepB HB2.out hb3)
  have K13 := Lib.hid (keepB (show Blk w2 gz 25 (batV ep b A n c) from K1.out) hb3)
  have K23 := Lib.hid (keepB (show Blk w2 (gz + 1) 25 (batV ep2 b2 A2 m c2) from K2.out) hb3)
  have SA3 := Lib.hid (keepS SA.out hb3)
  have SB3 := Lib.hid (keepS SB.out hb3)
  clear hb3 k0 k1 k2
  cases r1
  case true =>
    clear hr1
    have HLV := Lib.hid (live26_any w3)
    go_wp2_with fail
    refine HLV.out.mono ?_; rintro e wz ⟨rfl, hbz⟩
    have HBZ := Lib.hid (stepB HB3.out hbz)
    clear hbz
    go_wp2_with fail
    go_ret
    exact ⟨rfl, HBZ.out⟩
  case false =>
  have BD1 := Lib.hid (hr1 rfl)
  clear hr1
  have k0 := (show Blk w3 (gz + 1) 25 (batV ep2 b2 A2 m c2) from K23.out).cell 0
  have k1 := (show Blk w3 (gz + 1) 25 (batV ep2 b2 A2 m c2) from K23.out).cell 1
  have k2 := (show Blk w3 (gz + 1) 25 (batV ep2 b2 A2 m c2) from K23.out).cell 2
  have HLG2 := Lib.hid (blong_any (ep := ep2) (b := b2) SB3.out.1 SB3.out.2)
  go_wp2_with fail
  refine HLG2.out.mono ?_; rintro e w4 ⟨r2, rfl, hr2, hb4⟩
  have HB4 := Lib.hid (stepB HB3.out hb4)
  have K14 := Lib.hid (keepB (show Blk w3 gz 25 (batV ep b A n c) from K13.out) hb4)
  have K24 := Lib.hid (keepB (show Blk w3 (gz + 1) 25 (batV ep2 b2 A2 m c2) from K23.out) hb4)
  have SA4 := Lib.hid (keepS SA3.out hb4)
  have SB4 := Lib.hid (keepS SB3.out hb4)
  clear hb4 k0 k1 k2
  cases r2
  case true =>
    clear hr2
    have HLV := Lib.hid (live26_any w4)
    go_wp2_with fail
    refine HLV.out.mono ?_; rintro e wz ⟨rfl, hbz⟩
    have HBZ := Lib.hid (stepB HB4.out hbz)
    clear hbz
    go_wp2_with fail
    go_ret
    exact ⟨rfl, HBZ.out⟩
  case false =>
  have BD2 := Lib.hid (hr2 rfl)
  clear hr2
  have hn30 : n ≤ 30 := by rw [← HN.out]; exact BD1.out.1.1
  have hm30 : m ≤ 30 := by rw [← HM.out]; exact BD2.out.1.1
  have k0 := (show Blk w4 gz 25 (batV ep b A n c) from K14.out).cell 0
  have k1 := (show Blk w4 gz 25 (batV ep b A n c) from K14.out).cell 1
  have k2 := (show Blk w4 gz 25 (batV ep b A n c) from K14.out).cell 2
  have l0 := (show Blk w4 (gz + 1) 25 (batV ep2 b2 A2 m c2) from K24.out).cell 0
  have l1 := (show Blk w4 (gz + 1) 25 (batV ep2 b2 A2 m c2) from K24.out).cell 1
  have l2 := (show Blk w4 (gz + 1) 25 (batV ep2 b2 A2 m c2) from K24.out).cell 2
  have HJ := Lib.hid (join_any (ep := ep) (b := b) (ep2 := ep2) (b2 := b2) SA4.out.1 SA4.out.2 BD1.out.ebd (Nat.le_trans BD1.out.2 (by decide)) HHE.out HHB.out SB4.out.1 SB4.out.2 BD2.out.ebd (Nat.le_trans BD2.out.2 (by decide)) HHE2.out HHB2.out (by omega))
  obtain ⟨jc, hjc⟩ : ∃ jc, jc = joinC ep b es ep2 b2 es2 := ⟨_, rfl⟩
  have HJC := Lib.hid hjc
  clear hjc
  go_upto_region 4 with
    (go_at_call 9
     refine HJ.out.mono ?_
     rintro e w5 hj
     obtain ⟨xe, xb, Ax, nx, cx, xs, rfl, hx, hb5, hj1, hj2⟩ := join_form hj
     clear hj
     rw [← HJC.out] at hj1 hj2 ⊢
     have hba := below1 w5 (.cells (batV xe xb Ax nx cx) 25)
     have HJ1 := Lib.hid hj1
     have HJ2 := Lib.hid hj2
     have HB6 := Lib.hid (stepB HB4.out (stepB hb5 hba))
     have K16 := Lib.hid (keepB (show Blk w4 gz 25 (batV ep b A n c) from K14.out) (stepB hb5 hba))
     have K26 := Lib.hid (keepB (show Blk w4 (gz + 1) 25 (batV ep2 b2 A2 m c2) from K24.out) (stepB hb5 hba))
     have SA6 := Lib.hid (keepS SA4.out (stepB hb5 hba))
     have SB6 := Lib.hid (keepS SB4.out (stepB hb5 hba))
     have SX6 := Lib.hid (keepS (show Sl rpEnt w5 _ Ax nx cx xs from ⟨hx, fun k hk => hk⟩) hba)
     have KX6 := Lib.hid (blk11 w5 25 (batV xe xb Ax nx cx))
     clear hj1 hj2 hx hb5 hba k0 k1 k2 l0 l1 l2)
  obtain ⟨gx, hgx⟩ : ∃ gx, gx = w5.heap.size := ⟨_, rfl⟩
  rw [← hgx] at KX6 ⊢
  clear hgx
  generalize World.alloc w5 _ = w6 at *
  have k0 := (show Blk w6 gz 25 (batV ep b A n c) from K16.out).cell 0
  have k1 := (show Blk w6 gz 25 (batV ep b A n c) from K16.out).cell 1
  have hb7 := below1 w6 (.cells (batV ep b none 0 0) 25)
  have HB7 := Lib.hid (stepB HB6.out hb7)
  have K17 := Lib.hid (keepB (show Blk w6 gz 25 (batV ep b A n c) from K16.out) hb7)
  have K27 := Lib.hid (keepB (show Blk w6 (gz + 1) 25 (batV ep2 b2 A2 m c2) from K26.out) hb7)
  have KX7 := Lib.hid (keepB (show Blk w6 gx 25 (batV xe xb Ax nx cx) from KX6.out) hb7)
  have KO7 := Lib.hid (blk11 w6 25 (batV ep b none 0 0))
  have SA7 := Lib.hid (keepS SA6.out hb7)
  have SB7 := Lib.hid (keepS SB6.out hb7)
  have SX7 := Lib.hid (keepS SX6.out hb7)
  have HB67 := Lib.hid hb7
  clear hb7
  go_upto_region 6 with (fail)
  obtain ⟨go, hgo⟩ : ∃ go, go = w6.heap.size := ⟨_, rfl⟩
  rw [← hgo] at KO7 ⊢
  have HGE := Lib.hid hgo
  have HGO := Lib.hid (show gz + 1 < go by rw [hgo]; exact (show Blk w6 (gz + 1) 25 _ from K26.out).lt)
  have HGX := Lib.hid (show gx < go by rw [hgo]; exact (show Blk w6 gx 25 _ from KX6.out).lt)
  clear hgo k0 k1
  generalize World.alloc w6 _ = w7 at *
  go_cut [] (fun wx => ∃ (A9 : Option Addr) (c9 : Nat), Hid (Blk wx gz 25 (batV ep b A n c)) ∧ Hid (Blk wx (gz + 1) 25 (batV ep2 b2 A2 m c2)) ∧ Hid (Blk wx gx 25 (batV xe xb Ax nx cx)) ∧ Hid (Blk wx go 25 (batV ep b A9 (n + m) c9)) ∧
    Hid (rpEnt.sl wx (fun k => k < wx.heap.size) A9 (n + m) c9 (es ++ es2)) ∧ Hid (Below w.heap.size w wx) ∧ Hid (Below w6.heap.size w6 wx))
  case first =>
    have k2 := (show Blk w7 gz 25 (batV ep b A n c) from K17.out).cell 2
    have l2 := (show Blk w7 (gz + 1) 25 (batV ep2 b2 A2 m c2) from K27.out).cell 2
    have o2 := (show Blk w7 go 25 (batV ep b none 0 0) from KO7.out).cell 2
    have of2 := (show Blk w7 go 25 (batV ep b none 0 0) from KO7.out).frozen 2
    have kl := (show Blk w7 gz 25 _ from K17.out).lt
    have HBD : Hid (Below w7.heap.size w7 w7.drew) := (Below.refl _ _).drew
    have HNIL : Hid (w7.drew.ownsRow w7.heap.size 45 2 (.slice none 0 0) 0 []) := World.ownsRow_nil _ _ _ _
    have HSR1 := Lib.hid (SR1.out _ (stepB HB7.out HBD.out))
    have hnm2 : n + m ≤ maxLen := by unfold maxLen; omega
    go_region_law ((first
      | (refine step_app rfl (.tmp 37) (.tmp 39) _ (by rfl) elemEnt (by rfl) HNIL.out (by rfl) HSR1.out (by unfold maxLen; omega) (by omega) (Nat.le_refl _) ?_
         intro A8 c8 w8 ho8 hg8 hat8
         have HO8 := Lib.hid (own_zeroA ho8)
         have HB8 := Lib.hid (show Below w7.heap.size w7 w8 from HBD.out.grown hg8 HBD.out.size (fun q hq => by cases hq))
         have HZ8 := Lib.hid HB8.out.size
         have HSR2 := Lib.hid (SR2.out _ (stepB HB7.out HB8.out))
         have l2' := (keepB (show Blk w7 (gz + 1) 25 (batV ep2 b2 A2 m c2) from K27.out) HB8.out).cell 2
         clear ho8 hg8 hat8)
      | (refine step_app rfl (.tmp 40) (.tmp 42) _ (by rfl) elemEnt (by rfl) HO8.out (by rfl) HSR2.out (by unfold maxLen; omega) (by omega) HZ8.out ?_
         intro A9 c9 w9 ho9 hg9 hat9
         have HO9 := Lib.hid ho9
         have HB9 := Lib.hid (show Below w7.heap.size w7 w9 from HB8.out.grown hg9 HB8.out.size (fun q hq => (HO8.out.lt q hq).1))
         have KO9 := Lib.hid (keepB (show Blk w7 go 25 (batV ep b none 0 0) from KO7.out) HB9.out)
         have p2 := (show Blk w9 go 25 (batV ep b none 0 0) from KO9.out).cell 2
         have pf2 := (show Blk w9 go 25 (batV ep b none 0 0) from KO9.out).frozen 2
         clear ho9 hg9 hat9)))
    all_goals
      have hgr : w9.grownBy (w9.setCell ⟨go, 2, none⟩ (.slice A9 (n + m) c9)) (some go) := grown_setCell w9 ⟨go, 2, none⟩ _
      have HB79 := Lib.hid (stepB HB7.out HB9.out)
      have HB10 := Lib.hid (HB79.out.grown hgr HB79.out.size (fun q hq => by have e' : go = q := Option.some.inj hq; have := HGO.out; have := HGZ.out; omega))
      have HB69 := Lib.hid (stepB HB67.out HB9.out)
      have HBG10 := Lib.hid (HB69.out.grown hgr HB69.out.size (fun q hq => by have e' : go = q := Option.some.inj hq; have := HGE.out; omega))
      have K1w : Hid (Blk (w9.setCell ⟨go, 2, none⟩ (.slice A9 (n + m) c9)) gz 25 (batV ep b A n c)) := (keepB (show Blk w7 gz 25 (batV ep b A n c) from K17.out) HB9.out).far (p := ⟨go, 2, none⟩) (by show gz ≠ go; have := HGO.out; omega) _
      have K2w : Hid (Blk (w9.setCell ⟨go, 2, none⟩ (.slice A9 (n + m) c9)) (gz + 1) 25 (batV ep2 b2 A2 m c2)) := (keepB (show Blk w7 (gz + 1) 25 (batV ep2 b2 A2 m c2) from K27.out) HB9.out).far (p := ⟨go, 2, none⟩) (by show gz + 1 ≠ go; have := HGO.out; omega) _
      have KXw : Hid (Blk (w9.setCell ⟨go, 2, none⟩ (.slice A9 (n + m) c9)) gx 25 (batV xe xb Ax nx cx)) := (keepB (show Blk w7 gx 25 (batV xe xb Ax nx cx) from KX7.out) HB9.out).far (p := ⟨go, 2, none⟩) (by show gx ≠ go; have := HGX.out; omega) _
      have KOw : Hid (Blk (w9.setCell ⟨go, 2, none⟩ (.slice A9 (n + m) c9)) go 25 (batV ep b A9 (n + m) c9)) := (show Blk w9 go 25 (batV ep b none 0 0) from KO9.out).put 2 _
      have hrow : (w9.setCell ⟨go, 2, none⟩ (.slice A9 (n + m) c9)).ownsRow w7.heap.size 45 2 (.slice A9 (n + m) c9) (n + m) (vals1 ++ vals2) := own_sameT HO9.out (fun k cs hk _ _ => Below.heap_setCell w9 ⟨go, 2, none⟩ _ k (fun e => by
        have e' : k = go := e
        subst e'
        exact absurd (blk_type (show Blk w9 k 25 _ from KO9.out) hk) (by decide)))
      have hboth := EV.sl (EV.app ((EV1.out.below SA0.out.2 HB10.out).more (fun k hk => Nat.lt_of_lt_of_le (SA0.out.2 k hk) HB10.out.size)) ((EV2.out.below SB0.out.2 HB10.out).more (fun k hk => Nat.lt_of_lt_of_le (SB0.out.2 k hk) HB10.out.size))) hrow
      have SO := Lib.hid hboth
      have SAw := Lib.hid (keepS SA0.out HB10.out)
      have SBw := Lib.hid (keepS SB0.out HB10.out)
      have SXw := Lib.hid (keepS SX6.out HBG10.out)
      clear hgr hrow hboth k2 l2 o2 of2 kl l2' p2 pf2
      generalize World.setCell w9 _ _ = w10 at *
      go_wp2_with fail
      go_meet
      exact ⟨A9, c9, K1w, K2w, KXw, KOw, SO, HB10, HBG10⟩
  case rest =>
    clear K1 K2 K13 K23 K14 K24 K16 K26 K17 K27 KX6 KX7 KO7 SA SB SA3 SB3 SA4 SB4 SA6 SB6 SA7 SB7 SX7 HLG HLG2 HJ EV1 EV2 SR1 SR2
    obtain ⟨A9, c9, K1w, K2w, KXw, KOw, SO, HB10, HBG10⟩ := hcut
    obtain ⟨w10, hw10⟩ : ∃ w10, w10 = wc := ⟨_, rfl⟩
    subst hw10
    have SAw := Lib.hid (keepS SA0.out HB10.out)
    have SBw := Lib.hid (keepS SB0.out HB10.out)
    have SXw := Lib.hid (keepS SX6.out HBG10.out)
    rename_i hKK
    refine hKK _ _ ?_
    clear hKK
    refine wp_seq_k (fun K hKK => ?_)
    go_cut [9] (fun v9 wx => v9 = .int .i64 jc ∧ Hid (Below w10.heap.size w10 wx))
    case first =>
      obtain ⟨q1, hq1⟩ : ∃ q, dec (BatOk ep b es) = q := ⟨_, rfl⟩
      have HQ1 := Lib.hid hq1
      obtain ⟨q2, hq2⟩ : ∃ q, dec (BatOk ep2 b2 es2) = q := ⟨_, rfl⟩
      have HQ2 := Lib.hid hq2
      obtain ⟨q4, hq4⟩ : ∃ q, dec (BatOk ep b (es ++ es2)) = q := ⟨_, rfl⟩
      have HQ4 := Lib.hid hq4
      clear hq1 hq2 hq4
      obtain ⟨en, hen⟩ : ∃ en, en = endN b n := ⟨_, rfl⟩
      have HEE := Lib.hid hen
      clear hen
      have hwn : IntKind.u64.wrap (n : Int) = (n : Int) := IntWalk.u64_in _ (by omega)
      have hwe : IntKind.u64.wrap ((b : Int) + (n : Int)) = (en : Int) := by rw [HEE.out]; exact end_wrap HHB.out hn30
      have k0 := (show Blk w10 gz 25 (batV ep b A n c) from K1w.out).cell 0
      have k1 := (show Blk w10 gz 25 (batV ep b A n c) from K1w.out).cell 1
      have k2 := (show Blk w10 gz 25 (batV ep b A n c) from K1w.out).cell 2
      have hbr := rbright_any (ep := ep) (b := b) SAw.out.1 SAw.out.2 (show n ≤ 1000 by omega) (Nat.le_trans BD1.out.2 (by decide)) HHE.out HHB.out
      rw [HQ1.out] at hbr
      have HBR := Lib.hid hbr
      clear hbr
      go_wp2_with fail
      refine HBR.out.mono ?_; rintro e w11 ⟨rfl, hb11⟩
      have HB11 := Lib.hid hb11
      have K211 := Lib.hid (keepB (show Blk w10 (gz + 1) 25 (batV ep2 b2 A2 m c2) from K2w.out) hb11)
      have SB11 := Lib.hid (keepS SBw.out hb11)
      clear hb11 k0 k1 k2
      cases q1
      case false =>
        go_wp2_with fail
        go_meet
        exact ⟨by rw [HJC.out]; unfold joinC; rw [HQ1.out]; rfl, HB11⟩
      case true =>
      have k0 := (show Blk w11 (gz + 1) 25 (batV ep2 b2 A2 m c2) from K211.out).cell 0
      have k1 := (show Blk w11 (gz + 1) 25 (batV ep2 b2 A2 m c2) from K211.out).cell 1
      have k2 := (show Blk w11 (gz + 1) 25 (batV ep2 b2 A2 m c2) from K211.out).cell 2
      have hbr := rbright_any (ep := ep2) (b := b2) SB11.out.1 SB11.out.2 (show m ≤ 1000 by omega) (Nat.le_trans BD2.out.2 (by decide)) HHE2.out HHB2.out
      rw [HQ2.out] at hbr
      have HBR2 := Lib.hid hbr
      clear hbr
      go_wp2_with fail
      refine HBR2.out.mono ?_; rintro e w12 ⟨rfl, hb12⟩
      have HB12 := Lib.hid (stepB HB11.out hb12)
      have KA12 := Lib.hid (keepB (show Blk w10 gz 25 (batV ep b A n c) from K1w.out) HB12.out)
      have KB12 := Lib.hid (keepB (show Blk w10 (gz + 1) 25 (batV ep2 b2 A2 m c2) from K2w.out) HB12.out)
      have KO12 := Lib.hid (keepB (show Blk w10 go 25 (batV ep b A9 (n + m) c9) from KOw.out) HB12.out)
      have SO12 := Lib.hid (keepS (show Sl rpEnt w10 _ A9 (n + m) c9 (es ++ es2) from ⟨SO.out, fun k hk => hk⟩) HB12.out)
      clear hb12 k0 k1 k2
      cases q2
      case false =>
        go_wp2_with fail
        go_meet
        exact ⟨by rw [HJC.out]; unfold joinC; rw [HQ1.out, HQ2.out]; rfl, HB12⟩
      case true =>
      have k0 := (show Blk w12 gz 25 (batV ep b A n c) from KA12.out).cell 0
      have k1 := (show Blk w12 gz 25 (batV ep b A n c) from KA12.out).cell 1
      have k2 := (show Blk w12 gz 25 (batV ep b A n c) from KA12.out).cell 2
      have l0 := (show Blk w12 (gz + 1) 25 (batV ep2 b2 A2 m c2) from KB12.out).cell 0
      have l1 := (show Blk w12 (gz + 1) 25 (batV ep2 b2 A2 m c2) from KB12.out).cell 1
      by_cases c1 : en = b2
      case neg =>
        have c1a : ((en : Int) != (b2 : Int)) = true := by simp; omega
        have HNE : Hid (¬ en = b2) := c1
        clear c1
        go_wp2_with fail
        go_meet
        exact ⟨by rw [HJC.out]; unfold joinC; rw [HQ1.out, HQ2.out, dec_false (fun h => HNE.out (by rw [HEE.out, ← HN.out]; exact h.1))]; rfl, HB12⟩
      case pos =>
      have c1a : ((en : Int) != (b2 : Int)) = false := by simp; omega
      have HEQ : Hid (en = b2) := c1
      clear c1
      by_cases c2' : ep = ep2
      case neg =>
        have c2a : ((ep : Int) != (ep2 : Int)) = true := by simp; omega
        have HNE : Hid (¬ ep = ep2) := c2'
        clear c2'
        go_wp2_with fail
        go_meet
        exact ⟨by rw [HJC.out]; unfold joinC; rw [HQ1.out, HQ2.out, dec_false (fun h => HNE.out h.2)]; rfl, HB12⟩
      case pos =>
      have c2a : ((ep : Int) != (ep2 : Int)) = false := by simp; omega
      have HEQ2 : Hid (ep = ep2) := c2'
      clear c2'
      have o0 := (show Blk w12 go 25 (batV ep b A9 (n + m) c9) from KO12.out).cell 0
      have o1 := (show Blk w12 go 25 (batV ep b A9 (n + m) c9) from KO12.out).cell 1
      have o2 := (show Blk w12 go 25 (batV ep b A9 (n + m) c9) from KO12.out).cell 2
      have hbr := rbright_any (ep := ep) (b := b) SO12.out.1 SO12.out.2 (show n + m ≤ 1000 by omega) (by rw [tot_app]; have := BD1.out.2; have := BD2.out.2; omega) HHE.out HHB.out
      rw [HQ4.out] at hbr
      have HBR4 := Lib.hid hbr
      clear hbr
      go_wp2_with fail
      refine HBR4.out.mono ?_; rintro e w13 ⟨rfl, hb13⟩
      have HB13 := Lib.hid (stepB HB12.out hb13)
      have HDT : Hid (dec (endN b es.length = b2 ∧ ep = ep2) = true) := dec_true ⟨by rw [HN.out, ← HEE.out]; exact HEQ.out, HEQ2.out⟩
      clear hb13 k0 k1 k2 l0 l1 o0 o1 o2
      cases q4
      all_goals
        go_wp2_with fail
        go_meet
        exact ⟨by rw [HJC.out]; unfold joinC; rw [HQ1.out, HQ2.out, HDT.out, HQ4.out]; rfl, HB13⟩
    case rest =>
      obtain ⟨rfl, HC⟩ := hcut
      obtain ⟨w14, hw14⟩ : ∃ w14, w14 = wc := ⟨_, rfl⟩
      subst hw14
      rename_i hKK
      refine hKK _ _ ?_
      clear hKK
      obtain ⟨en, hen⟩ : ∃ en, en = endN b n := ⟨_, rfl⟩
      have HEE := Lib.hid hen
      clear hen
      have HEN : Hid (en ≤ 18446744073709551615) := by
        show _ ≤ _
        rw [HEE.out]; unfold endN; omega
      have hwn : IntKind.u64.wrap (n : Int) = (n : Int) := IntWalk.u64_in _ (by omega)
      have hwe : IntKind.u64.wrap ((b : Int) + (n : Int)) = (en : Int) := by rw [HEE.out]; exact end_wrap HHB.out hn30
      have KX14 := Lib.hid (keepB (show Blk w10 gx 25 (batV xe xb Ax nx cx) from KXw.out) HC.out)
      have KO14 := Lib.hid (keepB (show Blk w10 go 25 (batV ep b A9 (n + m) c9) from KOw.out) HC.out)
      have SX14 := Lib.hid (keepS SXw.out HC.out)
      have SO14 := Lib.hid (keepS (show Sl rpEnt w10 _ A9 (n + m) c9 (es ++ es2) from ⟨SO.out, fun k hk => hk⟩) HC.out)
      by_cases hj : jc = 0
      case pos =>
        obtain ⟨e1, e2, e3⟩ := HJ1.out hj
        subst hj
        have e1' := e1.symm
        have e2' := e2.symm
        clear e1 e2
        subst e1'; subst e2'; subst e3
        have x0 := (show Blk w14 gx 25 (batV ep b Ax nx cx) from KX14.out).cell 0
        have x1 := (show Blk w14 gx 25 (batV ep b Ax nx cx) from KX14.out).cell 1
        have x2 := (show Blk w14 gx 25 (batV ep b Ax nx cx) from KX14.out).cell 2
        have o0 := (show Blk w14 go 25 (batV ep b A9 (n + m) c9) from KO14.out).cell 0
        have o1 := (show Blk w14 go 25 (batV ep b A9 (n + m) c9) from KO14.out).cell 1
        have o2 := (show Blk w14 go 25 (batV ep b A9 (n + m) c9) from KO14.out).cell 2
        have hsm := bsame_any (ep := ep) (b := b) (ep' := ep) (b' := b) SX14.out.1 SO14.out.1 SX14.out.2 SO14.out.2
        rw [dec_true rfl] at hsm
        have HSM := Lib.hid hsm
        clear hsm
        go_wp2_with fail
        refine HSM.out.mono ?_; rintro e w15 ⟨rfl, hb15⟩
        have HC15 := Lib.hid (stepB HC.out hb15)
        clear hb15 x0 x1 x2 o0 o1 o2
        have KA20 := Lib.hid (keepB (show Blk w10 gz 25 (batV ep b A n c) from K1w.out) HC15.out)
        have SA20 := Lib.hid (keepS SAw.out HC15.out)
        have HB20 := Lib.hid (stepB HB10.out HC15.out)
        have a0 := (show Blk w15 gz 25 (batV ep b A n c) from KA20.out).cell 0
        have a1 := (show Blk w15 gz 25 (batV ep b A n c) from KA20.out).cell 1
        have a2 := (show Blk w15 gz 25 (batV ep b A n c) from KA20.out).cell 2
        have HC1 := Lib.hid (cut_any (ep := ep) (b := b) (fr := b) (tt := t) SA20.out.1 SA20.out.2 BD1.out.ebd (Nat.le_trans BD1.out.2 (by decide)) HHE.out HHB.out HHB.out HHT.out)
        go_upto_region 17 with
          (go_at_call 12
           refine HC1.out.mono ?_
           rintro e wA hcu
           obtain ⟨pe, pb, Ap, np, cp, ps, ok1, rfl, hsp, hbp, hok1⟩ := cut_form hcu
           clear hcu
           have hba := below1 wA (.cells (batV pe pb Ap np cp) 25)
           have HB21 := Lib.hid (stepB HB20.out (stepB hbp hba))
           have KA21 := Lib.hid (keepB (show Blk w15 gz 25 (batV ep b A n c) from KA20.out) (stepB hbp hba))
           have SA21 := Lib.hid (keepS SA20.out (stepB hbp hba))
           have SP21 := Lib.hid (keepS (show Sl rpEnt wA _ Ap np cp ps from ⟨hsp, fun k hk => hk⟩) hba)
           have KP21 := Lib.hid (blk11 wA 25 (batV pe pb Ap np cp))
           have HOK1 := Lib.hid hok1
           clear hsp hbp hba hok1 a0 a1 a2)
        obtain ⟨gp, hgp⟩ : ∃ gp, gp = wA.heap.size := ⟨_, rfl⟩
        rw [← hgp] at KP21 ⊢
        clear hgp
        generalize World.alloc wA _ = w21 at *
        have a0 := (show Blk w21 gz 25 (batV ep b A n c) from KA21.out).cell 0
        have a1 := (show Blk w21 gz 25 (batV ep b A n c) from KA21.out).cell 1
        have a2 := (show Blk w21 gz 25 (batV ep b A n c) from KA21.out).cell 2
        have HC2 := Lib.hid (cut_any (ep := ep) (b := b) (fr := t) (tt := en) SA21.out.1 SA21.out.2 BD1.out.ebd (Nat.le_trans BD1.out.2 (by decide)) HHE.out HHB.out HHT.out HEN.out)
        go_upto_region 18 with
          (go_at_call 12
           refine HC2.out.mono ?_
           rintro e wB hcu
           obtain ⟨qe, qb, Aq, nq, cq, qs, ok2, rfl, hsq, hbq, hok2⟩ := cut_form hcu
           clear hcu
           have hba := below1 wB (.cells (batV qe qb Aq nq cq) 25)
           have HB22 := Lib.hid (stepB HB21.out (stepB hbq hba))
           have KA22 := Lib.hid (keepB (show Blk w21 gz 25 (batV ep b A n c) from KA21.out) (stepB hbq hba))
           have KP22 := Lib.hid (keepB (show Blk w21 gp 25 (batV pe pb Ap np cp) from KP21.out) (stepB hbq hba))
           have SA22 := Lib.hid (keepS SA21.out (stepB hbq hba))
           have SP22 := Lib.hid (keepS SP21.out (stepB hbq hba))
           have SQ22 := Lib.hid (keepS (show Sl rpEnt wB _ Aq nq cq qs from ⟨hsq, fun k hk => hk⟩) hba)
           have KQ22 := Lib.hid (blk11 wB 25 (batV qe qb Aq nq cq))
           have HOK2 := Lib.hid hok2
           clear hsq hbq hba hok2 a0 a1 a2)
        obtain ⟨gq, hgq⟩ : ∃ gq, gq = wB.heap.size := ⟨_, rfl⟩
        rw [← hgq] at KQ22 ⊢
        clear hgq
        generalize World.alloc wB _ = w22 at *
        cases ok1
        case false =>
          have HLV := Lib.hid (live26_any w22)
          go_wp2_with fail
          refine HLV.out.mono ?_; rintro e wz ⟨rfl, hbz⟩
          have HBZ := Lib.hid (stepB HB22.out hbz)
          clear hbz
          go_wp2_with fail
          go_ret
          exact ⟨rfl, HBZ.out⟩
        case true =>
        cases ok2
        case false =>
          have HLV := Lib.hid (live26_any w22)
          go_wp2_with fail
          refine HLV.out.mono ?_; rintro e wz ⟨rfl, hbz⟩
          have HBZ := Lib.hid (stepB HB22.out hbz)
          clear hbz
          go_wp2_with fail
          go_ret
          exact ⟨rfl, HBZ.out⟩
        case true =>
        obtain ⟨hc1, e1, e2, e1n, e3⟩ := HOK1.out rfl
        obtain ⟨hc2, e4, e5, e4n, e6⟩ := HOK2.out rfl
        have e1' := e1.symm
        have e2' := e2.symm
        have e4' := e4.symm
        have e5' := e5.symm
        clear e1 e2 e4 e5 e1n e4n
        subst e1'; subst e2'; subst e4'; subst e5'
        have hen2 : en = endN b es.length := by rw [HN.out]; exact HEE.out
        rw [hen2] at hc2 e6
        obtain ⟨f1, f2, f3⟩ := cuts_eq hc1 hc2
        rw [f1] at e3
        rw [f2] at e6
        subst e3; subst e6
        have HF3 := Lib.hid f3
        clear hc1 hc2 hen2 f1 f2 f3 HOK1 HOK2
        have hjn := joinback_any (ep := ep) (b := b) (t := t) SP22.out.1 SP22.out.2 SQ22.out.1 SQ22.out.2 BD1.out HHE.out HHB.out HHT.out HF3.out
        have HJ3 := Lib.hid hjn
        clear hjn
        have p0 := (show Blk w22 gp 25 (batV ep b Ap np cp) from KP22.out).cell 0
        have p1 := (show Blk w22 gp 25 (batV ep b Ap np cp) from KP22.out).cell 1
        have p2 := (show Blk w22 gp 25 (batV ep b Ap np cp) from KP22.out).cell 2
        have r0 := (show Blk w22 gq 25 (batV ep t Aq nq cq) from KQ22.out).cell 0
        have r1 := (show Blk w22 gq 25 (batV ep t Aq nq cq) from KQ22.out).cell 1
        have r2 := (show Blk w22 gq 25 (batV ep t Aq nq cq) from KQ22.out).cell 2
        go_upto_region 21 with
          (go_at_call 9
           refine HJ3.out.mono ?_
           rintro e wC ⟨Ay, ny, cy, rfl, hsy, hby⟩
           have hba := below1 wC (.cells (batV ep b Ay ny cy) 25)
           have HB23 := Lib.hid (stepB HB22.out (stepB hby hba))
           have KA23 := Lib.hid (keepB (show Blk w22 gz 25 (batV ep b A n c) from KA22.out) (stepB hby hba))
           have SA23 := Lib.hid (keepS SA22.out (stepB hby hba))
           have SY23 := Lib.hid (keepS (show Sl rpEnt wC _ Ay ny cy es from ⟨hsy, fun k hk => hk⟩) hba)
           have KY23 := Lib.hid (blk11 wC 25 (batV ep b Ay ny cy))
           clear hsy hby hba p0 p1 p2 r0 r1 r2)
        obtain ⟨gy, hgy⟩ : ∃ gy, gy = wC.heap.size := ⟨_, rfl⟩
        rw [← hgy] at KY23 ⊢
        clear hgy
        generalize World.alloc wC _ = w23 at *
        have a0 := (show Blk w23 gz 25 (batV ep b A n c) from KA23.out).cell 0
        have a1 := (show Blk w23 gz 25 (batV ep b A n c) from KA23.out).cell 1
        have a2 := (show Blk w23 gz 25 (batV ep b A n c) from KA23.out).cell 2
        have y0 := (show Blk w23 gy 25 (batV ep b Ay ny cy) from KY23.out).cell 0
        have y1 := (show Blk w23 gy 25 (batV ep b Ay ny cy) from KY23.out).cell 1
        have y2 := (show Blk w23 gy 25 (batV ep b Ay ny cy) from KY23.out).cell 2
        have hsm := bsame_any (ep := ep) (b := b) (ep' := ep) (b' := b) SY23.out.1 SA23.out.1 SY23.out.2 SA23.out.2
        rw [dec_true rfl] at hsm
        have HSM2 := Lib.hid hsm
        clear hsm
        go_wp2_with fail
        refine HSM2.out.mono ?_; rintro e w24 ⟨rfl, hb24⟩
        have HB24 := Lib.hid (stepB HB23.out hb24)
        have HLV := Lib.hid (live26_any w24)
        clear hb24 a0 a1 a2 y0 y1 y2
        go_wp2_with fail
        refine HLV.out.mono ?_; rintro e wz ⟨rfl, hbz⟩
        have HBZ := Lib.hid (stepB HB24.out hbz)
        clear hbz
        go_wp2_with fail
        go_ret
        exact ⟨rfl, HBZ.out⟩
      case neg =>
        have hje : (jc == 0) = false := by simp; exact hj
        have hjn : (jc != 0) = true := by simp; exact hj
        obtain ⟨e1, e2, e3⟩ := HJ2.out hj
        subst e1; subst e2; subst e3
        have x0 := (show Blk w14 gx 25 (batV 0 0 Ax nx cx) from KX14.out).cell 0
        have x1 := (show Blk w14 gx 25 (batV 0 0 Ax nx cx) from KX14.out).cell 1
        have x2 := (show Blk w14 gx 25 (batV 0 0 Ax nx cx) from KX14.out).cell 2
        have hsm := bsame_any (ep := 0) (b := 0) (ep' := 0) (b' := 0) SX14.out.1 (Rp.sl_nil rpEnt w14 (fun _ => False) none 0 (by decide)) SX14.out.2 (fun k hk => hk.elim)
        rw [dec_true rfl] at hsm
        have HSM := Lib.hid hsm
        clear hsm
        go_wp2_with fail
        refine HSM.out.mono ?_; rintro e w15 ⟨rfl, hb15⟩
        have HC15 := Lib.hid (stepB HC.out hb15)
        clear hb15 x0 x1 x2
        have KA20 := Lib.hid (keepB (show Blk w10 gz 25 (batV ep b A n c) from K1w.out) HC15.out)
        have SA20 := Lib.hid (keepS SAw.out HC15.out)
        have HB20 := Lib.hid (stepB HB10.out HC15.out)
        have a0 := (show Blk w15 gz 25 (batV ep b A n c) from KA20.out).cell 0
        have a1 := (show Blk w15 gz 25 (batV ep b A n c) from KA20.out).cell 1
        have a2 := (show Blk w15 gz 25 (batV ep b A n c) from KA20.out).cell 2
        have HC1 := Lib.hid (cut_any (ep := ep) (b := b) (fr := b) (tt := t) SA20.out.1 SA20.out.2 BD1.out.ebd (Nat.le_trans BD1.out.2 (by decide)) HHE.out HHB.out HHB.out HHT.out)
        go_upto_region 17 with
          (go_at_call 12
           refine HC1.out.mono ?_
           rintro e wA hcu
           obtain ⟨pe, pb, Ap, np, cp, ps, ok1, rfl, hsp, hbp, hok1⟩ := cut_form hcu
           clear hcu
           have hba := below1 wA (.cells (batV pe pb Ap np cp) 25)
           have HB21 := Lib.hid (stepB HB20.out (stepB hbp hba))
           have KA21 := Lib.hid (keepB (show Blk w15 gz 25 (batV ep b A n c) from KA20.out) (stepB hbp hba))
           have SA21 := Lib.hid (keepS SA20.out (stepB hbp hba))
           have SP21 := Lib.hid (keepS (show Sl rpEnt wA _ Ap np cp ps from ⟨hsp, fun k hk => hk⟩) hba)
           have KP21 := Lib.hid (blk11 wA 25 (batV pe pb Ap np cp))
           have HOK1 := Lib.hid hok1
           clear hsp hbp hba hok1 a0 a1 a2)
        obtain ⟨gp, hgp⟩ : ∃ gp, gp = wA.heap.size := ⟨_, rfl⟩
        rw [← hgp] at KP21 ⊢
        clear hgp
        generalize World.alloc wA _ = w21 at *
        have a0 := (show Blk w21 gz 25 (batV ep b A n c) from KA21.out).cell 0
        have a1 := (show Blk w21 gz 25 (batV ep b A n c) from KA21.out).cell 1
        have a2 := (show Blk w21 gz 25 (batV ep b A n c) from KA21.out).cell 2
        have HC2 := Lib.hid (cut_any (ep := ep) (b := b) (fr := t) (tt := en) SA21.out.1 SA21.out.2 BD1.out.ebd (Nat.le_trans BD1.out.2 (by decide)) HHE.out HHB.out HHT.out HEN.out)
        go_upto_region 18 with
          (go_at_call 12
           refine HC2.out.mono ?_
           rintro e wB hcu
           obtain ⟨qe, qb, Aq, nq, cq, qs, ok2, rfl, hsq, hbq, hok2⟩ := cut_form hcu
           clear hcu
           have hba := below1 wB (.cells (batV qe qb Aq nq cq) 25)
           have HB22 := Lib.hid (stepB HB21.out (stepB hbq hba))
           have KA22 := Lib.hid (keepB (show Blk w21 gz 25 (batV ep b A n c) from KA21.out) (stepB hbq hba))
           have KP22 := Lib.hid (keepB (show Blk w21 gp 25 (batV pe pb Ap np cp) from KP21.out) (stepB hbq hba))
           have SA22 := Lib.hid (keepS SA21.out (stepB hbq hba))
           have SP22 := Lib.hid (keepS SP21.out (stepB hbq hba))
           have SQ22 := Lib.hid (keepS (show Sl rpEnt wB _ Aq nq cq qs from ⟨hsq, fun k hk => hk⟩) hba)
           have KQ22 := Lib.hid (blk11 wB 25 (batV qe qb Aq nq cq))
           have HOK2 := Lib.hid hok2
           clear hsq hbq hba hok2 a0 a1 a2)
        obtain ⟨gq, hgq⟩ : ∃ gq, gq = wB.heap.size := ⟨_, rfl⟩
        rw [← hgq] at KQ22 ⊢
        clear hgq
        generalize World.alloc wB _ = w22 at *
        cases ok1
        case false =>
          have HLV := Lib.hid (live26_any w22)
          go_wp2_with fail
          refine HLV.out.mono ?_; rintro e wz ⟨rfl, hbz⟩
          have HBZ := Lib.hid (stepB HB22.out hbz)
          clear hbz
          go_wp2_with fail
          go_ret
          exact ⟨rfl, HBZ.out⟩
        case true =>
        cases ok2
        case false =>
          have HLV := Lib.hid (live26_any w22)
          go_wp2_with fail
          refine HLV.out.mono ?_; rintro e wz ⟨rfl, hbz⟩
          have HBZ := Lib.hid (stepB HB22.out hbz)
          clear hbz
          go_wp2_with fail
          go_ret
          exact ⟨rfl, HBZ.out⟩
        case true =>
        obtain ⟨hc1, e1, e2, e1n, e3⟩ := HOK1.out rfl
        obtain ⟨hc2, e4, e5, e4n, e6⟩ := HOK2.out rfl
        have e1' := e1.symm
        have e2' := e2.symm
        have e4' := e4.symm
        have e5' := e5.symm
        clear e1 e2 e4 e5 e1n e4n
        subst e1'; subst e2'; subst e4'; subst e5'
        have hen2 : en = endN b es.length := by rw [HN.out]; exact HEE.out
        rw [hen2] at hc2 e6
        obtain ⟨f1, f2, f3⟩ := cuts_eq hc1 hc2
        rw [f1] at e3
        rw [f2] at e6
        subst e3; subst e6
        have HF3 := Lib.hid f3
        clear hc1 hc2 hen2 f1 f2 f3 HOK1 HOK2
        have hjn := joinback_any (ep := ep) (b := b) (t := t) SP22.out.1 SP22.out.2 SQ22.out.1 SQ22.out.2 BD1.out HHE.out HHB.out HHT.out HF3.out
        have HJ3 := Lib.hid hjn
        clear hjn
        have p0 := (show Blk w22 gp 25 (batV ep b Ap np cp) from KP22.out).cell 0
        have p1 := (show Blk w22 gp 25 (batV ep b Ap np cp) from KP22.out).cell 1
        have p2 := (show Blk w22 gp 25 (batV ep b Ap np cp) from KP22.out).cell 2
        have r0 := (show Blk w22 gq 25 (batV ep t Aq nq cq) from KQ22.out).cell 0
        have r1 := (show Blk w22 gq 25 (batV ep t Aq nq cq) from KQ22.out).cell 1
        have r2 := (show Blk w22 gq 25 (batV ep t Aq nq cq) from KQ22.out).cell 2
        go_upto_region 21 with
          (go_at_call 9
           refine HJ3.out.mono ?_
           rintro e wC ⟨Ay, ny, cy, rfl, hsy, hby⟩
           have hba := below1 wC (.cells (batV ep b Ay ny cy) 25)
           have HB23 := Lib.hid (stepB HB22.out (stepB hby hba))
           have KA23 := Lib.hid (keepB (show Blk w22 gz 25 (batV ep b A n c) from KA22.out) (stepB hby hba))
           have SA23 := Lib.hid (keepS SA22.out (stepB hby hba))
           have SY23 := Lib.hid (keepS (show Sl rpEnt wC _ Ay ny cy es from ⟨hsy, fun k hk => hk⟩) hba)
           have KY23 := Lib.hid (blk11 wC 25 (batV ep b Ay ny cy))
           clear hsy hby hba p0 p1 p2 r0 r1 r2)
        obtain ⟨gy, hgy⟩ : ∃ gy, gy = wC.heap.size := ⟨_, rfl⟩
        rw [← hgy] at KY23 ⊢
        clear hgy
        generalize World.alloc wC _ = w23 at *
        have a0 := (show Blk w23 gz 25 (batV ep b A n c) from KA23.out).cell 0
        have a1 := (show Blk w23 gz 25 (batV ep b A n c) from KA23.out).cell 1
        have a2 := (show Blk w23 gz 25 (batV ep b A n c) from KA23.out).cell 2
        have y0 := (show Blk w23 gy 25 (batV ep b Ay ny cy) from KY23.out).cell 0
        have y1 := (show Blk w23 gy 25 (batV ep b Ay ny cy) from KY23.out).cell 1
        have y2 := (show Blk w23 gy 25 (batV ep b Ay ny cy) from KY23.out).cell 2
        have hsm := bsame_any (ep := ep) (b := b) (ep' := ep) (b' := b) SY23.out.1 SA23.out.1 SY23.out.2 SA23.out.2
        rw [dec_true rfl] at hsm
        have HSM2 := Lib.hid hsm
        clear hsm
        go_wp2_with fail
        refine HSM2.out.mono ?_; rintro e w24 ⟨rfl, hb24⟩
        have HB24 := Lib.hid (stepB HB23.out hb24)
        have HLV := Lib.hid (live26_any w24)
        clear hb24 a0 a1 a2 y0 y1 y2
        go_wp2_with fail
        refine HLV.out.mono ?_; rintro e wz ⟨rfl, hbz⟩
        have HBZ := Lib.hid (stepB HB24.out hbz)
        clear hbz
        go_wp2_with fail
        go_ret
        exact ⟨rfl, HBZ.out⟩
end
end Go.Proofs.Ytcbmnfjbmkpfiaa
