/- body.Copy of a message with a projection's stripes (printed by gentof.py). -/
import Derived.Test.YtnihaaifkogpbaaToM
import Derived.Test.YtnihaaifkogpbaaTuC
namespace Go.Proofs.Ytnihaaifkogpbaa
open Go.ChangeShapes Go.WideShapes Go.ChangeAt Go.RowKit
set_option linter.unusedVariables false
section
variable {D : Dom} {A : Option Addr} {c pe : Nat} {m : Ms} {h : Hd} {w : World}
/-- What body.Copy gives. -/
def MCopy2Is (w : World) (m : Ms) (h : Hd) (e : Ending) (w' : World) : Prop :=
  ∃ h', e = .returned (.agg (msV m h')) ∧ h'.n3 = h.n3 ∧ w'.ownsRow w.heap.size 5 1 (.slice h'.A3 h'.n3 h'.c3) h'.n3 (m.dt.map bv) ∧ Below w.heap.size w w'
set_option maxRecDepth 100000 in
set_option maxHeartbeats 8000000 in
theorem mcopy2_any (h1 : rpU64.sl w D h.A1 h.n1 h.c1 m.ss) (h2 : rpLnk.sl w D h.A2 h.n2 h.c2 m.ls) (h3 : rpU8.sl w D h.A3 h.n3 h.c3 m.dt) (hD : ∀ k, D k → k < w.heap.size) (h4 : rpStp.sl w D h.A4 h.n4 h.c4 m.pr.2) (hn4 : h.n4 ≤ 1000) (hS4 : ∀ s ∈ m.pr.2, s.2.2.length ≤ 1000 ∧ ∀ (j : Nat) x, s.2.2[j]? = some x → x.length ≤ 1000) (hn1 : h.n1 ≤ 1000000) (hn2 : h.n2 ≤ 100000) (hn3 : h.n3 ≤ 10000000) (hL : ∀ x ∈ m.ls, x.2.length ≤ 1000000) :
    Calls Try.prog 20 #[.agg (msV m h)] w (MCopy2Is w m h) := by
  have hb2 := below2 w (.cells (msV m h) 40) (.cells msZ 40)
  have HB2 := Lib.hid hb2
  have K1 := Lib.hid (blk21 w 40 40 (msV m h) msZ)
  have K2 := Lib.hid (blk22 w 40 40 (msV m h) msZ)
  have S1 := Lib.hid (keepS (show Sl rpU64 w D h.A1 h.n1 h.c1 m.ss from ⟨h1, hD⟩) hb2)
  have S2 := Lib.hid (keepS (show Sl rpLnk w D h.A2 h.n2 h.c2 m.ls from ⟨h2, hD⟩) hb2)
  have S3 := Lib.hid (keepS (show Sl rpU8 w D h.A3 h.n3 h.c3 m.dt from ⟨h3, hD⟩) hb2)
  have S4 := Lib.hid (keepS (show Sl rpStp w D h.A4 h.n4 h.c4 m.pr.2 from ⟨h4, hD⟩) hb2)
  have HS4 := Lib.hid hS4
  have HL := Lib.hid hL
  have HDZ := Lib.hid hD
  have HSZ : Hid ((Try.prog.info? 40).map (·.size) = some 14) := by show _ = _; kernel_rfl
  obtain ⟨gz, hgz⟩ : ∃ gz, gz = w.heap.size := ⟨_, rfl⟩
  rw [← hgz] at K1 K2
  have HGZ := Lib.hid hgz
  have HZ2 : Hid (gz + 1 < ((w.alloc (.cells (msV m h) 40)).alloc (.cells msZ 40)).heap.size) := by show _ < _; rw [hgz]; simp
  clear h1 h2 h3 h4 hD hb2 hL hS4
  go_enter Try.func20, Try.ntmps20
  go_upto_region 1 with (fail)
  rw [← hgz]
  clear hgz
  generalize World.alloc (World.alloc w _) _ = w2 at *
  have hb3 := below1 w2 (.cells #[] 29)
  have K13 := Lib.hid (keepB (show Blk w2 gz 40 (msV m h) from K1.out) hb3)
  have k6 := (show Blk _ gz 40 (msV m h) from K13.out).cell 6
  have HM := Lib.hid (World.ownsRow_made (e := 29) (size := 1) (base := w2.heap.size) w2 #[] 0 (Nat.le_refl _) (by decide) rfl)
  have HSR := Lib.hid (Src.u64 (keepS S1.out hb3).1)
  have HB3 := Lib.hid (stepB HB2.out hb3)
  have HBB := Lib.hid hb3
  clear hb3
  have hne1 : (some gz : Option Nat) ≠ (Value.slice (some ⟨w2.heap.size, 0, none⟩) 0 0).ownBlock := fun e => by have e' : gz = w2.heap.size := Option.some.inj e; have := HZ2.out; omega
  go_upto_region 2 with (at_builtin; refine wpList_app rfl (.tmp 3) (.tmp 5) _ rfl elem64 rfl HM.out rfl HSR.out (by unfold maxLen; omega) (by omega) (by simp) ?_; intro A5 c5 w3 ho2 hg2 hat2
                         have hk1 := (show Blk _ gz 40 (msV m h) from K13.out).grown hg2 hne1
                         have HO5 := Lib.hid (own_zeroA ho2)
                         have c6 := hk1.cell 6
                         have c6f := hk1.frozen 6
                         have KK := Lib.hid hk1
                         have HG2 := Lib.hid hg2
                         clear ho2 hg2 hat2 hk1 k6)
  have F2 : Hid (∀ w', Chg (fun k => k = gz) w2 w' → Blk w' (gz + 1) 40 msZ ∧ Sl rpLnk w' D h.A2 h.n2 h.c2 m.ls ∧ Sl rpU8 w' D h.A3 h.n3 h.c3 m.dt ∧ Below w.heap.size w w') := fun w' hc =>
    ⟨chB K2.out hc (by show ¬ gz + 1 = gz; omega), chS S2.out hc (fun k hk e => by have h1 := HDZ.out k hk; have := HGZ.out; omega), chS S3.out hc (fun k hk e => by have h1 := HDZ.out k hk; have := HGZ.out; omega), HB2.out.trans (hc.below HB2.out.size (fun k hk => by have := HGZ.out; omega))⟩
  have F3 : Hid (∀ w', Chg (fun k => k = gz) w2 w' → Sl rpStp w' D h.A4 h.n4 h.c4 m.pr.2) := fun w' hc => chS S4.out hc (fun k hk e => by have h1 := HDZ.out k hk; have := HGZ.out; omega)
  have C4 : Hid (Chg (fun k => k = gz) w2 (w3.setCell ⟨gz, 6, none⟩ (.slice A5 h.n1 c5))) := (chGrown (F := fun k => k = gz) (Chg.of_pure HBB.out _) HG2.out (fun k hk => by have e' : w2.heap.size = k := Option.some.inj hk; omega)).setCell (p := ⟨gz, 6, none⟩) (.inl rfl) _
  have K4 : Hid (Blk (w3.setCell ⟨gz, 6, none⟩ (.slice A5 h.n1 c5)) gz 40 (msV m { h with A1 := A5, c1 := c5 })) := KK.out.put 6 _
  have O4 : Hid ((w3.setCell ⟨gz, 6, none⟩ (.slice A5 h.n1 c5)).ownsRow w2.heap.size 29 1 (.slice A5 h.n1 c5) h.n1 (m.ss.map uv)) := chO HO5.out ((Chg.refl (fun k => k = gz) w3).setCell (p := ⟨gz, 6, none⟩) (.inl rfl) _) (fun k hk e => by have h1 := (HO5.out.lt k hk).1; have := HZ2.out; omega)
  clear c6 c6f
  generalize World.setCell w3 _ _ = w4 at *
  obtain ⟨K24, S24, S34, HB4⟩ := F2.out w4 C4.out
  have HZ24 := Lib.hid C4.out.size
  have k7 := (show Blk w4 gz 40 (msV m { h with A1 := A5, c1 := c5 }) from K4.out).cell 7
  have HLC := Lib.hid (lcopy_any S24.1 S24.2 hn2 HL.out)
  clear K24 S24 S34 HB4
  go_upto_region 3 with
    (first
     | (go_at_call 35
        refine HLC.out.mono ?_
        rintro e w5 ⟨A6, c6, rfl, ho5, hb5⟩
        have K5 := Lib.hid (keepB (show Blk w4 gz 40 (msV m { h with A1 := A5, c1 := c5 }) from K4.out) hb5)
        have HL5 := Lib.hid ho5
        have C5 := Lib.hid (C4.out.trans (Chg.of_pure hb5 _))
        have O5 := Lib.hid (keepO O4.out hb5)
        have x7 := (show Blk w5 gz 40 (msV m { h with A1 := A5, c1 := c5 }) from K5.out).cell 7
        have x7f := (show Blk w5 gz 40 (msV m { h with A1 := A5, c1 := c5 }) from K5.out).frozen 7
        clear ho5 hb5 k7))
  have K6 : Hid (Blk (w5.setCell ⟨gz, 7, none⟩ (.slice A6 h.n2 c6)) gz 40 (msV m { h with A1 := A5, c1 := c5, A2 := A6, c2 := c6 })) := (show Blk w5 gz 40 (msV m { h with A1 := A5, c1 := c5 }) from K5.out).put 7 _
  have C6 := Lib.hid (C5.out.setCell (p := ⟨gz, 7, none⟩) (.inl rfl) (.slice A6 h.n2 c6))
  have O6 : Hid ((w5.setCell ⟨gz, 7, none⟩ (.slice A6 h.n2 c6)).ownsRow w2.heap.size 29 1 (.slice A5 h.n1 c5) h.n1 (m.ss.map uv)) := chO O5.out ((Chg.refl (fun k => k = gz) w5).setCell (p := ⟨gz, 7, none⟩) (.inl rfl) _) (fun k hk e => by have h1 := (O5.out.lt k hk).1; have := HZ2.out; omega)
  have L6 := Lib.hid (OL.put HL5.out (show Blk w5 gz 40 _ from K5.out) (fun h => h) (by unfold T64; decide) (by decide) (a := ⟨gz, 7, none⟩) rfl (.slice A6 h.n2 c6))
  clear x7 x7f
  generalize World.setCell w5 _ _ = w6 at *
  obtain ⟨K26, S26, S36, HB6⟩ := F2.out w6 C6.out
  have hb7 := below1 w6 (.cells #[] 5)
  have K67 := Lib.hid (keepB (show Blk w6 gz 40 (msV m { h with A1 := A5, c1 := c5, A2 := A6, c2 := c6 }) from K6.out) hb7)
  have k8 := (show Blk _ gz 40 (msV m { h with A1 := A5, c1 := c5, A2 := A6, c2 := c6 }) from K67.out).cell 8
  have HM8 := Lib.hid (World.ownsRow_made (e := 5) (size := 1) (base := w6.heap.size) w6 #[] 0 (Nat.le_refl _) (by decide) rfl)
  have HSR8 := Lib.hid (Src.bytes (keepS S36 hb7).1)
  have HBB7 := Lib.hid hb7
  have O67 := Lib.hid (keepO O6.out hb7)
  have L67 := Lib.hid (OL.below L6.out hb7)
  clear hb7 K26 S26 S36 HB6
  have HZ6 : Hid (gz < w6.heap.size) := (show Blk w6 gz 40 _ from K6.out).lt
  have hne8 : (some gz : Option Nat) ≠ (Value.slice (some ⟨w6.heap.size, 0, none⟩) 0 0).ownBlock := fun e => by have e' : gz = w6.heap.size := Option.some.inj e; have := HZ6.out; omega
  go_upto_region 4 with (at_builtin; refine wpList_app rfl (.tmp 12) (.tmp 14) _ rfl elemU8 rfl HM8.out rfl HSR8.out (by unfold maxLen; omega) (by omega) (by simp) ?_; intro A7 c7 w7 ho2 hg2 hat2
                         have hk1 := (show Blk _ gz 40 (msV m { h with A1 := A5, c1 := c5, A2 := A6, c2 := c6 }) from K67.out).grown hg2 hne8
                         have HO7 := Lib.hid (own_zeroA ho2)
                         have O77 := Lib.hid (chO O67.out (Chg.of_grown hg2) (fun k hk e => by
                           have e' : k = w6.heap.size := Option.some.inj e
                           have h1 := (O6.out.lt k hk).2
                           omega))
                         have L77 := Lib.hid (OL.chg L67.out (Chg.of_grown hg2) (fun k hk _ => ⟨fun h => h, fun cs' t' h' => by
                           have e' : k = w6.heap.size := Option.some.inj hk
                           subst e'
                           have e2 := Blk.new w6 5 #[]
                           obtain rfl := blk_type e2 h'
                           exact ⟨by unfold T64; decide, by decide⟩⟩))
                         have d8 := hk1.cell 8
                         have d8f := hk1.frozen 8
                         have KK7 := Lib.hid hk1
                         have C7 := Lib.hid (chGrown (C6.out.trans (Chg.of_pure HBB7.out _)) hg2 (fun k hk => by have e' : w6.heap.size = k := Option.some.inj hk; have := C6.out.size; omega))
                         clear ho2 hg2 hat2 hk1 k8)
  have K8 : Hid (Blk (w7.setCell ⟨gz, 8, none⟩ (.slice A7 h.n3 c7)) gz 40 (msV m { h with A1 := A5, c1 := c5, A2 := A6, c2 := c6, A3 := A7, c3 := c7 })) := KK7.out.put 8 _
  have c78 : Chg (fun k => k = gz) w7 (w7.setCell ⟨gz, 8, none⟩ (.slice A7 h.n3 c7)) := (Chg.refl (fun k => k = gz) w7).setCell (p := ⟨gz, 8, none⟩) (.inl rfl) _
  have C8 := Lib.hid (C7.out.trans c78)
  have O8 := Lib.hid (chO O77.out c78 (fun k hk e => by have h1 := (O77.out.lt k hk).1; have := HZ2.out; omega))
  have D8 := Lib.hid (chO HO7.out c78 (fun k hk e => by have h1 := (HO7.out.lt k hk).1; have := HZ6.out; omega))
  have L8 := Lib.hid (OL.put L77.out (show Blk w7 gz 40 _ from KK7.out) (fun h => h) (by unfold T64; decide) (by decide) (a := ⟨gz, 8, none⟩) rfl (.slice A7 h.n3 c7))
  clear d8 d8f c78
  generalize World.setCell w7 _ _ = w8 at *
  have p12 : w8.cell? ⟨gz, 12, none⟩ = some (.int .u64 (m.pr.1 : Int)) := (show Blk w8 gz 40 (msV m { h with A1 := A5, c1 := c5, A2 := A6, c2 := c6, A3 := A7, c3 := c7 }) from K8.out).cell 12
  have p13 : w8.cell? ⟨gz, 13, none⟩ = some (.slice h.A4 h.n4 h.c4) := by
    have hh := (show Blk w8 gz 40 (msV m { h with A1 := A5, c1 := c5, A2 := A6, c2 := c6, A3 := A7, c3 := c7 }) from K8.out).cell 13
    exact hh
  have S48 := F3.out w8 C8.out
  have HPC := Lib.hid (prcopy_any (e := m.pr.1) S48.1 S48.2 hn4 HS4.out)
  clear S48
  go_upto_region 5 with
    (first
     | (go_at_call 36
        refine HPC.out.mono ?_
        rintro e w9 ⟨A9, c9, rfl, _, hb9⟩
        have K9 := Lib.hid (keepB (show Blk w8 gz 40 (msV m { h with A1 := A5, c1 := c5, A2 := A6, c2 := c6, A3 := A7, c3 := c7 }) from K8.out) hb9)
        have L9 := Lib.hid (OL.below L8.out hb9)
        have C9 := Lib.hid (C8.out.trans (Chg.of_pure hb9 _))
        have O9 := Lib.hid (keepO O8.out hb9)
        have D9 := Lib.hid (keepO D8.out hb9)
        have y12 := (show Blk w9 gz 40 (msV m { h with A1 := A5, c1 := c5, A2 := A6, c2 := c6, A3 := A7, c3 := c7 }) from K9.out).cell 12
        have y12f := (show Blk w9 gz 40 (msV m { h with A1 := A5, c1 := c5, A2 := A6, c2 := c6, A3 := A7, c3 := c7 }) from K9.out).frozen 12
        have y13 := (show Blk w9 gz 40 (msV m { h with A1 := A5, c1 := c5, A2 := A6, c2 := c6, A3 := A7, c3 := c7 }) from K9.out).cell 13
        have y13f := (show Blk w9 gz 40 (msV m { h with A1 := A5, c1 := c5, A2 := A6, c2 := c6, A3 := A7, c3 := c7 }) from K9.out).frozen 13
        clear hb9 p12 p13))
  have K10 : Hid (Blk ((w9.setCell ⟨gz, 12, none⟩ (.int .u64 (m.pr.1 : Int))).setCell ⟨gz, 13, none⟩ (.slice A9 h.n4 c9)) gz 40 (msV m { h with A1 := A5, c1 := c5, A2 := A6, c2 := c6, A3 := A7, c3 := c7, A4 := A9, c4 := c9 })) := ((show Blk w9 gz 40 (msV m { h with A1 := A5, c1 := c5, A2 := A6, c2 := c6, A3 := A7, c3 := c7 }) from K9.out).put 12 (.int .u64 (m.pr.1 : Int))).put 13 _
  have k12 : Blk (w9.setCell ⟨gz, 12, none⟩ (.int .u64 (m.pr.1 : Int))) gz 40 (msV m { h with A1 := A5, c1 := c5, A2 := A6, c2 := c6, A3 := A7, c3 := c7 }) := (show Blk w9 gz 40 (msV m { h with A1 := A5, c1 := c5, A2 := A6, c2 := c6, A3 := A7, c3 := c7 }) from K9.out).put 12 (.int .u64 (m.pr.1 : Int))
  have c910 : Chg (fun k => k = gz) w9 ((w9.setCell ⟨gz, 12, none⟩ (.int .u64 (m.pr.1 : Int))).setCell ⟨gz, 13, none⟩ (.slice A9 h.n4 c9)) := ((Chg.refl (fun k => k = gz) w9).setCell (p := ⟨gz, 12, none⟩) (.inl rfl) _).setCell (p := ⟨gz, 13, none⟩) (.inl rfl) _
  have C10 := Lib.hid (C9.out.trans c910)
  have O10 := Lib.hid (chO O9.out c910 (fun k hk e => by have h1 := (O9.out.lt k hk).1; have := HZ2.out; omega))
  have D10 := Lib.hid (chO D9.out c910 (fun k hk e => by have h1 := (D9.out.lt k hk).1; have := HZ6.out; omega))
  have L10 := Lib.hid (OL.put (OL.put L9.out (show Blk w9 gz 40 _ from K9.out) (fun h => h) (by unfold T64; decide) (by decide) (a := ⟨gz, 12, none⟩) rfl (.int .u64 (m.pr.1 : Int))) k12 (fun h => h) (by unfold T64; decide) (by decide) (a := ⟨gz, 13, none⟩) rfl (.slice A9 h.n4 c9))
  clear y12 y12f y13 y13f c910 k12
  generalize World.setCell (World.setCell w9 _ _) _ _ = w10 at *
  obtain ⟨K210, _, _, HB10⟩ := F2.out w10 C10.out
  have HB10h := Lib.hid HB10
  have HZ4 : Hid (w2.heap.size ≤ w4.heap.size) := HZ24
  have HZ26 : Hid (w2.heap.size ≤ w6.heap.size) := C6.out.size
  have z0 := (show Blk w10 gz 40 (msV m { h with A1 := A5, c1 := c5, A2 := A6, c2 := c6, A3 := A7, c3 := c7, A4 := A9, c4 := c9 }) from K10.out).cell 0
  have z1 := (show Blk w10 gz 40 (msV m { h with A1 := A5, c1 := c5, A2 := A6, c2 := c6, A3 := A7, c3 := c7, A4 := A9, c4 := c9 }) from K10.out).cell 1
  have z2 := (show Blk w10 gz 40 (msV m { h with A1 := A5, c1 := c5, A2 := A6, c2 := c6, A3 := A7, c3 := c7, A4 := A9, c4 := c9 }) from K10.out).cell 2
  have z3 := (show Blk w10 gz 40 (msV m { h with A1 := A5, c1 := c5, A2 := A6, c2 := c6, A3 := A7, c3 := c7, A4 := A9, c4 := c9 }) from K10.out).cell 3
  have z4 := (show Blk w10 gz 40 (msV m { h with A1 := A5, c1 := c5, A2 := A6, c2 := c6, A3 := A7, c3 := c7, A4 := A9, c4 := c9 }) from K10.out).cell 4
  have z5 := (show Blk w10 gz 40 (msV m { h with A1 := A5, c1 := c5, A2 := A6, c2 := c6, A3 := A7, c3 := c7, A4 := A9, c4 := c9 }) from K10.out).cell 5
  have z6 := (show Blk w10 gz 40 (msV m { h with A1 := A5, c1 := c5, A2 := A6, c2 := c6, A3 := A7, c3 := c7, A4 := A9, c4 := c9 }) from K10.out).cell 6
  have z7 := (show Blk w10 gz 40 (msV m { h with A1 := A5, c1 := c5, A2 := A6, c2 := c6, A3 := A7, c3 := c7, A4 := A9, c4 := c9 }) from K10.out).cell 7
  have z8 := (show Blk w10 gz 40 (msV m { h with A1 := A5, c1 := c5, A2 := A6, c2 := c6, A3 := A7, c3 := c7, A4 := A9, c4 := c9 }) from K10.out).cell 8
  have z9 := (show Blk w10 gz 40 (msV m { h with A1 := A5, c1 := c5, A2 := A6, c2 := c6, A3 := A7, c3 := c7, A4 := A9, c4 := c9 }) from K10.out).cell 9
  have z10 := (show Blk w10 gz 40 (msV m { h with A1 := A5, c1 := c5, A2 := A6, c2 := c6, A3 := A7, c3 := c7, A4 := A9, c4 := c9 }) from K10.out).cell 10
  have z11 := (show Blk w10 gz 40 (msV m { h with A1 := A5, c1 := c5, A2 := A6, c2 := c6, A3 := A7, c3 := c7, A4 := A9, c4 := c9 }) from K10.out).cell 11
  have z12 := (show Blk w10 gz 40 (msV m { h with A1 := A5, c1 := c5, A2 := A6, c2 := c6, A3 := A7, c3 := c7, A4 := A9, c4 := c9 }) from K10.out).cell 12
  have z13 := (show Blk w10 gz 40 (msV m { h with A1 := A5, c1 := c5, A2 := A6, c2 := c6, A3 := A7, c3 := c7, A4 := A9, c4 := c9 }) from K10.out).cell 13
  go_wp2_with (refine wpList_put_row rfl 40 (.tmp 2) (.tmp 21) rfl (gz + 1) (msV m { h with A1 := A5, c1 := c5, A2 := A6, c2 := c6, A3 := A7, c3 := c7, A4 := A9, c4 := c9 }) rfl rfl 40 _ K210 HSZ.out rfl (by simp [Value.oneCell']) ?_; intro w11 hblk hgr)
  try rw [Exit.noGoto_ret]
  have x0 := (show Blk w11 (gz + 1) 40 (msV m { h with A1 := A5, c1 := c5, A2 := A6, c2 := c6, A3 := A7, c3 := c7, A4 := A9, c4 := c9 }) from hblk).cell 0
  have x1 := (show Blk w11 (gz + 1) 40 (msV m { h with A1 := A5, c1 := c5, A2 := A6, c2 := c6, A3 := A7, c3 := c7, A4 := A9, c4 := c9 }) from hblk).cell 1
  have x2 := (show Blk w11 (gz + 1) 40 (msV m { h with A1 := A5, c1 := c5, A2 := A6, c2 := c6, A3 := A7, c3 := c7, A4 := A9, c4 := c9 }) from hblk).cell 2
  have x3 := (show Blk w11 (gz + 1) 40 (msV m { h with A1 := A5, c1 := c5, A2 := A6, c2 := c6, A3 := A7, c3 := c7, A4 := A9, c4 := c9 }) from hblk).cell 3
  have x4 := (show Blk w11 (gz + 1) 40 (msV m { h with A1 := A5, c1 := c5, A2 := A6, c2 := c6, A3 := A7, c3 := c7, A4 := A9, c4 := c9 }) from hblk).cell 4
  have x5 := (show Blk w11 (gz + 1) 40 (msV m { h with A1 := A5, c1 := c5, A2 := A6, c2 := c6, A3 := A7, c3 := c7, A4 := A9, c4 := c9 }) from hblk).cell 5
  have x6 := (show Blk w11 (gz + 1) 40 (msV m { h with A1 := A5, c1 := c5, A2 := A6, c2 := c6, A3 := A7, c3 := c7, A4 := A9, c4 := c9 }) from hblk).cell 6
  have x7 := (show Blk w11 (gz + 1) 40 (msV m { h with A1 := A5, c1 := c5, A2 := A6, c2 := c6, A3 := A7, c3 := c7, A4 := A9, c4 := c9 }) from hblk).cell 7
  have x8 := (show Blk w11 (gz + 1) 40 (msV m { h with A1 := A5, c1 := c5, A2 := A6, c2 := c6, A3 := A7, c3 := c7, A4 := A9, c4 := c9 }) from hblk).cell 8
  have x9 := (show Blk w11 (gz + 1) 40 (msV m { h with A1 := A5, c1 := c5, A2 := A6, c2 := c6, A3 := A7, c3 := c7, A4 := A9, c4 := c9 }) from hblk).cell 9
  have x10 := (show Blk w11 (gz + 1) 40 (msV m { h with A1 := A5, c1 := c5, A2 := A6, c2 := c6, A3 := A7, c3 := c7, A4 := A9, c4 := c9 }) from hblk).cell 10
  have x11 := (show Blk w11 (gz + 1) 40 (msV m { h with A1 := A5, c1 := c5, A2 := A6, c2 := c6, A3 := A7, c3 := c7, A4 := A9, c4 := c9 }) from hblk).cell 11
  have x12 := (show Blk w11 (gz + 1) 40 (msV m { h with A1 := A5, c1 := c5, A2 := A6, c2 := c6, A3 := A7, c3 := c7, A4 := A9, c4 := c9 }) from hblk).cell 12
  have x13 := (show Blk w11 (gz + 1) 40 (msV m { h with A1 := A5, c1 := c5, A2 := A6, c2 := c6, A3 := A7, c3 := c7, A4 := A9, c4 := c9 }) from hblk).cell 13
  have hof : ∀ {b0 : Nat} {et : TypeId} {v : Value} {nn : Nat} {ys : List Value}, w10.ownsRow b0 et 1 v nn ys → gz + 1 < b0 → w11.ownsRow b0 et 1 v nn ys := fun ho hb0 => chO ho (Chg.of_grown hgr) (fun k hk e => by
    have e' : k = gz + 1 := Option.some.inj e
    have h1 := (ho.lt k hk).1
    omega)
  have r3 := own_less2 (base' := w.heap.size) (hof D10.out (by have := HZ26.out; have := HZ2.out; omega)) (by have := HZ26.out; have := HZ2.out; have := HGZ.out; omega)
  refine bodyPost_ret (v := .agg (msV m { h with A1 := A5, c1 := c5, A2 := A6, c2 := c6, A3 := A7, c3 := c7, A4 := A9, c4 := c9 })) (by simp [results, Try.results20, go_sem, x0, x1, x2, x3, x4, x5, x6, x7, x8, x9, x10, x11, x12, x13]) rfl ⟨{ h with A1 := A5, c1 := c5, A2 := A6, c2 := c6, A3 := A7, c3 := c7, A4 := A9, c4 := c9 }, rfl, rfl, r3, HB10h.out.grown hgr HB10h.out.size (fun q hq => by have e' : gz + 1 = q := Option.some.inj hq; have := HGZ.out; omega)⟩
end
end Go.Proofs.Ytnihaaifkogpbaa
