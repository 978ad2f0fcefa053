/- read and change of a unit. -/
import Derived.Test.YtnihaaifkogpbaaToS
import Derived.Test.YtnihaaifkogpbaaTuC
namespace Go.Proofs.Ytnihaaifkogpbaa
open Go.ChangeShapes Go.WideShapes Go.ChangeAt Go.RowKit
set_option linter.unusedVariables false
abbrev Lt (w : World) : Dom := fun k => k < w.heap.size
theorem own_t8 {w : World} {base n c : Nat} {A : Option Addr} {l : List UInt8} (h : w.ownsRow base 5 1 (.slice A n c) n (l.map bv)) : rpU8.sl w (Tn T8 w) A n c l := by
  refine Rp.sl_more (own_bytes h) (fun k hk => ?_)
  rcases h.2 with ⟨hv, h0⟩ | ⟨g, cap, cur, hv, hg, hh, _⟩
  · rw [hv] at hk; cases hk
  · rw [hv] at hk
    have e : k = g := Option.some.inj hk
    subst e
    exact ⟨(show Blk w k 5 cur from hh).lt, .inr ⟨cur, _, hh, rfl⟩⟩
set_option maxRecDepth 10000 in
theorem fieldSl (st : Int) (A : Option Addr) (n c : Nat) (w : World) : (Instr.field 69 (.agg #[.int .i64 st, .slice A n c]) 1).run Try.prog w = .ok (.slice A n c) w := rfl
section
variable {w : World} {gu gm ga nd ep tl nx nt ct n : Nat} {se : Bool} {pj : Value} {At : Option Addr} {f : Nat → Option Value} {st : Int} {D : Dom} {q a : Ms} {h hd : Hd} {d : List UInt8}
set_option maxRecDepth 100000 in
set_option maxHeartbeats 4000000 in
theorem read_any (hu : Blk w gu 60 (unV nd ep se (.map (some gm)) tl pj nx At nt ct)) (hm : SMap w gm n f) (hga : Blk w ga 40 (msV a hd)) (hx : q.ps ≤ 18446744073709551615) (hs : St f q.ps st)
    (hdt : ∀ A n c, f q.ps = some (slV 1 A n c) → rpU8.sl w (Tn T8 w) A n c d ∧ n ≤ 1048576) :
    Calls Try.prog 31 #[.pointer (some ⟨gu, 0, none⟩), .agg (msV q h), .pointer (some ⟨ga, 0, none⟩)] w fun e w' => e = .returned (.int .i64 0) ∧
      (st ≠ 1 ∧ Blk w' ga 40 (msV { a with kd := 9, st := st } hd) ∨ st = 1 ∧ ∃ A3 n3 c3, Blk w' ga 40 (msV { a with kd := 9, st := st, dt := d } { hd with A3 := A3, n3 := n3, c3 := c3 }) ∧ n3 ≤ 1048576 ∧ rpU8.sl w' (Lt w') A3 n3 c3 d) ∧ Chg (fun k => k = ga) w w' := by
  have hb1 := below1 w (.cells (msV q h) 40)
  have HB1 := Lib.hid hb1
  have K1 := Lib.hid (blk11 w 40 (msV q h))
  have U1 := Lib.hid (keepB hu hb1)
  have A1 := Lib.hid (keepB hga hb1)
  have M1 := Lib.hid (hm.below hb1 hm.lt)
  have HML := Lib.hid hm.lt
  have HAL := Lib.hid hga.lt
  have HUL := Lib.hid hu.lt
  have HNE : Hid (gu ≠ ga) := fun e => by subst e; exact absurd (blk_type hu hga) (by decide)
  have HNM : Hid (ga ≠ gm) := fun e => hm.no (by rw [← e]; exact hga)
  have HDT := Lib.hid (fun A n c (hh : f q.ps = some (slV 1 A n c)) => (⟨Rp.sl_more (Rp.sl_below (hdt A n c hh).1 hb1 (fun k hk => hk.1)) (fun k hk => Tb.keep (fun k hk => hb1.block k hk.1) hb1.size hk), (hdt A n c hh).2⟩ : rpU8.sl _ (Tn T8 _) A n c d ∧ n ≤ 1048576))
  have HST := Lib.hid (state_any U1.out M1.out hx hs)
  have HS := Lib.hid hs
  clear hu hm hga hb1 hdt hs
  go_enter Try.func31, Try.ntmps31
  go_upto_region 1 with (fail)
  obtain ⟨gq, hgq⟩ : ∃ gq, gq = w.heap.size := ⟨_, rfl⟩
  rw [← hgq] at K1 ⊢
  have HGQ := Lib.hid hgq
  clear hgq
  generalize World.alloc w _ = w1 at *
  have q3 := (show Blk w1 gq 40 (msV q h) from K1.out).cell 3
  go_upto_region 2 with
    (first
     | (go_at_call 12
        refine HST.out.mono ?_
        rintro e w2 ⟨rfl, hb2⟩
        have HB2 := Lib.hid (stepB HB1.out hb2)
        have K2 := Lib.hid (keepB (show Blk w1 gq 40 (msV q h) from K1.out) hb2)
        have U2 := Lib.hid (keepB (show Blk w1 gu 60 (unV nd ep se (.map (some gm)) tl pj nx At nt ct) from U1.out) hb2)
        have A2 := Lib.hid (keepB (show Blk w1 ga 40 (msV a hd) from A1.out) hb2)
        have M2 := Lib.hid (M1.out.below hb2 M1.out.lt)
        have HDT2 := Lib.hid (fun A n c (hh : f q.ps = some (slV 1 A n c)) => (⟨Rp.sl_more (Rp.sl_below (HDT.out A n c hh).1 hb2 (fun k hk => hk.1)) (fun k hk => Tb.keep (fun k hk => hb2.block k hk.1) hb2.size hk), (HDT.out A n c hh).2⟩ : rpU8.sl _ (Tn T8 _) A n c d ∧ n ≤ 1048576))
        have A20 : Blk (w2.setCell ⟨ga, 0, none⟩ (.int .i64 9)) ga 40 (msV { a with kd := 9 } hd) := (show Blk w2 ga 40 (msV a hd) from A2.out).put 0 _
        have HA20 := Lib.hid A20
        have a0 := (show Blk w2 ga 40 (msV a hd) from A2.out).cell 0
        have af0 := (show Blk w2 ga 40 (msV a hd) from A2.out).frozen 0
        have a5 := A20.cell 5
        have af5 := A20.frozen 5
        clear hb2 A20 q3))
  have A3 : Hid (Blk ((w2.setCell ⟨ga, 0, none⟩ (.int .i64 9)).setCell ⟨ga, 5, none⟩ (.int .i64 st)) ga 40 (msV { a with kd := 9, st := st } hd)) := HA20.out.put 5 _
  have c23 : Chg (fun k => k = ga) w2 ((w2.setCell ⟨ga, 0, none⟩ (.int .i64 9)).setCell ⟨ga, 5, none⟩ (.int .i64 st)) := ((Chg.refl (fun k => k = ga) w2).setCell (p := ⟨ga, 0, none⟩) (.inl rfl) _).setCell (p := ⟨ga, 5, none⟩) (.inl rfl) _
  have C3 := Lib.hid ((Chg.of_pure HB2.out (fun k => k = ga)).trans c23)
  have K3 := Lib.hid (chB (show Blk w2 gq 40 (msV q h) from K2.out) c23 (by have := HGQ.out; have := HAL.out; show ¬ gq = ga; omega))
  have U3 := Lib.hid (chB (show Blk w2 gu 60 (unV nd ep se (.map (some gm)) tl pj nx At nt ct) from U2.out) c23 HNE.out)
  have M3 := Lib.hid (M2.out.chg c23 (fun e => HNM.out e.symm))
  have hsf : Safe (fun k => k = ga) w2 := fun k hk _ cs t ht => by
    subst hk
    exact .inr ((blk_type (show Blk w2 k 40 _ from A2.out) ht))
  have hkk := hsf.keep (TS := T8) c23 (by unfold T8; decide) (by unfold T8; decide)
  have HDT3 := Lib.hid (fun A n c (hh : f q.ps = some (slV 1 A n c)) => (⟨Rp.sl_more (Rp.sl_keep (HDT2.out A n c hh).1 hkk) (fun k hk => Tb.keep hkk c23.size hk), (HDT2.out A n c hh).2⟩ : rpU8.sl _ (Tn T8 _) A n c d ∧ n ≤ 1048576))
  clear a0 af0 a5 af5 c23 hsf hkk
  generalize World.setCell (World.setCell w2 _ _) _ _ = w3 at *
  have a5 := (show Blk w3 ga 40 (msV { a with kd := 9, st := st } hd) from A3.out).cell 5
  by_cases h1 : st = 1
  case neg =>
    have hd1 : (st == 1) = false := by simpa using h1
    have H1 := Lib.hid h1
    clear h1
    go_wp2_with fail
    go_ret
    exact ⟨rfl, .inl ⟨H1.out, A3.out⟩, C3.out⟩
  case pos =>
  subst h1
  obtain ⟨A, m, c, hf⟩ : ∃ A m c, f q.ps = some (slV 1 A m c) := by
    rcases HS.out with ⟨_, h4⟩ | h4
    · exact absurd h4 (by decide)
    · exact h4
  obtain ⟨hrd, hmn⟩ := HDT3.out A m c hf
  have hlk := M3.out.look1 hx (u := w3.drew) rfl
  have hlk2 := M3.out.look1 hx (u := (w3.alloc (.cells #[] 5)).drew) ((((Below.refl w3.heap.size w3).alloc (Nat.le_refl _) _).drew).block gm M3.out.lt)
  rw [hf] at hlk hlk2
  have hlk3 : (Instr.lookup 57 (.map (some gm)) (.int .u64 (q.ps : Int)) false).run Try.prog w3.drew = .ok (.agg #[.int .i64 1, .slice A m c]) w3.drew := hlk
  have hlk4 : (Instr.lookup 57 (.map (some gm)) (.int .u64 (q.ps : Int)) false).run Try.prog (w3.alloc (.cells #[] 5)).drew = .ok (.agg #[.int .i64 1, .slice A m c]) (w3.alloc (.cells #[] 5)).drew := hlk2
  have hfl := fieldSl 1 A m c
  clear hlk hlk2 hf
  go_upto_region 3 with (fail)
  have hbe : Below w3.heap.size w3 w3.drew := (Below.refl _ w3).drew
  have hbd : Below w3.heap.size w3 (w3.drew.alloc (.cells #[] 5)) := hbe.alloc (Nat.le_refl _) _
  have q3 := (show Blk w3 gq 40 (msV q h) from K3.out).cell 3
  have u3 := (show Blk w3 gu 60 (unV nd ep se (.map (some gm)) tl pj nx At nt ct) from U3.out).cell 3
  have q3d := (keepB (show Blk w3 gq 40 (msV q h) from K3.out) hbe).cell 3
  have u3d := (keepB (show Blk w3 gu 60 (unV nd ep se (.map (some gm)) tl pj nx At nt ct) from U3.out) hbe).cell 3
  have q3a : (w3.alloc (.cells #[] 5)).drew.cell? ⟨gq, 3, none⟩ = _ := (keepB (show Blk w3 gq 40 (msV q h) from K3.out) hbd).cell 3
  have u3a : (w3.alloc (.cells #[] 5)).drew.cell? ⟨gu, 3, none⟩ = _ := (keepB (show Blk w3 gu 60 (unV nd ep se (.map (some gm)) tl pj nx At nt ct) from U3.out) hbd).cell 3
  have HOA := Lib.hid (World.ownsRow_made (e := 5) (size := 1) (base := w3.drew.heap.size) w3.drew #[] 0 (Nat.le_refl _) (by decide) rfl)
  have HSRC := Lib.hid (Src.bytes (Rp.sl_below hrd hbd (fun k hk => hk.1)))
  have KA := Lib.hid (keepB (show Blk w3 ga 40 (msV { a with kd := 9, st := 1 } hd) from A3.out) hbd)
  have HBD := Lib.hid hbd
  have HAL3 := Lib.hid (show Blk w3 ga 40 _ from A3.out).lt
  have hmn2 : m ≤ 1048576 := hmn
  have HMX : Hid (w3.drew.heap.size ≤ (w3.drew.alloc (.cells #[] 5)).heap.size) := by show _ ≤ _; simp
  clear hbe hbd q3 u3 a5 hrd hmn
  go_region_law ((refine step_app rfl (.tmp 23) (.tmp 31) _ (by rfl) elemU8 (by rfl) HOA.out (by rfl) HSRC.out (by unfold maxLen; omega) (by omega) HMX.out ?_
                  intro A6 c6 w6 ho6 hg6 hat6
                  have HO6 := Lib.hid (own_zeroA ho6)
                  have HG6 := Lib.hid hg6
                  have K6 := Lib.hid ((show Blk _ ga 40 (msV { a with kd := 9, st := 1 } hd) from KA.out).grown hg6 (fun e => by have e' : ga = w3.heap.size := Option.some.inj e; have := HAL3.out; omega))
                  have o8 := (show Blk w6 ga 40 (msV { a with kd := 9, st := 1 } hd) from K6.out).cell 8
                  have of8 := (show Blk w6 ga 40 (msV { a with kd := 9, st := 1 } hd) from K6.out).frozen 8
                  clear ho6 hg6 hat6))
  all_goals
    have c67 : Chg (fun k => k = ga) w6 (w6.setCell ⟨ga, 8, none⟩ (.slice A6 m c6)) := (Chg.refl (fun k => k = ga) w6).setCell (p := ⟨ga, 8, none⟩) (.inl rfl) _
    have K7 : Hid (Blk (w6.setCell ⟨ga, 8, none⟩ (.slice A6 m c6)) ga 40 (msV { a with kd := 9, st := 1, dt := d } { hd with A3 := A6, n3 := m, c3 := c6 })) := (show Blk w6 ga 40 (msV { a with kd := 9, st := 1 } hd) from K6.out).put 8 _
    have O7 := Lib.hid (chO HO6.out c67 (fun k hk e => by have h1 := (HO6.out.lt k hk).1; have := HAL3.out; have h2 : w3.drew.heap.size = w3.heap.size := rfl; omega))
    have C7 := Lib.hid ((chGrown (C3.out.trans (Chg.of_pure HBD.out _)) HG6.out (fun k hk => by have e' : w3.heap.size = k := Option.some.inj hk; have := C3.out.size; omega)).trans c67)
    clear c67 o8 of8
    go_wp2_with fail
    go_ret
    exact ⟨rfl, ⟨A6, m, c6, K7.out, hmn2, Rp.sl_more (own_t8 O7.out) (fun k hk => hk.1)⟩, C7.out⟩
set_option maxRecDepth 100000 in
set_option maxHeartbeats 4000000 in
theorem change_any {L : List Int} {gf cf m c : Nat} {A : Option Addr} {stN : Int} (hu : Blk w gu 60 (unV nd ep se (.map (some gm)) tl pj nx At nt ct)) (hm : SMap w gm n f) (hx : q.ps < 4611686018427387904) (hs : St f q.ps st) (hn : n < maxLen)
    (hf : Blk w gf 3 (L.map (Value.int .i64)).toArray) (hL : L.length ≤ 100) :
    Calls Try.prog 32 #[.pointer (some ⟨gu, 0, none⟩), .agg (msV q h), slV stN A m c, .slice (some ⟨gf, 0, none⟩) L.length cf] w fun e w' =>
      e = .returned (.int .i64 0) ∧ st ∈ L ∧ Blk w' gu 60 (unV nd ep se (.map (some gm)) (max tl (q.ps + 1)) pj nx At nt ct) ∧ SMap w' gm (n + 1) (fset f q.ps (slV stN A m c)) ∧ Chg (fun k => k = gu ∨ k = gm) w w' ∨
      e = .returned (.int .i64 18) ∧ st ∉ L ∧ Below w.heap.size w w' := by
  have hb2 := below2 w (.cells (msV q h) 40) (.cells #[.int .i64 stN, .slice A m c] 69)
  have HB2 := Lib.hid hb2
  have K1 := Lib.hid (blk21 w 40 69 (msV q h) #[.int .i64 stN, .slice A m c])
  have K2 := Lib.hid (blk22 w 40 69 (msV q h) #[.int .i64 stN, .slice A m c])
  have U2 := Lib.hid (keepB hu hb2)
  have M2 := Lib.hid (hm.below hb2 hm.lt)
  have F2 := Lib.hid (keepB hf hb2)
  have HS := Lib.hid hs
  obtain ⟨gq, hgq⟩ : ∃ gq, gq = w.heap.size := ⟨_, rfl⟩
  rw [← hgq] at K1 K2
  have HGQ := Lib.hid hgq
  obtain ⟨N, hN⟩ : ∃ N, N = L.length := ⟨_, rfl⟩
  have HN := Lib.hid hN
  rw [← hN] at hL ⊢
  clear hu hm hf hb2 hs hN
  go_enter Try.func32, Try.ntmps32
  go_upto_region 1 with (fail)
  rw [← hgq]
  clear hgq
  generalize World.alloc (World.alloc w _) _ = w2 at *
  go_wp2_with fail
  go_loopw [13] (fun v13 wr => ∃ j : Nat, v13 = .int .i64 (j : Int) ∧ j ≤ N ∧ Hid (∀ i s, i < j → L[i]? = some s → st ≠ s) ∧ Hid (Below w2.heap.size w2 wr)) (fun v13 _ => N - (intOf v13).toNat)
  case atStart => exact ⟨0, rfl, by omega, fun i s hi => by omega, Below.refl _ _⟩
  case round =>
    obtain ⟨j, rfl, hj, hno, hbr⟩ := hrel
    by_cases hjn : j < N
    case neg =>
      have hd2 : decide ((j : Int) < (N : Int)) = false := by simp; omega
      have hd2b : decide (j < N) = false := by simp; omega
      have hjN : j = N := by omega
      have HJ := Lib.hid hjN
      clear hjN hjn hj
      go_wp2_with fail
      go_ret
      refine .inr ⟨rfl, fun hme => ?_, stepB HB2.out hbr.out⟩
      obtain ⟨i, hi, hei⟩ := List.getElem_of_mem hme
      exact hno.out i st (by have := HJ.out; have := HN.out; omega) (by rw [List.getElem?_eq_getElem hi, hei]) rfl
    case pos =>
      have hd2 : decide ((j : Int) < (N : Int)) = true := by simp; omega
      have hjI : (0 : Int) ≤ (j : Int) := by omega
      have hjI2 : (j : Int) < (N : Int) := by omega
      obtain ⟨s, hs⟩ : ∃ s, L[j]? = some s := ⟨_, List.getElem?_eq_getElem (by have := HN.out; omega)⟩
      have FR := Lib.hid (keepB (show Blk w2 gf 3 _ from F2.out) hbr.out)
      have KR := Lib.hid (keepB (show Blk w2 gq 40 (msV q h) from K1.out) hbr.out)
      have SR := Lib.hid (keepB (show Blk w2 (gq + 1) 69 #[.int .i64 stN, .slice A m c] from K2.out) hbr.out)
      have UR := Lib.hid (keepB (show Blk w2 gu 60 (unV nd ep se (.map (some gm)) tl pj nx At nt ct) from U2.out) hbr.out)
      have MR := Lib.hid (M2.out.below hbr.out M2.out.lt)
      have f0 : wr.cell? ⟨gf, j, none⟩ = some (.int .i64 s) := by
        have hh := (show Blk wr gf 3 _ from FR.out).cell j
        rw [hh]
        simp [hs]
      have q3 := (show Blk wr gq 40 (msV q h) from KR.out).cell 3
      have HST := Lib.hid (state_any UR.out MR.out (show q.ps ≤ 18446744073709551615 by omega) HS.out)
      have HJS := Lib.hid hs
      clear hs
      go_upto_region 4 with (fail)
      by_cases hst : st = s
      case pos =>
        have hd3 : (st == s) = true := by simpa using hst
        have HME : Hid (st ∈ L) := by show _ ∈ _; rw [hst]; exact List.mem_of_getElem? HJS.out
        clear hst
        go_upto_region 5 with
          (first
           | (go_at_call 12
              refine HST.out.mono ?_
              rintro e w3 ⟨rfl, hb3⟩
              have HB3 := Lib.hid (stepB hbr.out hb3)
              have K3 := Lib.hid (keepB (show Blk wr gq 40 (msV q h) from KR.out) hb3)
              have S3 := Lib.hid (keepB (show Blk wr (gq + 1) 69 #[.int .i64 stN, .slice A m c] from SR.out) hb3)
              have U3 := Lib.hid (keepB (show Blk wr gu 60 (unV nd ep se (.map (some gm)) tl pj nx At nt ct) from UR.out) hb3)
              have M3 := Lib.hid (MR.out.below hb3 MR.out.lt)
              clear hb3 q3 f0))
        have q3 := (show Blk w3 gq 40 (msV q h) from K3.out).cell 3
        have s0 := (show Blk w3 (gq + 1) 69 #[.int .i64 stN, .slice A m c] from S3.out).cell 0
        have s1 := (show Blk w3 (gq + 1) 69 #[.int .i64 stN, .slice A m c] from S3.out).cell 1
        have HPU := Lib.hid (put_any (st := stN) (A := A) (m := m) (c := c) U3.out M3.out hx hn)
        go_wp2_with fail
        refine HPU.out.mono ?_; rintro e w4 ⟨rfl, h4u, h4m, h4c⟩
        have H4U := Lib.hid h4u
        have H4M := Lib.hid h4m
        have H4C := Lib.hid ((Chg.of_pure (stepB HB2.out HB3.out) _).trans h4c)
        clear h4u h4m h4c q3 s0 s1
        go_wp2_with fail
        go_ret
        exact .inl ⟨rfl, HME.out, H4U.out, H4M.out, H4C.out⟩
      case neg =>
        have hd3 : (st == s) = false := by simpa using hst
        have HNS := Lib.hid hst
        clear hst
        go_wp2_with
          (first
           | (go_at_call 12
              refine HST.out.mono ?_
              rintro e w3 ⟨rfl, hb3⟩
              have HB3 := Lib.hid (stepB hbr.out hb3)
              clear hb3 q3 f0))
        go_roundw
        case rel => exact ⟨j + 1, by go_num, by omega, fun i s' hi hs' => (by
          rcases Nat.lt_succ_iff_lt_or_eq.1 hi with h1 | h1
          · exact hno.out i s' h1 hs'
          · subst h1
            have := HJS.out
            rw [hs'] at this
            injection this with this
            subst this
            exact HNS.out), HB3.out⟩
        case measure => simp [intOf]; omega
end
end Go.Proofs.Ytnihaaifkogpbaa
