/- Positions that are some; the entry at a position; the literals of Of and Streams. -/
import Derived.Test.YtcbmnfjbmkpfiaaPkI
import Derived.Test.YtcbmnfjbmkpfiaaPkC
import Derived.Test.YtcbmnfjbmkpfiaaPkF
namespace Go.Proofs.Ytcbmnfjbmkpfiaa
open Go.ChangeShapes Go.WideShapes Go.ChangeAt Go.RowKit
set_option linter.unusedVariables false
/-- A batch's positions are some. -/
def NumOk (b n : Nat) : Prop := b ≤ endN b n
section
variable {D : Dom} {A : Option Addr} {n c ep b p s : Nat} {es : List Ent} {w : World}
set_option maxRecDepth 100000 in
set_option maxHeartbeats 4000000 in
theorem numbered_any (w : World) (hn : n ≤ 1000000) (hb : b ≤ 18446744073709551615) : Calls Try.prog 51 #[.agg (batV ep b A n c)] w fun e w' => e = .returned (.bool (dec (NumOk b n))) ∧ Below w.heap.size w w' := by
  have hb1 := below1 w (.cells (batV ep b A n c) 25)
  have HB := Lib.hid hb1
  have HK := Lib.hid (blk11 w 25 (batV ep b A n c))
  obtain ⟨q, hq⟩ : ∃ q, dec (NumOk b n) = q := ⟨_, rfl⟩
  rw [hq]
  obtain ⟨en, hen⟩ : ∃ en, en = endN b n := ⟨_, rfl⟩
  have hd : decide ((en : Int) ≥ (b : Int)) = q := by
    rw [← hq]
    unfold NumOk
    rw [← hen]
    by_cases h : b ≤ en
    · rw [dec_true h]; simp; omega
    · rw [dec_false h]; simp; omega
  have hend : ∀ u : World, Calls Try.prog 30 #[.agg (batV ep b A n c)] u fun e w' => e = .returned (.int .u64 (en : Int)) ∧ Below u.heap.size u w' := fun u => by rw [hen]; exact end_any u hn hb
  have HEND := Lib.hid hend
  have hd2 : decide (b ≤ en) = q := by rw [← hd]; by_cases h : b ≤ en <;> simp [h] <;> omega
  clear hb1 hq hen hend
  go_enter Try.func51, Try.ntmps51
  go_upto_region 1 with (fail)
  generalize World.alloc w _ = w0 at *
  have k0 : ∀ u : Gr w0.heap.size w0, u.val.cell? ⟨w.heap.size, 0, none⟩ = some (.int .u64 (ep : Int)) := fun u => (keepB (show Blk w0 w.heap.size 25 (batV ep b A n c) from HK.out) u.is).cell 0
  have k1 : ∀ u : Gr w0.heap.size w0, u.val.cell? ⟨w.heap.size, 1, none⟩ = some (.int .u64 (b : Int)) := fun u => (keepB (show Blk w0 w.heap.size 25 (batV ep b A n c) from HK.out) u.is).cell 1
  have k2 : ∀ u : Gr w0.heap.size w0, u.val.cell? ⟨w.heap.size, 2, none⟩ = some (.slice A n c) := fun u => (keepB (show Blk w0 w.heap.size 25 (batV ep b A n c) from HK.out) u.is).cell 2
  refine wp_region_grow (by kernel_rfl) (by kernel_rfl) w0.heap.size ?_
  repeat (first | go_big_quiet_step ((go_at_call 30; exact Gr.call _ (Nat.le_refl _) (HEND.out _))) | quiet_step ((go_at_call 30; exact Gr.call _ (Nat.le_refl _) (HEND.out _))))
  refine wpQuiet_nil ?_
  rintro w5 ⟨⟨_, hb5⟩, rfl⟩
  have HB5 := Lib.hid (stepB HB.out hb5)
  clear k0 k1 k2 hb5
  go_wp2_with fail
  go_ret
  exact ⟨rfl, HB5.out⟩
theorem num_end (h : NumOk b n) (hn : n ≤ 1000000) (hb : b ≤ 18446744073709551615) : endN b n = b + n := by
  unfold NumOk endN at *
  rcases Nat.lt_or_ge (b + n) 18446744073709551616 with h1 | h1
  · exact Nat.mod_eq_of_lt h1
  · have e : (b + n) % 18446744073709551616 = b + n - 18446744073709551616 := by omega
    omega
theorem Row8.boxed {w' : World} {b b0 : Nat} {t : TypeId} {cs : Array Value} {l : List UInt8} (h : Row8 w b A n c l) (hb : Blk w b0 t cs) (ht : t ≠ 5) (hg : w.grownBy w' (some b0)) : Row8 w' b A n c l :=
  chO h (Chg.of_grown hg) (fun k hk hf => by
    have hf' : k = b0 := Option.some.inj hf
    subst hf'
    rcases h.2 with ⟨hv, _⟩ | ⟨g5, cap, cur, hv, _, hh, _⟩
    · rw [hv] at hk; cases hk
    · rw [hv] at hk
      have e : g5 = k := Option.some.inj hk
      subst e
      exact ht (blk_type hb hh).symm)
/-- A position is a batch's. -/
def AtOk (b n p : Nat) : Prop := NumOk b n ∧ b ≤ p ∧ p < endN b n
/-- What peek.At tells. -/
def AtIs (w : World) (b : Nat) (es : List Ent) (p : Nat) (e : Ending) (w' : World) : Prop :=
  Below w.heap.size w w' ∧ ((AtOk b es.length p ∧ ∃ x, es[p - b]? = some x ∧ ∃ A' n' c' B' m' d', e = .returned (.tuple #[.agg (entV A' n' c' B' m' d'), .bool true]) ∧ OLk w' w.heap.size A' n' c' x.1 ∧ Row8 w' w.heap.size B' m' d' x.2) ∨
    (¬ AtOk b es.length p ∧ e = .returned (.tuple #[.agg zE, .bool false])))
set_option maxRecDepth 100000 in
set_option maxHeartbeats 4000000 in
theorem at_any26 (hs : rpEnt.sl w D A n c es) (hD : ∀ k, D k → k < w.heap.size) (hE : EBd es) (hb : b ≤ 18446744073709551615) (hp : p ≤ 18446744073709551615) :
    Calls Try.prog 20 #[.agg (batV ep b A n c), .int .u64 (p : Int)] w (AtIs w b es p) := by
  have hb2 := below2 w (.cells (batV ep b A n c) 25) (.cells zE 45)
  have HB2 := Lib.hid hb2
  have K1 := Lib.hid (blk21 w 25 45 (batV ep b A n c) zE)
  have K2 := Lib.hid (blk22 w 25 45 (batV ep b A n c) zE)
  have HS2 := Lib.hid (keepS (show Sl rpEnt w D A n c es from ⟨hs, hD⟩) hb2)
  have HN := Lib.hid (Rp.sl_len hs).1
  have HE := Lib.hid hE
  have HHB := Lib.hid hb
  have HP := Lib.hid hp
  have hn1 : n ≤ 1000 := by rw [← HN.out]; exact hE.1
  have HSZ : Hid ((Try.prog.info? 45).map (·.size) = some 2) := by show _ = _; kernel_rfl
  obtain ⟨gz, hgz⟩ : ∃ gz, gz = w.heap.size := ⟨_, rfl⟩
  rw [← hgz] at K1 K2
  have HGZ := Lib.hid hgz
  clear hs hD hb2 hE hb hp
  obtain ⟨q, hq⟩ : ∃ q, dec (AtOk b n p) = q := ⟨_, rfl⟩
  have HQ := Lib.hid hq
  obtain ⟨q1, hq1⟩ : ∃ q, dec (NumOk b n) = q := ⟨_, rfl⟩
  have HQ1 := Lib.hid hq1
  clear hq hq1
  go_enter Try.func20, Try.ntmps20
  go_upto_region 1 with (fail)
  rw [← hgz]
  clear hgz
  generalize World.alloc (World.alloc w _) _ = w2 at *
  go_cut [20] (fun v20 wx => v20 = .bool (!q) ∧ Hid (Below w2.heap.size w2 wx))
  case first =>
    have k0 := (show Blk w2 gz 25 (batV ep b A n c) from K1.out).cell 0
    have k1 := (show Blk w2 gz 25 (batV ep b A n c) from K1.out).cell 1
    have k2 := (show Blk w2 gz 25 (batV ep b A n c) from K1.out).cell 2
    have hnm := numbered_any (ep := ep) (A := A) (c := c) w2 (show n ≤ 1000000 by omega) HHB.out
    rw [HQ1.out] at hnm
    have HNM := Lib.hid hnm
    clear hnm
    go_wp2_with fail
    refine HNM.out.mono ?_; rintro e w3 ⟨rfl, hb3⟩
    have HB3 := Lib.hid hb3
    have K13 := Lib.hid (keepB (show Blk w2 gz 25 (batV ep b A n c) from K1.out) hb3)
    clear hb3 k0 k1 k2
    have k0 := (show Blk w3 gz 25 (batV ep b A n c) from K13.out).cell 0
    have k1 := (show Blk w3 gz 25 (batV ep b A n c) from K13.out).cell 1
    have k2 := (show Blk w3 gz 25 (batV ep b A n c) from K13.out).cell 2
    cases q1
    case false =>
      obtain rfl : q = false := by rw [← HQ.out]; exact dec_false (fun h => of_not_dec HQ1.out h.1)
      go_wp2_with fail
      go_meet
      exact ⟨rfl, HB3⟩
    case true =>
      by_cases c1 : p < b
      case pos =>
        have c1a : decide ((p : Int) < (b : Int)) = true := by simp; omega
        have c1b : decide (p < b) = true := by simp; omega
        obtain rfl : q = false := by rw [← HQ.out]; exact dec_false (fun h => by have := h.2.1; omega)
        go_wp2_with fail
        go_meet
        exact ⟨rfl, HB3⟩
      case neg =>
        have c1a : decide ((p : Int) < (b : Int)) = false := by simp; omega
        have c1b : decide (p < b) = false := by simp; omega
        have hed := end_any (ep := ep) (A := A) (c := c) w3 (show n ≤ 1000000 by omega) HHB.out
        obtain ⟨en, hen⟩ : ∃ en, en = endN b n := ⟨_, rfl⟩
        rw [← hen] at hed
        have HEN := Lib.hid hen
        have HED := Lib.hid hed
        have hqe : (!q) = decide (en ≤ p) := by
          rw [← HQ.out]
          by_cases h : p < en
          · rw [dec_true ⟨of_dec HQ1.out, by omega, by rw [← HEN.out]; exact h⟩]; simp; omega
          · rw [dec_false (fun h' => h (by have := h'.2.2; rw [← HEN.out] at this; exact this))]; simp; omega
        have HQE := Lib.hid hqe
        clear hen hed hqe
        go_wp2_with fail
        refine HED.out.mono ?_; rintro e w4 ⟨rfl, hb4⟩
        have HB4 := Lib.hid (stepB HB3.out hb4)
        clear hb4 k0 k1 k2
        go_wp2_with fail
        go_meet
        exact ⟨by rw [HQE.out], HB4⟩
  case rest =>
  obtain ⟨rfl, HB3⟩ := hcut
  obtain ⟨w3, hw3⟩ : ∃ w3, w3 = wc := ⟨_, rfl⟩
  subst hw3
  have K13 := Lib.hid (keepB (show Blk w2 gz 25 (batV ep b A n c) from K1.out) HB3.out)
  have K23 := Lib.hid (keepB (show Blk w2 (gz + 1) 45 zE from K2.out) HB3.out)
  have S3 := Lib.hid (keepS HS2.out HB3.out)
  have HB03 := Lib.hid (stepB HB2.out HB3.out)
  clear K1 K2 HS2 HB2 HB3
  cases q
  case false =>
    have HNO : Hid (¬ AtOk b es.length p) := by show ¬ _; rw [HN.out]; exact of_not_dec HQ.out
    go_wp2_with (refine wpList_put_row rfl 45 (.tmp 4) (.tmp 21) rfl (gz + 1) zE rfl rfl 45 _ K23.out HSZ.out rfl (by simp [Value.oneCell']) ?_; intro w6 hblk hgr)
    try rw [Exit.noGoto_ret]
    have x0 := (show Blk w6 (gz + 1) 45 zE from hblk).cell 0
    have x1 := (show Blk w6 (gz + 1) 45 zE from hblk).cell 1
    refine bodyPost_ret (v := .tuple #[.agg zE, .bool false]) (by simp [results, Try.results20, go_sem, x0, x1]) rfl ⟨HB03.out.grown hgr HB03.out.size (fun q hq => by have e' : gz + 1 = q := Option.some.inj hq; have := HGZ.out; omega), .inr ⟨HNO.out, rfl⟩⟩
  case true =>
    have hok := of_dec HQ.out
    have hne := num_end hok.1 (by omega) HHB.out
    have HOK : Hid (AtOk b es.length p) := by show AtOk _ _ _; rw [HN.out]; exact hok
    obtain ⟨i, hi⟩ : ∃ i, i = p - b := ⟨_, rfl⟩
    have hpb : p = b + i := by have := hok.2.1; omega
    have hin : i < n := by have := hok.2.2; omega
    have HI := Lib.hid hi
    have HPB := Lib.hid hpb
    have hwi : IntKind.u64.wrap ((p : Int) - (b : Int)) = (i : Int) := by have := HP.out; rw [IntWalk.u64_in _ (by omega)]; omega
    clear hok hne hi hpb
    obtain ⟨bo, off, x, A3, c3, B3, d3, rfl, hbD, hx, g0, g1, hrow, hdat⟩ := ent_at S3.out.1 hin
    obtain ⟨xL, xd⟩ := x
    simp only at g0 g1 hrow hdat
    obtain ⟨xn, hxn⟩ : ∃ xn, xn = xL.length := ⟨_, rfl⟩
    obtain ⟨dn, hdn⟩ : ∃ dn, dn = xd.length := ⟨_, rfl⟩
    rw [← hxn] at g0 hrow
    rw [← hdn] at g1 hdat
    have hbx := HE.out.2 _ (List.mem_of_getElem? hx)
    have HX := Lib.hid hx
    have HEC := Lib.hid (ecopy_any hrow S3.out.2 (by rw [hxn]; exact Nat.le_trans hbx.1 (by decide)) (fun y hy => Nat.le_trans (hbx.2.1 y hy) (by decide)) hdat S3.out.2 (by rw [hdn]; exact hbx.2.2))
    have hiI : (0 : Int) ≤ (i : Int) := by omega
    have hiI2 : (i : Int) < (n : Int) := by omega
    have k1 := (show Blk w3 gz 25 (batV ep b (some ⟨bo, off, none⟩) n c) from K13.out).cell 1
    have k2 := (show Blk w3 gz 25 (batV ep b (some ⟨bo, off, none⟩) n c) from K13.out).cell 2
    clear hrow hdat hbx hx hbD hxn hdn
    go_wp2_with
      (first
       | (go_at_call 52
          refine HEC.out.mono ?_
          rintro e w4 ⟨A5, c5, B5, d5, rfl, ho4, hr4, hb4⟩
          have HO4 := Lib.hid ho4
          have HR4 := Lib.hid hr4
          have HB4 := Lib.hid (stepB HB03.out hb4)
          have K24 := Lib.hid (keepB (show Blk w3 (gz + 1) 45 zE from K23.out) hb4)
          have HZ3 := Lib.hid (HB03.out.size)
          clear ho4 hr4 hb4 k1 k2 g0 g1)
       | (refine wpList_put_row rfl 45 (.tmp 4) (.tmp 30) rfl (gz + 1) (entV A5 xn c5 B5 dn d5) rfl rfl 45 _ K24.out HSZ.out rfl (by simp [Value.oneCell']) ?_; intro w6 hblk hgr))
    try rw [Exit.noGoto_ret]
    have x0 := (show Blk w6 (gz + 1) 45 (entV A5 xn c5 B5 dn d5) from hblk).cell 0
    have x1 := (show Blk w6 (gz + 1) 45 (entV A5 xn c5 B5 dn d5) from hblk).cell 1
    have o6 := OL.grown (OL.mono HO4.out HZ3.out) (show Blk w4 (gz + 1) 45 zE from K24.out) (fun h => h) (by unfold T64; decide) (by decide) hgr
    have r6 := Row8.boxed (own_less2 HR4.out HZ3.out) (show Blk w4 (gz + 1) 45 zE from K24.out) (by decide) hgr
    refine bodyPost_ret (v := .tuple #[.agg (entV A5 xn c5 B5 dn d5), .bool true]) (by simp [results, Try.results20, go_sem, x0, x1]) rfl ⟨HB4.out.grown hgr HB4.out.size (fun q hq => by have e' : gz + 1 = q := Option.some.inj hq; have := HGZ.out; omega), .inl ⟨HOK.out, (xL, xd), by rw [← HI.out]; exact HX.out, A5, xn, c5, B5, dn, d5, rfl, o6, r6⟩⟩
end
end Go.Proofs.Ytcbmnfjbmkpfiaa
