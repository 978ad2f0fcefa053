/- (*talk.Unit).take. -/
import Derived.Test.YtnihaaifkogpbaaTuL
import Derived.Test.YtnihaaifkogpbaaTkR
namespace Go.Proofs.Ytnihaaifkogpbaa
open Go.ChangeShapes Go.WideShapes Go.ChangeAt Go.RowKit
set_option linter.unusedVariables false
/-- A unit, in cells. -/
abbrev unV (nd ep : Nat) (se : Bool) (gm : Value) (tl : Nat) (pj : Value) (nx : Nat) (At : Option Addr) (nt ct : Nat) : Array Value := #[.int .u64 (nd : Int), .int .u64 (ep : Int), .bool se, gm, .int .u64 (tl : Int), pj, .int .u64 (nx : Int), .slice At nt ct]
/-- How long tails are. -/
def TkOk (m : Nat) (t : List Lnk) : Prop := t.length ≤ m ∧ ∀ x ∈ t, x.2.length ≤ 4
theorem tk_withlen (l : List Lnk) (x : Lnk) : (withL l x).length ≤ l.length + 1 := by
  unfold withL
  split
  · rw [List.length_set]; omega
  · simp only [List.length_append, List.length_take, List.length_drop, List.length_cons, List.length_nil]
    have := gt_le l x.1
    omega
theorem tk_withmem {l : List Lnk} {x y : Lnk} (h : y ∈ withL l x) : y = x ∨ y ∈ l := by
  unfold withL at h
  split at h
  · rcases List.mem_or_eq_of_mem_set h with h | h
    · exact .inr h
    · exact .inl h
  · rw [List.mem_append, List.mem_append] at h
    rcases h with (h | h) | h
    · exact .inr (List.mem_of_mem_take h)
    · exact .inl (List.mem_singleton.1 h)
    · exact .inr (List.mem_of_mem_drop h)
theorem TkOk.bkl {m : Nat} {t : List Lnk} (h : TkOk m t) (s : Nat) : (bk t s).length ≤ 4 := by
  unfold bk fnd
  cases hx : t[idxOf t s]? with
  | none => exact Nat.zero_le _
  | some x => exact h.2 x (List.mem_of_getElem? hx)
theorem TkOk.with {m p s : Nat} {t : List Lnk} {l : List Nat} (h : TkOk m t) : TkOk (m + 1) (withL t (extL (s, l) p)) := by
  refine ⟨Nat.le_trans (tk_withlen _ _) (by have := h.1; omega), fun x hx => ?_⟩
  rcases tk_withmem hx with rfl | hx
  · show (List.take 4 _).length ≤ 4
    rw [List.length_take]; omega
  · exact h.2 x hx
theorem TkOk.round {p : Nat} : ∀ (ss : List Nat) (m : Nat) (t : List Lnk), TkOk m t → TkOk (m + ss.length) (tkF p t ss)
  | [], m, t, h => h
  | x :: ss, m, t, h => by
    have := TkOk.round (p := p) ss (m + 1) _ (h.with (s := x) (l := bk t x) (p := p))
    rw [List.length_cons, show m + (ss.length + 1) = m + 1 + ss.length by omega]
    exact this
theorem TkOk.rounds {p m : Nat} {ss : List Nat} {t : List Lnk} (h : TkOk m t) : ∀ j, TkOk (m + j * ss.length) (tkK p t ss j)
  | 0 => by rw [Nat.zero_mul]; exact h
  | j + 1 => by
    have := TkOk.round (p := p + j) ss (m + j * ss.length) (tkK p t ss j) (TkOk.rounds h j)
    rw [Nat.succ_mul, ← Nat.add_assoc]
    exact this
theorem tkF_take {p : Nat} {T : List Lnk} {ss : List Nat} {k s : Nat} (h : ss[k]? = some s) : tkF p T (ss.take (k + 1)) = withL (tkF p T (ss.take k)) (extL (s, bk (tkF p T (ss.take k)) s) p) := by
  unfold tkF
  rw [List.take_add_one, h, Option.toList_some, List.foldl_append]
  rfl
theorem chBelow {F : Dom} {B : Nat} {a w w' : World} (h : Chg F a w) (hb : Below B w w') (hB : a.heap.size ≤ B) : Chg F a w' :=
  ⟨hb.os.trans h.os, hb.tape.trans h.tape, hb.output.trans h.output, Nat.le_trans h.size hb.size, fun i hi hn => (hb.block i (by omega)).trans (h.block i hi hn)⟩
section
variable {D : Dom} {A At : Option Addr} {nt ct gu ga nd ep tl nx tb M : Nat} {se : Bool} {gm pj : Value} {T : List Lnk} {q a : Ms} {h hd : Hd} {w : World}
set_option maxRecDepth 100000 in
set_option maxHeartbeats 16000000 in
theorem take_any (hu : Blk w gu 60 (unV nd ep se gm tl pj nx At nt ct)) (ho : OLk w tb At nt ct T) (hT : TkOk M T) (hM : M ≤ 80000) (htb : tb ≤ w.heap.size) (hga : Blk w ga 40 (msV a hd)) (h2 : hd.A2 = none ∧ hd.n2 = 0 ∧ hd.c2 = 0)
    (hq : MsIn w D q h) (hDg : ∀ k, D k → ¬ (k = gu ∨ k = ga)) (hn16 : q.ss.length ≤ 16) (hc1 : 1 ≤ q.ct) (hc2 : q.ct ≤ 65536) (hnx : (nx : Int) + q.ct ≤ 4611686018427387904) :
    Calls Try.prog 33 #[.pointer (some ⟨gu, 0, none⟩), .agg (msV q h), .pointer (some ⟨ga, 0, none⟩)] w fun e w' => e = .returned (.int .i64 0) ∧
      (∃ At' nt' ct', Blk w' gu 60 (unV nd ep se gm tl pj (nx + q.ct.toNat) At' nt' ct') ∧ OLk w' tb At' nt' ct' (tkK (nx + q.ct.toNat - min q.ct.toNat 4) T q.ss (min q.ct.toNat 4))) ∧
      (∃ Al nl cl, Blk w' ga 40 (msV { a with kd := 12, ps := nx } { hd with A2 := Al, n2 := nl, c2 := cl }) ∧ OLk w' tb Al nl cl (q.ss.map fun s => (s, bk T s))) ∧ Chg (fun k => k = gu ∨ k = ga) w w' := by
  obtain ⟨cn, hcn⟩ : ∃ cn : Nat, q.ct = cn := ⟨q.ct.toNat, by omega⟩
  have hcn2 : q.ct.toNat = cn := by omega
  rw [hcn2]
  have hb1 := below1 w (.cells (msV q h) 40)
  have HB1 := Lib.hid hb1
  have K1 := Lib.hid (blk11 w 40 (msV q h))
  have U1 := Lib.hid (keepB hu hb1)
  have A1 := Lib.hid (keepB hga hb1)
  have O1 := Lib.hid (OL.below ho hb1)
  have Q1 := Lib.hid (keepS (show Sl rpU64 w D h.A1 h.n1 h.c1 q.ss from ⟨hq.ss, hq.dom⟩) hb1)
  have HTK := Lib.hid hT
  have HCN := Lib.hid hcn
  have HTB := Lib.hid htb
  have HDG := Lib.hid hDg
  have HUL := Lib.hid hu.lt
  have HAL := Lib.hid hga.lt
  have hcn1 : 1 ≤ cn ∧ cn ≤ 65536 := by omega
  have hnxc : nx + cn ≤ 4611686018427387904 := by omega
  have HNE : Hid (gu ≠ ga) := fun e => by subst e; exact absurd (blk_type hu hga) (by decide)
  obtain ⟨n1, hn1⟩ : ∃ n1, n1 = h.n1 := ⟨_, rfl⟩
  obtain ⟨A1a, hA1⟩ : ∃ A1a, A1a = h.A1 := ⟨_, rfl⟩
  obtain ⟨c1, hc1e⟩ : ∃ c1, c1 = h.c1 := ⟨_, rfl⟩
  rw [← hn1, ← hA1, ← hc1e] at Q1
  have HN1 := Lib.hid (Rp.sl_len Q1.out.1).1
  have hn116 : n1 ≤ 16 := by have := HN1.out; omega
  obtain ⟨e21, e22, e23⟩ := h2
  clear hu ho hT htb hga hq hDg hb1 hcn2
  go_enter Try.func33, Try.ntmps33
  go_upto_region 1 with (fail)
  obtain ⟨gq, hgq⟩ : ∃ gq, gq = w.heap.size := ⟨_, rfl⟩
  rw [← hgq] at K1 ⊢
  have HGQ := Lib.hid hgq
  clear hgq
  generalize World.alloc w _ = w1 at *
  have q4 : ∀ u : Gr w1.heap.size w1, u.val.cell? ⟨gq, 4, none⟩ = some (.int .i64 (cn : Int)) := fun u => by have hh := (keepB (show Blk w1 gq 40 (msV q h) from K1.out) u.is).cell 4; rw [← HCN.out]; exact hh
  have u6 : ∀ u : Gr w1.heap.size w1, u.val.cell? ⟨gu, 6, none⟩ = some (.int .u64 (nx : Int)) := fun u => (keepB (show Blk w1 gu 60 (unV nd ep se gm tl pj nx At nt ct) from U1.out) u.is).cell 6
  have hwc : IntKind.u64.wrap (cn : Int) = (cn : Int) := IntWalk.u64_in _ (by omega)
  have hwm : IntKind.u64.wrap (4611686018427387904 - (cn : Int)) = 4611686018427387904 - (cn : Int) := IntWalk.u64_in _ (by omega)
  have hdc : decide ((nx : Int) > 4611686018427387904 - (cn : Int)) = false := by simp; omega
  have hdc2 : decide (4611686018427387904 - (cn : Int) < (nx : Int)) = false := hdc
  refine wp_region_grow (by kernel_rfl) (by kernel_rfl) w1.heap.size ?_
  repeat (first | go_big_quiet_step (fail) | quiet_step (fail))
  refine wpQuiet_nil ?_
  rintro w2 ⟨⟨_, hb2⟩, rfl⟩
  have HB2 := Lib.hid (stepB HB1.out hb2)
  have K2 := Lib.hid (keepB (show Blk w1 gq 40 (msV q h) from K1.out) hb2)
  have U2 := Lib.hid (keepB (show Blk w1 gu 60 (unV nd ep se gm tl pj nx At nt ct) from U1.out) hb2)
  have A2 := Lib.hid (keepB (show Blk w1 ga 40 (msV a hd) from A1.out) hb2)
  have O2 := Lib.hid (OL.below O1.out hb2)
  have Q2 := Lib.hid (keepS Q1.out hb2)
  clear hb2 q4 u6 K1 U1 A1 O1 Q1 HB1
  obtain ⟨w3, hw3⟩ : ∃ w3, w3 = (w2.setCell ⟨ga, 0, none⟩ (.int .i64 12)).setCell ⟨ga, 3, none⟩ (.int .u64 (nx : Int)) := ⟨_, rfl⟩
  have a0 := (show Blk w2 ga 40 (msV a hd) from A2.out).cell 0
  have a3 := (show Blk w2 ga 40 (msV a hd) from A2.out).cell 3
  have af0 := (show Blk w2 ga 40 (msV a hd) from A2.out).frozen 0
  have af3 := (show Blk w2 ga 40 (msV a hd) from A2.out).frozen 3
  have u6 := (show Blk w2 gu 60 (unV nd ep se gm tl pj nx At nt ct) from U2.out).cell 6
  have A30 : Blk (w2.setCell ⟨ga, 0, none⟩ (.int .i64 12)) ga 40 (msV { a with kd := 12 } hd) := (show Blk w2 ga 40 (msV a hd) from A2.out).put 0 _
  have a33 := A30.cell 3
  have af33 := A30.frozen 3
  have A3 : Hid (Blk w3 ga 40 (msV { a with kd := 12, ps := nx } { hd with A2 := none, n2 := 0, c2 := 0 })) := by
    show Blk _ _ _ _
    rw [hw3]
    have hh := A30.put 3 (.int .u64 (nx : Int))
    have e : ({ hd with A2 := none, n2 := 0, c2 := 0 } : Hd) = hd := by cases hd; simp only at e21 e22 e23; subst e21; subst e22; subst e23; rfl
    rw [e]
    exact hh
  have C3 : Hid (Chg (fun k => k = gu ∨ k = ga) w w3) := by
    show Chg _ _ _
    rw [hw3]
    exact ((Chg.of_pure HB2.out _).setCell (p := ⟨ga, 0, none⟩) (.inl (.inr rfl)) _).setCell (p := ⟨ga, 3, none⟩) (.inl (.inr rfl)) _
  have C23 : Chg (fun k => k = ga) w2 w3 := by
    rw [hw3]
    exact ((Chg.refl (fun k => k = ga) w2).setCell (p := ⟨ga, 0, none⟩) (.inl rfl) _).setCell (p := ⟨ga, 3, none⟩) (.inl rfl) _
  have U3 := Lib.hid (chB U2.out C23 HNE.out)
  have K3 := Lib.hid (chB K2.out C23 (by have := HGQ.out; have := HAL.out; show ¬ gq = ga; omega))
  have O3 := Lib.hid (OL.chg O2.out C23 (fun k hk _ => ⟨fun h => h, fun cs' t' h' => by
    subst hk
    obtain rfl := blk_type A2.out h'
    exact ⟨by unfold T64; decide, by decide⟩⟩))
  have Q3 := Lib.hid (chS Q2.out C23 (fun k hk e => HDG.out k hk (.inr e)))
  go_upto_region 4 with (fail)
  rw [← hw3]
  clear hw3 a0 a3 af0 af3 u6 A30 a33 af33 C23 U2 K2 O2 Q2 A2 HB2 hdc hdc2 hwm
  obtain ⟨b1, hb1e⟩ : ∃ b1, b1 = w3.heap.size := ⟨_, rfl⟩
  have HB1 := Lib.hid hb1e
  have HTB1 : Hid (tb ≤ b1) := by show tb ≤ b1; rw [hb1e]; exact Nat.le_trans HTB.out C3.out.size
  clear hb1e
  have HQ6 : Hid ((Value.slice A1a n1 c1) = .slice h.A1 h.n1 h.c1) := by show _ = _; rw [hA1, hn1, hc1e]
  have q6 : w3.cell? ⟨gq, 6, none⟩ = some (.slice A1a n1 c1) := by
    have hh := (show Blk w3 gq 40 (msV q h) from K3.out).cell 6
    rw [hA1, hn1, hc1e]
    exact hh
  clear hA1 hn1 hc1e
  go_wp2_with fail
  go_loopw [38] (fun v38 wr => ∃ (k : Nat) (Al : Option Addr) (cl : Nat), k ≤ n1 ∧ v38 = .int .i64 (k : Int) ∧ Hid (Blk wr ga 40 (msV { a with kd := 12, ps := nx } { hd with A2 := Al, n2 := k, c2 := cl })) ∧ Hid (OLk wr b1 Al k cl ((q.ss.take k).map fun s => (s, bk T s))) ∧ Hid (Chg (fun k => k = ga) w3 wr)) (fun v38 _ => n1 - (intOf v38).toNat)
  case atStart => exact ⟨0, none, 0, by omega, rfl, A3.out, OL.nil _ _ _ _ _ _, Chg.refl _ _⟩
  case round =>
    obtain ⟨k, Al, cl, hk, rfl, hka, hol, hch⟩ := hrel
    have UR := Lib.hid (chB (show Blk w3 gu 60 (unV nd ep se gm tl pj nx At nt ct) from U3.out) hch.out HNE.out)
    have KR := Lib.hid (chB (show Blk w3 gq 40 (msV q h) from K3.out) hch.out (by have := HGQ.out; have := HAL.out; show ¬ gq = ga; omega))
    have OR := Lib.hid (OL.chg O3.out hch.out (fun k hk _ => ⟨fun h => h, fun cs' t' h' => by
      subst hk
      obtain rfl := blk_type A3.out h'
      exact ⟨by unfold T64; decide, by decide⟩⟩))
    have QR := Lib.hid (chS Q3.out hch.out (fun k hk e => HDG.out k hk (.inr e)))
    have HZR : Hid (b1 ≤ wr.heap.size) := by show b1 ≤ _; rw [HB1.out]; exact hch.out.size
    by_cases hkn : k < n1
    case pos =>
      have hd2 : decide ((k : Int) < (n1 : Int)) = true := by simp; omega
      have hkI : (0 : Int) ≤ (k : Int) := by omega
      have hkI2 : (k : Int) < (n1 : Int) := by omega
      obtain ⟨s, hs⟩ : ∃ s, q.ss[k]? = some s := ⟨_, List.getElem?_eq_getElem (by have := HN1.out; omega)⟩
      obtain ⟨bo, off, hAe, hbD, hcell⟩ : ∃ bo off, A1a = some ⟨bo, off, none⟩ ∧ D bo ∧ wr.cell? ⟨bo, off + k, none⟩ = some (.int .u64 (s : Int)) ∧ s ≤ 18446744073709551615 := by
        obtain ⟨bo, off, x, cs, hA, hb, hx, hcc, hg⟩ := Rp.sl_at QR.out.1 hkn
        rw [hs] at hx
        injection hx with hx
        subst hx
        obtain ⟨rfl, h64⟩ := hcc
        refine ⟨bo, off, hA, hb, ?_, by omega⟩
        have hh := hg 0 _ rfl
        have e : off + k * rpU64.size + 0 = off + k := by show off + k * 1 + 0 = off + k; omega
        rw [e] at hh
        exact hh
      obtain ⟨hcell, hs64⟩ := hcell
      have HS := Lib.hid hs
      have HS64 := Lib.hid hs64
      subst hAe
      have u7 := (show Blk wr gu 60 (unV nd ep se gm tl pj nx At nt ct) from UR.out).cell 7
      have hnt : nt ≤ 80000 := by have h1 := OR.out.len; have h2 := HTK.out.1; omega
      have HF := Lib.hid (find_any (id := s) (OL.sl OR.out) (fun k hk => hk) (show nt ≤ 100000 by omega) (fun x hx => Nat.le_trans (HTK.out.2 x hx) (by decide)) hs64)
      clear hs hbD
      go_upto_region 8 with
        (go_at_call 51
         refine HF.out.mono ?_
         rintro e w4 hfi
         obtain ⟨A5, fn, c5, rfl, hr5, hb5⟩ := hfi
         have hb6 := below1 w4 (.cells (lkV (fnd T s).2.1 A5 fn c5) 44)
         have HB5 := Lib.hid (stepB hb5 hb6)
         have HR5 := Lib.hid (Row64.below hr5 hb6)
         have KT := Lib.hid (blk11 w4 44 (lkV (fnd T s).2.1 A5 fn c5))
         clear hr5 hb5 hb6 u7 hcell)
      obtain ⟨gt, hgt⟩ : ∃ gt, gt = w4.heap.size := ⟨_, rfl⟩
      rw [← hgt] at KT ⊢
      clear hgt
      generalize World.alloc w4 _ = w5 at *
      have hbe : Below w5.heap.size w5 w5.drew := (Below.refl _ w5).drew
      have HBE := Lib.hid (stepB HB5.out hbe)
      have KA5 := Lib.hid (keepB (show Blk wr ga 40 (msV { a with kd := 12, ps := nx } { hd with A2 := Al, n2 := k, c2 := cl }) from hka.out) HB5.out)
      have KAd := Lib.hid (keepB (show Blk w5 ga 40 _ from KA5.out) hbe)
      have a7 := (show Blk w5 ga 40 (msV { a with kd := 12, ps := nx } { hd with A2 := Al, n2 := k, c2 := cl }) from KA5.out).cell 7
      have a7d := (show Blk w5.drew ga 40 (msV { a with kd := 12, ps := nx } { hd with A2 := Al, n2 := k, c2 := cl }) from KAd.out).cell 7
      have t1 := (show Blk w5 gt 44 (lkV (fnd T s).2.1 A5 fn c5) from KT.out).cell 1
      have t1d := (keepB (show Blk w5 gt 44 (lkV (fnd T s).2.1 A5 fn c5) from KT.out) hbe).cell 1
      have HOd := Lib.hid (OL.below (OL.below hol.out HB5.out) hbe)
      have HXd := Lib.hid (tb_belowU (HR5.out.sl (TS := T64) rfl (fun _ => False)) hbe)
      have hzd : b1 ≤ w5.drew.heap.size := Nat.le_trans HZR.out HBE.out.size
      obtain ⟨valsP, p1, p2, p3, p4⟩ := tu_push HOd.out hzd HXd.out HS64.out
      have hbd : Below w5.drew.heap.size w5.drew (w5.drew.alloc (.cells (lkV s A5 fn c5) 44)) := below1 _ _
      have a7a : (w5.alloc (.cells (lkV s A5 fn c5) 44)).drew.cell? ⟨ga, 7, none⟩ = some (.slice Al k cl) := (keepB (show Blk w5.drew ga 40 (msV { a with kd := 12, ps := nx } { hd with A2 := Al, n2 := k, c2 := cl }) from KAd.out) hbd).cell 7
      have P1 := Lib.hid p1
      have P2 := Lib.hid p2
      have P3 := Lib.hid p3
      have P4 := Lib.hid p4
      clear p1 p2 p3 p4 hbe hbd hzd
      go_region_law ((refine step_app rfl (.tmp 55) (.tmp 60) _ (by rfl) elemLink (by rfl) P1.out (by rfl) P2.out (by unfold maxLen; omega) (by omega) P3.out ?_
                      intro A6 c6 w6 ho6 hg6 hat6
                      have hq := P4.out A6 c6 w6 ho6 hg6
                      have O6 := Lib.hid hq.1
                      have B6 := Lib.hid hq.2.1
                      have K6 := Lib.hid (hq.2.2 _ _ _ KAd.out (by decide))
                      have o6 := (show Blk w6 ga 40 (msV { a with kd := 12, ps := nx } { hd with A2 := Al, n2 := k, c2 := cl }) from K6.out).cell 7
                      have of6 := (show Blk w6 ga 40 (msV { a with kd := 12, ps := nx } { hd with A2 := Al, n2 := k, c2 := cl }) from K6.out).frozen 7
                      clear ho6 hg6 hat6 hq))
      all_goals
        have K7 : Hid (Blk (w6.setCell ⟨ga, 7, none⟩ (.slice A6 (k + 1) c6)) ga 40 (msV { a with kd := 12, ps := nx } { hd with A2 := A6, n2 := k + 1, c2 := c6 })) := (show Blk w6 ga 40 (msV { a with kd := 12, ps := nx } { hd with A2 := Al, n2 := k, c2 := cl }) from K6.out).put 7 _
        have O7 : Hid (OLk (w6.setCell ⟨ga, 7, none⟩ (.slice A6 (k + 1) c6)) b1 A6 (k + 1) c6 ((q.ss.take (k + 1)).map fun s => (s, bk T s))) := by
          show OLk _ _ _ _ _ _
          rw [List.take_add_one, HS.out, Option.toList_some, List.map_append]
          exact OL.put O6.out (show Blk w6 ga 40 _ from K6.out) (fun h => h) (by unfold T64; decide) (by decide) (a := ⟨ga, 7, none⟩) rfl _
        have C7 := Lib.hid ((chBelow (hch.out.trans (Chg.of_pure HBE.out _)) B6.out (by rw [HB1.out]; exact Nat.le_refl _)).setCell (p := ⟨ga, 7, none⟩) (.inl rfl) (.slice A6 (k + 1) c6))
        go_wp2_with fail
        go_roundw
        case rel => exact ⟨k + 1, A6, c6, by omega, by go_num, K7, O7, C7⟩
        case measure => simp [intOf]; omega
    case neg =>
      obtain rfl : k = n1 := by omega
      have hd2 : decide ((k : Int) < (k : Int)) = false := by simp
      have HOL : Hid (OLk wr b1 Al k cl (q.ss.map fun s => (s, bk T s))) := by
        have hh := hol.out
        rw [List.take_of_length_le (by have := HN1.out; omega)] at hh
        exact hh
      have C0 := Lib.hid (C3.out.trans (hch.out.more (fun k _ hk => .inr hk)))
      clear C3 U3 K3 O3 Q3 A3 hol hch
      obtain ⟨kp, hkp⟩ : ∃ kp, kp = min cn 4 := ⟨_, rfl⟩
      have HKP := Lib.hid hkp
      have hkp1 : 1 ≤ kp ∧ kp ≤ 4 ∧ kp ≤ cn := by omega
      have q4 : wr.cell? ⟨gq, 4, none⟩ = some (.int .i64 (cn : Int)) := by
        have hh := (show Blk wr gq 40 (msV q h) from KR.out).cell 4
        rw [← HCN.out]; exact hh
      go_upto_region 10 with (fail)
      go_cut [11] (fun v11 wx => v11 = .int .i64 (kp : Int) ∧ wx = wr)
      case first =>
        go_wp2_with fail
        go_meet
        exact ⟨congrArg _ (by omega), rfl⟩
      case rest =>
      obtain ⟨rfl, hwc⟩ := hcut
      subst hwc
      clear hkp
      obtain ⟨w5, hw5⟩ : ∃ w5, w5 = wc := ⟨_, rfl⟩
      subst hw5
      obtain ⟨x1, hx1⟩ : ∃ x1, x1 = nx + cn - kp := ⟨_, rfl⟩
      have HX1 := Lib.hid hx1
      have hx1b : x1 + kp = nx + cn := by omega
      go_upto_region 11 with (fail)
      go_cut [] (fun wx => Hid (Blk wx gu 60 (unV nd ep se gm tl pj x1 At nt ct)) ∧ Hid (Chg (fun k => k = gu) w5 wx))
      case first =>
        have hbe : Below w5.heap.size w5 w5.drew := (Below.refl _ w5).drew
        have Ud := Lib.hid (keepB (show Blk w5 gu 60 (unV nd ep se gm tl pj nx At nt ct) from UR.out) hbe)
        have u6d := (show Blk w5.drew gu 60 (unV nd ep se gm tl pj nx At nt ct) from Ud.out).cell 6
        have uf6d := (show Blk w5.drew gu 60 (unV nd ep se gm tl pj nx At nt ct) from Ud.out).frozen 6
        have q4d : w5.drew.cell? ⟨gq, 4, none⟩ = some (.int .i64 (cn : Int)) := (hbe.cell (p := ⟨gq, 4, none⟩) (show Blk w5 gq 40 (msV q h) from KR.out).lt).trans q4
        have hw1 : IntKind.i64.wrap ((cn : Int) - (kp : Int)) = (cn : Int) - (kp : Int) := IntWalk.i64_in _ (by omega)
        have hw2 : IntKind.u64.wrap ((cn : Int) - (kp : Int)) = (cn : Int) - (kp : Int) := IntWalk.u64_in _ (by omega)
        have hw3 : IntKind.u64.wrap ((nx : Int) + ((cn : Int) - (kp : Int))) = (x1 : Int) := by rw [IntWalk.u64_in _ (by omega)]; omega
        have U6 : Hid (Blk (w5.drew.setCell ⟨gu, 6, none⟩ (.int .u64 (x1 : Int))) gu 60 (unV nd ep se gm tl pj x1 At nt ct)) := (show Blk w5.drew gu 60 (unV nd ep se gm tl pj nx At nt ct) from Ud.out).put 6 _
        have C6 : Hid (Chg (fun k => k = gu) w5 (w5.drew.setCell ⟨gu, 6, none⟩ (.int .u64 (x1 : Int)))) := ((Chg.refl (fun k => k = gu) w5).drew).setCell (p := ⟨gu, 6, none⟩) (.inl rfl) _
        clear hx1
        go_region_with (fail)
        all_goals
          go_wp2_with fail
          go_meet
          exact ⟨U6, C6⟩
      case rest =>
      obtain ⟨U6, C6⟩ := hcut
      obtain ⟨w6, hw6⟩ : ∃ w6, w6 = wc := ⟨_, rfl⟩
      subst hw6
      have hug : ∀ kk, (kk = gu) → kk < w5.heap.size → ¬ False ∧ ∀ cs t, w5.heap[kk]? = some (.cells cs t (0, 0)) → ¬ T64 t ∧ t ≠ 44 := fun kk hk _ => ⟨fun h => h, fun cs' t' h' => by
        subst hk
        obtain rfl := blk_type UR.out h'
        exact ⟨by unfold T64; decide, by decide⟩⟩
      have K6 := Lib.hid (chB (show Blk w5 gq 40 (msV q h) from KR.out) C6.out (by have := HGQ.out; have := HUL.out; show ¬ gq = gu; omega))
      have A6 := Lib.hid (chB (show Blk w5 ga 40 (msV { a with kd := 12, ps := nx } { hd with A2 := Al, n2 := k, c2 := cl }) from hka.out) C6.out (fun e => HNE.out e.symm))
      have O6 := Lib.hid (OL.chg OR.out C6.out hug)
      have L6 := Lib.hid (OL.chg HOL.out C6.out hug)
      have Q6 := Lib.hid (chS QR.out C6.out (fun k hk e => HDG.out k hk (.inl e)))
      have C60 := Lib.hid (C0.out.trans (C6.out.more (fun k _ hk => .inl hk)))
      clear UR KR OR QR hka HOL C0 hug q4 hx1
      go_wp2_with fail
      go_loopw [81] (fun v81 wr => ∃ (j : Nat) (At' : Option Addr) (nt' ct' : Nat), j ≤ kp ∧ v81 = .int .i64 (j : Int) ∧ Hid (Blk wr gu 60 (unV nd ep se gm tl pj (x1 + j) At' nt' ct')) ∧ Hid (OLk wr tb At' nt' ct' (tkK x1 T q.ss j)) ∧ Hid (Blk wr ga 40 (msV { a with kd := 12, ps := nx } { hd with A2 := Al, n2 := k, c2 := cl })) ∧ Hid (OLk wr b1 Al k cl (q.ss.map fun s => (s, bk T s))) ∧ Hid (Sl rpU64 wr D A1a k c1 q.ss) ∧ Hid (Blk wr gq 40 (msV q h)) ∧ Hid (Chg (fun k => k = gu ∨ k = ga) w wr)) (fun v81 _ => kp - (intOf v81).toNat)
      case atStart => exact ⟨0, At, nt, ct, by omega, rfl, U6, O6, A6, L6, Q6, K6, C60⟩
      case round =>
        clear U6 O6 A6 L6 Q6 K6 C60 C6
        obtain ⟨j, At', nt', ct', hj, rfl, hu, ho, hka, hl, hqs, hkq, hch⟩ := hrel
        by_cases hjk : j < kp
        case neg =>
          obtain rfl : j = kp := by omega
          have hd3 : decide ((j : Int) < (j : Int)) = false := by simp
          have U7 : Hid (Blk wr gu 60 (unV nd ep se gm tl pj (nx + cn) At' nt' ct')) := by
            show Blk _ _ _ _
            rw [← hx1b]; exact hu.out
          have O7 : Hid (OLk wr tb At' nt' ct' (tkK (nx + cn - min cn 4) T q.ss (min cn 4))) := by
            show OLk _ _ _ _ _ _
            rw [← HKP.out, ← HX1.out]; exact ho.out
          go_wp2_with fail
          go_ret
          exact ⟨rfl, ⟨At', nt', ct', U7.out, O7.out⟩, ⟨Al, k, cl, hka.out, OL.mono hl.out HTB1.out⟩, hch.out⟩
        case pos =>
          have hd3 : decide ((j : Int) < (kp : Int)) = true := by simp; omega
          have q6 : wr.cell? ⟨gq, 6, none⟩ = some (.slice A1a k c1) := by
            have hh := (show Blk wr gq 40 (msV q h) from hkq.out).cell 6
            rw [HQ6.out]
            exact hh
          obtain ⟨TJ, hTJ⟩ : ∃ TJ, TJ = tkK x1 T q.ss j := ⟨_, rfl⟩
          have HTJ := Lib.hid hTJ
          have HTJO : Hid (TkOk (M + 64) TJ) := by
            show TkOk _ _
            have hh := TkOk.rounds (p := x1) (ss := q.ss) HTK.out j
            rw [← hTJ] at hh
            refine ⟨Nat.le_trans hh.1 ?_, hh.2⟩
            have : j * q.ss.length ≤ 4 * 16 := Nat.mul_le_mul (by omega) hn16
            omega
          have ho2 := ho.out
          rw [← hTJ] at ho2
          have HO2 := Lib.hid ho2
          clear hTJ ho2 ho
          go_wp2_with fail
          obtain ⟨wo, hwo⟩ : ∃ wo, wo = wr := ⟨_, rfl⟩
          subst hwo
          clear q6
          go_loopw [86] (fun v86 wr => ∃ (k3 : Nat) (At' : Option Addr) (nt' ct' : Nat), k3 ≤ k ∧ v86 = .int .i64 (k3 : Int) ∧ Hid (Blk wr gu 60 (unV nd ep se gm tl pj (x1 + j) At' nt' ct')) ∧ Hid (OLk wr tb At' nt' ct' (tkF (x1 + j) TJ (q.ss.take k3))) ∧ Hid (Blk wr ga 40 (msV { a with kd := 12, ps := nx } { hd with A2 := Al, n2 := k, c2 := cl })) ∧ Hid (OLk wr b1 Al k cl (q.ss.map fun s => (s, bk T s))) ∧ Hid (Sl rpU64 wr D A1a k c1 q.ss) ∧ Hid (Blk wr gq 40 (msV q h)) ∧ Hid (Chg (fun k => k = gu ∨ k = ga) w wr)) (fun v86 _ => k - (intOf v86).toNat)
          case atStart => exact ⟨0, At', nt', ct', by omega, rfl, hu.out, HO2.out, hka.out, hl.out, hqs.out, hkq.out, hch.out⟩
          case round =>
            clear hu HO2 hka hl hqs hkq hch
            obtain ⟨k3, At', nt', ct', hk3, rfl, hu, ho, hka, hl, hqs, hkq, hch⟩ := hrel
            obtain ⟨pp, hpp⟩ : ∃ pp, pp = x1 + j := ⟨_, rfl⟩
            have HPP := Lib.hid hpp
            have hppb : pp + 1 ≤ 4611686018427387904 := by omega
            rw [← hpp] at hu ho
            have hug : Hid (∀ kk, (kk = gu) → kk < wr.heap.size → ¬ False ∧ ∀ cs t, wr.heap[kk]? = some (.cells cs t (0, 0)) → ¬ T64 t ∧ t ≠ 44) := fun kk hk _ => ⟨fun h => h, fun cs' t' h' => by
              subst hk
              obtain rfl := blk_type hu.out h'
              exact ⟨by unfold T64; decide, by decide⟩⟩
            by_cases hkn3 : k3 < k
            case neg =>
              obtain rfl : k3 = k := by omega
              have hd4 : decide ((k3 : Int) < (k3 : Int)) = false := by simp
              have u6 := (show Blk wr gu 60 (unV nd ep se gm tl pj pp At' nt' ct') from hu.out).cell 6
              have uf6 := (show Blk wr gu 60 (unV nd ep se gm tl pj pp At' nt' ct') from hu.out).frozen 6
              obtain ⟨p2, hp2⟩ : ∃ p2, p2 = x1 + (j + 1) := ⟨_, rfl⟩
              have hw4 : IntKind.u64.wrap ((pp : Int) + 1) = (p2 : Int) := by rw [IntWalk.u64_in _ (by omega)]; omega
              have C8 : Chg (fun k => k = gu) wr (wr.setCell ⟨gu, 6, none⟩ (.int .u64 (p2 : Int))) := (Chg.refl (fun k => k = gu) wr).setCell (p := ⟨gu, 6, none⟩) (.inl rfl) _
              have U8 : Hid (Blk (wr.setCell ⟨gu, 6, none⟩ (.int .u64 (p2 : Int))) gu 60 (unV nd ep se gm tl pj (x1 + (j + 1)) At' nt' ct')) := by
                show Blk _ _ _ _
                rw [← hp2]
                exact (show Blk wr gu 60 (unV nd ep se gm tl pj pp At' nt' ct') from hu.out).put 6 _
              have O8 : Hid (OLk (wr.setCell ⟨gu, 6, none⟩ (.int .u64 (p2 : Int))) tb At' nt' ct' (tkK x1 T q.ss (j + 1))) := by
                have hh := OL.chg ho.out C8 hug.out
                rw [List.take_of_length_le (by have := HN1.out; omega), HTJ.out, HPP.out] at hh
                exact hh
              have A8 := Lib.hid (chB (show Blk wr ga 40 _ from hka.out) C8 (fun e => HNE.out e.symm))
              have L8 := Lib.hid (OL.chg hl.out C8 hug.out)
              have Q8 := Lib.hid (chS hqs.out C8 (fun k hk e => HDG.out k hk (.inl e)))
              have K8 := Lib.hid (chB (show Blk wr gq 40 (msV q h) from hkq.out) C8 (by have := HGQ.out; have := HUL.out; show ¬ gq = gu; omega))
              have C80 := Lib.hid (hch.out.trans (C8.more (fun k _ hk => .inl hk)))
              clear C8 hp2 hpp
              go_wp2_with fail
              go_roundw
              case rel => exact ⟨j + 1, At', nt', ct', by omega, by go_num, U8, O8, A8, L8, Q8, K8, C80⟩
              case measure => simp [intOf]; omega
            case pos =>
              have hd4 : decide ((k3 : Int) < (k : Int)) = true := by simp; omega
              have hkI : (0 : Int) ≤ (k3 : Int) := by omega
              have hkI2 : (k3 : Int) < (k : Int) := by omega
              obtain ⟨s, hs⟩ : ∃ s, q.ss[k3]? = some s := ⟨_, List.getElem?_eq_getElem (by have := HN1.out; omega)⟩
              obtain ⟨bo, off, hAe, hbD, hcell, hs64⟩ : ∃ bo off, A1a = some ⟨bo, off, none⟩ ∧ D bo ∧ wr.cell? ⟨bo, off + k3, none⟩ = some (.int .u64 (s : Int)) ∧ s ≤ 18446744073709551615 := by
                obtain ⟨bo, off, x, cs, hA, hb, hx, hcc, hg⟩ := Rp.sl_at hqs.out.1 hkn3
                rw [hs] at hx
                injection hx with hx
                subst hx
                obtain ⟨rfl, h64⟩ := hcc
                refine ⟨bo, off, hA, hb, ?_, by omega⟩
                have hh := hg 0 _ rfl
                have e : off + k3 * rpU64.size + 0 = off + k3 := by show off + k3 * 1 + 0 = off + k3; omega
                rw [e] at hh
                exact hh
              have HS := Lib.hid hs
              have HS64 := Lib.hid hs64
              subst hAe
              obtain ⟨TK, hTK⟩ : ∃ TK, TK = tkF pp TJ (q.ss.take k3) := ⟨_, rfl⟩
              have HTKE := Lib.hid hTK
              rw [← hTK] at ho
              have HTKO : Hid (TkOk (M + 80) TK) := by
                show TkOk _ _
                have hh := TkOk.round (p := pp) (q.ss.take k3) (M + 64) TJ HTJO.out
                rw [← hTK, List.length_take] at hh
                exact ⟨Nat.le_trans hh.1 (by omega), hh.2⟩
              have hnt : nt' ≤ 90000 := by have h1 := ho.out.len; have h2 := HTKO.out.1; omega
              have u7 := (show Blk wr gu 60 (unV nd ep se gm tl pj pp At' nt' ct') from hu.out).cell 7
              have HF := Lib.hid (find_any (id := s) (OL.sl ho.out) (fun k hk => hk) (show nt' ≤ 100000 by omega) (fun x hx => Nat.le_trans (HTKO.out.2 x hx) (by decide)) hs64)
              clear hs hbD hTK hpp
              go_upto_region 18 with
                (go_at_call 51
                 refine HF.out.mono ?_
                 rintro e w4 hfi
                 obtain ⟨A5, fn, c5, rfl, hr5, hb5⟩ := hfi
                 have hb6 := below1 w4 (.cells (lkV (fnd TK s).2.1 A5 fn c5) 44)
                 have HB5 := Lib.hid (stepB hb5 hb6)
                 have HR5 := Lib.hid (Row64.below hr5 hb6)
                 have KT := Lib.hid (blk11 w4 44 (lkV (fnd TK s).2.1 A5 fn c5))
                 have HZ4 := Lib.hid hb5.size
                 clear hr5 hb5 hb6 u7 hcell)
              obtain ⟨gt, hgt⟩ : ∃ gt, gt = w4.heap.size := ⟨_, rfl⟩
              rw [← hgt] at KT HZ4 ⊢
              clear hgt
              generalize World.alloc w4 _ = w5 at *
              have t0 := (show Blk w5 gt 44 (lkV (fnd TK s).2.1 A5 fn c5) from KT.out).cell 0
              have tf0 := (show Blk w5 gt 44 (lkV (fnd TK s).2.1 A5 fn c5) from KT.out).frozen 0
              have KT6 : Hid (Blk (w5.setCell ⟨gt, 0, none⟩ (.int .u64 (s : Int))) gt 44 (lkV s A5 fn c5)) := (show Blk w5 gt 44 (lkV (fnd TK s).2.1 A5 fn c5) from KT.out).put 0 _
              have HB6 := Lib.hid (HB5.out.setCell (p := ⟨gt, 0, none⟩) HZ4.out (.int .u64 (s : Int)))
              have HR6 := Lib.hid (Row64.put HR5.out (show Blk w5 gt 44 _ from KT.out) (by decide) (a := ⟨gt, 0, none⟩) rfl (.int .u64 (s : Int)))
              go_upto_region 19 with (fail)
              clear t0 tf0
              generalize World.setCell w5 _ _ = w6 at *
              have hbe : Below w6.heap.size w6 w6.drew := (Below.refl _ w6).drew
              have HBD := Lib.hid (stepB HB6.out hbe)
              have KTd := Lib.hid (keepB (show Blk w6 gt 44 (lkV s A5 fn c5) from KT6.out) hbe)
              have Ud := Lib.hid (keepB (show Blk wr gu 60 (unV nd ep se gm tl pj pp At' nt' ct') from hu.out) HBD.out)
              have Od := Lib.hid (OL.below ho.out HBD.out)
              have HRd := Lib.hid (Row64.below HR6.out hbe)
              have hfn : fn ≤ 4 := by
                have h1 := HRd.out.len
                have h2 : (bk TK s).length ≤ 4 := HTKO.out.bkl s
                unfold bk at h2
                omega
              have HEX := Lib.hid (extend_any (s := s) (p := pp) HRd.out.rd (fun k hk => hk) (show fn ≤ 1000000 by omega) (by omega))
              have HEND : Hid (∀ (w8 : World) (A7 : Option Addr) (n7 c7 b8 : Nat), Blk w8 gu 60 (unV nd ep se gm tl pj pp At' nt' ct') → OLk w8 b8 A7 n7 c7 (withL TK (s, (extL (s, (fnd TK s).2.2) pp).2)) → tb ≤ b8 → Below w6.drew.heap.size w6.drew w8 →
                  Hid (Blk (w8.setCell ⟨gu, 7, none⟩ (.slice A7 n7 c7)) gu 60 (unV nd ep se gm tl pj (x1 + j) A7 n7 c7)) ∧ Hid (OLk (w8.setCell ⟨gu, 7, none⟩ (.slice A7 n7 c7)) tb A7 n7 c7 (tkF (x1 + j) TJ (q.ss.take (k3 + 1)))) ∧ Hid (Blk (w8.setCell ⟨gu, 7, none⟩ (.slice A7 n7 c7)) ga 40 (msV { a with kd := 12, ps := nx } { hd with A2 := Al, n2 := k, c2 := cl })) ∧ Hid (OLk (w8.setCell ⟨gu, 7, none⟩ (.slice A7 n7 c7)) b1 Al k cl (q.ss.map fun s => (s, bk T s))) ∧ Hid (Sl rpU64 (w8.setCell ⟨gu, 7, none⟩ (.slice A7 n7 c7)) D (some ⟨bo, off, none⟩) k c1 q.ss) ∧ Hid (Blk (w8.setCell ⟨gu, 7, none⟩ (.slice A7 n7 c7)) gq 40 (msV q h)) ∧ Hid (Chg (fun k => k = gu ∨ k = ga) w (w8.setCell ⟨gu, 7, none⟩ (.slice A7 n7 c7)))) := fun w8 A7 n7 c7 b8 h1 h2 h3 h4 => by
                have hb := stepB HBD.out h4
                have c8 : Chg (fun k => k = gu) w8 (w8.setCell ⟨gu, 7, none⟩ (.slice A7 n7 c7)) := (Chg.refl (fun k => k = gu) w8).setCell (p := ⟨gu, 7, none⟩) (.inl rfl) _
                have hug8 : ∀ kk, (kk = gu) → kk < w8.heap.size → ¬ False ∧ ∀ cs t, w8.heap[kk]? = some (.cells cs t (0, 0)) → ¬ T64 t ∧ t ≠ 44 := fun kk hk _ => ⟨fun h => h, fun cs' t' h' => by
                  subst hk
                  obtain rfl := blk_type h1 h'
                  exact ⟨by unfold T64; decide, by decide⟩⟩
                refine ⟨?_, ?_, chB (keepB hka.out hb) c8 (fun e => HNE.out e.symm), OL.chg (OL.below hl.out hb) c8 hug8, chS (keepS hqs.out hb) c8 (fun k hk e => HDG.out k hk (.inl e)), chB (keepB hkq.out hb) c8 (by have := HGQ.out; have := HUL.out; show ¬ gq = gu; omega), hch.out.trans (((Chg.of_pure hb _).trans (c8.more (fun k _ hk => .inl hk))))⟩
                · rw [← HPP.out]; exact h1.put 7 _
                · rw [← HPP.out, tkF_take HS.out, ← HTKE.out]
                  exact OL.mono (OL.chg h2 c8 hug8) h3
              have v7 := (show Blk w6.drew gu 60 (unV nd ep se gm tl pj pp At' nt' ct') from Ud.out).cell 7
              have v6 := (show Blk w6.drew gu 60 (unV nd ep se gm tl pj pp At' nt' ct') from Ud.out).cell 6
              have vt0 := (show Blk w6.drew gt 44 (lkV s A5 fn c5) from KTd.out).cell 0
              have vt1 := (show Blk w6.drew gt 44 (lkV s A5 fn c5) from KTd.out).cell 1
              have HTBZ : Hid (tb ≤ w6.drew.heap.size) := Nat.le_trans (Nat.le_trans HTB.out hch.out.size) HBD.out.size
              clear hbe
              go_region_with (
                (first
                 | (go_at_call 53
                    refine (HEX.out).mono ?_
                    rintro e w7 ⟨A6, n6, c6, rfl, hr7, hb7⟩
                    have HB7 := Lib.hid hb7
                    have U7 := Lib.hid (keepB (show Blk w6.drew gu 60 (unV nd ep se gm tl pj pp At' nt' ct') from Ud.out) hb7)
                    have x7 := (show Blk w7 gu 60 (unV nd ep se gm tl pj pp At' nt' ct') from U7.out).cell 7
                    have HN6 : Hid (n6 ≤ 1000000) := by
                      show _ ≤ _
                      have h1 := hr7.len
                      have h2 : ((extL (s, (fnd TK s).2.2) pp).2).length ≤ 4 := by show (List.take 4 _).length ≤ 4; rw [List.length_take]; omega
                      omega
                    have HWT := Lib.hid (with_any (s := s) (OL.sl (OL.below Od.out hb7)) (fun k hk => hk) (by omega) (fun x hx => Nat.le_trans (HTKO.out.2 x hx) (by decide)) hr7.rd (fun k hk => hk) HN6.out HS64.out)
                    clear hr7 hb7)
                 | (go_at_call 52
                    refine HWT.out.mono ?_
                    rintro e w8 hwi
                    obtain ⟨A7, n7, c7, rfl, ho8, hb8⟩ := hwi
                    have U8 := Lib.hid (keepB (show Blk w7 gu 60 (unV nd ep se gm tl pj pp At' nt' ct') from U7.out) hb8)
                    have z7 := (show Blk w8 gu 60 (unV nd ep se gm tl pj pp At' nt' ct') from U8.out).cell 7
                    have zf7 := (show Blk w8 gu 60 (unV nd ep se gm tl pj pp At' nt' ct') from U8.out).frozen 7
                    have HO8 := Lib.hid ho8
                    have HB8 := Lib.hid (stepB HB7.out hb8)
                    clear ho8 hb8)))
              all_goals
                have hend := HEND.out w8 A7 n7 c7 _ U8.out HO8.out (Nat.le_trans HTBZ.out HB7.out.size) HB8.out
                go_wp2_with fail
                go_roundw
                case rel => exact ⟨k3 + 1, A7, n7, c7, by omega, by go_num, hend⟩
                case measure => simp [intOf]; omega
end
end Go.Proofs.Ytnihaaifkogpbaa
