/-
  The law of this claim, a further part of its proof (2): the parts PrG, PrH, PsC, PsD, PsN, Sr12, Sr13, PsS, PsI, PsX, PsP, PsE.
-/
import Derived.Lib.SliceRun
import Derived.Lib.SlicesCompact
import Derived.Test.YtmdgmnaaopineaaStpL
import Derived.Test.YtmdgmnaaopineaaSh1
import Derived.Test.YtmdgmnaaopineaaSh2
import Derived.Test.YtmdgmnaaopineaaU64
import Derived.Test.YtmdgmnaaopineaaStep
import Derived.Deep.DeepCutAuto
import Derived.Deep.CutBlock
import Derived.Test.YtmdgmnaaopineaaQQSW1
/- What proj.Grow does with the copy: its function literal. -/
namespace Go.Proofs.Ytmdgmnaaopineaa
open Go.ChangeShapes Go.WideShapes Go.ChangeAt Go.RowKit
set_option linter.unusedVariables false
/-- The stripes that come of other sets from a position on. -/
def growL (l : List Stp) (x : Nat) (sets : List (List Nat)) : List Stp := (match l[l.length - 1]? with | some s => l.set (l.length - 1) (s.1, x, s.2.2) | none => l) ++ [(x, 4611686018427387904, sets)]
theorem growL_eq {l : List Stp} {m x : Nat} {s : Stp} {sets : List (List Nat)} (hm : l.length = m + 1) (hs : l[m]? = some s) : growL l x sets = l.set m (s.1, x, s.2.2) ++ [(x, 4611686018427387904, sets)] := by
  unfold growL
  rw [hm, Nat.add_sub_cancel, hs]
def Grow1 (w : World) (base go e2 x n : Nat) (l : List Stp) (sets : List (List Nat)) (en : Ending) (w' : World) : Prop :=
  en = .returned (.tuple #[]) ∧ ∃ A2 c2, Blk w' go 25 (prjV e2 A2 (n + 1) c2) ∧ OS w' base A2 (n + 1) c2 (growL l x sets) ∧ Below base w w'
section
variable {D D' : Dom} {A A' : Option Addr} {n c n' c' e2 x m base go ga gl gs : Nat} {l : List Stp} {sets : List (List Nat)} {w : World}
set_option maxRecDepth 100000 in
set_option maxHeartbeats 4000000 in
theorem grow1_any (hm : n = m + 1) (hn : n ≤ 1000) (h : OS w base A n c l) (hb : base ≤ w.heap.size) (hgo : base ≤ go) (hk : Blk w go 25 (prjV e2 A n c)) (ha : Blk w ga 22 #[.int .u64 (x : Int)]) (hl : Blk w gl 3 #[.int .i64 (m : Int)]) (hg : Blk w gs 27 #[.slice A' n' c'])
    (ha2 : ga < base) (hl2 : gl < base) (hg2 : gs < base) (hs : (rpSlice rpU64).sl w D' A' n' c' sets) (hD : ∀ k, D' k → k < base) (hx : x ≤ 18446744073709551615) (hn' : n' ≤ 1000) (hl' : ∀ (i : Nat) y, sets[i]? = some y → y.length ≤ 1000) :
    Calls Try.prog 77 #[.pointer (some ⟨go, 0, none⟩), .pointer (some ⟨ga, 0, none⟩), .pointer (some ⟨gl, 0, none⟩), .pointer (some ⟨gs, 0, none⟩)] w (Grow1 w base go e2 x n l sets) := by
  have hlen := h.len
  obtain ⟨s, hsm⟩ : ∃ s, l[m]? = some s := ⟨_, List.getElem?_eq_getElem (by omega)⟩
  have HGL := Lib.hid (growL_eq (x := x) (sets := sets) (by omega) hsm)
  have e3 : rpStp.size = 3 := by kernel_rfl
  obtain ⟨g, v, rfl, hbg, hgl, hfr, hcell, hos⟩ := h.set (i := m) (j := 1) (x' := (s.1, x, s.2.2)) (u := .int .u64 (x : Int)) hsm (by rw [e3]; decide) tss_stp (fun _ h => h.elim) (fun cs hcs => by
    obtain ⟨A0, c0, rfl, h1, h2, h3⟩ := stp_open hcs
    exact stp_ok h2 hx h1)
  rw [e3] at hcell hos
  have hgne : g ≠ go := by
    rintro rfl
    obtain ⟨vals, ho, _⟩ := h
    exact Pen.ne hk ho (by decide) rfl
  have a0 := ha.cell 0
  have l0 := hl.cell 0
  have k1 := hk.cell 1
  have hf1 := hfr (m * 3 + 1)
  have hmI : (0 : Int) ≤ (m : Int) := by omega
  have hmI2 : (m : Int) < (n : Int) := by omega
  have HOS := Lib.hid hos
  have HB1 := Lib.hid ((Below.refl base w).setCell (p := ⟨g, m * 3 + 1, none⟩) (by dsimp only; omega) (.int .u64 (x : Int)))
  have HK := Lib.hid (hk.far (p := ⟨g, m * 3 + 1, none⟩) (fun e => hgne e.symm) (.int .u64 (x : Int)))
  have HA := Lib.hid (ha.far (p := ⟨g, m * 3 + 1, none⟩) (by dsimp only; omega) (.int .u64 (x : Int)))
  have HG := Lib.hid (hg.far (p := ⟨g, m * 3 + 1, none⟩) (by dsimp only; omega) (.int .u64 (x : Int)))
  have a1 := (ha.far (p := ⟨g, m * 3 + 1, none⟩) (by dsimp only; omega) (.int .u64 (x : Int))).cell 0
  have l1 := (hl.far (p := ⟨g, m * 3 + 1, none⟩) (by dsimp only; omega) (.int .u64 (x : Int))).cell 0
  have HSS := Lib.hid (Rp.sl_below hs HB1.out hD)
  have HD := Lib.hid hD
  have HL' := Lib.hid hl'
  clear h hk ha hl hg hs hD hl' hfr hlen hsm hos
  have HM := Lib.hid hm
  clear hm
  go_enter Try.func77, Try.ntmps77
  go_wp2_with fail
  go_region_held3 (fun w' => w'.cell? ⟨go, 1, none⟩ = some (.slice (some ⟨g, 0, none⟩) n c) ∧ w'.cell? ⟨gl, 0, none⟩ = some (.int .i64 (m : Int)) ∧ w'.cell? ⟨ga, 0, none⟩ = some (.int .u64 (x : Int))) (go_keep) (fail)
  clear a0 l0 k1 a1 l1 hcell hf1
  have HB1' : Hid (Below base w (w.setCell ⟨g, m * 3 + 1, none⟩ (.int .u64 (x : Int))).drew) := HB1.out.drew
  have HOS' : Hid (OS (w.setCell ⟨g, m * 3 + 1, none⟩ (.int .u64 (x : Int))).drew base (some ⟨g, 0, none⟩) n c (l.set m (s.1, x, s.2.2))) := HOS.out.same (fun _ _ => rfl) (fun _ _ _ _ => rfl) (Nat.le_refl _)
  have HK' : Hid (Blk (w.setCell ⟨g, m * 3 + 1, none⟩ (.int .u64 (x : Int))).drew go 25 (prjV e2 (some ⟨g, 0, none⟩) n c)) := HK.out
  have HA' : Hid (Blk (w.setCell ⟨g, m * 3 + 1, none⟩ (.int .u64 (x : Int))).drew ga 22 #[.int .u64 (x : Int)]) := HA.out
  have HG' : Hid (Blk (w.setCell ⟨g, m * 3 + 1, none⟩ (.int .u64 (x : Int))).drew gs 27 #[.slice A' n' c']) := HG.out
  have HSS' : Hid ((rpSlice rpU64).sl (w.setCell ⟨g, m * 3 + 1, none⟩ (.int .u64 (x : Int))).drew D' A' n' c' sets) := Rp.sl_below HSS.out ((Below.refl base _).drew) HD.out
  clear HB1 HOS HK HA HG HSS
  generalize World.drew (World.setCell w _ _) = w1 at *
  go_wp2_with fail
  have hz1 := HB1'.out.size
  have hlen1 : (l.set m (s.1, x, s.2.2)).length = n := HOS'.out.len
  have HLEN1 := Lib.hid hlen1
  clear hlen1
  have k1 := (show Blk w1 go 25 _ from HK'.out).cell 1
  have a0 := (show Blk w1 ga 22 _ from HA'.out).cell 0
  have g0 := (show Blk w1 gs 27 _ from HG'.out).cell 0
  have hkl := (show Blk w1 go 25 _ from HK'.out).lt
  have HCP : Hid (∀ w', Below w1.heap.size w1 w' → Calls Try.prog 55 #[.agg (stpV x 4611686018427387904 A' n' c')] w' fun en w'' => ∃ A2 c2, en = .returned (.agg (stpV x 4611686018427387904 A2 n' c2)) ∧ LL w'' w'.heap.size A2 n' c2 sets ∧ Below w'.heap.size w' w'') := fun w' hb =>
    stcopy_any (Rp.sl_below (Rp.sl_below HSS'.out (hb.mono (show base ≤ w1.heap.size by omega)) HD.out) (Below.refl w'.heap.size _) (fun k hk => by have := HD.out k hk; have := hb.size; omega)) (fun k hk => by have := HD.out k hk; have := hb.size; omega) hn' HL'.out
  have hn16 : n + 1 ≤ maxLen := by unfold maxLen; omega
  go_region_law ((first
    | (refine step_app rfl (.tmp 17) (.tmp 22) _ (by rfl) elemStp (by rfl) HO5.out (by rfl) HSR.out hn16 (by omega) (by have := HZ5.out; simp; omega) ?_
       intro A6 c6 w6 ho6 hg6 hat6
       have HO6 := Lib.hid ho6
       have HG6 := Lib.hid hg6
       have hk6 := (show Blk (w5.alloc (.cells (stpV x 4611686018427387904 A5 n' c5) 31)) go 25 _ from HK5.out).grown hg6 (Pen.ne (show Blk _ _ _ _ from HK5.out) HO5.out (by decide))
       have k6 := hk6.cell 1
       have kf6 := hk6.frozen 1
       have HK6 := Lib.hid hk6
       clear ho6 hg6 hat6 hk6)
    | (go_simp; refine (HCP.out _ ((Below.refl _ _).drew)).mono ?_
       rintro en w5 ⟨A5, c5, rfl, hl5, hb5⟩
       have hb5' : Below w1.heap.size w1 w5 := ⟨hb5.os, hb5.tape, hb5.output, hb5.size, hb5.block⟩
       have hba := below1 w5 (.cells (stpV x 4611686018427387904 A5 n' c5) 31)
       have hbw := stepB hb5' hba
       have hk5 := keepB (show Blk w1 go 25 _ from HK'.out) hb5'
       have k5 := hk5.cell 1
       have kf5 := hk5.frozen 1
       have kl5 := hk5.lt
       have HZ5 := Lib.hid hb5'.size
       have HBW := Lib.hid hbw
       have HK5 := Lib.hid (keepB hk5 hba)
       obtain ⟨vals, hov, hln, hvi⟩ := (show OS w1 base (some ⟨g, 0, none⟩) n c _ from HOS'.out).below hbw
       have HO5 := Lib.hid hov
       have HVI := Lib.hid hvi
       have HX5 := Lib.hid (stp_ok (t := 4611686018427387904) hx (by decide) (LL.tb (D0 := fun _ => False) (hl5.below hba)))
       have HSR := Lib.hid (Src.blk (size := rpStp.size) (blk11 w5 31 (stpV x 4611686018427387904 A5 n' c5)) (by kernel_rfl) (by simp [Value.oneCell']))
       clear hl5 hb5 hb5' hba hbw hk5 hov hvi hln
       dsimp only)))
  all_goals
    have hll6 := (show OS (w5.alloc (.cells (stpV x 4611686018427387904 A5 n' c5) 31)) base (some ⟨g, 0, none⟩) n c (l.set m (s.1, x, s.2.2)) from ⟨vals, HO5.out, HLEN1.out, HVI.out⟩).push HO5.out HVI.out tss_stp (fun _ h => h.elim) HO6.out HG6.out HX5.out
    have hll7 := hll6.put (show Blk w6 go 25 _ from HK6.out) id tss_prj (by decide) (a := ⟨go, 1, none⟩) rfl (.slice A6 (n + 1) c6)
    have hbz := HBW.out.size
    have hb6 := (HB1'.out.trans (HBW.out.mono (show base ≤ w1.heap.size by omega))).grown HG6.out (by omega) (fun j hj => (HO5.out.lt j hj).1)
    go_end0
    exact ⟨rfl, A6, c6, (show Blk w6 go 25 _ from HK6.out).put 1 _, by rw [HGL.out]; exact hll7, hb6.setCell hgo _⟩
end
end Go.Proofs.Ytmdgmnaaopineaa
/- proj.next, at the literal of next_grow. -/
namespace Go.Proofs.Ytmdgmnaaopineaa
open Go.ChangeShapes Go.WideShapes Go.ChangeAt Go.RowKit
set_option linter.unusedVariables false
theorem enext_ok (e e2 : Nat) (w : World) (he : EOk e) (he2 : e2 = e + 1) (h2 : EOk e2) : Calls Try.prog 128 #[.int .u64 (e : Int)] w fun en w' => en = .returned (.tuple #[.int .u64 (e2 : Int), .bool true]) ∧ w = w' := by
  have s0 : IntKind.u64.wrap ((e : Int) + 1) = (e2 : Int) := by have := he.2; rw [IntWalk.u64_in _ (by omega)]; omega
  have her := fun w => eright_any e w (by have := he.2; omega)
  rw [dec_true he] at her
  have her2 := fun w => eright_any e2 w (by have := he.2; omega)
  have HE := Lib.hid her
  have hel : (e : Int) ≤ 4611686018427387904 := by have := he.2; omega
  rw [dec_true h2] at her2
  have HE2 := Lib.hid her2
  clear her her2 he he2 h2
  go_enter Try.func128, Try.ntmps128
  go_wp2_with fail
  refine (HE.out _).mono ?_; rintro en w1 ⟨rfl, rfl⟩
  go_wp2_with fail
  refine (HE2.out _).mono ?_; rintro en w1 ⟨rfl, rfl⟩
  go_wp2_with fail
  go_ret2
  exact ⟨rfl, rfl⟩
theorem enext_bad (e e2 : Nat) (w : World) (he : EOk e) (he2 : e2 = e + 1) (h2 : ¬ EOk e2) : Calls Try.prog 128 #[.int .u64 (e : Int)] w fun en w' => en = .returned (.tuple #[.int .u64 0, .bool false]) ∧ w = w' := by
  have s0 : IntKind.u64.wrap ((e : Int) + 1) = (e2 : Int) := by have := he.2; rw [IntWalk.u64_in _ (by omega)]; omega
  have her := fun w => eright_any e w (by have := he.2; omega)
  rw [dec_true he] at her
  have her2 := fun w => eright_any e2 w (by have := he.2; omega)
  have HE := Lib.hid her
  have hel : (e : Int) ≤ 4611686018427387904 := by have := he.2; omega
  rw [dec_false h2] at her2
  have HE2 := Lib.hid her2
  clear her her2 he he2 h2
  go_enter Try.func128, Try.ntmps128
  go_wp2_with fail
  refine (HE.out _).mono ?_; rintro en w1 ⟨rfl, rfl⟩
  go_wp2_with fail
  refine (HE2.out _).mono ?_; rintro en w1 ⟨rfl, rfl⟩
  go_wp2_with fail
  go_ret2
  exact ⟨rfl, rfl⟩
/-- What a function literal makes of the copy. -/
def Turns (w1 : World) (base go e2 : Nat) (l' : List Stp) (en : Ending) (w' : World) : Prop :=
  en = .returned (.tuple #[]) ∧ ∃ A3 n3 c3, Blk w' go 25 (prjV e2 A3 n3 c3) ∧ OS w' base A3 n3 c3 l' ∧ Below base w1 w'
/-- What comes of a projection whose stripes turn to others. -/
def NextB (w : World) (base e2 : Nat) (l' : List Stp) (en : Ending) (w' : World) : Prop :=
  ∃ e3 A2 n2 c2 l2 cd, en = .returned (.tuple #[.agg (prjV e3 A2 n2 c2), .int .i64 cd]) ∧ OS w' base A2 n2 c2 l2 ∧ Below w.heap.size w w' ∧ (EOk e2 → POk (e2, l') → e3 = e2 ∧ l2 = l' ∧ cd = 0) ∧ (EOk e2 → ¬ POk (e2, l') → e3 = 0 ∧ l2 = [] ∧ cd = 3) ∧ (¬ EOk e2 → e3 = 0 ∧ l2 = [] ∧ cd = 18)
section
variable {D : Dom} {A : Option Addr} {n c e e2 q0 q1 q2 : Nat} {l l' : List Stp} {w : World}
set_option maxRecDepth 100000 in
set_option maxHeartbeats 4000000 in
theorem next_grow (hs : rpStp.sl w D A n c l) (hD : ∀ k, D k → k < w.heap.size) (hn : n ≤ 1000) (hl : ∀ s ∈ l, s.2.2.length ≤ 1000 ∧ ∀ (j : Nat) x, s.2.2[j]? = some x → x.length ≤ 1000) (he : EOk e) (he2 : e2 = e + 1)
    (hch : ∀ (w1 : World) (base go : Nat) A2 c2, Below w.heap.size w w1 → w.heap.size ≤ base → base ≤ go → go < w1.heap.size → Blk w1 go 25 (prjV e2 A2 n c2) → OS w1 base A2 n c2 l →
      Calls Try.prog 77 #[.pointer (some ⟨go, 0, none⟩), .pointer (some ⟨q0, 0, none⟩), .pointer (some ⟨q1, 0, none⟩), .pointer (some ⟨q2, 0, none⟩)] w1 (Turns w1 base go e2 l')) :
    Calls Try.prog 76 #[.agg (prjV e A n c), .func (Fn.func 77) #[] #[.pointer (some ⟨q0, 0, none⟩), .pointer (some ⟨q1, 0, none⟩), .pointer (some ⟨q2, 0, none⟩)]] w (fun en w' => ∃ base, w.heap.size ≤ base ∧ NextB w base e2 l' en w') := by
  have H : Hid ((Try.prog.info? 25).map (·.size) = some 2) := by unfold Hid; kernel_rfl
  have hb0 := below2 w (.cells (prjV e A n c) 25) (.cells (prjV 0 none 0 0) 25)
  have HZ := Lib.hid hb0
  have HK := Lib.hid (blk21 w 25 25 (prjV e A n c) (prjV 0 none 0 0))
  have HR := Lib.hid (blk22 w 25 25 (prjV e A n c) (prjV 0 none 0 0))
  have HS := Lib.hid (keepS (show Sl rpStp w D A n c l from ⟨hs, hD⟩) hb0)
  have he64 : e2 ≤ 18446744073709551615 := by have := he.2; omega
  have HLE := Lib.hid hl
  have HCH := Lib.hid hch
  clear hs hD hb0 hl hch
  by_cases h2 : EOk e2
  case neg =>
    have hnx := fun w => enext_bad e e2 w he he2 h2
    have HNX := Lib.hid hnx
    have HN2 := Lib.hid h2
    clear hnx h2 he he2
    go_enter Try.func76, Try.ntmps76
    go_wp2_with fail
    generalize World.alloc (World.alloc w _) _ = w0 at *
    have k0 := (show Blk w0 w.heap.size 25 _ from HK.out).cell 0
    go_wp2_with fail
    refine (HNX.out _).mono ?_; rintro en w1 ⟨rfl, rfl⟩
    go_wp2_with (refine wpList_put_row rfl 25 (.tmp 4) (.tmp 17) rfl (w.heap.size + 1) _ rfl rfl 25 _ (show Blk _ _ _ _ from HR.out) H.out rfl (by simp [Value.oneCell']) ?_; intro w5 hblk hgr)
    have hbz : Below w.heap.size w w5 := HZ.out.grown hgr HZ.out.size (fun k hk => by injection hk with hk; omega)
    have f0 := hblk.cell 0
    have f1 := hblk.cell 1
    refine bodyPost_ret (v := .tuple #[.agg (prjV 0 none 0 0), .int .i64 18]) (by simp [results, Try.results76, go_sem, f0, f1]) rfl ?_
    exact ⟨_, Nat.le_refl _, 0, none, 0, 0, [], 18, rfl, OL.nil _ _ _ _ _ _, hbz, fun h => absurd h HN2.out, fun h => absurd h HN2.out, fun _ => ⟨rfl, rfl, rfl⟩⟩
  case pos =>
    have hnx := fun w => enext_ok e e2 w he he2 h2
    have HNX := Lib.hid hnx
    have HE2 := Lib.hid h2
    clear hnx h2 he he2
    go_enter Try.func76, Try.ntmps76
    go_wp2_with fail
    generalize World.alloc (World.alloc w _) _ = w0 at *
    have hz0 := HZ.out.size
    have hl0 := (show Blk w0 (w.heap.size + 1) 25 _ from HR.out).lt
    have k0 := (show Blk w0 w.heap.size 25 _ from HK.out).cell 0
    have k1 := (show Blk w0 w.heap.size 25 _ from HK.out).cell 1
    go_wp2_with fail
    refine (HNX.out _).mono ?_; rintro en w1 ⟨rfl, rfl⟩
    go_wp2_with fail
    refine (prcopy_any HS.out.1 HS.out.2 hn HLE.out).mono ?_; rintro en w1 ⟨A1, c1, rfl, ho1, hb1⟩
    obtain ⟨go, hgo⟩ : ∃ go, go = w1.heap.size := ⟨_, rfl⟩
    have hba := below1 w1 (.cells (prjV e2 A1 n c1) 25)
    have HB2 := Lib.hid (stepB (stepB HZ.out hb1) hba)
    have HR2 := Lib.hid (keepB (keepB (show Blk w0 (w.heap.size + 1) 25 _ from HR.out) hb1) hba)
    have HG2 := Lib.hid (blk11 w1 25 (prjV e2 A1 n c1))
    have HO2 := Lib.hid (ho1.below hba)
    have hz1 := hb1.size
    clear ho1 hb1 hba k0 k1
    go_wp2_with fail
    rw [← hgo] at HG2
    try rw [← hgo]
    have HGO := Lib.hid hgo
    have hgo1 : w0.heap.size ≤ go := by omega
    clear hgo
    generalize World.alloc w1 _ = w2 at *
    have hgo2 := (show Blk w2 go 25 _ from HG2.out).lt
    refine (HCH.out w2 w0.heap.size go A1 c1 HB2.out hz0 hgo1 hgo2 HG2.out HO2.out).mono ?_; rintro en w3 ⟨rfl, A3, n3, c3, hk3, ho3, hb3⟩
    have hz2 := HB2.out.size
    have HB3 := Lib.hid (HB2.out.trans (hb3.mono hz0))
    have HR3 := Lib.hid (Blk.below (show Blk w2 (w.heap.size + 1) 25 _ from HR2.out) hb3 hl0)
    have hz3 := hb3.size
    have HO3 := Lib.hid ho3
    have hrt := pright_any (e := e2) (OL.sl ho3) (fun k hk => hk) he64
    have g0 := hk3.cell 0
    have g1 := hk3.cell 1
    have HG3 := Lib.hid hk3
    clear hb3 ho3 hk3
    by_cases hok : POk (e2, l')
    case pos =>
      rw [dec_true hok] at hrt
      have HRT := Lib.hid hrt
      have HOK := Lib.hid hok
      clear hrt hok
      go_wp2_with fail
      refine HRT.out.mono ?_; rintro en w4 ⟨rfl, hb4⟩
      have hg4 := keepB (show Blk w3 go 25 _ from HG3.out) hb4
      have HR4 := Lib.hid (keepB (show Blk w3 (w.heap.size + 1) 25 _ from HR3.out) hb4)
      have HB4 := Lib.hid (stepB HB3.out hb4)
      have HO4 := Lib.hid ((show OS w3 w0.heap.size A3 n3 c3 l' from HO3.out).below hb4)
      clear g0 g1
      have g0 := hg4.cell 0
      have g1 := hg4.cell 1
      clear hb4 hg4
      go_wp2_with (refine wpList_put_row rfl 25 (.tmp 4) (.tmp 28) rfl (w.heap.size + 1) _ rfl rfl 25 _ (show Blk _ _ _ _ from HR4.out) H.out rfl (by simp [Value.oneCell']) ?_; intro w5 hblk hgr)
      have hbz : Below w.heap.size w w5 := HB4.out.grown hgr HB4.out.size (fun k hk => by injection hk with hk; omega)
      have ho5 : OS w5 w0.heap.size A3 n3 c3 l' := by
        refine HO4.out.chg ((Chg.of_grown hgr).more (G := fun k => k = w.heap.size + 1) (fun k _ hk => by injection hk)) ?_
        intro k hk _
        subst hk
        exact ⟨id, fun cs t ht => by
          obtain rfl := blk_type (show Blk w4 (w.heap.size + 1) 25 _ from HR4.out) ht
          exact ⟨tss_prj, by decide⟩⟩
      have f0 := hblk.cell 0
      have f1 := hblk.cell 1
      refine bodyPost_ret (v := .tuple #[.agg (prjV e2 A3 n3 c3), .int .i64 0]) (by simp [results, Try.results76, go_sem, f0, f1]) rfl ?_
      exact ⟨_, hz0, e2, A3, n3, c3, l', 0, rfl, ho5, hbz, fun _ _ => ⟨rfl, rfl, rfl⟩, fun _ h => absurd HOK.out h, fun h => absurd HE2.out h⟩
    case neg =>
      rw [dec_false hok] at hrt
      have HRT := Lib.hid hrt
      have HOK := Lib.hid hok
      clear hrt hok
      go_wp2_with fail
      refine HRT.out.mono ?_; rintro en w4 ⟨rfl, hb4⟩
      have HR4 := Lib.hid (keepB (show Blk w3 (w.heap.size + 1) 25 _ from HR3.out) hb4)
      have HB4 := Lib.hid (stepB HB3.out hb4)
      clear g0 g1 hb4
      go_wp2_with (refine wpList_put_row rfl 25 (.tmp 4) (.tmp 27) rfl (w.heap.size + 1) _ rfl rfl 25 _ (show Blk _ _ _ _ from HR4.out) H.out rfl (by simp [Value.oneCell']) ?_; intro w5 hblk hgr)
      have hbz : Below w.heap.size w w5 := HB4.out.grown hgr HB4.out.size (fun k hk => by injection hk with hk; omega)
      have f0 := hblk.cell 0
      have f1 := hblk.cell 1
      refine bodyPost_ret (v := .tuple #[.agg (prjV 0 none 0 0), .int .i64 3]) (by simp [results, Try.results76, go_sem, f0, f1]) rfl ?_
      exact ⟨_, Nat.le_refl _, 0, none, 0, 0, [], 3, rfl, OL.nil _ _ _ _ _ _, hbz, fun _ h => absurd h HOK.out, fun _ _ => ⟨rfl, rfl, rfl⟩, fun h => absurd HE2.out h⟩
end
end Go.Proofs.Ytmdgmnaaopineaa
/- stripe.Copy: the rows of the copy lie apart. -/
namespace Go.Proofs.Ytmdgmnaaopineaa
open Go.ChangeShapes Go.WideShapes Go.ChangeAt Go.RowKit
set_option linter.unusedVariables false
section
variable {D : Dom} {A : Option Addr} {n c f t : Nat} {sets : List (List Nat)} {w : World}
set_option maxRecDepth 100000 in
set_option maxHeartbeats 3000000 in
theorem stcopyq_any (hs : (rpSlice rpU64).sl w D A n c sets) (hD : ∀ k, D k → k < w.heap.size) (hn : n ≤ 1000) (hl : ∀ (i : Nat) x, sets[i]? = some x → x.length ≤ 1000) :
    Calls Try.prog 55 #[.agg (stpV f t A n c)] w fun e w' => ∃ A2 c2, e = .returned (.agg (stpV f t A2 n c2)) ∧ LQ w' w.heap.size A2 n c2 sets ∧ Below w.heap.size w w' := by
  have H : Hid ((Try.prog.info? 31).map (·.size) = some 3) := by unfold Hid; kernel_rfl
  have hlen := (Rp.sl_len hs).1
  have HZ := Lib.hid (below2 w (.cells (stpV f t A n c) 31) (.cells (stpV 0 0 none 0 0) 31))
  have HK := Lib.hid (blk21 w 31 31 (stpV f t A n c) (stpV 0 0 none 0 0))
  have HR := Lib.hid (blk22 w 31 31 (stpV f t A n c) (stpV 0 0 none 0 0))
  have HS := Lib.hid (show Sl (rpSlice rpU64) w D A n c sets from ⟨hs, hD⟩)
  have HN := Lib.hid hlen
  have HLE := Lib.hid hl
  clear hs hD hlen hl
  go_enter Try.func55, Try.ntmps55
  go_wp2_with fail
  generalize World.alloc (World.alloc w _) _ = w0 at *
  have k2 := (show Blk w0 w.heap.size 31 _ from HK.out).cell 2
  go_wp2_with fail
  clear k2
  go_loopw [3, 9] (fun o i wr => ∃ (k : Nat) (As : Option Addr) (cs : Nat), k ≤ n ∧ i = .int .i64 k ∧ o = .slice As k cs ∧ Hid (LQ wr w.heap.size As k cs (sets.take k)) ∧ Hid (Blk wr w.heap.size 31 (stpV f t A n c)) ∧ Hid (Blk wr (w.heap.size + 1) 31 (stpV 0 0 none 0 0)) ∧ Hid (Below w.heap.size w wr)) (fun _ i _ => n - (intOf i).toNat)
  case atStart => exact ⟨0, none, 0, by omega, rfl, rfl, LQ.nil _ _, HK.out, HR.out, HZ.out⟩
  case round =>
    clear HK HR HZ
    obtain ⟨k, As, cs, hk, rfl, rfl, hll, hkb, hkr, hbel⟩ := hrel
    have hzr := hbel.out.size
    have hltr := (show Blk wr (w.heap.size + 1) 31 _ from hkr.out).lt
    by_cases hkn : k < n
    case neg =>
      obtain rfl : k = n := by omega
      have hd : decide ((k : Int) < (k : Int)) = false := by simp
      have k0 := (show Blk wr w.heap.size 31 _ from hkb.out).cell 0
      have k1 := (show Blk wr w.heap.size 31 _ from hkb.out).cell 1
      have k2 := (show Blk wr w.heap.size 31 _ from hkb.out).cell 2
      have f2 := (show Blk wr w.heap.size 31 _ from hkb.out).frozen 2
      have HL7 := Lib.hid ((show LQ wr w.heap.size As k cs (sets.take k) from hll.out).put (show Blk wr w.heap.size 31 _ from hkb.out) (by decide) (by decide) (a := ⟨w.heap.size, 2, none⟩) rfl (.slice As k cs))
      have HR7 := Lib.hid ((show Blk wr (w.heap.size + 1) 31 _ from hkr.out).far (p := ⟨w.heap.size, 2, none⟩) (by dsimp only; omega) (.slice As k cs))
      have HB7 := Lib.hid (hbel.out.setCell (p := ⟨w.heap.size, 2, none⟩) (by dsimp only; omega) (.slice As k cs))
      have HE : Hid (sets.take k = sets) := List.take_of_length_le (by rw [HN.out]; exact Nat.le_refl _)
      go_wp2_with (refine wpList_put_row rfl 31 (.tmp 2) (.tmp 22) rfl (w.heap.size + 1) (stpV f t As k cs) rfl rfl 31 _ HR7.out H.out rfl (by simp [Value.oneCell']) ?_; intro w9 hblk hgr)
      have hl9 := (show LQ (wr.setCell ⟨w.heap.size, 2, none⟩ (.slice As k cs)) w.heap.size As k cs (sets.take k) from HL7.out).grownC HR7.out (by decide) (by decide) hgr
      rw [HE.out] at hl9
      exact bodyPost_ret (results_cell_row rfl _ _ (w.heap.size + 1) 31 _ (0, 0) _ rfl hblk Try.underlying31 rfl H.out) rfl ⟨As, cs, rfl, hl9, HB7.out.grown hgr HB7.out.size (fun j hj => by injection hj with hj; omega)⟩
    case pos =>
      have hd : decide ((k : Int) < (n : Int)) = true := by simp; omega
      have hkI : (0 : Int) ≤ (k : Int) := by omega
      have hkI2 : (k : Int) < (n : Int) := by omega
      obtain ⟨b, off, x, A3, c3, rfl, hb, hx, hcell, hrow⟩ := rows_at (keepS HS.out hbel.out).1 hkn
      have hx1 := HLE.out k x hx
      have HSR := Lib.hid (Src.u64 (Rp.sl_below hrow (below1 wr (.cells #[] 22)) (keepS HS.out hbel.out).2))
      have HLT := Lib.hid (u64_lt hrow)
      have hm := World.ownsRow_made (e := 22) (size := 1) (base := wr.heap.size) wr #[] 0 (by omega) (by decide) rfl
      have HM := Lib.hid hm
      have HTK : Hid (sets.take (k + 1) = sets.take k ++ [x]) := by
        show sets.take (k + 1) = sets.take k ++ [x]
        rw [List.take_add_one, hx]; rfl
      have hmx : 0 + x.length ≤ maxLen := by unfold maxLen; omega
      have hk16 : k + 1 ≤ maxLen := by unfold maxLen; omega
      clear hm hrow hx hb
      go_wp2_with (first
        | (at_builtin; refine wpList_app rfl (.tmp 14) (.tmp 15) _ rfl elem64 rfl HM.out rfl HSR.out hmx (by omega) (by simp) ?_; intro A4 c4 w4 ho4 hg4 hat4
           have hb4 : Below wr.heap.size wr w4 := (below1 wr (.cells #[] 22)).grown hg4 (below1 wr (.cells #[] 22)).size (fun j hj => by have e : j = wr.heap.size := (by injection hj with hj; exact hj.symm); omega)
           have HB4 := Lib.hid hb4
           have ho4' : w4.ownsRow wr.heap.size 22 1 (.slice A4 x.length c4) x.length (x.map uv) := by
             have := ho4
             rw [List.nil_append] at this
             simpa using this
           have HO4 := Lib.hid ho4'
           obtain ⟨vals, hq⟩ := (show LQ wr w.heap.size As k cs (sets.take k) from hll.out)
           have HQ := Lib.hid hq
           have HOV := Lib.hid (keepO hq.1 hb4)
           have hz4 := hb4.size
           clear ho4 hg4 hat4 hb4 ho4' hq)
        | (at_builtin; refine wpList_app rfl (.tmp 13) (.tmp 17) _ rfl elemSets rfl (HOV.out.alloc _) rfl (Src.new w4 (.slice A4 x.length c4) _ rfl) hk16 (by omega) (by simp; omega) ?_; intro A6 c6 w6 ho6 hg6 hat6
           have HO6 := Lib.hid ho6
           have HG6 := Lib.hid (show w4.grownBy w6 _ from ⟨hg6.os, hg6.tape, hg6.output, by have := hg6.size; simp at this; omega, fun j hj hn => (hg6.block j (by simp; omega) hn).trans (Below.heap_alloc _ _ _ hj)⟩)
           clear ho6 hg6 hat6))
      have hkb4 := keepB (show Blk wr w.heap.size 31 _ from hkb.out) HB4.out
      have hkr4 := keepB (show Blk wr (w.heap.size + 1) 31 _ from hkr.out) HB4.out
      have ho6 := HO6.out
      try rw [Nat.zero_add] at ho6
      have hll6 := (show LQv vals wr w.heap.size As k cs (sets.take k) from HQ.out).push HB4.out ho6 HG6.out ⟨⟨A4, c4, rfl, HO4.out⟩, HLT.out⟩ hzr
      go_roundw
      case rel => exact ⟨k + 1, A6, c6, by omega, by go_num, rfl, by rw [HTK.out]; exact hll6, hkb4.grown HG6.out (Pen.ne' hkb4 HOV.out (by decide)), hkr4.grown HG6.out (Pen.ne' hkr4 HOV.out (by decide)), (stepB hbel.out HB4.out).grown HG6.out (stepB hbel.out HB4.out).size (fun j hj => (HOV.out.lt j hj).1)⟩
      case measure => simp [intOf]; omega
end
end Go.Proofs.Ytmdgmnaaopineaa
/- proj.Copy: the rows of the copy lie apart. -/
namespace Go.Proofs.Ytmdgmnaaopineaa
open Go.ChangeShapes Go.WideShapes Go.ChangeAt Go.RowKit
set_option linter.unusedVariables false
section
variable {D : Dom} {A : Option Addr} {n c e : Nat} {l : List Stp} {w : World}
set_option maxRecDepth 100000 in
set_option maxHeartbeats 4000000 in
theorem prcopyq_any (hs : rpStp.sl w D A n c l) (hD : ∀ k, D k → k < w.heap.size) (hn : n ≤ 1000) (hl : ∀ s ∈ l, s.2.2.length ≤ 1000 ∧ ∀ (j : Nat) x, s.2.2[j]? = some x → x.length ≤ 1000) :
    Calls Try.prog 63 #[.agg (prjV e A n c)] w fun en w' => ∃ A2 c2, en = .returned (.agg (prjV e A2 n c2)) ∧ OQ w' w.heap.size A2 n c2 l ∧ Below w.heap.size w w' := by
  have H : Hid ((Try.prog.info? 25).map (·.size) = some 2) := by unfold Hid; kernel_rfl
  have hlen := (Rp.sl_len hs).1
  have HZ := Lib.hid (below2 w (.cells (prjV e A n c) 25) (.cells (prjV 0 none 0 0) 25))
  have HK := Lib.hid (blk21 w 25 25 (prjV e A n c) (prjV 0 none 0 0))
  have HR := Lib.hid (blk22 w 25 25 (prjV e A n c) (prjV 0 none 0 0))
  have HS := Lib.hid (show Sl rpStp w D A n c l from ⟨hs, hD⟩)
  have HN := Lib.hid hlen
  have HLE := Lib.hid hl
  clear hs hD hlen hl
  go_enter Try.func63, Try.ntmps63
  go_wp2_with fail
  generalize World.alloc (World.alloc w _) _ = w0 at *
  have k1 := (show Blk w0 w.heap.size 25 _ from HK.out).cell 1
  go_wp2_with fail
  clear k1
  go_loopw [3, 9] (fun o i wr => ∃ (k : Nat) (As : Option Addr) (cs : Nat), k ≤ n ∧ i = .int .i64 k ∧ o = .slice As k cs ∧ Hid (OQ wr w.heap.size As k cs (l.take k)) ∧ Hid (Blk wr w.heap.size 25 (prjV e A n c)) ∧ Hid (Blk wr (w.heap.size + 1) 25 (prjV 0 none 0 0)) ∧ Hid (Below w.heap.size w wr)) (fun _ i _ => n - (intOf i).toNat)
  case atStart => exact ⟨0, none, 0, by omega, rfl, rfl, OQ.nil _ _, HK.out, HR.out, HZ.out⟩
  case round =>
    clear HK HR HZ
    obtain ⟨k, As, cs, hk, rfl, rfl, hll, hkb, hkr, hbel⟩ := hrel
    have hzr := hbel.out.size
    have hltr := (show Blk wr (w.heap.size + 1) 25 _ from hkr.out).lt
    by_cases hkn : k < n
    case neg =>
      obtain rfl : k = n := by omega
      have hd : decide ((k : Int) < (k : Int)) = false := by simp
      have k0 := (show Blk wr w.heap.size 25 _ from hkb.out).cell 0
      have k1 := (show Blk wr w.heap.size 25 _ from hkb.out).cell 1
      have f1 := (show Blk wr w.heap.size 25 _ from hkb.out).frozen 1
      have HL7 := Lib.hid ((show OQ wr w.heap.size As k cs (l.take k) from hll.out).put (show Blk wr w.heap.size 25 _ from hkb.out) (by decide) (by decide) (by decide) (a := ⟨w.heap.size, 1, none⟩) rfl (.slice As k cs))
      have HR7 := Lib.hid ((show Blk wr (w.heap.size + 1) 25 _ from hkr.out).far (p := ⟨w.heap.size, 1, none⟩) (by dsimp only; omega) (.slice As k cs))
      have HB7 := Lib.hid (hbel.out.setCell (p := ⟨w.heap.size, 1, none⟩) (by dsimp only; omega) (.slice As k cs))
      have HE : Hid (l.take k = l) := List.take_of_length_le (by rw [HN.out]; exact Nat.le_refl _)
      go_wp2_with (refine wpList_put_row rfl 25 (.tmp 2) (.tmp 21) rfl (w.heap.size + 1) (prjV e As k cs) rfl rfl 25 _ HR7.out H.out rfl (by simp [Value.oneCell']) ?_; intro w9 hblk hgr)
      have hl9 := (show OQ (wr.setCell ⟨w.heap.size, 1, none⟩ (.slice As k cs)) w.heap.size As k cs (l.take k) from HL7.out).grown HR7.out (by decide) (by decide) (by decide) hgr
      rw [HE.out] at hl9
      exact bodyPost_ret (results_cell_row rfl _ _ (w.heap.size + 1) 25 _ (0, 0) _ rfl hblk Try.underlying25 rfl H.out) rfl ⟨As, cs, rfl, hl9, HB7.out.grown hgr HB7.out.size (fun j hj => by injection hj with hj; omega)⟩
    case pos =>
      have hd : decide ((k : Int) < (n : Int)) = true := by simp; omega
      have hkI : (0 : Int) ≤ (k : Int) := by omega
      have hkI2 : (k : Int) < (n : Int) := by omega
      have hsr := keepS HS.out hbel.out
      obtain ⟨bo, off, s, A3, c3, rfl, hbD, hx, g0, g1, g2, hrow, hs1, hs2⟩ := stps_at hsr.1 hkn
      obtain ⟨sf, hsf⟩ : ∃ sf, sf = s.1 := ⟨_, rfl⟩
      obtain ⟨st, hst⟩ : ∃ st, st = s.2.1 := ⟨_, rfl⟩
      obtain ⟨ss, hss⟩ : ∃ ss, ss = s.2.2 := ⟨_, rfl⟩
      have es : s = (sf, st, ss) := by rw [hsf, hst, hss]
      rw [← hsf] at g0 hs1
      rw [← hst] at g1 hs2
      rw [← hss] at g2 hrow
      subst es
      have hle := HLE.out _ (List.mem_of_getElem? hx)
      have HLS := Lib.hid hle
      have hba := below1 wr (.cells (stpV sf st A3 ss.length c3) 31)
      have HRW := Lib.hid (keepS (show Sl (rpSlice rpU64) wr _ A3 ss.length c3 ss from ⟨hrow, hsr.2⟩) hba)
      have HKS := Lib.hid (blk11 wr 31 (stpV sf st A3 ss.length c3))
      have HBA := Lib.hid hba
      have HTK : Hid (l.take (k + 1) = l.take k ++ [(sf, st, ss)]) := by
        show l.take (k + 1) = l.take k ++ [(sf, st, ss)]
        rw [List.take_add_one, hx]; rfl
      have hk16 : k + 1 ≤ maxLen := by unfold maxLen; omega
      clear hx hle hrow hsr hsf hst hss hba
      go_wp2_with fail
      generalize World.alloc wr _ = w4 at *
      have hz4 := HBA.out.size
      have v0 := (show Blk w4 _ _ _ from HKS.out).cell 0
      have v1 := (show Blk w4 _ _ _ from HKS.out).cell 1
      have v2 := (show Blk w4 _ _ _ from HKS.out).cell 2
      clear g0 g1 g2
      go_wp2_with fail
      refine (stcopyq_any HRW.out.1 HRW.out.2 HLS.out.1 HLS.out.2).mono ?_; rintro en w5 ⟨A5, c5, rfl, hl5, hb5⟩
      have hb5a := below1 w5 (.cells (stpV sf st A5 ss.length c5) 31)
      have hb45 := stepB HBA.out hb5
      have HB5 := Lib.hid (stepB hb45 hb5a)
      have hz5 := hb5.size
      obtain ⟨vals, rv, hq⟩ := (show OQ wr w.heap.size As k cs (l.take k) from hll.out)
      have HQ := Lib.hid hq
      have HOV := Lib.hid (keepO hq.1 (stepB hb45 hb5a))
      have HX5 := Lib.hid ((hl5.lo hz4).below hb5a)
      have HSR := Lib.hid (Src.blk (size := rpStp.size) (blk11 w5 31 (stpV sf st A5 ss.length c5)) (by kernel_rfl) (by simp [Value.oneCell']))
      clear hl5 hb5 hb5a hb45 hq v0 v1 v2
      go_wp2_with (at_builtin; refine wpList_app rfl (.tmp 13) (.tmp 16) _ rfl elemStp rfl HOV.out rfl HSR.out hk16 (by omega) (by simp; omega) ?_; intro A6 c6 w6 ho6 hg6 hat6
                   have HO6 := Lib.hid ho6
                   have HG6 := Lib.hid hg6
                   clear ho6 hg6 hat6)
      have hll6 := (show OQv vals rv wr w.heap.size As k cs (l.take k) from HQ.out).push HB5.out HO6.out HG6.out HX5.out hs1 hs2 hzr
      have hb6 := HB5.out
      have hkb6 := keepB (show Blk wr w.heap.size 25 _ from hkb.out) hb6
      have hkr6 := keepB (show Blk wr (w.heap.size + 1) 25 _ from hkr.out) hb6
      go_roundw
      case rel => exact ⟨k + 1, A6, c6, by omega, by go_num, rfl, by rw [HTK.out]; exact hll6, hkb6.grown HG6.out (Pen.ne hkb6 HOV.out (by decide)), hkr6.grown HG6.out (Pen.ne hkr6 HOV.out (by decide)), (stepB hbel.out hb6).grown HG6.out (stepB hbel.out hb6).size (fun j hj => (HOV.out.lt j hj).1)⟩
      case measure => simp [intOf]; omega
end
end Go.Proofs.Ytmdgmnaaopineaa
/- proj.next, at the literal of Swap. -/
namespace Go.Proofs.Ytmdgmnaaopineaa
open Go.ChangeShapes Go.WideShapes Go.ChangeAt Go.RowKit
set_option linter.unusedVariables false
section
variable {D : Dom} {A : Option Addr} {n c e e2 q0 q1 : Nat} {l l' : List Stp} {w : World}
set_option maxRecDepth 100000 in
set_option maxHeartbeats 4000000 in
theorem next_swap (hs : rpStp.sl w D A n c l) (hD : ∀ k, D k → k < w.heap.size) (hn : n ≤ 1000) (hl : ∀ s ∈ l, s.2.2.length ≤ 1000 ∧ ∀ (j : Nat) x, s.2.2[j]? = some x → x.length ≤ 1000) (he : EOk e) (he2 : e2 = e + 1)
    (hch : ∀ (w1 : World) (base go : Nat) A2 c2, Below w.heap.size w w1 → w.heap.size ≤ base → base ≤ go → go < w1.heap.size → Blk w1 go 25 (prjV e2 A2 n c2) → OQ w1 base A2 n c2 l →
      Calls Try.prog 125 #[.pointer (some ⟨go, 0, none⟩), .pointer (some ⟨q0, 0, none⟩), .pointer (some ⟨q1, 0, none⟩)] w1 (Turns w1 base go e2 l')) :
    Calls Try.prog 76 #[.agg (prjV e A n c), .func (Fn.func 125) #[] #[.pointer (some ⟨q0, 0, none⟩), .pointer (some ⟨q1, 0, none⟩)]] w (fun en w' => ∃ base, w.heap.size ≤ base ∧ NextB w base e2 l' en w') := by
  have H : Hid ((Try.prog.info? 25).map (·.size) = some 2) := by unfold Hid; kernel_rfl
  have hb0 := below2 w (.cells (prjV e A n c) 25) (.cells (prjV 0 none 0 0) 25)
  have HZ := Lib.hid hb0
  have HK := Lib.hid (blk21 w 25 25 (prjV e A n c) (prjV 0 none 0 0))
  have HR := Lib.hid (blk22 w 25 25 (prjV e A n c) (prjV 0 none 0 0))
  have HS := Lib.hid (keepS (show Sl rpStp w D A n c l from ⟨hs, hD⟩) hb0)
  have he64 : e2 ≤ 18446744073709551615 := by have := he.2; omega
  have HLE := Lib.hid hl
  have HCH := Lib.hid hch
  clear hs hD hb0 hl hch
  by_cases h2 : EOk e2
  case neg =>
    have hnx := fun w => enext_bad e e2 w he he2 h2
    have HNX := Lib.hid hnx
    have HN2 := Lib.hid h2
    clear hnx h2 he he2
    go_enter Try.func76, Try.ntmps76
    go_wp2_with fail
    generalize World.alloc (World.alloc w _) _ = w0 at *
    have k0 := (show Blk w0 w.heap.size 25 _ from HK.out).cell 0
    go_wp2_with fail
    refine (HNX.out _).mono ?_; rintro en w1 ⟨rfl, rfl⟩
    go_wp2_with (refine wpList_put_row rfl 25 (.tmp 4) (.tmp 17) rfl (w.heap.size + 1) _ rfl rfl 25 _ (show Blk _ _ _ _ from HR.out) H.out rfl (by simp [Value.oneCell']) ?_; intro w5 hblk hgr)
    have hbz : Below w.heap.size w w5 := HZ.out.grown hgr HZ.out.size (fun k hk => by injection hk with hk; omega)
    have f0 := hblk.cell 0
    have f1 := hblk.cell 1
    refine bodyPost_ret (v := .tuple #[.agg (prjV 0 none 0 0), .int .i64 18]) (by simp [results, Try.results76, go_sem, f0, f1]) rfl ?_
    exact ⟨_, Nat.le_refl _, 0, none, 0, 0, [], 18, rfl, OL.nil _ _ _ _ _ _, hbz, fun h => absurd h HN2.out, fun h => absurd h HN2.out, fun _ => ⟨rfl, rfl, rfl⟩⟩
  case pos =>
    have hnx := fun w => enext_ok e e2 w he he2 h2
    have HNX := Lib.hid hnx
    have HE2 := Lib.hid h2
    clear hnx h2 he he2
    go_enter Try.func76, Try.ntmps76
    go_wp2_with fail
    generalize World.alloc (World.alloc w _) _ = w0 at *
    have hz0 := HZ.out.size
    have hl0 := (show Blk w0 (w.heap.size + 1) 25 _ from HR.out).lt
    have k0 := (show Blk w0 w.heap.size 25 _ from HK.out).cell 0
    have k1 := (show Blk w0 w.heap.size 25 _ from HK.out).cell 1
    go_wp2_with fail
    refine (HNX.out _).mono ?_; rintro en w1 ⟨rfl, rfl⟩
    go_wp2_with fail
    refine (prcopyq_any HS.out.1 HS.out.2 hn HLE.out).mono ?_; rintro en w1 ⟨A1, c1, rfl, ho1, hb1⟩
    obtain ⟨go, hgo⟩ : ∃ go, go = w1.heap.size := ⟨_, rfl⟩
    have hba := below1 w1 (.cells (prjV e2 A1 n c1) 25)
    have HB2 := Lib.hid (stepB (stepB HZ.out hb1) hba)
    have HR2 := Lib.hid (keepB (keepB (show Blk w0 (w.heap.size + 1) 25 _ from HR.out) hb1) hba)
    have HG2 := Lib.hid (blk11 w1 25 (prjV e2 A1 n c1))
    have HO2 := Lib.hid (ho1.below hba)
    have hz1 := hb1.size
    clear ho1 hb1 hba k0 k1
    go_wp2_with fail
    rw [← hgo] at HG2
    try rw [← hgo]
    have HGO := Lib.hid hgo
    have hgo1 : w0.heap.size ≤ go := by omega
    clear hgo
    generalize World.alloc w1 _ = w2 at *
    have hgo2 := (show Blk w2 go 25 _ from HG2.out).lt
    refine (HCH.out w2 w0.heap.size go A1 c1 HB2.out hz0 hgo1 hgo2 HG2.out HO2.out).mono ?_; rintro en w3 ⟨rfl, A3, n3, c3, hk3, ho3, hb3⟩
    have hz2 := HB2.out.size
    have HB3 := Lib.hid (HB2.out.trans (hb3.mono hz0))
    have HR3 := Lib.hid (Blk.below (show Blk w2 (w.heap.size + 1) 25 _ from HR2.out) hb3 hl0)
    have hz3 := hb3.size
    have HO3 := Lib.hid ho3
    have hrt := pright_any (e := e2) (OL.sl ho3) (fun k hk => hk) he64
    have g0 := hk3.cell 0
    have g1 := hk3.cell 1
    have HG3 := Lib.hid hk3
    clear hb3 ho3 hk3
    by_cases hok : POk (e2, l')
    case pos =>
      rw [dec_true hok] at hrt
      have HRT := Lib.hid hrt
      have HOK := Lib.hid hok
      clear hrt hok
      go_wp2_with fail
      refine HRT.out.mono ?_; rintro en w4 ⟨rfl, hb4⟩
      have hg4 := keepB (show Blk w3 go 25 _ from HG3.out) hb4
      have HR4 := Lib.hid (keepB (show Blk w3 (w.heap.size + 1) 25 _ from HR3.out) hb4)
      have HB4 := Lib.hid (stepB HB3.out hb4)
      have HO4 := Lib.hid ((show OS w3 w0.heap.size A3 n3 c3 l' from HO3.out).below hb4)
      clear g0 g1
      have g0 := hg4.cell 0
      have g1 := hg4.cell 1
      clear hb4 hg4
      go_wp2_with (refine wpList_put_row rfl 25 (.tmp 4) (.tmp 28) rfl (w.heap.size + 1) _ rfl rfl 25 _ (show Blk _ _ _ _ from HR4.out) H.out rfl (by simp [Value.oneCell']) ?_; intro w5 hblk hgr)
      have hbz : Below w.heap.size w w5 := HB4.out.grown hgr HB4.out.size (fun k hk => by injection hk with hk; omega)
      have ho5 : OS w5 w0.heap.size A3 n3 c3 l' := by
        refine HO4.out.chg ((Chg.of_grown hgr).more (G := fun k => k = w.heap.size + 1) (fun k _ hk => by injection hk)) ?_
        intro k hk _
        subst hk
        exact ⟨id, fun cs t ht => by
          obtain rfl := blk_type (show Blk w4 (w.heap.size + 1) 25 _ from HR4.out) ht
          exact ⟨tss_prj, by decide⟩⟩
      have f0 := hblk.cell 0
      have f1 := hblk.cell 1
      refine bodyPost_ret (v := .tuple #[.agg (prjV e2 A3 n3 c3), .int .i64 0]) (by simp [results, Try.results76, go_sem, f0, f1]) rfl ?_
      exact ⟨_, hz0, e2, A3, n3, c3, l', 0, rfl, ho5, hbz, fun _ _ => ⟨rfl, rfl, rfl⟩, fun _ h => absurd HOK.out h, fun h => absurd HE2.out h⟩
    case neg =>
      rw [dec_false hok] at hrt
      have HRT := Lib.hid hrt
      have HOK := Lib.hid hok
      clear hrt hok
      go_wp2_with fail
      refine HRT.out.mono ?_; rintro en w4 ⟨rfl, hb4⟩
      have HR4 := Lib.hid (keepB (show Blk w3 (w.heap.size + 1) 25 _ from HR3.out) hb4)
      have HB4 := Lib.hid (stepB HB3.out hb4)
      clear g0 g1 hb4
      go_wp2_with (refine wpList_put_row rfl 25 (.tmp 4) (.tmp 27) rfl (w.heap.size + 1) _ rfl rfl 25 _ (show Blk _ _ _ _ from HR4.out) H.out rfl (by simp [Value.oneCell']) ?_; intro w5 hblk hgr)
      have hbz : Below w.heap.size w w5 := HB4.out.grown hgr HB4.out.size (fun k hk => by injection hk with hk; omega)
      have f0 := hblk.cell 0
      have f1 := hblk.cell 1
      refine bodyPost_ret (v := .tuple #[.agg (prjV 0 none 0 0), .int .i64 3]) (by simp [results, Try.results76, go_sem, f0, f1]) rfl ?_
      exact ⟨_, Nat.le_refl _, 0, none, 0, 0, [], 3, rfl, OL.nil _ _ _ _ _ _, hbz, fun _ h => absurd h HOK.out, fun _ _ => ⟨rfl, rfl, rfl⟩, fun h => absurd HE2.out h⟩
end
end Go.Proofs.Ytmdgmnaaopineaa
/- slices.Compact at numbers. -/
namespace Go.Proofs.Ytmdgmnaaopineaa
open Go.ChangeShapes Go.WideShapes Go.ChangeAt Go.RowKit
set_option linter.unusedVariables false
section
variable {w0 w w1 w2 : World} {blk off : Nat} {d0 d d1 d2 : Array Int}
/-- One place changes its number. -/
theorem SW.set (h : SW w0 w1 blk off d0 d1) {i : Nat} (hi : i < d1.size) (x : Int) {w : World} (hw : w.heap = w1.heap) (ho : w.os = w1.os) (ht : w.tape = w1.tape) (hu : w.output = w1.output) :
    SW w0 (w.setCell ⟨blk, off + i, none⟩ (.int .u64 x)) blk off d0 (d1.setIfInBounds i x) := by
  have hc : Chg (fun k => k = blk) w1 w := ⟨ho, ht, hu, by rw [hw]; exact Nat.le_refl _, fun k _ _ => by rw [hw]⟩
  refine ⟨h.h0, h.lt, by simpa using h.sz, (h.ch.trans hc).setCell (.inl rfl) _, ?_⟩
  rw [← Sort.putRow_set eu w0 blk off d1 i x hi]
  exact setCell_at (a := ⟨blk, off + i, none⟩) (by rw [hw]; exact h.row) _
theorem SW.clear : ∀ (r i : Nat) (w1 : World) (d1 : Array Int), SW w0 w1 blk off d0 d1 → i + r ≤ d1.size →
    ∃ d2, SW w0 (w1.setCells blk (off + i) (List.replicate r (.int .u64 0))) blk off d0 d2 ∧ ∀ j, j < i → d2[j]! = d1[j]!
  | 0, i, w1, d1, h, _ => ⟨d1, h, fun _ _ => rfl⟩
  | r + 1, i, w1, d1, h, hi => by
    have h1 := h.set (i := i) (by omega) 0 (w := w1) rfl rfl rfl rfl
    obtain ⟨d2, h2, h3⟩ := SW.clear r (i + 1) _ _ h1 (by simp; omega)
    refine ⟨d2, ?_, fun j hj => ?_⟩
    · rw [List.replicate_succ]
      exact h2
    · rw [h3 j (by omega), Sort.getElem!_set_other _ _ _ _ (by omega)]
end
theorem elemN8 : Elem Try.prog 46 22 1 8 := Elem.of (z := .int .u64 0) Try.underlying46 (by kernel_rfl) rfl (by decide)
/-- What slices.Compact ends in. -/
def Cpt (w : World) (blk off c n : Nat) (d : Array Int) (e : Ending) (w' : World) : Prop :=
  ∃ d', e = .returned (.slice (some ⟨blk, off, none⟩) (Lib.compactUpTo d n).length c) ∧ SW w w' blk off d d' ∧ ∀ j, j < (Lib.compactUpTo d n).length → (Lib.compactUpTo d n)[j]? = some d'[j]!
theorem cpt_le (d : Array Int) (n : Nat) : (Lib.compactUpTo d n).length ≤ n := by
  unfold Lib.compactUpTo
  rw [List.length_map]
  exact Nat.le_trans (List.length_filter_le _ _) (by simp)
theorem cpt_same {d : Array Int} {n : Nat} (h : ∀ j, j < n → Lib.keeps d j = true) : (Lib.compactUpTo d n).length = n ∧ ∀ j, j < n → (Lib.compactUpTo d n)[j]? = some d[j]! := by
  rw [Lib.compactUpTo_all d n h]
  refine ⟨by simp, fun j hj => ?_⟩
  simp [hj]
set_option maxRecDepth 100000 in
set_option maxHeartbeats 4000000 in
theorem compact_row {blk off c n : Nat} {d : Array Int} {w : World} (hH : Sort.Holds eu w blk off d) (hl : blk < w.heap.size) (hn : d.size = n) (hsz : n < 65536) (h2 : 2 ≤ n) (hnc : n ≤ c) (hcm : c ≤ maxLen) :
    Calls Try.prog 122 #[.slice (some ⟨blk, off, none⟩) n c] w (Cpt w blk off c n d) := by
  have HS := Lib.hid (SW.refl hH hl)
  have HN := Lib.hid hn
  have hd2 : decide ((n : Int) < 2) = false := by simp; omega
  unfold maxLen at hcm
  clear hn hH hl
  go_enter Try.func122, Try.ntmps122
  go_wp2_with fail
  go_loopw [3] (fun vk wr => ∃ k : Nat, 1 ≤ k ∧ k ≤ n ∧ vk = .int .i64 k ∧ Hid (SW w wr blk off d d) ∧ Hid (∀ j, j < k → Lib.keeps d j = true)) (fun vk _ => n - (intOf vk).toNat)
  case atStart => exact ⟨1, Nat.le_refl _, by omega, rfl, HS, Lib.keeps_lt_one d⟩
  case round =>
    obtain ⟨k, hk1, hkn, rfl, hsw, hke⟩ := hrel
    by_cases hlt : k < n
    case neg =>
      have hd : decide (k < n) = false := by simpa using hlt
      obtain rfl : k = n := by omega
      have HC := Lib.hid (cpt_same hke.out)
      go_wp2_with fail
      go_ret
      exact ⟨d, congrArg (fun m => Ending.returned (.slice (some ⟨blk, off, none⟩) m c)) HC.out.1.symm, hsw.out, fun j hj => HC.out.2 j (by rw [HC.out.1] at hj; exact hj)⟩
    case pos =>
      have hd : decide (k < n) = true := by simpa using hlt
      have hdn := HN.out
      obtain ⟨q, hq⟩ : ∃ q, q = k - 1 := ⟨_, rfl⟩
      have hqn : q < n := by omega
      obtain ⟨X, hX⟩ : ∃ X, X = d[k]! := ⟨_, rfl⟩
      obtain ⟨Y, hY⟩ : ∃ X, X = d[q]! := ⟨_, rfl⟩
      have c1 := hsw.out.cell (t := k) (by omega)
      have c2 := hsw.out.cell (t := q) (by omega)
      rw [← hX] at c1
      rw [← hY] at c2
      have y1 : IntKind.i64.wrap ((k : Int) - 1) = (q : Int) := by rw [IntWalk.i64_in _ (by omega)]; omega
      have y1' : (k : Int) - 1 = (q : Int) := by omega
      have HX := Lib.hid hX
      have HY := Lib.hid hY
      have HQ := Lib.hid hq
      clear hX hY hdn hq
      by_cases hxy : X = Y
      case neg =>
        have hb : (X == Y) = false := by simpa using hxy
        have HK : Hid (∀ j, j < k + 1 → Lib.keeps d j = true) := fun j hj => by
          by_cases e : j = k
          · subst e
            exact Lib.keeps_pos (by rw [← HX.out, ← HQ.out, ← HY.out]; exact hxy)
          · exact hke.out j (by omega)
        clear hxy
        go_wp2_with fail
        go_quiet (fail)
        go_wp2_with fail
        go_roundw
        case rel => exact ⟨k + 1, Nat.le_succ_of_le hk1, hlt, by go_num, hsw.out.same rfl rfl rfl rfl, HK⟩
        case measure => clear y1 y1'; simp [intOf]; omega
      case pos =>
        have hb : (X == Y) = true := by simpa using hxy
        have HDUP : Hid (Lib.keeps d k = false) := Lib.keeps_neg hk1 (by rw [← HX.out, ← HQ.out, ← HY.out]; exact hxy)
        have HCI := Lib.hid (Lib.CompInv.start hke.out HDUP.out)
        obtain ⟨N, hN⟩ : ∃ N, N = n - k := ⟨_, rfl⟩
        obtain ⟨C, hC⟩ : ∃ C, C = c - k := ⟨_, rfl⟩
        obtain ⟨off2, ho2⟩ : ∃ o, o = off + k := ⟨_, rfl⟩
        have hsl : ∀ w', (Instr.slice 46 (.slice (some ⟨blk, off, none⟩) n c) (some (.int .i64 (k : Int))) none none).run Try.prog w' = .ok (.slice (some ⟨blk, off2, none⟩) N C) w' := fun w' => by
          rw [run_slice_l (P := Try.prog) w' 46 (some ⟨blk, off, none⟩) n c (by rw [elemN8.elem]; exact elemN8.ht) .i64 (k : Int) (by omega) (by omega), elemN8.elem, elemN8.sizeOf]
          show Result.ok (sliced (some ⟨blk, off, none⟩) (k : Int).toNat n c 1) w' = _
          unfold sliced
          rw [Int.toNat_natCast, if_neg (by omega)]
          show Result.ok (Value.slice (some ((⟨blk, off, none⟩ : Addr).add (k * 1))) (n - k) (c - k)) w' = _
          rw [add_plain, Nat.mul_one, hN, hC, ho2]
        have hN1 : 1 ≤ N := by clear y1 y1'; omega
        have hNn : N ≤ n := by clear y1 y1'; omega
        have HNE := Lib.hid hN
        have HO2 := Lib.hid ho2
        clear hxy hN hC ho2
        go_wp2_with fail
        go_quiet (fail)
        have HSW1 := Lib.hid (hsw.out.same (w := wr.drewN nq) rfl rfl rfl rfl)
        clear c1 c2 y1 y1' hb hd
        generalize World.drewN wr nq = w1 at *
        go_wp2_with fail
        obtain ⟨k0, hk0⟩ : ∃ k0, k0 = k := ⟨_, rfl⟩
        have HK0 := Lib.hid hk0
        clear hk0
        go_loopw [3, 5] (fun vk vj wr => ∃ (m j : Nat) (dk : Array Int), 1 ≤ j ∧ j ≤ N ∧ vk = .int .i64 m ∧ vj = .int .i64 j ∧ Hid (SW w wr blk off d dk) ∧ Hid (Lib.CompInv d (k0 + j) m dk)) (fun _ vj _ => N - (intOf vj).toNat)
        case atStart => exact ⟨k, 1, d, Nat.le_refl _, hN1, rfl, rfl, HSW1, by show Lib.CompInv d (k0 + 1) k d; rw [HK0.out]; exact HCI.out⟩
        case round =>
          clear HCI HDUP HX HY HQ HSW1
          obtain ⟨m, j, dk, hj1, hjN, rfl, rfl, hsw2, hci⟩ := hrel
          by_cases hjn : j < N
          case neg =>
            obtain rfl : j = N := by omega
            have hd : decide (j < j) = false := by simp
            have hkj : k0 + j = n := by have := HK0.out; have := HNE.out; omega
            have hml : (Lib.compactUpTo d n).length = m := by have := hci.out.len; rw [hkj] at this; exact this
            have hmn : m < n := by have := hci.out.lt; omega
            have hdk : dk.size = n := hsw2.out.sz.trans HN.out
            obtain ⟨R, hR⟩ : ∃ R, R = n - m := ⟨_, rfl⟩
            obtain ⟨off3, ho3⟩ : ∃ o, o = off + m := ⟨_, rfl⟩
            obtain ⟨C3, hC3⟩ : ∃ C, C = c - m := ⟨_, rfl⟩
            have hsl3 : ∀ w', (Instr.slice 46 (.slice (some ⟨blk, off, none⟩) n c) (some (.int .i64 (m : Int))) none none).run Try.prog w' = .ok (.slice (some ⟨blk, off3, none⟩) R C3) w' := fun w' => by
              rw [run_slice_l (P := Try.prog) w' 46 (some ⟨blk, off, none⟩) n c (by rw [elemN8.elem]; exact elemN8.ht) .i64 (m : Int) (by omega) (by omega), elemN8.elem, elemN8.sizeOf]
              show Result.ok (sliced (some ⟨blk, off, none⟩) (m : Int).toNat n c 1) w' = _
              unfold sliced
              rw [Int.toNat_natCast, if_neg (by omega)]
              show Result.ok (Value.slice (some ((⟨blk, off, none⟩ : Addr).add (m * 1))) (n - m) (c - m)) w' = _
              rw [add_plain, Nat.mul_one, hR, hC3, ho3]
            obtain ⟨d2, hcl, hlow⟩ := SW.clear R m wr dk hsw2.out (by omega)
            have hrun : ∀ ty, (Builtin.clear_ #[46] ty #[.slice (some ⟨blk, off3, none⟩) R C3]).run Try.prog wr = .ok (.tuple #[]) (wr.setCells blk off3 (List.replicate R (.int .u64 0))) := fun ty => by
              refine Lib.run_clear_slice (P := Try.prog) wr 46 22 ty (.int .u64 0) elemN8.ht Try.zeroValue22 rfl rfl blk off3 R C3 (by omega) (fun j hj => ?_) (fun j hj => ?_)
              · have := hsw2.out.cell (t := m + j) (by omega)
                rw [ho3, Nat.add_assoc, this]; rfl
              · have := hsw2.out.frozen (t := m + j) (by omega)
                rw [ho3, Nat.add_assoc]; exact this
            rw [← ho3] at hcl
            have HCL := Lib.hid hcl
            have HLOW := Lib.hid hlow
            have HML := Lib.hid hml
            have HKJ := Lib.hid hkj
            clear hcl hlow hml hkj hR hC3 ho3 hdk
            go_wp2_with fail
            go_ret
            refine ⟨d2, congrArg (fun q => Ending.returned (.slice (some ⟨blk, off, none⟩) q c)) HML.out.symm, HCL.out, fun q hq => ?_⟩
            have hlw := hci.out.low q (by rw [HML.out] at hq; exact hq)
            rw [HKJ.out] at hlw
            rw [hlw, HLOW.out q (by rw [HML.out] at hq; exact hq)]
          case pos =>
            have hd : decide (j < N) = true := by simpa using hjn
            have hdn := HN.out
            have hko := HK0.out
            have hne := HNE.out
            have hdk : dk.size = n := hsw2.out.sz.trans HN.out
            have hmk : m < k + j := by have := hci.out.lt; omega
            have hkjn : k + j < n := by omega
            have hmn : m < n := by omega
            obtain ⟨q, hq⟩ : ∃ q, q = j - 1 := ⟨_, rfl⟩
            obtain ⟨o1, ho1⟩ : ∃ o, o = off2 + j := ⟨_, rfl⟩
            have hqN : q < N := by omega
            obtain ⟨X, hX⟩ : ∃ X, X = d[k + j]! := ⟨_, rfl⟩
            obtain ⟨Y, hY⟩ : ∃ X, X = d[k + q]! := ⟨_, rfl⟩
            have c1 := hsw2.out.cell (t := k + j) (by omega)
            have c2 := hsw2.out.cell (t := k + q) (by omega)
            have c3 := hsw2.out.cell (t := m) (by omega)
            have z3 := hsw2.out.frozen (t := m) (by omega)
            rw [hci.out.high (k + j) (by omega), ← hX, ← Nat.add_assoc, ← HO2.out] at c1
            rw [hci.out.high (k + q) (by omega), ← hY, ← Nat.add_assoc, ← HO2.out] at c2
            have y1 : IntKind.i64.wrap ((j : Int) - 1) = (q : Int) := by rw [IntWalk.i64_in _ (by omega)]; omega
            have y1' : (j : Int) - 1 = (q : Int) := by clear y1; omega
            have HX := Lib.hid hX
            have HY := Lib.hid hY
            have HQ := Lib.hid hq
            have HDK := Lib.hid hdk
            have hrel1 : k0 + j + 1 = k0 + (j + 1) := by clear y1 y1'; omega
            have HR1 := Lib.hid hrel1
            clear hX hY hdn hko hne hdk hq ho1 o1 hrel1
            by_cases hxy : X = Y
            case pos =>
              have hb : (X != Y) = false := by simpa using hxy
              have HCI : Hid (Lib.CompInv d (k0 + (j + 1)) m dk) := by
                show Lib.CompInv d (k0 + (j + 1)) m dk
                rw [← HR1.out]
                refine hci.out.skip (Lib.keeps_neg (by omega) ?_)
                rw [HK0.out, show k + j - 1 = k + q by have := HQ.out; omega, ← HX.out, ← HY.out]; exact hxy
              clear hxy
              go_wp2_with fail
              go_quiet (fail)
              go_wp2_with fail
              go_roundw
              case rel => exact ⟨m, j + 1, dk, Nat.le_succ_of_le hj1, hjn, rfl, by go_num, hsw2.out.same rfl rfl rfl rfl, HCI⟩
              case measure => clear y1 y1'; simp [intOf]; omega
            case neg =>
              have hb : (X != Y) = true := by simpa using hxy
              have HCI : Hid (Lib.CompInv d (k0 + (j + 1)) (m + 1) (dk.setIfInBounds m X)) := by
                show Lib.CompInv d (k0 + (j + 1)) (m + 1) (dk.setIfInBounds m X)
                have h := hci.out.keep (by rw [HK0.out, HN.out]; exact hkjn) (Lib.keeps_pos (by rw [HK0.out, show k + j - 1 = k + q by have := HQ.out; omega, ← HX.out, ← HY.out]; exact hxy))
                rw [HR1.out, HK0.out, ← HX.out, ← HK0.out] at h
                exact h
              clear hxy
              go_wp2_with fail
              go_quiet (fail)
              have HSW2 := Lib.hid (hsw2.out.same (w := wr.drewN nq) rfl rfl rfl rfl)
              have c1' : (World.drewN wr nq).cell? ⟨blk, off2 + j, none⟩ = some (.int .u64 X) := c1
              have c3' : (World.drewN wr nq).cell? ⟨blk, off + m, none⟩ = _ := c3
              have z3' : (World.drewN wr nq).frozen? ⟨blk, off + m, none⟩ = false := z3
              clear c1 c2 c3 z3
              generalize World.drewN wr nq = w2 at *
              go_wp2_with fail
              go_roundw
              case rel => exact ⟨m + 1, j + 1, dk.setIfInBounds m X, Nat.le_succ_of_le hj1, hjn, by go_num, by go_num, HSW2.out.set (by rw [HDK.out]; exact hmn) X rfl rfl rfl rfl, HCI⟩
              case measure => clear y1 y1'; simp [intOf]; omega
end Go.Proofs.Ytmdgmnaaopineaa
/- slices.Compact of a row of one's own; what compacting a sorted list gives. -/
namespace Go.Proofs.Ytmdgmnaaopineaa
open Go.ChangeShapes Go.WideShapes Go.ChangeAt Go.RowKit
set_option linter.unusedVariables false
/-- A list without neighbours that are one. -/
def cpl (l : List Nat) : List Nat := (Lib.compactUpTo (arrOf l) l.length).map Int.toNat
theorem cpl_len (l : List Nat) : (cpl l).length = (Lib.compactUpTo (arrOf l) l.length).length := by simp [cpl]
theorem cpl_upto {l : List Nat} (hs : l.Pairwise (· ≤ ·)) : ∀ m, m ≤ l.length → ((Lib.compactUpTo (arrOf l) m).map Int.toNat).Pairwise (· < ·) ∧ ∀ x, x ∈ (Lib.compactUpTo (arrOf l) m).map Int.toNat ↔ x ∈ l.take m
  | 0, _ => by
    have e : Lib.compactUpTo (arrOf l) 0 = [] := rfl
    rw [e]
    exact ⟨List.Pairwise.nil, fun x => by simp⟩
  | m + 1, h => by
    obtain ⟨h1, h2⟩ := cpl_upto hs m (by omega)
    have hx : l[m]? = some l[m] := List.getElem?_eq_getElem (by omega)
    have htk : l.take (m + 1) = l.take m ++ [l[m]] := by rw [List.take_add_one, hx]; rfl
    rw [Lib.compactUpTo_succ, List.map_append, htk]
    have hd : (arrOf l)[m]! = ((l[m] : Nat) : Int) := arr_at hx
    by_cases hk : Lib.keeps (arrOf l) m = true
    · rw [if_pos hk]
      have he : ([(arrOf l)[m]!] : List Int).map Int.toNat = [l[m]] := by rw [hd]; simp
      rw [he]
      refine ⟨List.pairwise_append.2 ⟨h1, List.pairwise_singleton _ _, fun x hx1 y hy => ?_⟩, fun x => by rw [List.mem_append, List.mem_append, h2]⟩
      simp only [List.mem_singleton] at hy
      subst hy
      obtain ⟨i, hi, rfl⟩ := List.mem_iff_getElem.1 ((h2 x).1 hx1)
      rw [List.length_take] at hi
      rw [List.getElem_take]
      have hm0 : 0 < m := by omega
      have hle1 : l[i] ≤ l[m - 1] := by
        rcases Nat.lt_or_ge i (m - 1) with hlt | hge
        · exact List.pairwise_iff_getElem.1 hs i (m - 1) (by omega) (by omega) hlt
        · have : i = m - 1 := by omega
          subst this; exact Nat.le_refl _
      have hle2 : l[m - 1] ≤ l[m] := List.pairwise_iff_getElem.1 hs (m - 1) m (by omega) (by omega) (by omega)
      have hne : l[m] ≠ l[m - 1] := fun e => by
        have h3 : Lib.keeps (arrOf l) m = false := Lib.keeps_neg hm0 (by rw [hd, arr_at (List.getElem?_eq_getElem (show m - 1 < l.length by omega)), e])
        rw [h3] at hk; cases hk
      omega
    · rw [if_neg hk]
      simp only [List.map_nil, List.append_nil]
      refine ⟨h1, fun x => ?_⟩
      rw [h2, List.mem_append, List.mem_singleton]
      refine ⟨.inl, fun hx1 => ?_⟩
      rcases hx1 with hx1 | rfl
      · exact hx1
      · have hm0 : 0 < m := by
          rcases Nat.eq_zero_or_pos m with h0 | h0
          · subst h0
            exact absurd (by simp [Lib.keeps]) hk
          · exact h0
        have e : l[m] = l[m - 1] := by
          rcases Decidable.em (l[m] = l[m - 1]) with e | e
          · exact e
          · refine absurd (Lib.keeps_pos ?_) hk
            rw [hd, arr_at (List.getElem?_eq_getElem (show m - 1 < l.length by omega))]
            omega
        rw [e]
        exact List.mem_iff_getElem.2 ⟨m - 1, by rw [List.length_take]; omega, by rw [List.getElem_take]⟩
theorem cpl_sorted {l : List Nat} (hs : l.Pairwise (· ≤ ·)) : (cpl l).Pairwise (· < ·) ∧ ∀ x, x ∈ cpl l ↔ x ∈ l := by
  obtain ⟨h1, h2⟩ := cpl_upto hs l.length (Nat.le_refl _)
  exact ⟨h1, fun x => (h2 x).trans (by rw [List.take_length])⟩
theorem cpl_short {l : List Nat} (h : l.length < 2) : cpl l = l := by
  rcases l with _ | ⟨x, _ | ⟨y, l⟩⟩
  · rfl
  · unfold cpl
    have e : Lib.compactUpTo (arrOf [x]) [x].length = [(x : Int)] := by
      rw [show [x].length = 0 + 1 from rfl, Lib.compactUpTo_succ, Lib.keeps_lt_one _ 0 (by decide), if_pos rfl, arr_at (l := [x]) (i := 0) rfl]
      rfl
    rw [e]; simp
  · simp at h; omega
section
variable {w w' : World} {base n c : Nat} {A : Option Addr} {l : List Nat}
theorem own_cut {e : TypeId} {xs : List Value} {m : Nat} (h : w.ownsRow base e 1 (.slice A n c) n xs) (hm : m ≤ n) : w.ownsRow base e 1 (.slice A m c) m (xs.take m) := by
  have hlen : xs.length = n := by have := h.1; simpa using this
  refine ⟨by rw [List.length_take]; omega, ?_⟩
  rcases h.2 with ⟨hv, h0⟩ | ⟨q, cap, cur, hv, hq, hh, hnc, hcm, hcs, htake⟩
  · injection hv with h1 h2 h3
    subst h1; subst h3
    exact .inl ⟨by rw [show m = 0 by omega], by omega⟩
  · injection hv with h1 h2 h3
    subst h1; subst h3
    rw [Nat.mul_one] at htake
    refine .inr ⟨q, c, cur, rfl, hq, hh, by omega, hcm, hcs, ?_⟩
    rw [Nat.mul_one, ← htake, List.take_take, Nat.min_eq_left hm]
theorem SW.ownI {g : Nat} {d' : Array Int} {e : TypeId} (h : SW w w' g 0 (arrOf l) d') (ho : w.ownsRow base e 1 (.slice (some ⟨g, 0, none⟩) n c) n (l.map uv)) : w'.ownsRow base e 1 (.slice (some ⟨g, 0, none⟩) n c) n (d'.toList.map eu) := by
  have hn : l.length = n := by have := ho.1; simpa using this
  have hsz : d'.size = n := by have := h.sz; rw [arr_size] at this; omega
  refine ⟨by simp [hsz], ?_⟩
  rcases ho.2 with ⟨hv, h0⟩ | ⟨q, cap, cur, hv, hq, hh, hnc, hcm, hcs, htake⟩
  · injection hv with h1; cases h1
  · injection hv with h1 _ h3
    injection h1 with h1
    injection h1 with h1
    subst h1; subst h3
    rw [Nat.mul_one] at htake hcs
    have hrow := h.row
    refine .inr ⟨g, c, Sort.putCells eu 0 d' cur, rfl, hq, ?_, hnc, hcm, by simpa [Sort.putCells] using hcs, ?_⟩
    · rw [hrow]
      unfold Sort.putRow Sort.mapBlock
      simp only [Array.getElem?_modify, if_true, hh]
      rfl
    · apply List.ext_getElem?
      intro i
      rw [Nat.mul_one, List.getElem?_take]
      by_cases hi : i < n
      · rw [if_pos hi, List.getElem?_map, List.getElem?_eq_getElem (show i < d'.toList.length by simp [hsz]; omega)]
        have hcl : i < cur.size := by
          have h2 := congrArg List.length htake
          simp only [List.length_take, List.length_map, Array.length_toList] at h2
          omega
        simp only [Sort.putCells, Array.getElem?_toList, Array.getElem?_mapIdx, Array.getElem?_eq_getElem hcl, Option.map_some]
        rw [if_pos ⟨Nat.zero_le _, by omega⟩, Nat.sub_zero, getElem!_pos _ i (by omega)]
        simp
      · rw [if_neg hi, List.getElem?_map, List.getElem?_eq_none (show d'.toList.length ≤ i by simp [hsz]; omega)]
        rfl
/-- What slices.Compact of a row of one's own ends in. -/
def Cpted (w : World) (base : Nat) (A : Option Addr) (n c : Nat) (l : List Nat) (e : Ending) (w' : World) : Prop :=
  e = .returned (.slice A (cpl l).length c) ∧ w'.ownsRow base 22 1 (.slice A (cpl l).length c) (cpl l).length ((cpl l).map uv) ∧ Chg (fun k => some k = (Value.slice A n c).ownBlock) w w'
theorem compact_short (A : Option Addr) (n c : Nat) (w : World) (h : n < 2) : Calls Try.prog 122 #[.slice A n c] w fun e w' => e = .returned (.slice A n c) ∧ w = w' := by
  have hd : decide ((n : Int) < 2) = true := by simp; omega
  go_enter Try.func122, Try.ntmps122
  go_wp2_with fail
  go_ret
  exact ⟨rfl, rfl⟩
theorem compact_own (h : w.ownsRow base 22 1 (.slice A n c) n (l.map uv)) (hn : n < 65536) : Calls Try.prog 122 #[.slice A n c] w (Cpted w base A n c l) := by
  have hlen : l.length = n := by have := h.1; simpa using this
  by_cases h2 : n < 2
  · refine (compact_short A n c w h2).mono fun e w' ⟨he, hw⟩ => ?_
    unfold Cpted
    rw [cpl_short (by omega), hlen]
    exact ⟨he, hw ▸ h, hw ▸ Chg.refl _ _⟩
  · rcases h.2 with ⟨_, hx⟩ | ⟨q, cap, cur, hv, hq, hh, hnc, hcm, hcs, htake⟩
    · omega
    · injection hv with h1 _ h3
      subst h1; subst h3
      rw [Nat.mul_one] at htake
      have hb : Blk w q 22 cur := hh
      have hH := uv_holds hb (by rw [hlen]; exact htake)
      refine (compact_row hH hb.lt (by rw [arr_size]; exact hlen) hn (by omega) hnc hcm).mono ?_
      rintro e w' ⟨d', rfl, h1, h2⟩
      rw [← hlen, ← cpl_len] at h2
      have hle := cpt_le (arrOf l) l.length
      rw [← cpl_len] at hle
      have hown := own_cut (h1.ownI h) (m := (cpl l).length) (by omega)
      have hvals : (d'.toList.map eu).take (cpl l).length = (cpl l).map uv := by
        have hsz : d'.size = n := by have := h1.sz; rw [arr_size] at this; omega
        apply List.ext_getElem?
        intro i
        rw [List.getElem?_take]
        by_cases hi : i < (cpl l).length
        · rw [if_pos hi, List.getElem?_map, List.getElem?_map, Array.getElem?_toList, Array.getElem?_eq_getElem (by omega)]
          have h3 := h2 i hi
          rw [getElem!_pos _ i (by omega)] at h3
          unfold cpl
          rw [List.getElem?_map, h3]
          have h4 : ∃ x : Nat, d'[i] = (x : Int) := by
            have h5 := List.mem_of_getElem? h3
            unfold Lib.compactUpTo at h5
            obtain ⟨j, hj, hje⟩ := List.mem_map.1 h5
            have hj2 : j < l.length := List.mem_range.1 (List.mem_filter.1 hj).1
            rw [arr_at (List.getElem?_eq_getElem hj2)] at hje
            exact ⟨_, hje.symm⟩
          obtain ⟨x, hx⟩ := h4
          simp only [Option.map_some, hx, Int.toNat_natCast]
          rfl
        · rw [if_neg hi, List.getElem?_eq_none (by simpa using hi)]
      rw [hvals] at hown
      unfold Cpted
      rw [cpl_len] at hown ⊢
      rw [← hlen]
      refine ⟨rfl, hown, h1.ch.more fun k _ hk => by rw [show k = q from hk]; rfl⟩
end
end Go.Proofs.Ytmdgmnaaopineaa
/- What proj.Swap does with the copy: its function literal. -/
namespace Go.Proofs.Ytmdgmnaaopineaa
open Go.ChangeShapes Go.WideShapes Go.ChangeAt Go.RowKit
set_option linter.unusedVariables false
theorem Blk.chg {F : Dom} {w w' : World} {g : Nat} {t : TypeId} {cs : Array Value} (h : Blk w g t cs) (hc : Chg F w w') (hF : ¬ F g) : Blk w' g t cs := (hc.block g h.lt hF).trans h
section
variable {A : Option Addr} {n c e2 base go q0 q1 old node : Nat} {l : List Stp} {w : World}
set_option maxRecDepth 100000 in
set_option maxHeartbeats 4000000 in
theorem swap2_any (h : OQ w base A n c l) (hb : base ≤ w.heap.size) (hgo : base ≤ go) (hk : Blk w go 25 (prjV e2 A n c)) (ha : Blk w q0 22 #[.int .u64 (old : Int)]) (hl : Blk w q1 22 #[.int .u64 (node : Int)]) (ha2 : q0 < base) (hl2 : q1 < base)
    (hn : n ≤ 1000) (hok : ∀ (i : Nat) s, l[i]? = some s → SOk s) (hnode : node ≤ 18446744073709551615) :
    Calls Try.prog 125 #[.pointer (some ⟨go, 0, none⟩), .pointer (some ⟨q0, 0, none⟩), .pointer (some ⟨q1, 0, none⟩)] w (Turns w base go e2 (swL old node l)) := by
  have hlen := h.len
  have HN := Lib.hid hlen
  have H0 := Lib.hid h
  have HK := Lib.hid hk
  have HA := Lib.hid ha
  have HL := Lib.hid hl
  have HOK := Lib.hid hok
  have k1 := hk.cell 1
  clear h hk ha hl hok hlen
  go_enter Try.func125, Try.ntmps125
  go_wp2_with fail
  clear k1
  go_loopw [14] (fun vi wr => ∃ (k : Nat) (L : List Stp), k ≤ n ∧ vi = .int .i64 k ∧ Hid (Upd (swS old node) l k L) ∧ Hid (OQ wr base A n c L) ∧ Hid (Blk wr go 25 (prjV e2 A n c)) ∧ Hid (Blk wr q0 22 #[.int .u64 (old : Int)]) ∧ Hid (Blk wr q1 22 #[.int .u64 (node : Int)]) ∧ Hid (Below base w wr)) (fun vi _ => n - (intOf vi).toNat)
  case atStart => exact ⟨0, l, Nat.zero_le _, rfl, Upd.zero _ _, H0.out, HK.out, HA.out, HL.out, Below.refl _ _⟩
  case round =>
    clear H0 HK HA HL
    obtain ⟨k, L, hkn', rfl, hupd, hoq, hkb, hka, hkl, hbel⟩ := hrel
    have hzr : base ≤ wr.heap.size := Nat.le_trans hb hbel.out.size
    by_cases hkn : k < n
    case neg =>
      have hd : decide (k < n) = false := by simpa using hkn
      obtain rfl : k = n := by omega
      go_wp2_with fail
      go_end0
      have e := hupd.out.all (by have := HN.out; omega)
      refine ⟨rfl, A, k, c, hkb.out, ?_, hbel.out⟩
      have h := hoq.out.os
      rw [e] at h
      exact h
    case pos =>
      have hd : decide (k < n) = true := by simpa using hkn
      have hkI : (0 : Int) ≤ (k : Int) := by omega
      have hkI2 : (k : Int) < (n : Int) := by omega
      obtain ⟨s, hs⟩ : ∃ s, l[k]? = some s := ⟨_, List.getElem?_eq_getElem (by have := HN.out; omega)⟩
      have hso := HOK.out k s hs
      have hL := hupd.out.at hs
      obtain ⟨gm, A', c', hA, hgm0, hgm1, g0, g1, g2, hs1, hs2, hsl, hrow⟩ := hoq.out.at hL
      subst hA
      obtain ⟨sf, hsf⟩ : ∃ sf, sf = s.1 := ⟨_, rfl⟩
      obtain ⟨st, hst⟩ : ∃ st, st = s.2.1 := ⟨_, rfl⟩
      obtain ⟨ss, hss⟩ : ∃ ss, ss = s.2.2 := ⟨_, rfl⟩
      have es : s = (sf, st, ss) := by rw [hsf, hst, hss]
      rw [← hsf] at g0 hs1
      rw [← hst] at g1 hs2
      rw [← hss] at g2 hsl hrow
      subst es
      obtain ⟨sn, hsn⟩ : ∃ sn, sn = ss.length := ⟨_, rfl⟩
      rw [← hsn] at g2 hsl
      have HSN := Lib.hid hsn
      have HX := Lib.hid hs
      have HSO := Lib.hid hso
      have HROW := Lib.hid hrow
      have hba := below1 wr (.cells (stpV sf st A' sn c') 31)
      have HRW := Lib.hid (keepS hsl hba)
      have HKS := Lib.hid (blk11 wr 31 (stpV sf st A' sn c'))
      have HBA := Lib.hid hba
      clear hs hrow hsl hsf hst hss hba hso hsn hL
      go_upto_region 3 with (fail)
      generalize World.alloc wr _ = w4 at *
      have hz4 := HBA.out.size
      have v0 := (show Blk w4 _ _ _ from HKS.out).cell 0
      have v1 := (show Blk w4 _ _ _ from HKS.out).cell 1
      have v2 := (show Blk w4 _ _ _ from HKS.out).cell 2
      have a0 : w4.cell? ⟨q0, 0, none⟩ = some (.int .u64 (old : Int)) := (keepB (show Blk wr q0 22 _ from hka.out) HBA.out).cell 0
      clear g0 g1 g2
      go_wp2_with fail
      refine (stset_any (x := old) HRW.out.1 HRW.out.2 HSO.out hs1 hs2).mono ?_; rintro en w5 ⟨i, q, rfl, hat, hb5⟩
      have HAT := Lib.hid hat
      have hb45 := stepB HBA.out hb5
      have HB5 := Lib.hid hb45
      have HB05 := Lib.hid (hbel.out.trans (hb45.mono hzr))
      have hks5 := keepB (show Blk w4 wr.heap.size 31 _ from HKS.out) hb5
      have hka5 := keepB (show Blk wr q0 22 _ from hka.out) hb45
      have hkl5 := keepB (show Blk wr q1 22 _ from hkl.out) hb45
      have hkb5 := keepB (show Blk wr go 25 _ from hkb.out) hb45
      have HKB5 := Lib.hid hkb5
      have HKA5 := Lib.hid hka5
      have HKL5 := Lib.hid hkl5
      clear v0 v1 v2 a0 hat
      cases q
      case false =>
        have HU := Lib.hid (hupd.out.same HX.out (swS_none HAT.out))
        have HQ := Lib.hid (hoq.out.below hb45)
        clear hb5 hb45 hks5 hka5 hkl5 hkb5
        go_wp2_with fail
        go_roundw
        case rel => exact ⟨k + 1, L, hkn, by go_num, HU, HQ, HKB5, HKA5, HKL5, HB05⟩
        case measure => simp [intOf]; omega
      case true =>
        obtain ⟨hi, o, ho, hmem⟩ := HAT.out.1 rfl
        have hpw := set_pairs HSO.out ho
        have hom := (HSO.out.2.2.2.2 i o ho).2.1
        obtain ⟨gs, g, cx, hA', hR⟩ := HROW.out i o ho (fun e => by rw [e] at hmem; simp at hmem)
        subst hA'
        have HR := Lib.hid hR
        have HPW := Lib.hid hpw
        have HO := Lib.hid ho
        obtain ⟨m, hm⟩ : ∃ m, m = o.length := ⟨_, rfl⟩
        have HM := Lib.hid hm
        have hcell := (hb45.cell (p := ⟨gs, i, none⟩) hR.gs1).trans hR.cell
        have hown := keepO hR.own hb45
        rw [← hm] at hcell hown hom
        have HOWN := Lib.hid hown
        have hsr := own_u64 hown hR.lt
        obtain ⟨idx, hidx⟩ := List.getElem?_of_mem hmem
        have hun : ∀ j, o[j]? = some old → j = idx := fun j hj => by
          obtain ⟨hil, hie⟩ := List.getElem?_eq_some_iff.1 hidx
          obtain ⟨hjl, hje⟩ := List.getElem?_eq_some_iff.1 hj
          rcases Nat.lt_trichotomy j idx with h3 | h3 | h3
          · have := List.pairwise_iff_getElem.1 hpw j idx hjl hil h3; omega
          · exact h3
          · have := List.pairwise_iff_getElem.1 hpw idx j hil hjl h3; omega
        have HIX : Hid (∀ u, Below w5.heap.size w5 u → Calls Try.prog 126 #[.slice (some ⟨g, 0, none⟩) m cx, .int .u64 (old : Int)] u fun e w' => e = .returned (.int .i64 (idx : Int)) ∧ u = w') := fun u hu => by
          refine (index_any old (Rp.sl_below hsr hu (own_dom hown))).mono fun e w' ⟨r, hr, he, hw⟩ => ⟨?_, hw⟩
          rcases hr with ⟨j, rfl, hj, _⟩ | ⟨_, hno⟩
          · rw [he, hun j hj]
          · exact absurd hmem hno
        have hidl : idx < m := by rw [hm]; exact (List.getElem?_eq_some_iff.1 hidx).1
        obtain ⟨_, curg, e1, _, hbg, gx, _⟩ := own_cell hown (j := idx) (u := uv old) (by rw [List.getElem?_map, hidx]; rfl)
        injection e1 with e1
        injection e1 with e1
        subst e1
        have gf := hbg.frozen idx
        have v2 := hks5.cell 2
        have hiI : (0 : Int) ≤ (i : Int) := by omega
        have hiI2 : (i : Int) < (sn : Int) := by have := HSN.out; omega
        have hidI : (0 : Int) ≤ (idx : Int) := by omega
        have hidI2 : (idx : Int) < (m : Int) := by omega
        have hgne : g ≠ go := by rintro rfl; exact absurd (blk_type hbg hkb5) (by decide)
        have HIDX := Lib.hid hidx
        have a0 : w5.cell? ⟨q0, 0, none⟩ = some (.int .u64 (old : Int)) := hka5.cell 0
        have l0 : w5.cell? ⟨q1, 0, none⟩ = some (.int .u64 (node : Int)) := hkl5.cell 0
        have hg0 := hR.g0
        have hg5 := hbg.lt
        -- the world behind the store
        have HOS : Hid ((w5.setCell ⟨g, idx, none⟩ (uv node)).ownsRow base 22 1 (.slice (some ⟨g, 0, none⟩) m cx) m ((o.set idx node).map uv)) := by
          have h := own_put hown idx (uv node)
          rw [← List.map_set] at h
          exact h
        have HCS : Hid (Chg (fun q => q = g) w5 (w5.setCell ⟨g, idx, none⟩ (uv node))) := (Chg.refl (fun q => q = g) w5).setCell (p := ⟨g, idx, none⟩) (.inl rfl) _
        clear hb5 hks5 hka5 hkl5 hkb5 hR hpw ho hm hown hsr hidx hun hmem hi hbg hb45
        go_upto_region 6 with (fail)
        clear v2 hcell
        go_region_law ((go_simp; refine (HIX.out _ ((Below.refl _ _).drew)).mono ?_; rintro en w6 ⟨rfl, rfl⟩; dsimp only))
        all_goals
          have HOD : Hid ((w5.setCell ⟨g, idx, none⟩ (.int .u64 (node : Int))).drew.ownsRow base 22 1 (.slice (some ⟨g, 0, none⟩) m cx) m ((o.set idx node).map uv)) := HOS.out
          have HCD : Hid (Chg (fun q => q = g) w5 (w5.setCell ⟨g, idx, none⟩ (.int .u64 (node : Int))).drew) := HCS.out.drew
          clear HOS HCS a0 l0 gx gf
          generalize World.drew (World.setCell w5 _ _) = w6 at *
          go_wp2_with fail
          refine (sort_own (l := o.set idx node) HOD.out (by omega)).mono ?_; rintro en w7 ⟨r, rfl, hp, hsr, ho, hc⟩
          have hc7 : Chg (fun q => q = g) w5 w7 := HCD.out.trans (hc.more (fun q _ hq => by injection hq))
          obtain rfl : r = sw old node o := sw_set HPW.out HIDX.out hp hsr
          have hcr : Chg (fun q => q = g) wr w7 := (Chg.of_pure HB5.out _).trans hc7
          rw [HM.out] at ho
          have hq := HR.out.turn w7 (sw old node o) (sw_len _ _ _) (fun y hy => by
            rcases sw_mem hy with rfl | hy
            · omega
            · exact HR.out.lt y hy) hcr ho
          have e := swS_at (node := node) HSO.out HAT.out HO.out
          dsimp only at e hq
          rw [← e] at hq
          have HQ := Lib.hid hq
          have HC7 := Lib.hid hc7
          clear hp hsr ho hc hc7 hcr hq e
          go_wp2_with fail
          go_roundw
          case rel => exact ⟨k + 1, L.set k (swS old node (sf, st, ss)), hkn, by go_num, hupd.out.step HX.out, HQ.out, Blk.chg HKB5.out HC7.out (fun e => hgne e.symm), Blk.chg HKA5.out HC7.out (fun e => by omega), Blk.chg HKL5.out HC7.out (fun e => by omega), HB05.out.trans (HC7.out.below (Nat.le_trans hb HB05.out.size) (fun q hq => by omega))⟩
          case measure => simp [intOf]; omega
end
end Go.Proofs.Ytmdgmnaaopineaa
/- slices.ContainsFunc over stripes, at proj.Swap's literal: whether a stripe has a node. -/
namespace Go.Proofs.Ytmdgmnaaopineaa
open Go.ChangeShapes Go.WideShapes Go.ChangeAt Go.RowKit
set_option linter.unusedVariables false
/-- Whether one of the first k stripes has the node. -/
def MetIn (l : List Stp) (old k : Nat) : Prop := ∃ (i : Nat) (s : Stp) (j : Nat) (o : List Nat), i < k ∧ l[i]? = some s ∧ s.2.2[j]? = some o ∧ old ∈ o
theorem metIn_zero (l : List Stp) (old : Nat) : ¬ MetIn l old 0 := fun ⟨i, _, _, _, h, _⟩ => absurd h (Nat.not_lt_zero _)
theorem metIn_all {l : List Stp} {old n : Nat} (hn : l.length = n) : MetIn l old n ↔ Met l old := ⟨fun ⟨i, s, j, o, _, a, b, c⟩ => ⟨i, s, j, o, a, b, c⟩, fun ⟨i, s, j, o, a, b, c⟩ => ⟨i, s, j, o, by have := (List.getElem?_eq_some_iff.1 a).1; omega, a, b, c⟩⟩
theorem metIn_yes {l : List Stp} {old k i : Nat} {s : Stp} (hs : l[k]? = some s) (ha : AtSet s.2.2 old s.2.2.length i true) : MetIn l old (k + 1) := by
  obtain ⟨_, o, b, c⟩ := ha.1 rfl
  exact ⟨k, s, i, o, by omega, hs, b, c⟩
theorem metIn_no {l : List Stp} {old k i : Nat} {s : Stp} (h : ¬ MetIn l old k) (hs : l[k]? = some s) (ha : AtSet s.2.2 old s.2.2.length i false) : ¬ MetIn l old (k + 1) := by
  rintro ⟨i', s', j, o, a, b, c, d⟩
  by_cases hi : i' = k
  · subst hi
    rw [hs] at b
    injection b with b
    subst b
    exact (ha.2 rfl).2 j o (List.getElem?_eq_some_iff.1 c).1 c d
  · exact h ⟨i', s', j, o, by omega, b, c, d⟩
theorem metIn_old {l : List Stp} {old k : Nat} (h : MetIn l old k) : MetIn l old (k + 1) := by
  obtain ⟨i', s', j, o, a, b, c, d⟩ := h
  exact ⟨i', s', j, o, by omega, b, c, d⟩
section
variable {D : Dom} {A : Option Addr} {n c f t g x : Nat} {sets : List (List Nat)} {w : World} {l : List Stp}
set_option maxRecDepth 100000 in
set_option maxHeartbeats 1000000 in
theorem swap1_any (hs : (rpSlice rpU64).sl w D A n c sets) (hD : ∀ k, D k → k < w.heap.size) (hok : SOk (f, t, sets)) (hf : f ≤ 18446744073709551615) (ht : t ≤ 18446744073709551615) (hg : w.cell? ⟨g, 0, none⟩ = some (.int .u64 (x : Int))) (hgl : g < w.heap.size) :
    Calls Try.prog 123 #[.agg (stpV f t A n c), .pointer (some ⟨g, 0, none⟩)] w fun e w' => ∃ i q, e = .returned (.bool q) ∧ AtSet sets x sets.length i q ∧ Below w.heap.size w w' := by
  have hb0 := below1 w (.cells (stpV f t A n c) 31)
  have HST := Lib.hid (stset_any (x := x) (Rp.sl_below hs hb0 hD) (fun k hk => Nat.lt_of_lt_of_le (hD k hk) hb0.size) hok hf ht)
  have g0 := (hb0.cell (p := ⟨g, 0, none⟩) hgl).trans hg
  have HB := Lib.hid hb0
  have HK := Lib.hid (blk11 w 31 (stpV f t A n c))
  clear hs hD hok hb0 hg
  go_enter Try.func123, Try.ntmps123
  go_upto_region 1 with (fail)
  generalize World.alloc w _ = w0 at *
  have k0 := (show Blk w0 w.heap.size 31 _ from HK.out).cell 0
  have k1 := (show Blk w0 w.heap.size 31 _ from HK.out).cell 1
  have k2 := (show Blk w0 w.heap.size 31 _ from HK.out).cell 2
  go_wp2_with fail
  refine HST.out.mono ?_; rintro e w1 ⟨i, q, rfl, hat, hb⟩
  have HAT := Lib.hid hat
  have HB1 := Lib.hid (stepB HB.out hb)
  clear hat hb k0 k1 k2 g0
  go_wp2_with fail
  go_ret
  exact ⟨i, q, rfl, HAT.out, HB1.out⟩
set_option maxRecDepth 100000 in
set_option maxHeartbeats 2000000 in
theorem sfind_any (hs : rpStp.sl w D A n c l) (hD : ∀ k, D k → k < w.heap.size) (hn : n ≤ 1000) (hok : ∀ (i : Nat) s, l[i]? = some s → SOk s) (hg : w.cell? ⟨g, 0, none⟩ = some (.int .u64 (x : Int))) (hgl : g < w.heap.size) :
    Calls Try.prog 145 #[.slice A n c, .func (Fn.func 123) #[] #[.pointer (some ⟨g, 0, none⟩)]] w fun e w' => ∃ r : Int, e = .returned (.int .i64 r) ∧ (0 ≤ r ∧ Met l x ∨ r = -1 ∧ ¬ Met l x) ∧ Below w.heap.size w w' := by
  have HN := Lib.hid (Rp.sl_len hs).1
  have HS := Lib.hid (show Sl rpStp w D A n c l from ⟨hs, hD⟩)
  have HG := Lib.hid hg
  have HOK := Lib.hid hok
  clear hs hg hD hok
  go_enter Try.func145, Try.ntmps145
  go_wp2_with fail
  go_loopw [8] (fun vi wr => ∃ k : Nat, k ≤ n ∧ vi = .int .i64 k ∧ Hid (¬ MetIn l x k) ∧ Hid (Below w.heap.size w wr)) (fun vi _ => n - (intOf vi).toNat)
  case atStart => exact ⟨0, Nat.zero_le _, rfl, metIn_zero _ _, Below.refl _ _⟩
  case round =>
    obtain ⟨k, hkn', rfl, hat, hbel⟩ := hrel
    have hzr := hbel.out.size
    by_cases hkn : k < n
    case pos =>
      have hd : decide (k < n) = true := by simpa using hkn
      have hsr := keepS HS.out hbel.out
      obtain ⟨bo, off, s, A3, c3, rfl, hbD, hx, g0, g1, g2, hrow, hs1, hs2⟩ := stps_at hsr.1 hkn
      have hso := HOK.out k s hx
      obtain ⟨sf, hsf⟩ : ∃ sf, sf = s.1 := ⟨_, rfl⟩
      obtain ⟨st, hst⟩ : ∃ st, st = s.2.1 := ⟨_, rfl⟩
      obtain ⟨ss, hss⟩ : ∃ ss, ss = s.2.2 := ⟨_, rfl⟩
      have es : s = (sf, st, ss) := by rw [hsf, hst, hss]
      rw [← hsf] at g0 hs1
      rw [← hst] at g1 hs2
      rw [← hss] at g2 hrow
      subst es
      have HX := Lib.hid hx
      have HC := Lib.hid (swap1_any (x := x) (g := g) hrow hsr.2 hso hs1 hs2 ((hbel.out.cell (p := ⟨g, 0, none⟩) hgl).trans HG.out) (by omega))
      have hkI : (0 : Int) ≤ (k : Int) := by omega
      have hkI2 : (k : Int) < (n : Int) := by omega
      obtain ⟨sn, hsn⟩ : ∃ sn, sn = ss.length := ⟨_, rfl⟩
      rw [← hsn] at g2 HC
      have HSN := Lib.hid hsn
      clear hrow hx hbD hsr hso hsf hst hss hsn
      go_wp2_with fail
      refine HC.out.mono ?_; rintro e w1 ⟨i, q, rfl, hai, hb1⟩
      have HB1 := Lib.hid (stepB hbel.out hb1)
      rw [HSN.out] at hai
      cases q
      case true =>
        have HM := Lib.hid ((metIn_all HN.out).1 (show MetIn l x n from by
          obtain ⟨i', s', j, o, a, b, c, d⟩ := metIn_yes HX.out hai
          exact ⟨i', s', j, o, by omega, b, c, d⟩))
        clear hai hb1 g0 g1 g2
        go_wp2_with fail
        go_ret
        exact ⟨(k : Int), rfl, .inl ⟨by omega, HM.out⟩, HB1.out⟩
      case false =>
        have HM := Lib.hid (metIn_no hat.out HX.out hai)
        clear hai hb1 g0 g1 g2
        go_wp2_with fail
        go_roundw
        case rel => exact ⟨k + 1, hkn, by go_num, HM, HB1⟩
        case measure => simp [intOf]; omega
    case neg =>
      have hd : decide (k < n) = false := by simpa using hkn
      obtain rfl : k = n := by omega
      go_wp2_with fail
      go_ret
      exact ⟨-1, rfl, .inr ⟨rfl, fun h => hat.out ((metIn_all HN.out).2 h)⟩, hbel.out⟩
set_option maxRecDepth 100000 in
set_option maxHeartbeats 1000000 in
theorem scont_any (hs : rpStp.sl w D A n c l) (hD : ∀ k, D k → k < w.heap.size) (hn : n ≤ 1000) (hok : ∀ (i : Nat) s, l[i]? = some s → SOk s) (hg : w.cell? ⟨g, 0, none⟩ = some (.int .u64 (x : Int))) (hgl : g < w.heap.size) :
    Calls Try.prog 124 #[.slice A n c, .func (Fn.func 123) #[] #[.pointer (some ⟨g, 0, none⟩)]] w fun e w' => e = .returned (.bool (dec (Met l x))) ∧ Below w.heap.size w w' := by
  have HF := Lib.hid (sfind_any (x := x) hs hD hn hok hg hgl)
  clear hs hD hok hg
  go_enter Try.func124, Try.ntmps124
  go_wp2_with fail
  refine HF.out.mono ?_; rintro e w1 ⟨r, rfl, hr, hb⟩
  have HB := Lib.hid hb
  clear hb
  rcases hr with ⟨h1, h2⟩ | ⟨rfl, h2⟩
  · have hd : decide ((0 : Int) ≤ r) = true := by simpa using h1
    have HM := Lib.hid h2
    clear h2
    go_wp2_with fail
    go_ret
    exact ⟨by rw [dec_true HM.out]; rfl, HB.out⟩
  · have HM := Lib.hid h2
    clear h2
    go_wp2_with fail
    go_ret
    exact ⟨by rw [dec_false HM.out]; rfl, HB.out⟩
end
end Go.Proofs.Ytmdgmnaaopineaa
/- proj.Swap. -/
namespace Go.Proofs.Ytmdgmnaaopineaa
open Go.ChangeShapes Go.WideShapes Go.ChangeAt Go.RowKit
set_option linter.unusedVariables false
theorem pOk_len2 {p : Prj} (h : POk p) : ∀ s ∈ p.2, s.2.2.length ≤ 1000 ∧ ∀ (j : Nat) y, s.2.2[j]? = some y → y.length ≤ 1000 := fun s hs => by
  obtain ⟨i, hi⟩ := List.getElem?_of_mem hs
  have hok := pOk_at h hi
  refine ⟨by have := hok.2.2.2.1; omega, fun j y hy => ?_⟩
  have := (hok.2.2.2.2 j y hy).2.1
  omega
def SwapIs (p : Prj) (old node : Nat) (w : World) (en : Ending) (w' : World) : Prop :=
  ∃ A2 n2 c2, en = .returned (.tuple #[.agg (prjV (swapP p old node).1.1 A2 n2 c2), .int .i64 (swapP p old node).2]) ∧ rpStp.sl w' (fun k => k < w'.heap.size) A2 n2 c2 (swapP p old node).1.2 ∧ Below w.heap.size w w'
theorem swapIs_zero {p : Prj} {old node : Nat} {w w' : World} {cd : Int} (h : swapP p old node = ((0, []), cd)) (hb : Below w.heap.size w w') : SwapIs p old node w (.returned (.tuple #[.agg (prjV 0 none 0 0), .int .i64 cd])) w' := by
  unfold SwapIs
  rw [h]
  exact ⟨none, 0, 0, rfl, Rp.sl_nil _ _ _ _ _ (by decide), hb⟩
section
variable {D : Dom} {A : Option Addr} {n c e old node : Nat} {l : List Stp} {w : World}
theorem swapIs_next {w0 w' : World} {en : Ending} {base : Nat} (hok : POk (e, l)) (h2 : Met l old) (h : NextB w0 base (e + 1) (swL old node l) en w') (hbw : Below w.heap.size w w') : SwapIs (e, l) old node w en w' := by
  obtain ⟨e3, A2, n2, c2, l2, cd, rfl, ho, _, r1, r2, r3⟩ := h
  by_cases he : EOk (e + 1)
  · by_cases hp : POk (e + 1, swL old node l)
    · obtain ⟨rfl, rfl, rfl⟩ := r1 he hp
      have hg := swapP_0 (p := (e, l)) hok h2 he hp
      unfold SwapIs
      rw [hg]
      exact ⟨_, _, _, rfl, OL.sl ho, hbw⟩
    · obtain ⟨rfl, rfl, rfl⟩ := r2 he hp
      have hg := swapP_3 (p := (e, l)) hok h2 he hp
      unfold SwapIs
      rw [hg]
      exact ⟨_, _, _, rfl, OL.sl ho, hbw⟩
  · obtain ⟨rfl, rfl, rfl⟩ := r3 he
    have hg := swapP_18 (p := (e, l)) (node := node) hok h2 he
    unfold SwapIs
    rw [hg]
    exact ⟨_, _, _, rfl, OL.sl ho, hbw⟩
set_option maxRecDepth 100000 in
set_option maxHeartbeats 4000000 in
theorem swap_any (hs : rpStp.sl w D A n c l) (hD : ∀ k, D k → k < w.heap.size) (he : e ≤ 18446744073709551615) (ho : old ≤ 18446744073709551615) (hnd : node ≤ 18446744073709551615) :
    Calls Try.prog 73 #[.agg (prjV e A n c), .int .u64 (old : Int), .int .u64 (node : Int)] w (SwapIs (e, l) old node w) := by
  have H : Hid ((Try.prog.info? 25).map (·.size) = some 2) := by unfold Hid; kernel_rfl
  obtain ⟨k1, k2, k3, k4, hb, hz⟩ := four_blks w (prjV e A n c) #[.int .u64 (old : Int)] #[.int .u64 (node : Int)] (prjV 0 none 0 0) 25 22 22 25
  have hlen := (Rp.sl_len hs).1
  have HN := Lib.hid hlen
  have K1 := Lib.hid k1
  have K2 := Lib.hid k2
  have K3 := Lib.hid k3
  have K4 := Lib.hid k4
  have HB := Lib.hid hb
  have HZ := Lib.hid hz
  have HS := Lib.hid (keepS (show Sl rpStp w D A n c l from ⟨hs, hD⟩) hb)
  have hr := pright_any (e := e) (Rp.sl_below hs hb hD) (fun k hk => Nat.lt_of_lt_of_le (hD k hk) hb.size) he
  clear k1 k2 k3 k4 hs hD
  by_cases hok : POk (e, l)
  case neg =>
    rw [dec_false hok] at hr
    have HR := Lib.hid hr
    have HNO := Lib.hid (swapP_no (old := old) (node := node) hok)
    clear hr hok hb hz hlen
    go_enter Try.func73, Try.ntmps73
    go_upto_region 1 with (fail)
    generalize World.alloc (World.alloc (World.alloc (World.alloc w _) _) _) _ = w0 at *
    have p0 := (show Blk w0 w.heap.size 25 _ from K1.out).cell 0
    have p1 := (show Blk w0 w.heap.size 25 _ from K1.out).cell 1
    go_wp2_with fail
    refine HR.out.mono ?_; rintro en w1 ⟨rfl, hb1⟩
    have HB1 := Lib.hid (stepB HB.out hb1)
    have K41 := Lib.hid (keepB (show Blk w0 _ 25 _ from K4.out) hb1)
    clear hb1 p0 p1
    go_wp2_with (refine wpList_put_row rfl 25 (.tmp 6) (.tmp 12) rfl (w.heap.size + 1 + 1 + 1) _ rfl rfl 25 _ (show Blk _ _ _ _ from K41.out) H.out rfl (by simp [Value.oneCell']) ?_; intro w5 hblk hgr)
    have hbz : Below w.heap.size w w5 := HB1.out.grown hgr HB1.out.size (fun k hk => by injection hk with hk; omega)
    have f0 := hblk.cell 0
    have f1 := hblk.cell 1
    exact bodyPost_ret (v := .tuple #[.agg (prjV 0 none 0 0), .int .i64 3]) (by simp [results, Try.results73, go_sem, f0, f1]) rfl (swapIs_zero HNO.out hbz)
  rw [dec_true hok] at hr
  have HR := Lib.hid hr
  have HOK := Lib.hid hok
  have HEO := Lib.hid hok.1.1.1
  have hn64 : n ≤ 64 := by have := hok.1.1.2.2; simp only at this; omega
  have HSO : Hid (∀ (i : Nat) s, l[i]? = some s → SOk s) := fun i s hs => pOk_at HOK.out hs
  clear hr hok hb hz hlen
  go_enter Try.func73, Try.ntmps73
  go_upto_region 1 with (fail)
  generalize World.alloc (World.alloc (World.alloc (World.alloc w _) _) _) _ = w0 at *
  have p0 := (show Blk w0 w.heap.size 25 _ from K1.out).cell 0
  have p1 := (show Blk w0 w.heap.size 25 _ from K1.out).cell 1
  go_wp2_with fail
  refine HR.out.mono ?_; rintro en w1 ⟨rfl, hb1⟩
  have HB1 := Lib.hid (stepB HB.out hb1)
  have K11 := Lib.hid (keepB (show Blk w0 w.heap.size 25 _ from K1.out) hb1)
  have K21 := Lib.hid (keepB (show Blk w0 (w.heap.size + 1) 22 #[.int .u64 (old : Int)] from K2.out) hb1)
  have K31 := Lib.hid (keepB (show Blk w0 (w.heap.size + 1 + 1) 22 #[.int .u64 (node : Int)] from K3.out) hb1)
  have K41 := Lib.hid (keepB (show Blk w0 (w.heap.size + 1 + 1 + 1) 25 _ from K4.out) hb1)
  have HS1 := Lib.hid (keepS HS.out hb1)
  clear hb1 p0 p1
  have p1 := (show Blk w1 w.heap.size 25 _ from K11.out).cell 1
  have a0 : w1.cell? ⟨w.heap.size + 1, 0, none⟩ = some (.int .u64 (old : Int)) := (show Blk w1 (w.heap.size + 1) 22 #[.int .u64 (old : Int)] from K21.out).cell 0
  have HCF := Lib.hid (scont_any (x := old) (g := w.heap.size + 1) HS1.out.1 HS1.out.2 (by omega) HSO.out a0 (show Blk w1 (w.heap.size + 1) 22 #[.int .u64 (old : Int)] from K21.out).lt)
  clear a0
  by_cases hm : Met l old
  case neg =>
    have hcf := HCF.out
    rw [dec_false hm] at hcf
    have HC := Lib.hid hcf
    have HNO := Lib.hid (swapP_16 (p := (e, l)) (node := node) HOK.out hm)
    clear hcf hm HCF
    go_wp2_with fail
    refine HC.out.mono ?_; rintro en w2 ⟨rfl, hb2⟩
    have HB2 := Lib.hid (stepB HB1.out hb2)
    have K42 := Lib.hid (keepB (show Blk w1 (w.heap.size + 1 + 1 + 1) 25 _ from K41.out) hb2)
    clear hb2 p1
    go_wp2_with (refine wpList_put_row rfl 25 (.tmp 6) (.tmp 19) rfl (w.heap.size + 1 + 1 + 1) _ rfl rfl 25 _ (show Blk _ _ _ _ from K42.out) H.out rfl (by simp [Value.oneCell']) ?_; intro w5 hblk hgr)
    have hbz : Below w.heap.size w w5 := HB2.out.grown hgr HB2.out.size (fun k hk => by injection hk with hk; omega)
    have f0 := hblk.cell 0
    have f1 := hblk.cell 1
    exact bodyPost_ret (v := .tuple #[.agg (prjV 0 none 0 0), .int .i64 16]) (by simp [results, Try.results73, go_sem, f0, f1]) rfl (swapIs_zero HNO.out hbz)
  have hcf := HCF.out
  rw [dec_true hm] at hcf
  have HC := Lib.hid hcf
  have HM := Lib.hid hm
  clear hcf hm HCF
  go_wp2_with fail
  refine HC.out.mono ?_; rintro en w3 ⟨rfl, hb2⟩
  have HB3 := Lib.hid (stepB HB1.out hb2)
  have K13 := Lib.hid (keepB (show Blk w1 w.heap.size 25 _ from K11.out) hb2)
  have K23 := Lib.hid (keepB (show Blk w1 (w.heap.size + 1) 22 #[.int .u64 (old : Int)] from K21.out) hb2)
  have K33 := Lib.hid (keepB (show Blk w1 (w.heap.size + 1 + 1) 22 #[.int .u64 (node : Int)] from K31.out) hb2)
  have K43 := Lib.hid (keepB (show Blk w1 (w.heap.size + 1 + 1 + 1) 25 _ from K41.out) hb2)
  have HS3 := Lib.hid (keepS HS1.out hb2)
  clear hb2 p1
  have p0 := (show Blk w3 w.heap.size 25 _ from K13.out).cell 0
  have p1 := (show Blk w3 w.heap.size 25 _ from K13.out).cell 1
  have HCH : Hid (∀ (w1x : World) (base go : Nat) A2 c2, Below w3.heap.size w3 w1x → w3.heap.size ≤ base → base ≤ go → go < w1x.heap.size → Blk w1x go 25 (prjV (e + 1) A2 n c2) → OQ w1x base A2 n c2 l →
      Calls Try.prog 125 #[.pointer (some ⟨go, 0, none⟩), .pointer (some ⟨w.heap.size + 1, 0, none⟩), .pointer (some ⟨w.heap.size + 1 + 1, 0, none⟩)] w1x (Turns w1x base go (e + 1) (swL old node l))) := by
    intro w1x base go A2 c2 hbx hbb hbg hgl hk ho
    have z2 := (show Blk w3 (w.heap.size + 1) _ _ from K23.out).lt
    have z3 := (show Blk w3 (w.heap.size + 1 + 1) _ _ from K33.out).lt
    exact swap2_any ho (by omega) hbg hk (keepB (show Blk w3 (w.heap.size + 1) _ _ from K23.out) hbx) (keepB (show Blk w3 (w.heap.size + 1 + 1) _ _ from K33.out) hbx) (by omega) (by omega) (by omega) HSO.out hnd
  have HLE : Hid (∀ s ∈ l, s.2.2.length ≤ 1000 ∧ ∀ (j : Nat) y, s.2.2[j]? = some y → y.length ≤ 1000) := pOk_len2 HOK.out
  go_wp2_with fail
  refine (next_swap HS3.out.1 HS3.out.2 (by omega) HLE.out HEO.out rfl HCH.out).mono ?_
  rintro en w4 ⟨base, hbase, e3, A2, n2, c2, l2, cd, rfl, ho, hbw, hr⟩
  have hz3 := HB3.out.size
  have HO4 := Lib.hid ho
  have HB4 := Lib.hid (stepB HB3.out hbw)
  have K44 := Lib.hid (keepB (show Blk w3 (w.heap.size + 1 + 1 + 1) 25 _ from K43.out) hbw)
  have HR4 := Lib.hid hr
  have HBA := Lib.hid hbase
  clear ho hbw hr p0 p1 hbase
  go_wp2_with (refine wpList_put_row rfl 25 (.tmp 6) (.tmp 23) rfl (w.heap.size + 1 + 1 + 1) _ rfl rfl 25 _ (show Blk _ _ _ _ from K44.out) H.out rfl (by simp [Value.oneCell']) ?_; intro w5 hblk hgr)
  have hbz : Below w.heap.size w w5 := HB4.out.grown hgr HB4.out.size (fun k hk => by injection hk with hk; omega)
  have ho5 : OS w5 base A2 n2 c2 l2 := HO4.out.grown (show Blk w4 (w.heap.size + 1 + 1 + 1) 25 _ from K44.out) id tss_prj (by decide) hgr
  have f0 := hblk.cell 0
  have f1 := hblk.cell 1
  refine bodyPost_ret (v := .tuple #[.agg (prjV e3 A2 n2 c2), .int .i64 cd]) (by simp [results, Try.results73, go_sem, f0, f1]) rfl ?_
  exact swapIs_next (w0 := w5) (base := base) HOK.out HM.out ⟨e3, A2, n2, c2, l2, cd, rfl, ho5, Below.refl _ _, HR4.out⟩ hbz
end
end Go.Proofs.Ytmdgmnaaopineaa
/- ref20.put. -/
namespace Go.Proofs.Ytmdgmnaaopineaa
open Go.ChangeShapes Go.WideShapes Go.ChangeAt Go.RowKit
set_option linter.unusedVariables false
def RPutIs (l : List Nat) (old node : Nat) (w : World) (e : Ending) (w' : World) : Prop :=
  ∃ A m c, e = .returned (.slice A m c) ∧ (sw old node l).length = m ∧ w'.ownsRow w.heap.size 22 1 (.slice A m c) m ((sw old node l).map uv) ∧ Below w.heap.size w w'
section
variable {D : Dom} {A : Option Addr} {n c old node : Nat} {l : List Nat} {w : World}
set_option maxRecDepth 100000 in
set_option maxHeartbeats 4000000 in
theorem rput_any (hs : rpU64.sl w D A n c l) (hD : ∀ k, D k → k < w.heap.size) (hn : n ≤ 1000) (hnode : node ≤ 18446744073709551615) :
    Calls Try.prog 127 #[.slice A n c, .int .u64 (old : Int), .int .u64 (node : Int)] w (RPutIs l old node w) := by
  have HN := Lib.hid (Rp.sl_len hs).1
  have HS := Lib.hid (show Sl rpU64 w D A n c l from ⟨hs, hD⟩)
  clear hs hD
  go_enter Try.func127, Try.ntmps127
  go_wp2_with fail
  go_loopw [7, 8] (fun v7 v8 wr => ∃ (k : Nat) (Ao : Option Addr) (co : Nat) (out : List Nat), k ≤ n ∧ v7 = .slice Ao k co ∧ v8 = .int .i64 (k : Int) ∧ Hid (out.length = k) ∧ Hid (SwOf old node (l.take k) out) ∧ Hid (∀ y ∈ out, y < 18446744073709551616) ∧ Hid (wr.ownsRow w.heap.size 22 1 (.slice Ao k co) k (out.map uv)) ∧ Hid (Below w.heap.size w wr)) (fun _ v8 _ => n - (intOf v8).toNat)
  case atStart => exact ⟨0, none, 0, [], by omega, rfl, rfl, rfl, swOf_zero _ _, fun y h => by simp at h, World.ownsRow_nil _ _ _ _, Below.refl _ _⟩
  case round =>
    obtain ⟨k, Ao, co, out, hk, rfl, rfl, hol, hsw, hlt, hown, hbel⟩ := hrel
    obtain ⟨wo, hwo⟩ : ∃ wo, wo = wr := ⟨_, rfl⟩
    subst hwo
    have hzr := hbel.out.size
    by_cases hkn : k < n
    case neg =>
      obtain rfl : k = n := by omega
      have hd : decide ((k : Int) < (k : Int)) = false := by simp
      have HE : Hid (out = sw old node l) := by
        have h := hsw.out
        rw [List.take_of_length_le (by have := HN.out; omega)] at h
        exact h.eq
      go_wp2_with fail
      go_ret
      refine ⟨Ao, k, co, rfl, ?_, ?_, hbel.out⟩
      · rw [← HE.out]; exact hol.out
      · rw [← HE.out]; exact hown.out
    case pos =>
      have hd : decide ((k : Int) < (n : Int)) = true := by simp; omega
      have hkI : (0 : Int) ≤ (k : Int) := by omega
      have hkI2 : (k : Int) < (n : Int) := by omega
      obtain ⟨b, off, x, hA, hb, hx, hc, hx64⟩ := u64_at (keepS HS.out hbel.out).1 hkn
      subst hA
      have HX := Lib.hid hx
      obtain ⟨y, hy⟩ : ∃ y, y = rpl old node x := ⟨_, rfl⟩
      have hy64 : y ≤ 18446744073709551615 := by rw [hy]; unfold rpl; split <;> omega
      have HY := Lib.hid hy
      clear hx hb
      have hcase2 : (((x : Int) == (old : Int)) = true ∧ y = node) ∨ (((x : Int) == (old : Int)) = false ∧ y = x) := by
        by_cases hxo : x = old
        · exact .inl ⟨by simp; omega, by rw [hy]; unfold rpl; rw [if_pos hxo]⟩
        · exact .inr ⟨by simp; omega, by rw [hy]; unfold rpl; rw [if_neg hxo]⟩
      clear hy
      rcases hcase2 with ⟨hd2, e⟩ | ⟨hd2, e⟩
      all_goals
        subst e
        obtain ⟨w1, hw1⟩ : ∃ w1, w1 = wo := ⟨_, rfl⟩
        subst hw1
        have HSO := Lib.hid (show Sl rpU64 w1 (fun q => some q = (Value.slice Ao k co).ownBlock) Ao k co out from ⟨own_u64 hown.out hlt.out, own_dom hown.out⟩)
        go_wp2_with fail
        clear hc hd2
        go_loopw [10] (fun v10 wr => ∃ a : Nat, a ≤ k ∧ v10 = .int .i64 (a : Int) ∧ Hid (∀ (j z : Nat), j < a → out[j]? = some z → z < y) ∧ wr = w1) (fun v10 _ => k - (intOf v10).toNat)
        case atStart => exact ⟨0, by omega, rfl, fun j z h => absurd h (Nat.not_lt_zero _), rfl⟩
        case round =>
          obtain ⟨a, ha, rfl, hlow, hw⟩ := hrel
          obtain rfl : w1 = wr := hw.symm
          by_cases hgo : ∃ z, out[a]? = some z ∧ z < y
          case pos =>
            obtain ⟨z, hz, hzy⟩ := hgo
            have hak : a < k := by have := (List.getElem?_eq_some_iff.1 hz).1; have := hol.out; omega
            obtain ⟨b2, off2, z2, hA2, _, hz2, hc2, _⟩ := u64_at HSO.out.1 hak
            rw [hz] at hz2
            injection hz2 with hz2
            subst hz2
            subst hA2
            have hd3 : decide ((a : Int) < (k : Int)) = true := by simp; omega
            have hd4 : decide ((z : Int) < (y : Int)) = true := by simp; omega
            have haI : (0 : Int) ≤ (a : Int) := by omega
            have haI2 : (a : Int) < (k : Int) := by omega
            have HL2 : Hid (∀ (j z : Nat), j < a + 1 → out[j]? = some z → z < y) := fun j u hj hu => by
              rcases Nat.lt_or_ge j a with h | h
              · exact hlow.out j u h hu
              · obtain rfl : j = a := by omega
                rw [hz] at hu
                injection hu with hu
                omega
            clear hz
            go_wp2_with fail
            go_roundw
            case rel => exact ⟨a + 1, hak, by go_num, HL2, trivial⟩
            case measure => simp [intOf]; omega
          case neg =>
            have HIN : Hid (InsAt y out a) := ⟨by have := hol.out; omega, hlow.out, fun z hz => by
              rcases Nat.lt_or_ge z y with h | h
              · exact absurd ⟨z, hz, h⟩ hgo
              · exact h⟩
            obtain ⟨d, hd0⟩ : ∃ d, k = a + d := ⟨k - a, by omega⟩
            have HD0 := Lib.hid hd0
            have hdk : a + d ≤ 1000 := by omega
            obtain ⟨Ap, hrun1, hsl1⟩ := run_cut_h elem64 HSO.out.1 rfl (a : Int) (by omega) (by omega)
            obtain ⟨Aq, hrun2, hsl2⟩ := run_cut_l elem64 HSO.out.1 rfl (a : Int) (by omega) (by omega)
            simp only [Int.toNat_natCast] at hrun1 hsl1 hrun2 hsl2
            rw [show k - a = d by omega] at hrun2 hsl2
            have HS1 := Lib.hid (show Sl rpU64 w1 _ Ap a co (out.take a) from ⟨hsl1, HSO.out.2⟩)
            have HS2 := Lib.hid (show Sl rpU64 w1 _ Aq d (co - a) (out.drop a) from ⟨hsl2, HSO.out.2⟩)
            have HSR1 := Lib.hid (Src.u64 hsl1)
            have HNIL := Lib.hid (World.ownsRow_nil w1 w1.heap.size 22 1)
            have hm1 : 0 + a ≤ maxLen := by unfold maxLen; omega
            have hm2 : a + 1 ≤ maxLen := by unfold maxLen; omega
            have hm3 : a + 1 + d ≤ maxLen := by unfold maxLen; omega
            have hcase : a = k ∨ (a < k ∧ ∃ z, out[a]? = some z ∧ y ≤ z) := by
              rcases Nat.lt_or_ge a k with h | h
              · refine .inr ⟨h, out[a]'(by have := hol.out; omega), List.getElem?_eq_getElem _, ?_⟩
                exact HIN.out.2.2 _ (List.getElem?_eq_getElem _)
              · exact .inl (by omega)
            clear hgo hsl1 hsl2 hd0
            rcases hcase with hak | ⟨hak, z, hz, hzy⟩
            case inl =>
              have hd3 : decide ((a : Int) < (k : Int)) = false := by simp; omega
              have hd5 : decide (a < k) = false := by simp; omega
              clear hak
              go_wp2_with (first
                | (at_builtin; refine wpList_app rfl (.tmp 40) (.tmp 43) _ rfl elem64 rfl HNIL.out rfl HSR1.out hm1 (by omega) (by omega) ?_; intro A1 c1 w2 ho1 hg1 hat1
                   have hb2 : Below w1.heap.size w1 w2 := (Below.refl _ _).grown hg1 (Nat.le_refl _) (fun j hj => by cases hj)
                   have HB2 := Lib.hid hb2
                   have ho1' : w2.ownsRow w1.heap.size 22 1 (.slice A1 a c1) a ((out.take a).map uv) := by
                     have := ho1
                     rw [List.nil_append] at this
                     simpa using this
                   have HO1 := Lib.hid ho1'
                   have hz2 := hb2.size
                   clear ho1 hg1 hat1 hb2 ho1')
                | (at_builtin; refine wpList_app rfl (.tmp 45) (.tmp 47) _ rfl elem64 rfl (HO1.out.alloc _) rfl (Src.new w2 (.int .u64 (y : Int)) _ rfl) hm2 (by omega) (by simp; omega) ?_; intro A2 c2 w3 ho2 hg2 hat2
                   have hb3 : Below w1.heap.size w1 w3 := by
                     have h1 := stepB HB2.out (below1 w2 (.cells #[.int .u64 (y : Int)] 22))
                     refine h1.grown hg2 h1.size (fun q hq => ?_)
                     exact ((HO1.out.alloc (.cells #[.int .u64 (y : Int)] 22)).lt q hq).1
                   have HB3 := Lib.hid hb3
                   have HO2 := Lib.hid ho2
                   have HSR3 := Lib.hid (Src.u64 (keepS HS2.out hb3).1)
                   have hz3 := hb3.size
                   clear ho2 hg2 hat2 hb3)
                | (at_builtin; refine wpList_app rfl (.tmp 49) (.tmp 52) _ rfl elem64 rfl HO2.out rfl HSR3.out hm3 (by omega) (by omega) ?_; intro A3 c3 w4 ho3 hg3 hat3
                   have HO3 := Lib.hid ho3
                   have HB4 := Lib.hid (HB3.out.grown hg3 HB3.out.size (fun q hq => (HO2.out.lt q hq).1))
                   clear ho3 hg3 hat3))
              go_roundw
              case rel =>
                have e1 : a + 1 + d = k + 1 := by have := HD0.out; omega
                have ho := HO3.out
                rw [e1] at ho
                refine ⟨k + 1, A3, c3, out.take a ++ [y] ++ out.drop a, by omega, by rw [e1], by go_num, ?_, swOf_succ hsw.out HX.out HY.out HIN.out, ?_, ?_, stepB hbel.out HB4.out⟩
                · have h1 := hol.out
                  have h2 := HIN.out.1
                  show _ = _
                  simp only [List.length_append, List.length_take, List.length_drop, List.length_cons, List.length_nil]
                  omega
                · intro u hu
                  rcases List.mem_append.1 hu with hu | hu
                  · rcases List.mem_append.1 hu with hu | hu
                    · exact hlt.out u (List.mem_of_mem_take hu)
                    · rw [List.mem_singleton] at hu; omega
                  · exact hlt.out u (List.mem_of_mem_drop hu)
                · show w4.ownsRow _ _ _ _ _ _
                  rw [List.map_append, List.map_append]
                  exact own_down ho hzr
              case measure => simp [intOf]; omega
            case inr =>
              obtain ⟨b2, off2, z2, hA2, _, hz2, hc2, _⟩ := u64_at HSO.out.1 hak
              rw [hz] at hz2
              injection hz2 with hz2
              subst hz2
              subst hA2
              have hd3 : decide ((a : Int) < (k : Int)) = true := by simp; omega
              have hd4 : decide ((z : Int) < (y : Int)) = false := by simp; omega
              have haI : (0 : Int) ≤ (a : Int) := by omega
              have haI2 : (a : Int) < (k : Int) := by omega
              clear hz
              go_wp2_with (first
                | (at_builtin; refine wpList_app rfl (.tmp 40) (.tmp 43) _ rfl elem64 rfl HNIL.out rfl HSR1.out hm1 (by omega) (by omega) ?_; intro A1 c1 w2 ho1 hg1 hat1
                   have hb2 : Below w1.heap.size w1 w2 := (Below.refl _ _).grown hg1 (Nat.le_refl _) (fun j hj => by cases hj)
                   have HB2 := Lib.hid hb2
                   have ho1' : w2.ownsRow w1.heap.size 22 1 (.slice A1 a c1) a ((out.take a).map uv) := by
                     have := ho1
                     rw [List.nil_append] at this
                     simpa using this
                   have HO1 := Lib.hid ho1'
                   have hz2 := hb2.size
                   clear ho1 hg1 hat1 hb2 ho1')
                | (at_builtin; refine wpList_app rfl (.tmp 45) (.tmp 47) _ rfl elem64 rfl (HO1.out.alloc _) rfl (Src.new w2 (.int .u64 (y : Int)) _ rfl) hm2 (by omega) (by simp; omega) ?_; intro A2 c2 w3 ho2 hg2 hat2
                   have hb3 : Below w1.heap.size w1 w3 := by
                     have h1 := stepB HB2.out (below1 w2 (.cells #[.int .u64 (y : Int)] 22))
                     refine h1.grown hg2 h1.size (fun q hq => ?_)
                     exact ((HO1.out.alloc (.cells #[.int .u64 (y : Int)] 22)).lt q hq).1
                   have HB3 := Lib.hid hb3
                   have HO2 := Lib.hid ho2
                   have HSR3 := Lib.hid (Src.u64 (keepS HS2.out hb3).1)
                   have hz3 := hb3.size
                   clear ho2 hg2 hat2 hb3)
                | (at_builtin; refine wpList_app rfl (.tmp 49) (.tmp 52) _ rfl elem64 rfl HO2.out rfl HSR3.out hm3 (by omega) (by omega) ?_; intro A3 c3 w4 ho3 hg3 hat3
                   have HO3 := Lib.hid ho3
                   have HB4 := Lib.hid (HB3.out.grown hg3 HB3.out.size (fun q hq => (HO2.out.lt q hq).1))
                   clear ho3 hg3 hat3))
              go_roundw
              case rel =>
                have e1 : a + 1 + d = k + 1 := by have := HD0.out; omega
                have ho := HO3.out
                rw [e1] at ho
                refine ⟨k + 1, A3, c3, out.take a ++ [y] ++ out.drop a, by omega, by rw [e1], by go_num, ?_, swOf_succ hsw.out HX.out HY.out HIN.out, ?_, ?_, stepB hbel.out HB4.out⟩
                · have h1 := hol.out
                  have h2 := HIN.out.1
                  show _ = _
                  simp only [List.length_append, List.length_take, List.length_drop, List.length_cons, List.length_nil]
                  omega
                · intro u hu
                  rcases List.mem_append.1 hu with hu | hu
                  · rcases List.mem_append.1 hu with hu | hu
                    · exact hlt.out u (List.mem_of_mem_take hu)
                    · rw [List.mem_singleton] at hu; omega
                  · exact hlt.out u (List.mem_of_mem_drop hu)
                · show w4.ownsRow _ _ _ _ _ _
                  rw [List.map_append, List.map_append]
                  exact own_down ho hzr
              case measure => simp [intOf]; omega
end
end Go.Proofs.Ytmdgmnaaopineaa
/- ref20.copied: the rows of the copy lie apart. -/
namespace Go.Proofs.Ytmdgmnaaopineaa
open Go.ChangeShapes Go.WideShapes Go.ChangeAt Go.RowKit
set_option linter.unusedVariables false
section
variable {D : Dom} {A : Option Addr} {n c e e2 : Nat} {l : List Stp} {w : World}
set_option maxRecDepth 100000 in
set_option maxHeartbeats 4000000 in
theorem rcopiedq_any (hs : rpStp.sl w D A n c l) (hD : ∀ k, D k → k < w.heap.size) (hn : n ≤ 1000) (hl : ∀ s ∈ l, s.2.2.length ≤ 1000 ∧ ∀ (j : Nat) x, s.2.2[j]? = some x → x.length ≤ 1000) (he : e2 = e + 1) (he2 : e2 ≤ 18446744073709551615) :
    Calls Try.prog 88 #[.agg (prjV e A n c)] w fun en w' => ∃ A2 c2, en = .returned (.agg (prjV e2 A2 n c2)) ∧ OQ w' w.heap.size A2 n c2 l ∧ Below w.heap.size w w' := by
  have H : Hid ((Try.prog.info? 25).map (·.size) = some 2) := by unfold Hid; kernel_rfl
  have hlen := (Rp.sl_len hs).1
  have HZ := Lib.hid (below3 w (.cells (prjV e A n c) 25) (.cells (prjV 0 none 0 0) 25) (.cells (prjV e2 none 0 0) 25))
  have HK := Lib.hid ((blk21 w 25 25 (prjV e A n c) (prjV 0 none 0 0)).alloc (.cells (prjV e2 none 0 0) 25))
  have HR := Lib.hid ((blk22 w 25 25 (prjV e A n c) (prjV 0 none 0 0)).alloc (.cells (prjV e2 none 0 0) 25))
  have HO : Hid (Blk (((w.alloc (.cells (prjV e A n c) 25)).alloc (.cells (prjV 0 none 0 0) 25)).alloc (.cells (prjV e2 none 0 0) 25)) (w.heap.size + 1 + 1) 25 (prjV e2 none 0 0)) := Blk.newAt (by rw [size_alloc, size_alloc]) _ _
  have HS := Lib.hid (show Sl rpStp w D A n c l from ⟨hs, hD⟩)
  have HN := Lib.hid hlen
  have HLE := Lib.hid hl
  have s0 : IntKind.u64.wrap ((e : Int) + 1) = (e2 : Int) := by rw [IntWalk.u64_in _ (by omega)]; omega
  clear hs hD hlen hl he
  go_enter Try.func88, Try.ntmps88
  go_wp2_with fail
  generalize World.alloc (World.alloc (World.alloc w _) _) _ = w0 at *
  go_loopw [4] (fun i wr => ∃ (k : Nat) (As : Option Addr) (cs : Nat), k ≤ n ∧ i = .int .i64 k ∧ Hid (OQ wr w.heap.size As k cs (l.take k)) ∧ Hid (Blk wr w.heap.size 25 (prjV e A n c)) ∧ Hid (Blk wr (w.heap.size + 1) 25 (prjV 0 none 0 0)) ∧ Hid (Blk wr (w.heap.size + 1 + 1) 25 (prjV e2 As k cs)) ∧ Hid (Below w.heap.size w wr)) (fun i _ => n - (intOf i).toNat)
  case atStart => exact ⟨0, none, 0, by omega, rfl, OQ.nil _ _, HK.out, HR.out, HO.out, HZ.out⟩
  case round =>
    clear HK HR HZ HO
    obtain ⟨k, As, cs, hk, rfl, hll, hkb, hkr, hko, hbel⟩ := hrel
    obtain ⟨wo, hwo⟩ : ∃ wo, wo = wr := ⟨_, rfl⟩
    subst hwo
    have hzr := hbel.out.size
    have hlto := (show Blk wo (w.heap.size + 1 + 1) 25 _ from hko.out).lt
    by_cases hkn : k < n
    case neg =>
      obtain rfl : k = n := by omega
      have hd : decide ((k : Int) < (k : Int)) = false := by simp
      have k1 := (show Blk wo w.heap.size 25 _ from hkb.out).cell 1
      have o0 := (show Blk wo (w.heap.size + 1 + 1) 25 _ from hko.out).cell 0
      have o1 := (show Blk wo (w.heap.size + 1 + 1) 25 _ from hko.out).cell 1
      have HE : Hid (l.take k = l) := List.take_of_length_le (by rw [HN.out]; exact Nat.le_refl _)
      go_wp2_with (refine wpList_put_row rfl 25 (.tmp 2) (.tmp 66) rfl (w.heap.size + 1) (prjV e2 As k cs) rfl rfl 25 _ (show Blk _ _ _ _ from hkr.out) H.out rfl (by simp [Value.oneCell']) ?_; intro w9 hblk hgr)
      have hl9 := (show OQ wo w.heap.size As k cs (l.take k) from hll.out).grown (show Blk _ _ _ _ from hkr.out) (by decide) (by decide) (by decide) hgr
      rw [HE.out] at hl9
      exact bodyPost_ret (results_cell_row rfl _ _ (w.heap.size + 1) 25 _ (0, 0) _ rfl hblk Try.underlying25 rfl H.out) rfl ⟨As, cs, rfl, hl9, hbel.out.grown hgr hbel.out.size (fun j hj => by injection hj with hj; omega)⟩
    case pos =>
      have hd : decide ((k : Int) < (n : Int)) = true := by simp; omega
      have hkI : (0 : Int) ≤ (k : Int) := by omega
      have hkI2 : (k : Int) < (n : Int) := by omega
      have hsr := keepS HS.out hbel.out
      obtain ⟨bo, off, s, A3, c3, rfl, hbD, hx, g0, g1, g2, hrow, hs1, hs2⟩ := stps_at hsr.1 hkn
      have hbo := hsr.2 _ hbD
      obtain ⟨sf, hsf⟩ : ∃ sf, sf = s.1 := ⟨_, rfl⟩
      obtain ⟨st, hst⟩ : ∃ st, st = s.2.1 := ⟨_, rfl⟩
      obtain ⟨ss, hss⟩ : ∃ ss, ss = s.2.2 := ⟨_, rfl⟩
      have es : s = (sf, st, ss) := by rw [hsf, hst, hss]
      rw [← hsf] at g0 hs1
      rw [← hst] at g1 hs2
      rw [← hss] at g2 hrow
      subst es
      obtain ⟨sn, hsn⟩ : ∃ sn, sn = ss.length := ⟨_, rfl⟩
      rw [← hsn] at g2 hrow
      have HSN := Lib.hid hsn
      have hle := HLE.out _ (List.mem_of_getElem? hx)
      have hsn1 : sn ≤ 1000 := by rw [hsn]; exact hle.1
      have HLS := Lib.hid hle.2
      have HRW := Lib.hid (show Sl (rpSlice rpU64) wo _ A3 sn c3 ss from ⟨hrow, hsr.2⟩)
      have HTK : Hid (l.take (k + 1) = l.take k ++ [(sf, st, ss)]) := by
        show l.take (k + 1) = l.take k ++ [(sf, st, ss)]
        rw [List.take_add_one, hx]; rfl
      have hk16 : k + 1 ≤ maxLen := by unfold maxLen; omega
      have k1 := (show Blk wo w.heap.size 25 _ from hkb.out).cell 1
      have G2 := Lib.hid g2
      clear hx hle hrow hsr hsf hst hss hsn
      go_wp2_with fail
      go_region_held3 (fun w' => w'.cell? ⟨w.heap.size, 1, none⟩ = some (.slice (some ⟨bo, off, none⟩) n c) ∧ w'.cell? ⟨bo, off + k * 3, none⟩ = some (.int .u64 (sf : Int)) ∧ w'.cell? ⟨bo, off + k * 3 + 1, none⟩ = some (.int .u64 (st : Int)) ∧ w'.cell? ⟨bo, off + k * 3 + 2, none⟩ = some (.slice A3 sn c3)) (go_keep) (fail)
      go_wp2_with fail
      have HG1 : Hid (Blk (wo.alloc (.cells (stpV sf st none 0 0) 31)).drew wo.heap.size 31 (stpV sf st none 0 0)) := blk11 _ _ _
      have HB1 : Hid (Below wo.heap.size wo (wo.alloc (.cells (stpV sf st none 0 0) 31)).drew) := (below1 wo _).drew
      generalize World.drew (World.alloc wo _) = w1 at *
      clear g0 g1 g2 k1
      go_loopw [6] (fun i wr => ∃ (j : Nat) (Ai : Option Addr) (ci : Nat), j ≤ sn ∧ i = .int .i64 j ∧ Hid (Blk wr wo.heap.size 31 (stpV sf st Ai j ci)) ∧ Hid (LQ wr wo.heap.size Ai j ci (ss.take j)) ∧ Hid (Below wo.heap.size wo wr)) (fun i _ => sn - (intOf i).toNat)
      case atStart => exact ⟨0, none, 0, by omega, rfl, HG1.out, LQ.nil _ _, HB1.out⟩
      case round =>
        clear HG1 HB1
        obtain ⟨j, Ai, ci, hj, rfl, hsb, hli, hbi⟩ := hrel
        have hzi := hbi.out.size
        have hlts := (show Blk wr wo.heap.size 31 _ from hsb.out).lt
        have hkbi := keepB (show Blk wo w.heap.size 25 _ from hkb.out) hbi.out
        have k1 := hkbi.cell 1
        have g2 := (hbi.out.cell (p := ⟨bo, off + k * 3 + 2, none⟩) hbo).trans G2.out
        by_cases hjn : j < sn
        case neg =>
          obtain rfl : j = sn := by omega
          have hdj : decide ((j : Int) < (j : Int)) = false := by simp
          have HTS : Hid (ss.take j = ss) := List.take_of_length_le (by rw [HSN.out]; exact Nat.le_refl _)
          have hkoi := keepB (show Blk wo (w.heap.size + 1 + 1) 25 _ from hko.out) hbi.out
          have o1 := hkoi.cell 1
          have v0 := (show Blk wr wo.heap.size 31 _ from hsb.out).cell 0
          have v1 := (show Blk wr wo.heap.size 31 _ from hsb.out).cell 1
          have v2 := (show Blk wr wo.heap.size 31 _ from hsb.out).cell 2
          have hba := below1 wr (.cells (stpV sf st Ai j ci) 31)
          have hbw := stepB hbi.out hba
          have HBW := Lib.hid hbw
          obtain ⟨vals, rv, hq⟩ := (show OQ wo w.heap.size As k cs (l.take k) from hll.out)
          have HQ := Lib.hid hq
          have HOV := Lib.hid (keepO hq.1 hbw)
          have hlit := (show LQ wr wo.heap.size Ai j ci (ss.take j) from hli.out).below hba
          rw [HTS.out] at hlit
          have HX5 := Lib.hid hlit
          have HSR := Lib.hid (Src.blk (size := rpStp.size) (blk11 wr 31 (stpV sf st Ai j ci)) (by kernel_rfl) (by simp [Value.oneCell']))
          have HKO7 := Lib.hid (keepB hkoi hba)
          clear hba hbw hq hlit hkoi hkbi
          go_wp2_with (at_builtin; refine wpList_app rfl (.tmp 61) (.tmp 63) _ rfl elemStp rfl HOV.out rfl HSR.out hk16 (by omega) (by simp; omega) ?_; intro A6 c6 w6 ho6 hg6 hat6
                       have HO6 := Lib.hid ho6
                       have HG6 := Lib.hid hg6
                       have hko6 := (show Blk (wr.alloc (.cells (stpV sf st Ai j ci) 31)) (w.heap.size + 1 + 1) 25 _ from HKO7.out).grown hg6 (Pen.ne (show Blk _ _ _ _ from HKO7.out) HOV.out (by decide))
                       have HKO6 := Lib.hid hko6
                       have q1 := hko6.cell 1
                       have q1f := hko6.frozen 1
                       clear ho6 hg6 hat6 hko6)
          have hll6 := (show OQv vals rv wo w.heap.size As k cs (l.take k) from HQ.out).push HBW.out HO6.out HG6.out HX5.out hs1 hs2 hzr
          have hll7 := hll6.put (show Blk w6 (w.heap.size + 1 + 1) 25 _ from HKO6.out) (by decide) (by decide) (by decide) (a := ⟨w.heap.size + 1 + 1, 1, none⟩) rfl (.slice A6 (k + 1) c6)
          have hkb6 := (keepB (show Blk wo w.heap.size 25 _ from hkb.out) HBW.out).grown HG6.out (Pen.ne (keepB (show Blk wo w.heap.size 25 _ from hkb.out) HBW.out) HOV.out (by decide))
          have hkr6 := (keepB (show Blk wo (w.heap.size + 1) 25 _ from hkr.out) HBW.out).grown HG6.out (Pen.ne (keepB (show Blk wo (w.heap.size + 1) 25 _ from hkr.out) HBW.out) HOV.out (by decide))
          have hb6 := (stepB hbel.out HBW.out).grown HG6.out (stepB hbel.out HBW.out).size (fun j hj => (HOV.out.lt j hj).1)
          go_roundw
          case rel => exact ⟨k + 1, A6, c6, by omega, by go_num, by rw [HTK.out]; exact hll7, hkb6.far (by dsimp only; omega) _, hkr6.far (by dsimp only; omega) _, (show Blk w6 (w.heap.size + 1 + 1) 25 _ from HKO6.out).put 1 _, hb6.setCell (by dsimp only; omega) _⟩
          case measure => simp [intOf]; omega
        case pos =>
          have hdj : decide ((j : Int) < (sn : Int)) = true := by simp; omega
          have hjI : (0 : Int) ≤ (j : Int) := by omega
          have hjI2 : (j : Int) < (sn : Int) := by omega
          have hsr := keepS HRW.out hbi.out
          obtain ⟨b2, off2, x, A4, c4, rfl, hbD2, hx, hcell, hrow⟩ := rows_at hsr.1 hjn
          have hx1 := HLS.out j x hx
          obtain ⟨xn, hxn⟩ : ∃ xn, xn = x.length := ⟨_, rfl⟩
          rw [← hxn] at hcell hrow hx1
          have HXN := Lib.hid hxn
          have HSR := Lib.hid (Src.u64 hrow)
          have HLT := Lib.hid (u64_lt hrow)
          have HTS : Hid (ss.take (j + 1) = ss.take j ++ [x]) := by
            show ss.take (j + 1) = ss.take j ++ [x]
            rw [List.take_add_one, hx]; rfl
          have hmx : 0 + xn ≤ maxLen := by unfold maxLen; omega
          have hj16 : j + 1 ≤ maxLen := by unfold maxLen; omega
          have HNIL := Lib.hid (World.ownsRow_nil wr wr.heap.size 22 1)
          clear hx hrow hsr hxn hkbi
          go_wp2_with (first
            | (at_builtin; refine wpList_app rfl (.tmp 43) (.tmp 52) _ rfl elem64 rfl HNIL.out rfl HSR.out hmx (by omega) (by omega) ?_; intro A5 c5 w5 ho5 hg5 hat5
               have hb5 : Below wr.heap.size wr w5 := (Below.refl _ _).grown hg5 (Nat.le_refl _) (fun j hj => by cases hj)
               have HB5 := Lib.hid hb5
               have ho5' : w5.ownsRow wr.heap.size 22 1 (.slice A5 xn c5) xn (x.map uv) := by
                 have := ho5
                 rw [List.nil_append] at this
                 simpa using this
               have hb5a := below1 w5 (.cells #[.slice A5 xn c5] 46)
               have hsb5 := keepB (show Blk wr wo.heap.size 31 _ from hsb.out) hb5
               have q2 := hsb5.cell 2
               have HO5 := Lib.hid (keepO ho5' hb5a)
               obtain ⟨vals, hq⟩ := (show LQ wr wo.heap.size Ai j ci (ss.take j) from hli.out)
               have HQ := Lib.hid hq
               have HBA := Lib.hid (stepB hb5 hb5a)
               have HOV := Lib.hid (keepO hq.1 (stepB hb5 hb5a))
               have HSB5 := Lib.hid (keepB hsb5 hb5a)
               have hz5 := hb5.size
               clear ho5 hg5 hat5 hb5 ho5' hq hb5a hsb5)
            | (at_builtin; refine wpList_app rfl (.tmp 55) (.tmp 57) _ rfl elemSets rfl HOV.out rfl (Src.new w5 (.slice A5 xn c5) _ rfl) hj16 (by omega) (by simp; omega) ?_; intro A6 c6 w6 ho6 hg6 hat6
               have HO6 := Lib.hid ho6
               have HG6 := Lib.hid hg6
               have hsb6 := (show Blk (w5.alloc (.cells #[.slice A5 xn c5] 46)) wo.heap.size 31 _ from HSB5.out).grown hg6 (Pen.ne' (show Blk _ _ _ _ from HSB5.out) HOV.out (by decide))
               have HSB6 := Lib.hid hsb6
               have q3 := hsb6.cell 2
               have q3f := hsb6.frozen 2
               clear ho6 hg6 hat6 hsb6))
          have ho6 := HO6.out
          have ho5 := HO5.out
          rw [HXN.out] at ho5
          rw [show Value.slice A5 xn c5 = Value.slice A5 x.length c5 by rw [HXN.out]] at ho6
          have hov6 := HOV.out
          have hg6 := HG6.out
          have hl6 := (show LQv vals wr wo.heap.size Ai j ci (ss.take j) from HQ.out).push HBA.out ho6 HG6.out ⟨⟨A5, c5, rfl, (by rw [← HXN.out] at ho5 ⊢; exact ho5)⟩, HLT.out⟩ hzi
          have hl7 := hl6.put (show Blk w6 wo.heap.size 31 _ from HSB6.out) (by decide) (by decide) (a := ⟨wo.heap.size, 2, none⟩) rfl (.slice A6 (j + 1) c6)
          have hb6 := (stepB (stepB hbi.out HB5.out) (below1 w5 (.cells #[.slice A5 xn c5] 46))).grown HG6.out (stepB (stepB hbi.out HB5.out) (below1 w5 _)).size (fun j hj => (HOV.out.lt j hj).1)
          go_roundw
          case rel => exact ⟨j + 1, A6, c6, by omega, by go_num, (show Blk w6 wo.heap.size 31 _ from HSB6.out).put 2 _, by rw [HTS.out]; exact hl7, hb6.setCell (by dsimp only; omega) _⟩
          case measure => simp [intOf]; omega
end
end Go.Proofs.Ytmdgmnaaopineaa
