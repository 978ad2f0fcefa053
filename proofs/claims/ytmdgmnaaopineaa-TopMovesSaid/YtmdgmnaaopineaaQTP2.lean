/-
  The law of this claim, a further part of its proof (2): the parts PrG, PrH, PrI, TopM, TopL, StpS, PrV, LocE, LocG.
-/
import Derived.BigQuiet
import Derived.Test.YtmdgmnaaopineaaQTP1
/- What proj.Grow does with the copy: its function literal. -/
namespace Go.Proofs.Ytmdgmnaaopineaa
open Go.ChangeShapes Go.WideShapes Go.ChangeAt Go.RowKit
set_option linter.unusedVariables false
/-- The stripes that come of other sets from a position on. -/
def growL (l : List Stp) (x : Nat) (sets : List (List Nat)) : List Stp := (match l[l.length - 1]? with | some s => l.set (l.length - 1) (s.1, x, s.2.2) | none => l) ++ [(x, 4611686018427387904, sets)]
theorem growL_eq {l : List Stp} {m x : Nat} {s : Stp} {sets : List (List Nat)} (hm : l.length = m + 1) (hs : l[m]? = some s) : growL l x sets = l.set m (s.1, x, s.2.2) ++ [(x, 4611686018427387904, sets)] := by
  unfold growL
  rw [hm, Nat.add_sub_cancel, hs]
def Grow1 (w : World) (base go e2 x n : Nat) (l : List Stp) (sets : List (List Nat)) (en : Ending) (w' : World) : Prop :=
  en = .returned (.tuple #[]) ∧ ∃ A2 c2, Blk w' go 25 (prjV e2 A2 (n + 1) c2) ∧ OS w' base A2 (n + 1) c2 (growL l x sets) ∧ Below base w w'
section
variable {D D' : Dom} {A A' : Option Addr} {n c n' c' e2 x m base go ga gl gs : Nat} {l : List Stp} {sets : List (List Nat)} {w : World}
set_option maxRecDepth 100000 in
set_option maxHeartbeats 4000000 in
theorem grow1_any (hm : n = m + 1) (hn : n ≤ 1000) (h : OS w base A n c l) (hb : base ≤ w.heap.size) (hgo : base ≤ go) (hk : Blk w go 25 (prjV e2 A n c)) (ha : Blk w ga 22 #[.int .u64 (x : Int)]) (hl : Blk w gl 3 #[.int .i64 (m : Int)]) (hg : Blk w gs 27 #[.slice A' n' c'])
    (ha2 : ga < base) (hl2 : gl < base) (hg2 : gs < base) (hs : (rpSlice rpU64).sl w D' A' n' c' sets) (hD : ∀ k, D' k → k < base) (hx : x ≤ 18446744073709551615) (hn' : n' ≤ 1000) (hl' : ∀ (i : Nat) y, sets[i]? = some y → y.length ≤ 1000) :
    Calls Try.prog 77 #[.pointer (some ⟨go, 0, none⟩), .pointer (some ⟨ga, 0, none⟩), .pointer (some ⟨gl, 0, none⟩), .pointer (some ⟨gs, 0, none⟩)] w (Grow1 w base go e2 x n l sets) := by
  have hlen := h.len
  obtain ⟨s, hsm⟩ : ∃ s, l[m]? = some s := ⟨_, List.getElem?_eq_getElem (by omega)⟩
  have HGL := Lib.hid (growL_eq (x := x) (sets := sets) (by omega) hsm)
  have e3 : rpStp.size = 3 := by kernel_rfl
  obtain ⟨g, v, rfl, hbg, hgl, hfr, hcell, hos⟩ := h.set (i := m) (j := 1) (x' := (s.1, x, s.2.2)) (u := .int .u64 (x : Int)) hsm (by rw [e3]; decide) tss_stp (fun _ h => h.elim) (fun cs hcs => by
    obtain ⟨A0, c0, rfl, h1, h2, h3⟩ := stp_open hcs
    exact stp_ok h2 hx h1)
  rw [e3] at hcell hos
  have hgne : g ≠ go := by
    rintro rfl
    obtain ⟨vals, ho, _⟩ := h
    exact Pen.ne hk ho (by decide) rfl
  have a0 := ha.cell 0
  have l0 := hl.cell 0
  have k1 := hk.cell 1
  have hf1 := hfr (m * 3 + 1)
  have hmI : (0 : Int) ≤ (m : Int) := by omega
  have hmI2 : (m : Int) < (n : Int) := by omega
  have HOS := Lib.hid hos
  have HB1 := Lib.hid ((Below.refl base w).setCell (p := ⟨g, m * 3 + 1, none⟩) (by dsimp only; omega) (.int .u64 (x : Int)))
  have HK := Lib.hid (hk.far (p := ⟨g, m * 3 + 1, none⟩) (fun e => hgne e.symm) (.int .u64 (x : Int)))
  have HA := Lib.hid (ha.far (p := ⟨g, m * 3 + 1, none⟩) (by dsimp only; omega) (.int .u64 (x : Int)))
  have HG := Lib.hid (hg.far (p := ⟨g, m * 3 + 1, none⟩) (by dsimp only; omega) (.int .u64 (x : Int)))
  have a1 := (ha.far (p := ⟨g, m * 3 + 1, none⟩) (by dsimp only; omega) (.int .u64 (x : Int))).cell 0
  have l1 := (hl.far (p := ⟨g, m * 3 + 1, none⟩) (by dsimp only; omega) (.int .u64 (x : Int))).cell 0
  have HSS := Lib.hid (Rp.sl_below hs HB1.out hD)
  have HD := Lib.hid hD
  have HL' := Lib.hid hl'
  clear h hk ha hl hg hs hD hl' hfr hlen hsm hos
  have HM := Lib.hid hm
  clear hm
  go_enter Try.func77, Try.ntmps77
  go_wp2_with fail
  go_region_held3 (fun w' => w'.cell? ⟨go, 1, none⟩ = some (.slice (some ⟨g, 0, none⟩) n c) ∧ w'.cell? ⟨gl, 0, none⟩ = some (.int .i64 (m : Int)) ∧ w'.cell? ⟨ga, 0, none⟩ = some (.int .u64 (x : Int))) (go_keep) (fail)
  clear a0 l0 k1 a1 l1 hcell hf1
  have HB1' : Hid (Below base w (w.setCell ⟨g, m * 3 + 1, none⟩ (.int .u64 (x : Int))).drew) := HB1.out.drew
  have HOS' : Hid (OS (w.setCell ⟨g, m * 3 + 1, none⟩ (.int .u64 (x : Int))).drew base (some ⟨g, 0, none⟩) n c (l.set m (s.1, x, s.2.2))) := HOS.out.same (fun _ _ => rfl) (fun _ _ _ _ => rfl) (Nat.le_refl _)
  have HK' : Hid (Blk (w.setCell ⟨g, m * 3 + 1, none⟩ (.int .u64 (x : Int))).drew go 25 (prjV e2 (some ⟨g, 0, none⟩) n c)) := HK.out
  have HA' : Hid (Blk (w.setCell ⟨g, m * 3 + 1, none⟩ (.int .u64 (x : Int))).drew ga 22 #[.int .u64 (x : Int)]) := HA.out
  have HG' : Hid (Blk (w.setCell ⟨g, m * 3 + 1, none⟩ (.int .u64 (x : Int))).drew gs 27 #[.slice A' n' c']) := HG.out
  have HSS' : Hid ((rpSlice rpU64).sl (w.setCell ⟨g, m * 3 + 1, none⟩ (.int .u64 (x : Int))).drew D' A' n' c' sets) := Rp.sl_below HSS.out ((Below.refl base _).drew) HD.out
  clear HB1 HOS HK HA HG HSS
  generalize World.drew (World.setCell w _ _) = w1 at *
  go_wp2_with fail
  have hz1 := HB1'.out.size
  have hlen1 : (l.set m (s.1, x, s.2.2)).length = n := HOS'.out.len
  have HLEN1 := Lib.hid hlen1
  clear hlen1
  have k1 := (show Blk w1 go 25 _ from HK'.out).cell 1
  have a0 := (show Blk w1 ga 22 _ from HA'.out).cell 0
  have g0 := (show Blk w1 gs 27 _ from HG'.out).cell 0
  have hkl := (show Blk w1 go 25 _ from HK'.out).lt
  have HCP : Hid (∀ w', Below w1.heap.size w1 w' → Calls Try.prog 55 #[.agg (stpV x 4611686018427387904 A' n' c')] w' fun en w'' => ∃ A2 c2, en = .returned (.agg (stpV x 4611686018427387904 A2 n' c2)) ∧ LL w'' w'.heap.size A2 n' c2 sets ∧ Below w'.heap.size w' w'') := fun w' hb =>
    stcopy_any (Rp.sl_below (Rp.sl_below HSS'.out (hb.mono (show base ≤ w1.heap.size by omega)) HD.out) (Below.refl w'.heap.size _) (fun k hk => by have := HD.out k hk; have := hb.size; omega)) (fun k hk => by have := HD.out k hk; have := hb.size; omega) hn' HL'.out
  have hn16 : n + 1 ≤ maxLen := by unfold maxLen; omega
  go_region_law ((first
    | (refine step_app rfl (.tmp 17) (.tmp 22) _ (by rfl) elemStp (by rfl) HO5.out (by rfl) HSR.out hn16 (by omega) (by have := HZ5.out; simp; omega) ?_
       intro A6 c6 w6 ho6 hg6 hat6
       have HO6 := Lib.hid ho6
       have HG6 := Lib.hid hg6
       have hk6 := (show Blk (w5.alloc (.cells (stpV x 4611686018427387904 A5 n' c5) 31)) go 25 _ from HK5.out).grown hg6 (Pen.ne (show Blk _ _ _ _ from HK5.out) HO5.out (by decide))
       have k6 := hk6.cell 1
       have kf6 := hk6.frozen 1
       have HK6 := Lib.hid hk6
       clear ho6 hg6 hat6 hk6)
    | (go_simp; refine (HCP.out _ ((Below.refl _ _).drew)).mono ?_
       rintro en w5 ⟨A5, c5, rfl, hl5, hb5⟩
       have hb5' : Below w1.heap.size w1 w5 := ⟨hb5.os, hb5.tape, hb5.output, hb5.size, hb5.block⟩
       have hba := below1 w5 (.cells (stpV x 4611686018427387904 A5 n' c5) 31)
       have hbw := stepB hb5' hba
       have hk5 := keepB (show Blk w1 go 25 _ from HK'.out) hb5'
       have k5 := hk5.cell 1
       have kf5 := hk5.frozen 1
       have kl5 := hk5.lt
       have HZ5 := Lib.hid hb5'.size
       have HBW := Lib.hid hbw
       have HK5 := Lib.hid (keepB hk5 hba)
       obtain ⟨vals, hov, hln, hvi⟩ := (show OS w1 base (some ⟨g, 0, none⟩) n c _ from HOS'.out).below hbw
       have HO5 := Lib.hid hov
       have HVI := Lib.hid hvi
       have HX5 := Lib.hid (stp_ok (t := 4611686018427387904) hx (by decide) (LL.tb (D0 := fun _ => False) (hl5.below hba)))
       have HSR := Lib.hid (Src.blk (size := rpStp.size) (blk11 w5 31 (stpV x 4611686018427387904 A5 n' c5)) (by kernel_rfl) (by simp [Value.oneCell']))
       clear hl5 hb5 hb5' hba hbw hk5 hov hvi hln
       dsimp only)))
  all_goals
    have hll6 := (show OS (w5.alloc (.cells (stpV x 4611686018427387904 A5 n' c5) 31)) base (some ⟨g, 0, none⟩) n c (l.set m (s.1, x, s.2.2)) from ⟨vals, HO5.out, HLEN1.out, HVI.out⟩).push HO5.out HVI.out tss_stp (fun _ h => h.elim) HO6.out HG6.out HX5.out
    have hll7 := hll6.put (show Blk w6 go 25 _ from HK6.out) id tss_prj (by decide) (a := ⟨go, 1, none⟩) rfl (.slice A6 (n + 1) c6)
    have hbz := HBW.out.size
    have hb6 := (HB1'.out.trans (HBW.out.mono (show base ≤ w1.heap.size by omega))).grown HG6.out (by omega) (fun j hj => (HO5.out.lt j hj).1)
    go_end0
    exact ⟨rfl, A6, c6, (show Blk w6 go 25 _ from HK6.out).put 1 _, by rw [HGL.out]; exact hll7, hb6.setCell hgo _⟩
end
end Go.Proofs.Ytmdgmnaaopineaa
/- proj.next, at the literal of next_grow. -/
namespace Go.Proofs.Ytmdgmnaaopineaa
open Go.ChangeShapes Go.WideShapes Go.ChangeAt Go.RowKit
set_option linter.unusedVariables false
theorem enext_ok (e e2 : Nat) (w : World) (he : EOk e) (he2 : e2 = e + 1) (h2 : EOk e2) : Calls Try.prog 128 #[.int .u64 (e : Int)] w fun en w' => en = .returned (.tuple #[.int .u64 (e2 : Int), .bool true]) ∧ w = w' := by
  have s0 : IntKind.u64.wrap ((e : Int) + 1) = (e2 : Int) := by have := he.2; rw [IntWalk.u64_in _ (by omega)]; omega
  have her := fun w => eright_any e w (by have := he.2; omega)
  rw [dec_true he] at her
  have her2 := fun w => eright_any e2 w (by have := he.2; omega)
  have HE := Lib.hid her
  have hel : (e : Int) ≤ 4611686018427387904 := by have := he.2; omega
  rw [dec_true h2] at her2
  have HE2 := Lib.hid her2
  clear her her2 he he2 h2
  go_enter Try.func128, Try.ntmps128
  go_wp2_with fail
  refine (HE.out _).mono ?_; rintro en w1 ⟨rfl, rfl⟩
  go_wp2_with fail
  refine (HE2.out _).mono ?_; rintro en w1 ⟨rfl, rfl⟩
  go_wp2_with fail
  go_ret2
  exact ⟨rfl, rfl⟩
theorem enext_bad (e e2 : Nat) (w : World) (he : EOk e) (he2 : e2 = e + 1) (h2 : ¬ EOk e2) : Calls Try.prog 128 #[.int .u64 (e : Int)] w fun en w' => en = .returned (.tuple #[.int .u64 0, .bool false]) ∧ w = w' := by
  have s0 : IntKind.u64.wrap ((e : Int) + 1) = (e2 : Int) := by have := he.2; rw [IntWalk.u64_in _ (by omega)]; omega
  have her := fun w => eright_any e w (by have := he.2; omega)
  rw [dec_true he] at her
  have her2 := fun w => eright_any e2 w (by have := he.2; omega)
  have HE := Lib.hid her
  have hel : (e : Int) ≤ 4611686018427387904 := by have := he.2; omega
  rw [dec_false h2] at her2
  have HE2 := Lib.hid her2
  clear her her2 he he2 h2
  go_enter Try.func128, Try.ntmps128
  go_wp2_with fail
  refine (HE.out _).mono ?_; rintro en w1 ⟨rfl, rfl⟩
  go_wp2_with fail
  refine (HE2.out _).mono ?_; rintro en w1 ⟨rfl, rfl⟩
  go_wp2_with fail
  go_ret2
  exact ⟨rfl, rfl⟩
/-- What a function literal makes of the copy. -/
def Turns (w1 : World) (base go e2 : Nat) (l' : List Stp) (en : Ending) (w' : World) : Prop :=
  en = .returned (.tuple #[]) ∧ ∃ A3 n3 c3, Blk w' go 25 (prjV e2 A3 n3 c3) ∧ OS w' base A3 n3 c3 l' ∧ Below base w1 w'
/-- What comes of a projection whose stripes turn to others. -/
def NextB (w : World) (base e2 : Nat) (l' : List Stp) (en : Ending) (w' : World) : Prop :=
  ∃ e3 A2 n2 c2 l2 cd, en = .returned (.tuple #[.agg (prjV e3 A2 n2 c2), .int .i64 cd]) ∧ OS w' base A2 n2 c2 l2 ∧ Below w.heap.size w w' ∧ (EOk e2 → POk (e2, l') → e3 = e2 ∧ l2 = l' ∧ cd = 0) ∧ (EOk e2 → ¬ POk (e2, l') → e3 = 0 ∧ l2 = [] ∧ cd = 3) ∧ (¬ EOk e2 → e3 = 0 ∧ l2 = [] ∧ cd = 18)
section
variable {D : Dom} {A : Option Addr} {n c e e2 q0 q1 q2 : Nat} {l l' : List Stp} {w : World}
set_option maxRecDepth 100000 in
set_option maxHeartbeats 4000000 in
theorem next_grow (hs : rpStp.sl w D A n c l) (hD : ∀ k, D k → k < w.heap.size) (hn : n ≤ 1000) (hl : ∀ s ∈ l, s.2.2.length ≤ 1000 ∧ ∀ (j : Nat) x, s.2.2[j]? = some x → x.length ≤ 1000) (he : EOk e) (he2 : e2 = e + 1)
    (hch : ∀ (w1 : World) (base go : Nat) A2 c2, Below w.heap.size w w1 → w.heap.size ≤ base → base ≤ go → go < w1.heap.size → Blk w1 go 25 (prjV e2 A2 n c2) → OS w1 base A2 n c2 l →
      Calls Try.prog 77 #[.pointer (some ⟨go, 0, none⟩), .pointer (some ⟨q0, 0, none⟩), .pointer (some ⟨q1, 0, none⟩), .pointer (some ⟨q2, 0, none⟩)] w1 (Turns w1 base go e2 l')) :
    Calls Try.prog 76 #[.agg (prjV e A n c), .func (Fn.func 77) #[] #[.pointer (some ⟨q0, 0, none⟩), .pointer (some ⟨q1, 0, none⟩), .pointer (some ⟨q2, 0, none⟩)]] w (fun en w' => ∃ base, w.heap.size ≤ base ∧ NextB w base e2 l' en w') := by
  have H : Hid ((Try.prog.info? 25).map (·.size) = some 2) := by unfold Hid; kernel_rfl
  have hb0 := below2 w (.cells (prjV e A n c) 25) (.cells (prjV 0 none 0 0) 25)
  have HZ := Lib.hid hb0
  have HK := Lib.hid (blk21 w 25 25 (prjV e A n c) (prjV 0 none 0 0))
  have HR := Lib.hid (blk22 w 25 25 (prjV e A n c) (prjV 0 none 0 0))
  have HS := Lib.hid (keepS (show Sl rpStp w D A n c l from ⟨hs, hD⟩) hb0)
  have he64 : e2 ≤ 18446744073709551615 := by have := he.2; omega
  have HLE := Lib.hid hl
  have HCH := Lib.hid hch
  clear hs hD hb0 hl hch
  by_cases h2 : EOk e2
  case neg =>
    have hnx := fun w => enext_bad e e2 w he he2 h2
    have HNX := Lib.hid hnx
    have HN2 := Lib.hid h2
    clear hnx h2 he he2
    go_enter Try.func76, Try.ntmps76
    go_wp2_with fail
    generalize World.alloc (World.alloc w _) _ = w0 at *
    have k0 := (show Blk w0 w.heap.size 25 _ from HK.out).cell 0
    go_wp2_with fail
    refine (HNX.out _).mono ?_; rintro en w1 ⟨rfl, rfl⟩
    go_wp2_with (refine wpList_put_row rfl 25 (.tmp 4) (.tmp 17) rfl (w.heap.size + 1) _ rfl rfl 25 _ (show Blk _ _ _ _ from HR.out) H.out rfl (by simp [Value.oneCell']) ?_; intro w5 hblk hgr)
    have hbz : Below w.heap.size w w5 := HZ.out.grown hgr HZ.out.size (fun k hk => by injection hk with hk; omega)
    have f0 := hblk.cell 0
    have f1 := hblk.cell 1
    refine bodyPost_ret (v := .tuple #[.agg (prjV 0 none 0 0), .int .i64 18]) (by simp [results, Try.results76, go_sem, f0, f1]) rfl ?_
    exact ⟨_, Nat.le_refl _, 0, none, 0, 0, [], 18, rfl, OL.nil _ _ _ _ _ _, hbz, fun h => absurd h HN2.out, fun h => absurd h HN2.out, fun _ => ⟨rfl, rfl, rfl⟩⟩
  case pos =>
    have hnx := fun w => enext_ok e e2 w he he2 h2
    have HNX := Lib.hid hnx
    have HE2 := Lib.hid h2
    clear hnx h2 he he2
    go_enter Try.func76, Try.ntmps76
    go_wp2_with fail
    generalize World.alloc (World.alloc w _) _ = w0 at *
    have hz0 := HZ.out.size
    have hl0 := (show Blk w0 (w.heap.size + 1) 25 _ from HR.out).lt
    have k0 := (show Blk w0 w.heap.size 25 _ from HK.out).cell 0
    have k1 := (show Blk w0 w.heap.size 25 _ from HK.out).cell 1
    go_wp2_with fail
    refine (HNX.out _).mono ?_; rintro en w1 ⟨rfl, rfl⟩
    go_wp2_with fail
    refine (prcopy_any HS.out.1 HS.out.2 hn HLE.out).mono ?_; rintro en w1 ⟨A1, c1, rfl, ho1, hb1⟩
    obtain ⟨go, hgo⟩ : ∃ go, go = w1.heap.size := ⟨_, rfl⟩
    have hba := below1 w1 (.cells (prjV e2 A1 n c1) 25)
    have HB2 := Lib.hid (stepB (stepB HZ.out hb1) hba)
    have HR2 := Lib.hid (keepB (keepB (show Blk w0 (w.heap.size + 1) 25 _ from HR.out) hb1) hba)
    have HG2 := Lib.hid (blk11 w1 25 (prjV e2 A1 n c1))
    have HO2 := Lib.hid (ho1.below hba)
    have hz1 := hb1.size
    clear ho1 hb1 hba k0 k1
    go_wp2_with fail
    rw [← hgo] at HG2
    try rw [← hgo]
    have HGO := Lib.hid hgo
    have hgo1 : w0.heap.size ≤ go := by omega
    clear hgo
    generalize World.alloc w1 _ = w2 at *
    have hgo2 := (show Blk w2 go 25 _ from HG2.out).lt
    refine (HCH.out w2 w0.heap.size go A1 c1 HB2.out hz0 hgo1 hgo2 HG2.out HO2.out).mono ?_; rintro en w3 ⟨rfl, A3, n3, c3, hk3, ho3, hb3⟩
    have hz2 := HB2.out.size
    have HB3 := Lib.hid (HB2.out.trans (hb3.mono hz0))
    have HR3 := Lib.hid (Blk.below (show Blk w2 (w.heap.size + 1) 25 _ from HR2.out) hb3 hl0)
    have hz3 := hb3.size
    have HO3 := Lib.hid ho3
    have hrt := pright_any (e := e2) (OL.sl ho3) (fun k hk => hk) he64
    have g0 := hk3.cell 0
    have g1 := hk3.cell 1
    have HG3 := Lib.hid hk3
    clear hb3 ho3 hk3
    by_cases hok : POk (e2, l')
    case pos =>
      rw [dec_true hok] at hrt
      have HRT := Lib.hid hrt
      have HOK := Lib.hid hok
      clear hrt hok
      go_wp2_with fail
      refine HRT.out.mono ?_; rintro en w4 ⟨rfl, hb4⟩
      have hg4 := keepB (show Blk w3 go 25 _ from HG3.out) hb4
      have HR4 := Lib.hid (keepB (show Blk w3 (w.heap.size + 1) 25 _ from HR3.out) hb4)
      have HB4 := Lib.hid (stepB HB3.out hb4)
      have HO4 := Lib.hid ((show OS w3 w0.heap.size A3 n3 c3 l' from HO3.out).below hb4)
      clear g0 g1
      have g0 := hg4.cell 0
      have g1 := hg4.cell 1
      clear hb4 hg4
      go_wp2_with (refine wpList_put_row rfl 25 (.tmp 4) (.tmp 28) rfl (w.heap.size + 1) _ rfl rfl 25 _ (show Blk _ _ _ _ from HR4.out) H.out rfl (by simp [Value.oneCell']) ?_; intro w5 hblk hgr)
      have hbz : Below w.heap.size w w5 := HB4.out.grown hgr HB4.out.size (fun k hk => by injection hk with hk; omega)
      have ho5 : OS w5 w0.heap.size A3 n3 c3 l' := by
        refine HO4.out.chg ((Chg.of_grown hgr).more (G := fun k => k = w.heap.size + 1) (fun k _ hk => by injection hk)) ?_
        intro k hk _
        subst hk
        exact ⟨id, fun cs t ht => by
          obtain rfl := blk_type (show Blk w4 (w.heap.size + 1) 25 _ from HR4.out) ht
          exact ⟨tss_prj, by decide⟩⟩
      have f0 := hblk.cell 0
      have f1 := hblk.cell 1
      refine bodyPost_ret (v := .tuple #[.agg (prjV e2 A3 n3 c3), .int .i64 0]) (by simp [results, Try.results76, go_sem, f0, f1]) rfl ?_
      exact ⟨_, hz0, e2, A3, n3, c3, l', 0, rfl, ho5, hbz, fun _ _ => ⟨rfl, rfl, rfl⟩, fun _ h => absurd HOK.out h, fun h => absurd HE2.out h⟩
    case neg =>
      rw [dec_false hok] at hrt
      have HRT := Lib.hid hrt
      have HOK := Lib.hid hok
      clear hrt hok
      go_wp2_with fail
      refine HRT.out.mono ?_; rintro en w4 ⟨rfl, hb4⟩
      have HR4 := Lib.hid (keepB (show Blk w3 (w.heap.size + 1) 25 _ from HR3.out) hb4)
      have HB4 := Lib.hid (stepB HB3.out hb4)
      clear g0 g1 hb4
      go_wp2_with (refine wpList_put_row rfl 25 (.tmp 4) (.tmp 27) rfl (w.heap.size + 1) _ rfl rfl 25 _ (show Blk _ _ _ _ from HR4.out) H.out rfl (by simp [Value.oneCell']) ?_; intro w5 hblk hgr)
      have hbz : Below w.heap.size w w5 := HB4.out.grown hgr HB4.out.size (fun k hk => by injection hk with hk; omega)
      have f0 := hblk.cell 0
      have f1 := hblk.cell 1
      refine bodyPost_ret (v := .tuple #[.agg (prjV 0 none 0 0), .int .i64 3]) (by simp [results, Try.results76, go_sem, f0, f1]) rfl ?_
      exact ⟨_, Nat.le_refl _, 0, none, 0, 0, [], 3, rfl, OL.nil _ _ _ _ _ _, hbz, fun _ h => absurd h HOK.out, fun _ _ => ⟨rfl, rfl, rfl⟩, fun h => absurd HE2.out h⟩
end
end Go.Proofs.Ytmdgmnaaopineaa
/- proj.Grow. -/
namespace Go.Proofs.Ytmdgmnaaopineaa
open Go.ChangeShapes Go.WideShapes Go.ChangeAt Go.RowKit
set_option linter.unusedVariables false
/-- No position that can be cut at. -/
def G17 (p : Prj) (x : Nat) : Prop := (∃ s, p.2[p.2.length - 1]? = some s ∧ x ≤ s.1) ∨ 4611686018427387904 ≤ x
open Classical in
/-- What comes of other sets from a position on, and the code. -/
noncomputable def growP (p : Prj) (x : Nat) (sets : List (List Nat)) : Prj × Int :=
  if POk p then if G17 p x then ((0, []), 17) else if p.2.length = 64 then ((0, []), 2) else if EOk (p.1 + 1) then if POk (p.1 + 1, growL p.2 x sets) then ((p.1 + 1, growL p.2 x sets), 0) else ((0, []), 3) else ((0, []), 18) else ((0, []), 3)
section
variable {p : Prj} {x : Nat} {sets : List (List Nat)}
theorem growP_no (h : ¬ POk p) : growP p x sets = ((0, []), 3) := by unfold growP; rw [if_neg h]
theorem growP_17 (h : POk p) (h2 : G17 p x) : growP p x sets = ((0, []), 17) := by unfold growP; rw [if_pos h, if_pos h2]
theorem growP_2 (h : POk p) (h2 : ¬ G17 p x) (h3 : p.2.length = 64) : growP p x sets = ((0, []), 2) := by unfold growP; rw [if_pos h, if_neg h2, if_pos h3]
theorem growP_18 (h : POk p) (h2 : ¬ G17 p x) (h3 : ¬ p.2.length = 64) (h4 : ¬ EOk (p.1 + 1)) : growP p x sets = ((0, []), 18) := by unfold growP; rw [if_pos h, if_neg h2, if_neg h3, if_neg h4]
theorem growP_3 (h : POk p) (h2 : ¬ G17 p x) (h3 : ¬ p.2.length = 64) (h4 : EOk (p.1 + 1)) (h5 : ¬ POk (p.1 + 1, growL p.2 x sets)) : growP p x sets = ((0, []), 3) := by unfold growP; rw [if_pos h, if_neg h2, if_neg h3, if_pos h4, if_neg h5]
theorem growP_0 (h : POk p) (h2 : ¬ G17 p x) (h3 : ¬ p.2.length = 64) (h4 : EOk (p.1 + 1)) (h5 : POk (p.1 + 1, growL p.2 x sets)) : growP p x sets = ((p.1 + 1, growL p.2 x sets), 0) := by unfold growP; rw [if_pos h, if_neg h2, if_neg h3, if_pos h4, if_pos h5]
end
theorem pOk_lens {p : Prj} (h : POk p) : ∀ s ∈ p.2, s.2.2.length ≤ 1000 ∧ ∀ (j : Nat) y, s.2.2[j]? = some y → y.length ≤ 1000 := fun s hs => by
  obtain ⟨i, hi⟩ := List.getElem?_of_mem hs
  have hok := (h.1.2 i s (List.getElem?_eq_some_iff.1 hi).1 hi).1
  refine ⟨by have := hok.2.2.2.1; omega, fun j y hy => ?_⟩
  have := (hok.2.2.2.2 j y hy).2.1
  omega
def GrowIs (p : Prj) (x : Nat) (sets : List (List Nat)) (w : World) (en : Ending) (w' : World) : Prop :=
  ∃ A2 n2 c2, en = .returned (.tuple #[.agg (prjV (growP p x sets).1.1 A2 n2 c2), .int .i64 (growP p x sets).2]) ∧ rpStp.sl w' (fun k => k < w'.heap.size) A2 n2 c2 (growP p x sets).1.2 ∧ Below w.heap.size w w'
theorem growIs_zero {p : Prj} {x : Nat} {sets : List (List Nat)} {w w' : World} {cd : Int} (h : growP p x sets = ((0, []), cd)) (hb : Below w.heap.size w w') : GrowIs p x sets w (.returned (.tuple #[.agg (prjV 0 none 0 0), .int .i64 cd])) w' := by
  unfold GrowIs
  rw [h]
  exact ⟨none, 0, 0, rfl, Rp.sl_nil _ _ _ _ _ (by decide), hb⟩
section
variable {D D' : Dom} {A A' : Option Addr} {n c n' c' e x : Nat} {l : List Stp} {sets : List (List Nat)} {w : World}
theorem growIs_next {w0 w' : World} {en : Ending} {base : Nat} (hok : POk (e, l)) (h2 : ¬ G17 (e, l) x) (h3 : ¬ l.length = 64) (hb : w.heap.size ≤ base) (h : NextB w0 base (e + 1) (growL l x sets) en w') (hbw : Below w.heap.size w w') : GrowIs (e, l) x sets w en w' := by
  obtain ⟨e3, A2, n2, c2, l2, cd, rfl, ho, _, r1, r2, r3⟩ := h
  by_cases he : EOk (e + 1)
  · by_cases hp : POk (e + 1, growL l x sets)
    · obtain ⟨rfl, rfl, rfl⟩ := r1 he hp
      have hg := growP_0 (sets := sets) hok h2 h3 he hp
      unfold GrowIs
      rw [hg]
      exact ⟨_, _, _, rfl, OL.sl ho, hbw⟩
    · obtain ⟨rfl, rfl, rfl⟩ := r2 he hp
      have hg := growP_3 (sets := sets) hok h2 h3 he hp
      unfold GrowIs
      rw [hg]
      exact ⟨_, _, _, rfl, OL.sl ho, hbw⟩
  · obtain ⟨rfl, rfl, rfl⟩ := r3 he
    have hg := growP_18 (sets := sets) hok h2 h3 he
    unfold GrowIs
    rw [hg]
    exact ⟨_, _, _, rfl, OL.sl ho, hbw⟩
set_option maxRecDepth 100000 in
set_option maxHeartbeats 4000000 in
theorem grow_any (hs : rpStp.sl w D A n c l) (hD : ∀ k, D k → k < w.heap.size) (he : e ≤ 18446744073709551615) (hx : x ≤ 18446744073709551615) (hs' : (rpSlice rpU64).sl w D' A' n' c' sets) (hD' : ∀ k, D' k → k < w.heap.size) (hn' : n' ≤ 1000) (hl' : ∀ (i : Nat) y, sets[i]? = some y → y.length ≤ 1000) :
    Calls Try.prog 19 #[.agg (prjV e A n c), .int .u64 (x : Int), .slice A' n' c'] w (GrowIs (e, l) x sets w) := by
  have H : Hid ((Try.prog.info? 25).map (·.size) = some 2) := by unfold Hid; kernel_rfl
  obtain ⟨k1, k2, k3, k4, hb, hz⟩ := four_blks w (prjV e A n c) #[.int .u64 (x : Int)] #[.slice A' n' c'] (prjV 0 none 0 0) 25 22 27 25
  have hlen := (Rp.sl_len hs).1
  have HN := Lib.hid hlen
  have K1 := Lib.hid k1
  have K2 := Lib.hid k2
  have K3 := Lib.hid k3
  have K4 := Lib.hid k4
  have HB := Lib.hid hb
  have HZ := Lib.hid hz
  have HS := Lib.hid (keepS (show Sl rpStp w D A n c l from ⟨hs, hD⟩) hb)
  have HS' := Lib.hid (keepS (show Sl (rpSlice rpU64) w D' A' n' c' sets from ⟨hs', hD'⟩) hb)
  have hr := pright_any (e := e) (Rp.sl_below hs hb hD) (fun k hk => Nat.lt_of_lt_of_le (hD k hk) hb.size) he
  have HL' := Lib.hid hl'
  clear k1 k2 k3 k4 hs hD hs' hD' hl'
  by_cases hok : POk (e, l)
  case neg =>
    rw [dec_false hok] at hr
    have HR := Lib.hid hr
    have HNO := Lib.hid (growP_no (x := x) (sets := sets) hok)
    clear hr hok hb hz hlen
    go_enter Try.func19, Try.ntmps19
    go_wp2_with fail
    generalize World.alloc (World.alloc (World.alloc (World.alloc w _) _) _) _ = w0 at *
    have p0 := (show Blk w0 w.heap.size 25 _ from K1.out).cell 0
    have p1 := (show Blk w0 w.heap.size 25 _ from K1.out).cell 1
    go_wp2_with fail
    refine HR.out.mono ?_; rintro en w1 ⟨rfl, hb1⟩
    have HB1 := Lib.hid (stepB HB.out hb1)
    have K41 := Lib.hid (keepB (show Blk w0 _ 25 _ from K4.out) hb1)
    clear hb1 p0 p1
    go_wp2_with (refine wpList_put_row rfl 25 (.tmp 6) (.tmp 12) rfl (w.heap.size + 1 + 1 + 1) _ rfl rfl 25 _ (show Blk _ _ _ _ from K41.out) H.out rfl (by simp [Value.oneCell']) ?_; intro w5 hblk hgr)
    have hbz : Below w.heap.size w w5 := HB1.out.grown hgr HB1.out.size (fun k hk => by injection hk with hk; omega)
    have f0 := hblk.cell 0
    have f1 := hblk.cell 1
    exact bodyPost_ret (v := .tuple #[.agg (prjV 0 none 0 0), .int .i64 3]) (by simp [results, Try.results19, go_sem, f0, f1]) rfl (growIs_zero HNO.out hbz)
  rw [dec_true hok] at hr
  have HR := Lib.hid hr
  have heo := hok.1.1.1
  have hn1 := hok.1.1.2.1
  have hn64 := hok.1.1.2.2
  simp only at heo hn1 hn64
  obtain ⟨m, hm⟩ : ∃ m, n = m + 1 := ⟨n - 1, by omega⟩
  obtain ⟨s, hsm⟩ : ∃ s, l[m]? = some s := ⟨_, List.getElem?_eq_getElem (by omega)⟩
  have HSM := Lib.hid hsm
  have HM := Lib.hid hm
  have HOK := Lib.hid hok
  have HEO := Lib.hid heo
  have hmI : (0 : Int) ≤ (m : Int) := by omega
  have hmI2 : (m : Int) < (n : Int) := by omega
  have hn64' : n ≤ 64 := by omega
  have hn1' : 1 ≤ n := by omega
  have hsub : IntKind.i64.wrap ((n : Int) - 1) = (m : Int) := by rw [IntWalk.i64_in _ (by omega)]; omega
  have hsub2 : (n : Int) - 1 = (m : Int) := by omega
  have HSUB2 := Lib.hid hsub2
  clear hr hok heo hsm hn1 hn64 hb hz hm hsub2 hlen
  go_enter Try.func19, Try.ntmps19
  go_wp2_with fail
  generalize World.alloc (World.alloc (World.alloc (World.alloc w _) _) _) _ = w0 at *
  have p0 := (show Blk w0 w.heap.size 25 _ from K1.out).cell 0
  have p1 := (show Blk w0 w.heap.size 25 _ from K1.out).cell 1
  go_wp2_with fail
  refine HR.out.mono ?_; rintro en w1 ⟨rfl, hb1⟩
  have HB1 := Lib.hid (stepB HB.out hb1)
  have K11 := Lib.hid (keepB (show Blk w0 _ 25 _ from K1.out) hb1)
  clear p0 p1
  have p1 := (show Blk w1 w.heap.size 25 _ from K11.out).cell 1
  have hba := below1 w1 (.cells #[.int .i64 (m : Int)] 3)
  have hb1a := stepB hb1 hba
  have HB2 := Lib.hid (stepB HB.out hb1a)
  have K12 := Lib.hid (keepB (show Blk w0 _ 25 _ from K1.out) hb1a)
  have K22 := Lib.hid (keepB (show Blk w0 _ 22 _ from K2.out) hb1a)
  have K32 := Lib.hid (keepB (show Blk w0 _ 27 _ from K3.out) hb1a)
  have K42 := Lib.hid (keepB (show Blk w0 _ 25 _ from K4.out) hb1a)
  have K52 := Lib.hid (blk11 w1 3 #[.int .i64 (m : Int)])
  have HS2 := Lib.hid (keepS HS.out hb1a)
  have HS2' := Lib.hid (keepS HS'.out hb1a)
  have hz01 := hb1.size
  have hz0 := HZ.out
  clear hb1 hba hb1a
  go_wp2_with fail
  generalize World.alloc w1 _ = w2 at *
  clear p1
  have hz02 : w0.heap.size ≤ w2.heap.size := by have := (show Blk w2 w1.heap.size 3 _ from K52.out).lt; omega
  obtain ⟨bo, off, s', A3, c3, rfl, hbD, hx', g0, g1, g2, hrow, hs1, hs2⟩ := stps_at HS2.out.1 (k := m) (by omega)
  obtain rfl : s' = s := by
    have := HSM.out
    rw [hx'] at this
    injection this
  obtain ⟨sf, hsf⟩ : ∃ sf, sf = s'.1 := ⟨_, rfl⟩
  rw [← hsf] at g0 hs1
  have HSF := Lib.hid hsf
  have p1 := (show Blk w2 w.heap.size 25 _ from K12.out).cell 1
  have a0 := (show Blk w2 _ 22 _ from K22.out).cell 0
  have l0 := (show Blk w2 _ 3 _ from K52.out).cell 0
  have h17 : G17 (e, l) x ↔ x ≤ sf ∨ 4611686018427387904 ≤ x := by
    unfold G17
    have hlm : l.length - 1 = m := by have := HN.out; have := HM.out; omega
    simp only [hlm, HSM.out]
    rw [HSF.out]
    constructor
    · rintro (⟨s, hs, h⟩ | h)
      · injection hs with hs
        subst hs
        exact .inl h
      · exact .inr h
    · rintro (h | h)
      · exact .inl ⟨s', rfl, h⟩
      · exact .inr h
  have H17 := Lib.hid h17
  clear h17 hx' g1 g2 hrow hs2 hsf
  by_cases hc : x ≤ sf ∨ 4611686018427387904 ≤ x
  case pos =>
    have HG := Lib.hid (growP_17 (sets := sets) HOK.out (H17.out.2 hc))
    have hcc : x ≤ sf ∨ (¬ x ≤ sf ∧ 4611686018427387904 ≤ x) := by omega
    clear hc
    rcases hcc with h1 | ⟨h1, h2⟩
    · have hd : decide (x ≤ sf) = true := by simpa using h1
      clear h1
      go_quiet (fail)
      have HB3 : Hid (Below w.heap.size w (w2.drewN nq)) := ⟨HB2.out.os, HB2.out.tape, HB2.out.output, HB2.out.size, HB2.out.block⟩
      have K43 : Hid (Blk (w2.drewN nq) (w.heap.size + 1 + 1 + 1) 25 (prjV 0 none 0 0)) := K42.out
      generalize World.drewN w2 _ = w3 at *
      go_wp2_with (refine wpList_put_row rfl 25 (.tmp 6) (.tmp 30) rfl (w.heap.size + 1 + 1 + 1) _ rfl rfl 25 _ (show Blk _ _ _ _ from K43.out) H.out rfl (by simp [Value.oneCell']) ?_; intro w5 hblk hgr)
      have hbz : Below w.heap.size w w5 := HB3.out.grown hgr HB3.out.size (fun k hk => by injection hk with hk; omega)
      have f0 := hblk.cell 0
      have f1 := hblk.cell 1
      exact bodyPost_ret (v := .tuple #[.agg (prjV 0 none 0 0), .int .i64 17]) (by simp [results, Try.results19, go_sem, f0, f1]) rfl (growIs_zero HG.out hbz)
    · have hd : decide (x ≤ sf) = false := by simpa using h1
      have hd2 : decide ((4611686018427387904 : Int) ≤ (x : Int)) = true := by simp; omega
      clear h1 h2
      go_quiet (fail)
      have HB3 : Hid (Below w.heap.size w (w2.drewN nq)) := ⟨HB2.out.os, HB2.out.tape, HB2.out.output, HB2.out.size, HB2.out.block⟩
      have K43 : Hid (Blk (w2.drewN nq) (w.heap.size + 1 + 1 + 1) 25 (prjV 0 none 0 0)) := K42.out
      generalize World.drewN w2 _ = w3 at *
      go_wp2_with (refine wpList_put_row rfl 25 (.tmp 6) (.tmp 30) rfl (w.heap.size + 1 + 1 + 1) _ rfl rfl 25 _ (show Blk _ _ _ _ from K43.out) H.out rfl (by simp [Value.oneCell']) ?_; intro w5 hblk hgr)
      have hbz : Below w.heap.size w w5 := HB3.out.grown hgr HB3.out.size (fun k hk => by injection hk with hk; omega)
      have f0 := hblk.cell 0
      have f1 := hblk.cell 1
      exact bodyPost_ret (v := .tuple #[.agg (prjV 0 none 0 0), .int .i64 17]) (by simp [results, Try.results19, go_sem, f0, f1]) rfl (growIs_zero HG.out hbz)
  case neg =>
    have hng : ¬ G17 (e, l) x := fun h => hc (H17.out.1 h)
    have HNG := Lib.hid hng
    have hd : decide (x ≤ sf) = false := by simp; omega
    have hd2 : decide ((4611686018427387904 : Int) ≤ (x : Int)) = false := by simp; omega
    clear hc hng
    go_quiet (fail)
    have HB3 : Hid (Below w.heap.size w (w2.drewN nq)) := ⟨HB2.out.os, HB2.out.tape, HB2.out.output, HB2.out.size, HB2.out.block⟩
    have K43 : Hid (Blk (w2.drewN nq) (w.heap.size + 1 + 1 + 1) 25 (prjV 0 none 0 0)) := K42.out
    have K13 : Hid (Blk (w2.drewN nq) w.heap.size 25 _) := K12.out
    have K23 : Hid (Blk (w2.drewN nq) (w.heap.size + 1) 22 #[.int .u64 (x : Int)]) := K22.out
    have K33 : Hid (Blk (w2.drewN nq) (w.heap.size + 1 + 1) 27 #[.slice A' n' c']) := K32.out
    have K53 : Hid (Blk (w2.drewN nq) w1.heap.size 3 #[.int .i64 (m : Int)]) := K52.out
    have hbq : Below w2.heap.size w2 (w2.drewN nq) := ⟨rfl, rfl, rfl, Nat.le_refl _, fun _ _ => rfl⟩
    have HS3 := Lib.hid (keepS HS2.out hbq)
    have HS3' := Lib.hid (keepS HS2'.out hbq)
    have hz03 : w0.heap.size ≤ (w2.drewN nq).heap.size := Nat.le_trans hz02 hbq.size
    generalize World.drewN w2 _ = w3 at *
    clear g0 p1 a0 l0 hbq
    have p0 := (show Blk w3 w.heap.size 25 _ from K13.out).cell 0
    have p1 := (show Blk w3 w.heap.size 25 _ from K13.out).cell 1
    by_cases h64 : n = 64
    case pos =>
      have hd3 : ((n : Int) == 64) = true := by simp; omega
      have HG := Lib.hid (growP_2 (sets := sets) HOK.out HNG.out (by show l.length = 64; rw [HN.out]; exact h64))
      clear h64
      go_wp2_with (refine wpList_put_row rfl 25 (.tmp 6) (.tmp 36) rfl (w.heap.size + 1 + 1 + 1) _ rfl rfl 25 _ (show Blk _ _ _ _ from K43.out) H.out rfl (by simp [Value.oneCell']) ?_; intro w5 hblk hgr)
      have hbz : Below w.heap.size w w5 := HB3.out.grown hgr HB3.out.size (fun k hk => by injection hk with hk; omega)
      have f0 := hblk.cell 0
      have f1 := hblk.cell 1
      exact bodyPost_ret (v := .tuple #[.agg (prjV 0 none 0 0), .int .i64 2]) (by simp [results, Try.results19, go_sem, f0, f1]) rfl (growIs_zero HG.out hbz)
    case neg =>
      have hd3 : ((n : Int) == 64) = false := by simp; omega
      have HN64 := Lib.hid (show ¬ l.length = 64 by rw [HN.out]; exact h64)
      clear h64
      have HCH : Hid (∀ (w1x : World) (base go : Nat) A2 c2, Below w3.heap.size w3 w1x → w3.heap.size ≤ base → base ≤ go → go < w1x.heap.size → Blk w1x go 25 (prjV (e + 1) A2 n c2) → OS w1x base A2 n c2 l →
          Calls Try.prog 77 #[.pointer (some ⟨go, 0, none⟩), .pointer (some ⟨w.heap.size + 1, 0, none⟩), .pointer (some ⟨w1.heap.size, 0, none⟩), .pointer (some ⟨w.heap.size + 1 + 1, 0, none⟩)] w1x (Turns w1x base go (e + 1) (growL l x sets))) := by
        intro w1x base go A2 c2 hbx hbb hbg hgl hk ho
        have z2 := (show Blk w3 _ _ _ from K23.out).lt
        have z3 := (show Blk w3 _ _ _ from K33.out).lt
        have z5 := (show Blk w3 _ _ _ from K53.out).lt
        have hst := keepS HS3'.out hbx
        exact (grow1_any HM.out (by omega) ho (by omega) hbg hk (keepB (show Blk w3 _ _ _ from K23.out) hbx) (keepB (show Blk w3 _ _ _ from K53.out) hbx) (keepB (show Blk w3 _ _ _ from K33.out) hbx) (by omega) (by omega) (by omega) hst.1 (fun k hk => by have := HS3'.out.2 k hk; omega) hx hn' HL'.out).mono (fun en w' ⟨he, A3, c3, h1, h2, h3⟩ => ⟨he, A3, n + 1, c3, h1, h2, h3⟩)
      have HLE : Hid (∀ s ∈ l, s.2.2.length ≤ 1000 ∧ ∀ (j : Nat) y, s.2.2[j]? = some y → y.length ≤ 1000) := pOk_lens HOK.out
      go_wp2_with fail
      refine (next_grow HS3.out.1 HS3.out.2 (by omega) HLE.out HEO.out rfl HCH.out).mono ?_
      rintro en w4 ⟨base, hbase, e3, A2, n2, c2, l2, cd, rfl, ho, hbw, hr⟩
      have hz3 := HB3.out.size
      have HO4 := Lib.hid ho
      have HB4 := Lib.hid (stepB HB3.out hbw)
      have K44 := Lib.hid (keepB (show Blk w3 _ 25 _ from K43.out) hbw)
      have HR4 := Lib.hid hr
      have HBW := Lib.hid hbw
      have HBA := Lib.hid hbase
      clear ho hbw hr p0 p1 hbase
      go_wp2_with (refine wpList_put_row rfl 25 (.tmp 6) (.tmp 40) rfl (w.heap.size + 1 + 1 + 1) _ rfl rfl 25 _ (show Blk _ _ _ _ from K44.out) H.out rfl (by simp [Value.oneCell']) ?_; intro w5 hblk hgr)
      have hbz : Below w.heap.size w w5 := HB4.out.grown hgr HB4.out.size (fun k hk => by injection hk with hk; omega)
      have ho5 : OS w5 base A2 n2 c2 l2 := HO4.out.grown (show Blk w4 _ 25 _ from K44.out) id tss_prj (by decide) hgr
      have f0 := hblk.cell 0
      have f1 := hblk.cell 1
      refine bodyPost_ret (v := .tuple #[.agg (prjV e3 A2 n2 c2), .int .i64 cd]) (by simp [results, Try.results19, go_sem, f0, f1]) rfl ?_
      refine growIs_next (w0 := w5) (base := base) HOK.out HNG.out HN64.out (by have := HBA.out; omega) ⟨e3, A2, n2, c2, l2, cd, rfl, ho5, Below.refl _ _, HR4.out⟩ hbz
end
end Go.Proofs.Ytmdgmnaaopineaa
/- A projection that has grown deals out each position ahead as before. No walk. -/
namespace Go.Proofs.Ytmdgmnaaopineaa
open Go.ChangeShapes Go.WideShapes Go.ChangeAt Go.RowKit
set_option linter.unusedVariables false
theorem growL_in {l : List Stp} {x y r : Nat} {s : Stp} {sets : List (List Nat)} (h : InStripe l y r s) (hy : y < x) : ∃ t, InStripe (growL l x sets) y r (s.1, t, s.2.2) := by
  obtain ⟨h1, h2, h3⟩ := h
  have hi := (List.getElem?_eq_some_iff.1 h1).1
  obtain ⟨m, hm⟩ : ∃ m, l.length = m + 1 := ⟨l.length - 1, by omega⟩
  obtain ⟨z, hz⟩ : ∃ z, l[m]? = some z := ⟨_, List.getElem?_eq_getElem (by omega)⟩
  have hl : (growL l x sets)[r]? = (l.set m (z.1, x, z.2.2))[r]? := by
    rw [growL_eq hm hz, List.getElem?_append_left (by rw [List.length_set]; exact hi)]
  by_cases him : r = m
  · subst him
    rw [h1] at hz
    injection hz with hz
    subst hz
    exact ⟨x, by rw [hl, List.getElem?_set_self hi], h2, hy⟩
  · exact ⟨s.2.1, by rw [hl, List.getElem?_set_ne (fun e => him e.symm), h1], h2, h3⟩
theorem grow_nodes {e e2 x y : Nat} {l : List Stp} {sets : List (List Nat)} (h : POk (e, l)) (h2 : POk (e2, growL l x sets)) (hy : y < x) (hp : PosOk y) : nodesAt l y = nodesAt (growL l x sets) y := by
  obtain ⟨r, s, hin⟩ := inStripe_some h hp
  obtain ⟨t, hin2⟩ := growL_in (sets := sets) hin hy
  rw [nodesAt_eq h hin, nodesAt_eq h2 hin2]
theorem grow_place {e2 x y r r' K K' N N' : Nat} {l : List Stp} {sets : List (List Nat)} {nd nd' : List Nat} (h2 : POk (e2, growL l x sets)) (hy : y < x) (p1 : PlaceIs l y r K N nd) (p2 : PlaceIs (growL l x sets) y r' K' N' nd') : r' = r ∧ N' = N := by
  obtain ⟨s, hin, _, _, hN, _⟩ := p1
  obtain ⟨s', hin', _, _, hN', _⟩ := p2
  obtain ⟨t, hin2⟩ := growL_in (sets := sets) hin hy
  obtain ⟨hr, hs⟩ := inStripe_unique h2 hin' hin2
  subst hs
  exact ⟨hr, by rw [hN, hN']⟩
theorem grow_lt {e2 x : Nat} {l : List Stp} {sets : List (List Nat)} (h2 : POk (e2, growL l x sets)) : x < 4611686018427387904 := by
  have hm : ((x, 4611686018427387904, sets) : Stp) ∈ growL l x sets := by unfold growL; simp
  have := (pOk_stripes h2 _ hm).1
  exact this
theorem grow_first {e e2 x r : Nat} {ok : Bool} {l : List Stp} {sets : List (List Nat)} (h : POk (e, l)) (h2 : POk (e2, growL l x sets)) (hf : FirstIs l (growL l x sets) r ok) : ok = true → ¬ r < x := by
  rcases hf with ⟨_, hr, hne, _⟩ | ⟨h0, _⟩
  · intro _ hlt
    exact hne (grow_nodes h h2 hlt hr)
  · intro h1
    rw [h0] at h1
    cases h1
theorem growP_ways2 (p : Prj) (x : Nat) (sets : List (List Nat)) : (∃ cd : Int, cd ≠ 0 ∧ growP p x sets = ((0, []), cd)) ∨ (POk p ∧ POk (p.1 + 1, growL p.2 x sets) ∧ growP p x sets = ((p.1 + 1, growL p.2 x sets), 0)) := by
  by_cases h1 : POk p
  · by_cases h2 : G17 p x
    · exact .inl ⟨17, by decide, growP_17 h1 h2⟩
    · by_cases h3 : p.2.length = 64
      · exact .inl ⟨2, by decide, growP_2 h1 h2 h3⟩
      · by_cases h4 : EOk (p.1 + 1)
        · by_cases h5 : POk (p.1 + 1, growL p.2 x sets)
          · exact .inr ⟨h1, h5, growP_0 h1 h2 h3 h4 h5⟩
          · exact .inl ⟨3, by decide, growP_3 h1 h2 h3 h4 h5⟩
        · exact .inl ⟨18, by decide, growP_18 h1 h2 h3 h4⟩
  · exact .inl ⟨3, by decide, growP_no h1⟩
theorem grow_is2 {D D' : Dom} {A A' : Option Addr} {n c n' c' e x qe : Nat} {l ql : List Stp} {sets : List (List Nat)} {w : World} {cd : Int} (hg : growP (e, l) x sets = ((qe, ql), cd)) (hs : Sl rpStp w D A n c l) (he : e ≤ 18446744073709551615) (hx : x ≤ 18446744073709551615) (hs' : Sl (rpSlice rpU64) w D' A' n' c' sets) (hn' : n' ≤ 1000) (hl' : ∀ (i : Nat) y, sets[i]? = some y → y.length ≤ 1000) :
    Calls Try.prog 19 #[.agg (prjV e A n c), .int .u64 (x : Int), .slice A' n' c'] w fun en w' => ∃ A2 n2 c2, en = .returned (.tuple #[.agg (prjV qe A2 n2 c2), .int .i64 cd]) ∧ rpStp.sl w' (fun k => k < w'.heap.size) A2 n2 c2 ql ∧ Below w.heap.size w w' :=
  (grow_any hs.1 hs.2 he hx hs'.1 hs'.2 hn' hl').mono (fun en w' h => by unfold GrowIs at h; rw [hg] at h; exact h)
abbrev twoL : List Stp := [(0, 5, [[7]]), (5, 4611686018427387904, [[8]])]
theorem sOk_seven {a b v : Nat} (hab : a < b) (hb : b ≤ 4611686018427387904) (hv : v ≤ 4294967295) : SOk (a, b, [[v]]) := by
  refine ⟨hab, hb, Nat.le_refl 1, (by decide : 1 ≤ 8), fun i l hl => ?_⟩
  match i, hl with
  | 0, hl =>
    cases hl
    exact ⟨Nat.le_refl 1, (by decide : 1 ≤ 8), fun i a b ha hb => by simp at hb, fun a ha => by simp at ha; omega, fun j o hj => by omega⟩
  | i + 1, hl => simp at hl
theorem pOk_two : POk (2, twoL) := by
  refine ⟨⟨⟨⟨by decide, by decide⟩, by decide, by decide⟩, fun i s hi hs => ?_⟩, rfl⟩
  match i, hs with
  | 0, hs => cases hs; exact ⟨sOk_seven (by decide) (by decide) (by decide), rfl⟩
  | 1, hs => cases hs; exact ⟨sOk_seven (by decide) (by decide) (by decide), rfl⟩
  | i + 2, hs => simp at hs
theorem grow_two : growP (1, oneL) 5 [[8]] = ((2, twoL), 0) := by
  refine growP_0 pOk_one ?_ (by decide) ⟨by decide, by decide⟩ pOk_two
  rintro (⟨s, hs, hx⟩ | h)
  · cases hs
    exact absurd hx (by decide)
  · exact absurd h (by decide)
end Go.Proofs.Ytmdgmnaaopineaa
/- The example of the top law: does a projection that has grown deal out a position anew? -/
namespace Go.Proofs.Ytmdgmnaaopineaa
open Go.ChangeShapes Go.WideShapes Go.ChangeAt Go.RowKit
set_option linter.unusedVariables false
theorem u64_head {w : World} {D : Dom} {b off c v : Nat} (h : rpU64.sl w D (some ⟨b, off, none⟩) 1 c [v]) : w.cell? ⟨b, off, none⟩ = some (.int .u64 (v : Int)) := by
  obtain ⟨b', off', x, cs, hA, _, hx, hok, hc⟩ := Rp.sl_at h (k := 0) (by decide)
  injection hA with hA
  injection hA with e1 e2 _
  subst e1; subst e2
  simp only [List.getElem?_cons_zero, Option.some.injEq] at hx
  subst hx
  obtain ⟨rfl, _⟩ := hok
  have := hc 0 _ rfl
  simpa using this
def AtTwo (v : Nat) (w : World) (en : Ending) (w' : World) : Prop :=
  ∃ (r K N : Nat) (b off c : Nat) (D : Dom), en = .returned (.tuple #[.agg #[.int .i64 (r : Int), .int .i64 (K : Int), .int .u64 (N : Int), .slice (some ⟨b, off, none⟩) 1 c], .int .i64 0]) ∧ Sl rpU64 w' D (some ⟨b, off, none⟩) 1 c [v] ∧ Below w.heap.size w w'
theorem at_two {D : Dom} {A : Option Addr} {n c e : Nat} {l : List Stp} {w : World} (y v : Nat) (h : Sl rpStp w D A n c l) (hok : POk (e, l)) (hp : PosOk y) (hv : nodesAt l y = [v]) :
    Calls Try.prog 24 #[.agg (prjV e A n c), .int .u64 (y : Int)] w (AtTwo v w) := by
  have he : e ≤ 18446744073709551615 := by have := hok.1.1.1.2; simp only at this; omega
  have hy : y ≤ 18446744073709551615 := by have : y < 4611686018427387904 := hp; omega
  refine (at_ok y h.1 h.2 he hy hok hp).mono ?_
  rintro en w' ⟨r, K, N, nd, A2, n2, c2, D2, rfl, hpl, hsl, hd, hb⟩
  have hnd := place_nodes hok hpl
  rw [hv] at hnd
  subst hnd
  obtain rfl : 1 = n2 := (Rp.sl_len hsl).1
  obtain ⟨b, off, x, cs, rfl, _⟩ := Rp.sl_at hsl (k := 0) (by decide)
  exact ⟨r, K, N, b, off, c2, D2, rfl, ⟨hsl, fun k hk => (hd k hk).2⟩, hb⟩
set_option maxRecDepth 100000 in
set_option maxHeartbeats 4000000 in
theorem lives_any (w : World) : Calls Try.prog 18 #[] w fun e w' => e = .returned (.bool true) ∧ Below w.heap.size w w' := by
  obtain ⟨qe, hqe⟩ : ∃ qe, qe = 2 := ⟨_, rfl⟩
  obtain ⟨ql, hql⟩ : ∃ ql, ql = twoL := ⟨_, rfl⟩
  have hg := grow_two
  rw [← hqe, ← hql] at hg
  have HG := Lib.hid hg
  have hok := pOk_two
  rw [← hqe, ← hql] at hok
  have HOK := Lib.hid hok
  have h4 : nodesAt ql 4 = [7] := by rw [hql]; rfl
  have h5 : nodesAt ql 5 = [8] := by rw [hql]; rfl
  have H4 := Lib.hid h4
  have H5 := Lib.hid h5
  clear hg hok hqe hql h4 h5
  have BB_0 : Hid (Below w.heap.size w w) := Below.refl _ _
  go_enter Try.func18, Try.ntmps18
  go_wp2_with fail
  refine (one_any _).mono ?_; rintro en w1 ⟨Ao, co, rfl, hso, hb⟩
  obtain ⟨Do, hsd⟩ : ∃ Dq, Sl rpStp w1 Dq Ao 1 co oneL := ⟨_, hso, fun k hk => hk⟩
  clear hso
  have BB_1 : Hid (Below w.heap.size w w1) := stepB BB_0.out hb
  have so_1 : Hid (Sl rpStp w1 Do Ao 1 co oneL) := hsd
  clear hb
  clear hsd
  go_wp2_with fail
  have hb : Below w1.heap.size w1 ((w1.alloc (.cells (#[.int .u64 ((8 : Nat) : Int)]) 22)).alloc (.cells (#[.slice (some ⟨w1.heap.size, 0, none⟩) 1 1]) 46)) := below2 _ (.cells (#[.int .u64 ((8 : Nat) : Int)]) 22) (.cells (#[.slice (some ⟨w1.heap.size, 0, none⟩) 1 1]) 46)
  have so_2 : Hid (Sl rpStp ((w1.alloc (.cells (#[.int .u64 ((8 : Nat) : Int)]) 22)).alloc (.cells (#[.slice (some ⟨w1.heap.size, 0, none⟩) 1 1]) 46)) Do Ao 1 co oneL) := keepS so_1.out hb
  have BB_2 : Hid (Below w.heap.size w ((w1.alloc (.cells (#[.int .u64 ((8 : Nat) : Int)]) 22)).alloc (.cells (#[.slice (some ⟨w1.heap.size, 0, none⟩) 1 1]) 46))) := stepB BB_1.out hb
  have sz_1 := BB_1.out.size
  have o1_2 : Hid (Blk ((w1.alloc (.cells (#[.int .u64 ((8 : Nat) : Int)]) 22)).alloc (.cells (#[.slice (some ⟨w1.heap.size, 0, none⟩) 1 1]) 46)) w1.heap.size 22 (#[.int .u64 ((8 : Nat) : Int)])) := blk21 _ _ _ _ _
  have o2_2 : Hid (Blk ((w1.alloc (.cells (#[.int .u64 ((8 : Nat) : Int)]) 22)).alloc (.cells (#[.slice (some ⟨w1.heap.size, 0, none⟩) 1 1]) 46)) (w1.heap.size + 1) 46 (#[.slice (some ⟨w1.heap.size, 0, none⟩) 1 1])) := blk22 _ _ _ _ _
  clear hb
  generalize hgs : w1.heap.size = gs at *
  generalize World.alloc (World.alloc w1 _) _ = w2 at *
  obtain ⟨Ds, hss⟩ : ∃ Ds, Sl (rpSlice rpU64) w2 Ds (some ⟨gs + 1, 0, none⟩) 1 1 [[8]] := by
    refine ⟨fun k => k < w2.heap.size, ?_, fun k hk => hk⟩
    refine Rp.sl_block rfl (show Blk w2 (gs + 1) 46 (#[.slice (some ⟨gs, 0, none⟩) 1 1]) from o2_2.out) (show Blk w2 (gs + 1) 46 (#[.slice (some ⟨gs, 0, none⟩) 1 1]) from o2_2.out).lt rfl (by decide) (fun i x hx => ?_)
    match i, hx with
    | 0, hx =>
      cases hx
      refine ⟨_, rfl, Rp.sl_block (r := rpU64) rfl (show Blk w2 gs 22 (#[.int .u64 ((8 : Nat) : Int)]) from o1_2.out) (show Blk w2 gs 22 (#[.int .u64 ((8 : Nat) : Int)]) from o1_2.out).lt rfl (by decide) (fun i x hx => ?_)⟩
      match i, hx with
      | 0, hx => cases hx; exact ⟨_, rfl, u64_ok _ _ _ (by decide)⟩
  have ss_2 : Hid (Sl (rpSlice rpU64) w2 Ds (some ⟨gs + 1, 0, none⟩) 1 1 [[8]]) := hss
  clear hss
  have HGR := Lib.hid (grow_is2 (x := 5) HG.out so_2.out (by decide) (by decide) ss_2.out (by decide) (fun i y hy => by match i, hy with | 0, hy => cases hy; decide))
  refine (HGR.out).mono ?_; rintro en w3 ⟨Aq, nq, cq, rfl, hsq, hb⟩
  obtain ⟨Dq, hsd⟩ : ∃ Dq, Sl rpStp w3 Dq Aq nq cq ql := ⟨_, hsq, fun k hk => hk⟩
  clear hsq
  have so_3 : Hid (Sl rpStp w3 Do Ao 1 co oneL) := keepS so_2.out hb
  have o1_3 : Hid (Blk w3 gs 22 (#[.int .u64 ((8 : Nat) : Int)])) := keepB o1_2.out hb
  have o2_3 : Hid (Blk w3 (gs + 1) 46 (#[.slice (some ⟨gs, 0, none⟩) 1 1])) := keepB o2_2.out hb
  have ss_3 : Hid (Sl (rpSlice rpU64) w3 Ds (some ⟨gs + 1, 0, none⟩) 1 1 [[8]]) := keepS ss_2.out hb
  have BB_3 : Hid (Below w.heap.size w w3) := stepB BB_2.out hb
  have sq_3 : Hid (Sl rpStp w3 Dq Aq nq cq ql) := hsd
  clear hb
  clear hsd
  go_upto_region 2 with (fail)
  have hb : Below w3.heap.size w3 (w3.alloc (.cells (prjV qe Aq nq cq) 25)) := below1 _ (.cells (prjV qe Aq nq cq) 25)
  have so_4 : Hid (Sl rpStp (w3.alloc (.cells (prjV qe Aq nq cq) 25)) Do Ao 1 co oneL) := keepS so_3.out hb
  have o1_4 : Hid (Blk (w3.alloc (.cells (prjV qe Aq nq cq) 25)) gs 22 (#[.int .u64 ((8 : Nat) : Int)])) := keepB o1_3.out hb
  have o2_4 : Hid (Blk (w3.alloc (.cells (prjV qe Aq nq cq) 25)) (gs + 1) 46 (#[.slice (some ⟨gs, 0, none⟩) 1 1])) := keepB o2_3.out hb
  have ss_4 : Hid (Sl (rpSlice rpU64) (w3.alloc (.cells (prjV qe Aq nq cq) 25)) Ds (some ⟨gs + 1, 0, none⟩) 1 1 [[8]]) := keepS ss_3.out hb
  have sq_4 : Hid (Sl rpStp (w3.alloc (.cells (prjV qe Aq nq cq) 25)) Dq Aq nq cq ql) := keepS sq_3.out hb
  have BB_4 : Hid (Below w.heap.size w (w3.alloc (.cells (prjV qe Aq nq cq) 25))) := stepB BB_3.out hb
  have sz_3 := BB_3.out.size
  have pq_4 : Hid (Blk (w3.alloc (.cells (prjV qe Aq nq cq) 25)) w3.heap.size 25 (prjV qe Aq nq cq)) := blk11 _ _ _
  clear hb
  generalize hgq : w3.heap.size = gq at *
  generalize World.alloc w3 _ = w4 at *
  have z_pq0_4 := (show Blk w4 gq 25 (prjV qe Aq nq cq) from pq_4.out).cell 0
  have z_pq1_4 := (show Blk w4 gq 25 (prjV qe Aq nq cq) from pq_4.out).cell 1
  go_wp2_with fail
  have HATx := Lib.hid (at_two 4 7 sq_4.out HOK.out (by unfold PosOk; decide) H4.out)
  refine (HATx.out).mono ?_; rintro en w5 ⟨rx, kx, nx, bx, offx, cx, Dx, rfl, hsx, hb⟩
  have so_5 : Hid (Sl rpStp w5 Do Ao 1 co oneL) := keepS so_4.out hb
  have o1_5 : Hid (Blk w5 gs 22 (#[.int .u64 ((8 : Nat) : Int)])) := keepB o1_4.out hb
  have o2_5 : Hid (Blk w5 (gs + 1) 46 (#[.slice (some ⟨gs, 0, none⟩) 1 1])) := keepB o2_4.out hb
  have ss_5 : Hid (Sl (rpSlice rpU64) w5 Ds (some ⟨gs + 1, 0, none⟩) 1 1 [[8]]) := keepS ss_4.out hb
  have sq_5 : Hid (Sl rpStp w5 Dq Aq nq cq ql) := keepS sq_4.out hb
  have pq_5 : Hid (Blk w5 gq 25 (prjV qe Aq nq cq)) := keepB pq_4.out hb
  have BB_5 : Hid (Below w.heap.size w w5) := stepB BB_4.out hb
  have sx_5 : Hid (Sl rpU64 w5 Dx (some ⟨bx, offx, none⟩) 1 cx [7]) := hsx
  clear z_pq0_4 z_pq1_4
  clear hb
  clear hsx
  go_upto_region 3 with (fail)
  have hb : Below w5.heap.size w5 (w5.alloc (.cells (#[.int .i64 (rx : Int), .int .i64 (kx : Int), .int .u64 (nx : Int), .slice (some ⟨bx, offx, none⟩) 1 cx]) 48)) := below1 _ (.cells (#[.int .i64 (rx : Int), .int .i64 (kx : Int), .int .u64 (nx : Int), .slice (some ⟨bx, offx, none⟩) 1 cx]) 48)
  have so_6 : Hid (Sl rpStp (w5.alloc (.cells (#[.int .i64 (rx : Int), .int .i64 (kx : Int), .int .u64 (nx : Int), .slice (some ⟨bx, offx, none⟩) 1 cx]) 48)) Do Ao 1 co oneL) := keepS so_5.out hb
  have o1_6 : Hid (Blk (w5.alloc (.cells (#[.int .i64 (rx : Int), .int .i64 (kx : Int), .int .u64 (nx : Int), .slice (some ⟨bx, offx, none⟩) 1 cx]) 48)) gs 22 (#[.int .u64 ((8 : Nat) : Int)])) := keepB o1_5.out hb
  have o2_6 : Hid (Blk (w5.alloc (.cells (#[.int .i64 (rx : Int), .int .i64 (kx : Int), .int .u64 (nx : Int), .slice (some ⟨bx, offx, none⟩) 1 cx]) 48)) (gs + 1) 46 (#[.slice (some ⟨gs, 0, none⟩) 1 1])) := keepB o2_5.out hb
  have ss_6 : Hid (Sl (rpSlice rpU64) (w5.alloc (.cells (#[.int .i64 (rx : Int), .int .i64 (kx : Int), .int .u64 (nx : Int), .slice (some ⟨bx, offx, none⟩) 1 cx]) 48)) Ds (some ⟨gs + 1, 0, none⟩) 1 1 [[8]]) := keepS ss_5.out hb
  have sq_6 : Hid (Sl rpStp (w5.alloc (.cells (#[.int .i64 (rx : Int), .int .i64 (kx : Int), .int .u64 (nx : Int), .slice (some ⟨bx, offx, none⟩) 1 cx]) 48)) Dq Aq nq cq ql) := keepS sq_5.out hb
  have pq_6 : Hid (Blk (w5.alloc (.cells (#[.int .i64 (rx : Int), .int .i64 (kx : Int), .int .u64 (nx : Int), .slice (some ⟨bx, offx, none⟩) 1 cx]) 48)) gq 25 (prjV qe Aq nq cq)) := keepB pq_5.out hb
  have sx_6 : Hid (Sl rpU64 (w5.alloc (.cells (#[.int .i64 (rx : Int), .int .i64 (kx : Int), .int .u64 (nx : Int), .slice (some ⟨bx, offx, none⟩) 1 cx]) 48)) Dx (some ⟨bx, offx, none⟩) 1 cx [7]) := keepS sx_5.out hb
  have BB_6 : Hid (Below w.heap.size w (w5.alloc (.cells (#[.int .i64 (rx : Int), .int .i64 (kx : Int), .int .u64 (nx : Int), .slice (some ⟨bx, offx, none⟩) 1 cx]) 48))) := stepB BB_5.out hb
  have sz_5 := BB_5.out.size
  have px_6 : Hid (Blk (w5.alloc (.cells (#[.int .i64 (rx : Int), .int .i64 (kx : Int), .int .u64 (nx : Int), .slice (some ⟨bx, offx, none⟩) 1 cx]) 48)) w5.heap.size 48 (#[.int .i64 (rx : Int), .int .i64 (kx : Int), .int .u64 (nx : Int), .slice (some ⟨bx, offx, none⟩) 1 cx])) := blk11 _ _ _
  clear hb
  generalize hgx : w5.heap.size = gx at *
  generalize World.alloc w5 _ = w6 at *
  have z_pq0_6 := (show Blk w6 gq 25 (prjV qe Aq nq cq) from pq_6.out).cell 0
  have z_pq1_6 := (show Blk w6 gq 25 (prjV qe Aq nq cq) from pq_6.out).cell 1
  go_wp2_with fail
  have HATz := Lib.hid (at_two 5 8 sq_6.out HOK.out (by unfold PosOk; decide) H5.out)
  refine (HATz.out).mono ?_; rintro en w7 ⟨rz, kz, nz, bz, offz, cz, Dz, rfl, hsz, hb⟩
  have so_7 : Hid (Sl rpStp w7 Do Ao 1 co oneL) := keepS so_6.out hb
  have o1_7 : Hid (Blk w7 gs 22 (#[.int .u64 ((8 : Nat) : Int)])) := keepB o1_6.out hb
  have o2_7 : Hid (Blk w7 (gs + 1) 46 (#[.slice (some ⟨gs, 0, none⟩) 1 1])) := keepB o2_6.out hb
  have ss_7 : Hid (Sl (rpSlice rpU64) w7 Ds (some ⟨gs + 1, 0, none⟩) 1 1 [[8]]) := keepS ss_6.out hb
  have sq_7 : Hid (Sl rpStp w7 Dq Aq nq cq ql) := keepS sq_6.out hb
  have pq_7 : Hid (Blk w7 gq 25 (prjV qe Aq nq cq)) := keepB pq_6.out hb
  have sx_7 : Hid (Sl rpU64 w7 Dx (some ⟨bx, offx, none⟩) 1 cx [7]) := keepS sx_6.out hb
  have px_7 : Hid (Blk w7 gx 48 (#[.int .i64 (rx : Int), .int .i64 (kx : Int), .int .u64 (nx : Int), .slice (some ⟨bx, offx, none⟩) 1 cx])) := keepB px_6.out hb
  have BB_7 : Hid (Below w.heap.size w w7) := stepB BB_6.out hb
  have sz_7 : Hid (Sl rpU64 w7 Dz (some ⟨bz, offz, none⟩) 1 cz [8]) := hsz
  clear z_pq0_6 z_pq1_6
  clear hb
  clear hsz
  go_upto_region 4 with (fail)
  have hb : Below w7.heap.size w7 (w7.alloc (.cells (#[.int .i64 (rz : Int), .int .i64 (kz : Int), .int .u64 (nz : Int), .slice (some ⟨bz, offz, none⟩) 1 cz]) 48)) := below1 _ (.cells (#[.int .i64 (rz : Int), .int .i64 (kz : Int), .int .u64 (nz : Int), .slice (some ⟨bz, offz, none⟩) 1 cz]) 48)
  have so_8 : Hid (Sl rpStp (w7.alloc (.cells (#[.int .i64 (rz : Int), .int .i64 (kz : Int), .int .u64 (nz : Int), .slice (some ⟨bz, offz, none⟩) 1 cz]) 48)) Do Ao 1 co oneL) := keepS so_7.out hb
  have o1_8 : Hid (Blk (w7.alloc (.cells (#[.int .i64 (rz : Int), .int .i64 (kz : Int), .int .u64 (nz : Int), .slice (some ⟨bz, offz, none⟩) 1 cz]) 48)) gs 22 (#[.int .u64 ((8 : Nat) : Int)])) := keepB o1_7.out hb
  have o2_8 : Hid (Blk (w7.alloc (.cells (#[.int .i64 (rz : Int), .int .i64 (kz : Int), .int .u64 (nz : Int), .slice (some ⟨bz, offz, none⟩) 1 cz]) 48)) (gs + 1) 46 (#[.slice (some ⟨gs, 0, none⟩) 1 1])) := keepB o2_7.out hb
  have ss_8 : Hid (Sl (rpSlice rpU64) (w7.alloc (.cells (#[.int .i64 (rz : Int), .int .i64 (kz : Int), .int .u64 (nz : Int), .slice (some ⟨bz, offz, none⟩) 1 cz]) 48)) Ds (some ⟨gs + 1, 0, none⟩) 1 1 [[8]]) := keepS ss_7.out hb
  have sq_8 : Hid (Sl rpStp (w7.alloc (.cells (#[.int .i64 (rz : Int), .int .i64 (kz : Int), .int .u64 (nz : Int), .slice (some ⟨bz, offz, none⟩) 1 cz]) 48)) Dq Aq nq cq ql) := keepS sq_7.out hb
  have pq_8 : Hid (Blk (w7.alloc (.cells (#[.int .i64 (rz : Int), .int .i64 (kz : Int), .int .u64 (nz : Int), .slice (some ⟨bz, offz, none⟩) 1 cz]) 48)) gq 25 (prjV qe Aq nq cq)) := keepB pq_7.out hb
  have sx_8 : Hid (Sl rpU64 (w7.alloc (.cells (#[.int .i64 (rz : Int), .int .i64 (kz : Int), .int .u64 (nz : Int), .slice (some ⟨bz, offz, none⟩) 1 cz]) 48)) Dx (some ⟨bx, offx, none⟩) 1 cx [7]) := keepS sx_7.out hb
  have px_8 : Hid (Blk (w7.alloc (.cells (#[.int .i64 (rz : Int), .int .i64 (kz : Int), .int .u64 (nz : Int), .slice (some ⟨bz, offz, none⟩) 1 cz]) 48)) gx 48 (#[.int .i64 (rx : Int), .int .i64 (kx : Int), .int .u64 (nx : Int), .slice (some ⟨bx, offx, none⟩) 1 cx])) := keepB px_7.out hb
  have sz_8 : Hid (Sl rpU64 (w7.alloc (.cells (#[.int .i64 (rz : Int), .int .i64 (kz : Int), .int .u64 (nz : Int), .slice (some ⟨bz, offz, none⟩) 1 cz]) 48)) Dz (some ⟨bz, offz, none⟩) 1 cz [8]) := keepS sz_7.out hb
  have BB_8 : Hid (Below w.heap.size w (w7.alloc (.cells (#[.int .i64 (rz : Int), .int .i64 (kz : Int), .int .u64 (nz : Int), .slice (some ⟨bz, offz, none⟩) 1 cz]) 48))) := stepB BB_7.out hb
  have sz_7 := BB_7.out.size
  have pz_8 : Hid (Blk (w7.alloc (.cells (#[.int .i64 (rz : Int), .int .i64 (kz : Int), .int .u64 (nz : Int), .slice (some ⟨bz, offz, none⟩) 1 cz]) 48)) w7.heap.size 48 (#[.int .i64 (rz : Int), .int .i64 (kz : Int), .int .u64 (nz : Int), .slice (some ⟨bz, offz, none⟩) 1 cz])) := blk11 _ _ _
  clear hb
  generalize hgz : w7.heap.size = gz at *
  generalize World.alloc w7 _ = w8 at *
  have z_px3_8 := (show Blk w8 gx 48 (#[.int .i64 (rx : Int), .int .i64 (kx : Int), .int .u64 (nx : Int), .slice (some ⟨bx, offx, none⟩) 1 cx]) from px_8.out).cell 3
  have z_pz3_8 := (show Blk w8 gz 48 (#[.int .i64 (rz : Int), .int .i64 (kz : Int), .int .u64 (nz : Int), .slice (some ⟨bz, offz, none⟩) 1 cz]) from pz_8.out).cell 3
  have zcx := u64_head (sx_8.out).1
  have zcz := u64_head (sz_8.out).1
  go_wp2_with fail
  go_ret
  exact ⟨rfl, BB_8.out⟩
end Go.Proofs.Ytmdgmnaaopineaa
/- stripe.Same: slices.Equal, slices.EqualFunc over a function. -/
namespace Go.Proofs.Ytmdgmnaaopineaa
open Go.ChangeShapes Go.WideShapes Go.ChangeAt Go.RowKit
set_option linter.unusedVariables false
theorem eq6_any {D D' : Dom} {A A' : Option Addr} {n c n' c' : Nat} {l l' : List Nat} {w : World} (hs : rpU64.sl w D A n c l) (hs' : rpU64.sl w D' A' n' c' l') (hD : ∀ k, D k → k < w.heap.size) (hD' : ∀ k, D' k → k < w.heap.size) :
    Calls Try.prog 83 #[.slice A n c, .slice A' n' c'] w fun en w' => en = .returned (.bool (dec (l = l'))) ∧ Below w.heap.size w w' := by
  obtain ⟨hlen, hnc, hcm⟩ := Rp.sl_len hs
  obtain ⟨hlen', hnc', hcm'⟩ := Rp.sl_len hs'
  unfold maxLen at hcm hcm'
  have HL := Lib.hid hs
  have HL' := Lib.hid hs'
  have HN := Lib.hid hlen
  have HN' := Lib.hid hlen'
  have HD := Lib.hid hD
  have HD' := Lib.hid hD'
  clear hs hs' hlen hlen' hD hD'
  by_cases hne : n = n'
  case neg =>
    have hd : ((n : Int) != (n' : Int)) = true := by simp; omega
    rw [dec_false (fun h : l = l' => hne (by rw [← HN.out, ← HN'.out, h]))]
    clear hne
    go_enter Try.func83, Try.ntmps83
    go_wp2_with fail
    go_ret
    exact ⟨rfl, Below.refl _ _⟩
  subst hne
  go_enter Try.func83, Try.ntmps83
  go_wp2_with fail
  go_loopw [13] (fun i wr => ∃ k : Nat, k ≤ n ∧ i = .int .i64 k ∧ Hid (∀ (j : Nat), j < k → l[j]? = l'[j]?) ∧ Below w.heap.size w wr) (fun i _ => n - (intOf i).toNat)
  case atStart => exact ⟨0, by omega, rfl, fun j h => by omega, Below.refl _ _⟩
  case round =>
    obtain ⟨k, hk, rfl, hsh, hbr⟩ := hrel
    have HB := Lib.hid hbr
    by_cases hkn : k < n
    · obtain ⟨b, off, y, rfl, hb, hy, hc, hlt⟩ := u64_at (Rp.sl_below HL.out hbr HD.out) hkn
      obtain ⟨b', off', z, rfl, hb', hz, hc', hlt'⟩ := u64_at (Rp.sl_below HL'.out hbr HD'.out) hkn
      have hd : decide ((k : Int) < (n : Int)) = true := by simp; omega
      have hk0 : (0 : Int) ≤ (k : Int) := by omega
      have hk1 : (k : Int) < (n : Int) := by omega
      have HY := Lib.hid hy
      have HZ := Lib.hid hz
      clear hy hz hbr
      by_cases hyz : y = z
      · have hq : ((y : Int) != (z : Int)) = false := by simp; omega
        have HYZ := Lib.hid hyz
        clear hyz
        go_wp2_with fail
        go_quiet (fail)
        go_wp2_with fail
        go_roundw
        case rel =>
          refine ⟨k + 1, by omega, by go_num, fun j hj => ?_, HB.out.trans ⟨rfl, rfl, rfl, Nat.le_refl _, fun _ _ => rfl⟩⟩
          rcases Nat.lt_or_ge j k with h | h
          · exact hsh.out j h
          · obtain rfl : j = k := by omega
            rw [HY.out, HZ.out, HYZ.out]
        case measure => simp [intOf]; omega
      · have hq : ((y : Int) != (z : Int)) = true := by simp; omega
        have hno := Lib.hid (show ¬ l = l' from fun h => hyz (by have h1 := HY.out; rw [h, HZ.out] at h1; injection h1 with h1; exact h1.symm))
        clear hyz
        go_wp2_with fail
        go_quiet (fail)
        go_wp2_with fail
        go_ret
        rw [dec_false hno.out]
        exact ⟨rfl, HB.out.trans ⟨rfl, rfl, rfl, Nat.le_refl _, fun _ _ => rfl⟩⟩
    · obtain rfl : k = n := by omega
      have hd : decide ((k : Int) < (k : Int)) = false := by simp
      clear hbr
      go_wp2_with fail
      go_ret
      have hyes : l = l' := List.ext_getElem? (fun j => by
        rcases Nat.lt_or_ge j k with h | h
        · exact hsh.out j h
        · rw [List.getElem?_eq_none (by rw [HN.out]; exact h), List.getElem?_eq_none (by rw [HN'.out]; exact h)])
      rw [dec_true hyes]
      exact ⟨rfl, HB.out⟩
section
variable {D D' : Dom} {A A' : Option Addr} {n c f t n' c' f' t' : Nat} {sets sets' : List (List Nat)} {w : World}
theorem sclos_any {D D' : Dom} {A A' : Option Addr} {n c n' c' : Nat} {l l' : List Nat} {w : World} (hs : rpU64.sl w D A n c l) (hs' : rpU64.sl w D' A' n' c' l') (hD : ∀ k, D k → k < w.heap.size) (hD' : ∀ k, D' k → k < w.heap.size) :
    Calls Try.prog 110 #[.slice A n c, .slice A' n' c'] w fun en w' => en = .returned (.bool (dec (l = l'))) ∧ Below w.heap.size w w' := by
  have HQ := Lib.hid (eq6_any hs hs' hD hD')
  clear hs hs' hD hD'
  go_enter Try.func110, Try.ntmps110
  go_wp2_with fail
  refine HQ.out.mono ?_; rintro en w1 ⟨rfl, hb⟩
  go_wp2_with fail
  go_ret
  exact ⟨rfl, hb⟩
set_option maxRecDepth 100000 in
set_option maxHeartbeats 2000000 in
theorem eqf_any (hs : (rpSlice rpU64).sl w D A n c sets) (hs' : (rpSlice rpU64).sl w D' A' n' c' sets') (hD : ∀ k, D k → k < w.heap.size) (hD' : ∀ k, D' k → k < w.heap.size) :
    Calls Try.prog 109 #[.slice A n c, .slice A' n' c', .func (Fn.func 110) #[] #[]] w fun e w' => e = .returned (.bool (dec (sets = sets'))) ∧ Below w.heap.size w w' := by
  obtain ⟨hlen, hnc, hcm⟩ := Rp.sl_len hs
  obtain ⟨hlen', hnc', hcm'⟩ := Rp.sl_len hs'
  unfold maxLen at hcm hcm'
  have HS := Lib.hid hs
  have HS' := Lib.hid hs'
  have HD := Lib.hid hD
  have HD' := Lib.hid hD'
  have HN := Lib.hid hlen
  have HN' := Lib.hid hlen'
  clear hs hs' hD hD' hlen hlen'
  by_cases hn : n = n'
  case neg =>
    have q3 : ((n : Int) != (n' : Int)) = true := by simp; omega
    rw [dec_false (fun h : sets = sets' => hn (by rw [← HN.out, ← HN'.out, h]))]
    clear hn
    go_enter Try.func109, Try.ntmps109
    go_wp2_with fail
    go_ret
    exact ⟨rfl, Below.refl _ _⟩
  subst hn
  have q3 : ((n : Int) != (n : Int)) = false := by simp
  go_enter Try.func109, Try.ntmps109
  go_wp2_with fail
  go_loopw [17] (fun i wr => ∃ k : Nat, k ≤ n ∧ i = .int .i64 k ∧ Hid (∀ (j : Nat), j < k → sets[j]? = sets'[j]?) ∧ Hid (Below w.heap.size w wr)) (fun i _ => n - (intOf i).toNat)
  case atStart => exact ⟨0, by omega, rfl, fun j h => by omega, Below.refl _ _⟩
  case round =>
    obtain ⟨k, hk, rfl, hsh, hbel⟩ := hrel
    by_cases hkn : k < n
    case pos =>
      obtain ⟨b1, off1, x, A1, c1, rfl, hb1, hx, hc1, hr1⟩ := rows_at (Rp.sl_below HS.out hbel.out HD.out) hkn
      obtain ⟨b2, off2, y, A2, c2, rfl, hb2, hy, hc2, hr2⟩ := rows_at (Rp.sl_below HS'.out hbel.out HD'.out) hkn
      have hz := hbel.out.size
      have hd : decide ((k : Int) < (n : Int)) = true := by simp; omega
      have hk0 : (0 : Int) ≤ (k : Int) := by omega
      have hk1 : (k : Int) < (n : Int) := by omega
      have hct := sclos_any hr1 hr2 (fun k hk => Nat.lt_of_lt_of_le (HD.out k hk) hz) (fun k hk => Nat.lt_of_lt_of_le (HD'.out k hk) hz)
      have HX := Lib.hid hx
      have HY := Lib.hid hy
      clear hx hy hr1 hr2 hb1 hb2
      cases hm : dec (x = y)
      · rw [hm] at hct
        have HCT := Lib.hid hct
        have HM := Lib.hid (of_not_dec hm)
        clear hct hm
        go_wp2_with fail
        refine HCT.out.mono ?_; rintro en w3 ⟨rfl, hb3⟩
        go_wp2_with fail
        go_ret
        rw [dec_false (fun h : sets = sets' => HM.out (by have e1 := HX.out; rw [h, HY.out] at e1; injection e1 with e1; exact e1.symm))]
        exact ⟨rfl, stepB hbel.out hb3⟩
      · rw [hm] at hct
        have HCT := Lib.hid hct
        have HM := Lib.hid (of_dec hm)
        clear hct hm
        go_wp2_with fail
        refine HCT.out.mono ?_; rintro en w3 ⟨rfl, hb3⟩
        go_wp2_with fail
        go_roundw
        case rel =>
          refine ⟨k + 1, by omega, by go_num, fun j hj => ?_, stepB hbel.out hb3⟩
          rcases Nat.lt_or_ge j k with h | h
          · exact hsh.out j h
          · obtain rfl : j = k := by omega
            rw [HX.out, HY.out, HM.out]
        case measure => simp [intOf]; omega
    case neg =>
      obtain rfl : k = n := by omega
      have hd : decide ((k : Int) < (k : Int)) = false := by simp
      go_wp2_with fail
      go_ret
      have hyes : sets = sets' := List.ext_getElem? (fun j => by
        rcases Nat.lt_or_ge j k with h | h
        · exact hsh.out j h
        · rw [List.getElem?_eq_none (by rw [HN.out]; exact h), List.getElem?_eq_none (by rw [HN'.out]; exact h)])
      rw [dec_true hyes]
      exact ⟨rfl, hbel.out⟩
set_option maxRecDepth 100000 in
set_option maxHeartbeats 2000000 in
theorem stsame_any (hs : (rpSlice rpU64).sl w D A n c sets) (hs' : (rpSlice rpU64).sl w D' A' n' c' sets') (hD : ∀ k, D k → k < w.heap.size) (hD' : ∀ k, D' k → k < w.heap.size) :
    Calls Try.prog 54 #[.agg (stpV f t A n c), .agg (stpV f' t' A' n' c')] w fun e w' => e = .returned (.bool (dec ((f, t, sets) = (f', t', sets')))) ∧ Below w.heap.size w w' := by
  have HA := Lib.hid (blk21 w 31 31 (stpV f t A n c) (stpV f' t' A' n' c'))
  have HB := Lib.hid (blk22 w 31 31 (stpV f t A n c) (stpV f' t' A' n' c'))
  have hz := below2 w (.cells (stpV f t A n c) 31) (.cells (stpV f' t' A' n' c') 31)
  have HZ := Lib.hid hz
  have HE := Lib.hid (eqf_any (Rp.sl_below hs hz hD) (Rp.sl_below hs' hz hD') (fun k hk => Nat.lt_of_lt_of_le (hD k hk) hz.size) (fun k hk => Nat.lt_of_lt_of_le (hD' k hk) hz.size))
  clear hs hs' hD hD' hz
  by_cases hf : f = f'
  case neg =>
    have q1 : ((f : Int) == (f' : Int)) = false := by simp; omega
    rw [dec_false (fun h : (f, t, sets) = (f', t', sets') => hf (by injection h))]
    clear hf
    go_enter Try.func54, Try.ntmps54
    go_wp2_with fail
    generalize World.alloc (World.alloc w _) _ = w0 at *
    have a0 := (show Blk w0 w.heap.size 31 _ from HA.out).cell 0
    have a1 := (show Blk w0 w.heap.size 31 _ from HA.out).cell 1
    have a2 := (show Blk w0 w.heap.size 31 _ from HA.out).cell 2
    have b0 := (show Blk w0 (w.heap.size + 1) 31 _ from HB.out).cell 0
    have b1 := (show Blk w0 (w.heap.size + 1) 31 _ from HB.out).cell 1
    have b2 := (show Blk w0 (w.heap.size + 1) 31 _ from HB.out).cell 2
    go_wp2_with fail
    go_ret
    exact ⟨rfl, HZ.out⟩
  subst hf
  have q1 : ((f : Int) == (f : Int)) = true := by simp
  by_cases ht : t = t'
  case neg =>
    have q2 : ((t : Int) == (t' : Int)) = false := by simp; omega
    rw [dec_false (fun h : (f, t, sets) = (f, t', sets') => ht (by injection h with _ h; injection h))]
    clear ht
    go_enter Try.func54, Try.ntmps54
    go_wp2_with fail
    generalize World.alloc (World.alloc w _) _ = w0 at *
    have a0 := (show Blk w0 w.heap.size 31 _ from HA.out).cell 0
    have a1 := (show Blk w0 w.heap.size 31 _ from HA.out).cell 1
    have a2 := (show Blk w0 w.heap.size 31 _ from HA.out).cell 2
    have b0 := (show Blk w0 (w.heap.size + 1) 31 _ from HB.out).cell 0
    have b1 := (show Blk w0 (w.heap.size + 1) 31 _ from HB.out).cell 1
    have b2 := (show Blk w0 (w.heap.size + 1) 31 _ from HB.out).cell 2
    go_wp2_with fail
    go_ret
    exact ⟨rfl, HZ.out⟩
  subst ht
  have q2 : ((t : Int) == (t : Int)) = true := by simp
  rw [dec_congr (show (f, t, sets) = (f, t, sets') ↔ sets = sets' from ⟨fun h => by injection h with _ h; injection h, fun h => by rw [h]⟩)]
  go_enter Try.func54, Try.ntmps54
  go_wp2_with fail
  generalize World.alloc (World.alloc w _) _ = w0 at *
  have a0 := (show Blk w0 w.heap.size 31 _ from HA.out).cell 0
  have a1 := (show Blk w0 w.heap.size 31 _ from HA.out).cell 1
  have a2 := (show Blk w0 w.heap.size 31 _ from HA.out).cell 2
  have b0 := (show Blk w0 (w.heap.size + 1) 31 _ from HB.out).cell 0
  have b1 := (show Blk w0 (w.heap.size + 1) 31 _ from HB.out).cell 1
  have b2 := (show Blk w0 (w.heap.size + 1) 31 _ from HB.out).cell 2
  go_wp2_with fail
  refine HE.out.mono ?_; rintro en w1 ⟨rfl, hb⟩
  go_wp2_with fail
  go_ret
  exact ⟨rfl, stepB HZ.out hb⟩
end
end Go.Proofs.Ytmdgmnaaopineaa
/- proj.Same. -/
namespace Go.Proofs.Ytmdgmnaaopineaa
open Go.ChangeShapes Go.WideShapes Go.ChangeAt Go.RowKit
set_option linter.unusedVariables false
section
variable {D D' : Dom} {A A' : Option Addr} {n n' c c' e e' : Nat} {l l' : List Stp} {w : World}
set_option maxRecDepth 100000 in
set_option maxHeartbeats 2000000 in
theorem eqs_any (hs : rpStp.sl w D A n c l) (hs' : rpStp.sl w D' A' n' c' l') (hD : ∀ k, D k → k < w.heap.size) (hD' : ∀ k, D' k → k < w.heap.size) :
    Calls Try.prog 80 #[.slice A n c, .slice A' n' c', .func (Fn.func 54) #[] #[]] w fun en w' => en = .returned (.bool (dec (l = l'))) ∧ Below w.heap.size w w' := by
  obtain ⟨hlen, hnc, hcm⟩ := Rp.sl_len hs
  obtain ⟨hlen', hnc', hcm'⟩ := Rp.sl_len hs'
  unfold maxLen at hcm hcm'
  have HS := Lib.hid (show Sl rpStp w D A n c l from ⟨hs, hD⟩)
  have HS' := Lib.hid (show Sl rpStp w D' A' n' c' l' from ⟨hs', hD'⟩)
  have HN := Lib.hid hlen
  have HN' := Lib.hid hlen'
  clear hs hs' hD hD' hlen hlen'
  by_cases hn : n = n'
  case neg =>
    have q3 : ((n : Int) != (n' : Int)) = true := by simp; omega
    rw [dec_false (fun h : l = l' => hn (by rw [← HN.out, ← HN'.out, h]))]
    clear hn
    go_enter Try.func80, Try.ntmps80
    go_wp2_with fail
    go_ret
    exact ⟨rfl, Below.refl _ _⟩
  subst hn
  have q3 : ((n : Int) != (n : Int)) = false := by simp
  go_enter Try.func80, Try.ntmps80
  go_wp2_with fail
  go_loopw [17] (fun i wr => ∃ k : Nat, k ≤ n ∧ i = .int .i64 k ∧ Hid (∀ (j : Nat), j < k → l[j]? = l'[j]?) ∧ Hid (Below w.heap.size w wr)) (fun i _ => n - (intOf i).toNat)
  case atStart => exact ⟨0, by omega, rfl, fun j h => by omega, Below.refl _ _⟩
  case round =>
    obtain ⟨k, hk, rfl, hsh, hbel⟩ := hrel
    by_cases hkn : k < n
    case pos =>
      have hsr := keepS HS.out hbel.out
      have hsr' := keepS HS'.out hbel.out
      obtain ⟨b1, off1, s, A1, c1, rfl, hb1, hx, g10, g11, g12, hr1, hs1, hs2⟩ := stps_at hsr.1 hkn
      obtain ⟨b2, off2, t, A2, c2, rfl, hb2, hy, g20, g21, g22, hr2, ht1, ht2⟩ := stps_at hsr'.1 hkn
      obtain ⟨sf, st, ss⟩ := s
      obtain ⟨tf, tt, ts⟩ := t
      simp only at g10 g11 g12 hr1 hs1 hs2 g20 g21 g22 hr2 ht1 ht2
      have hz := hbel.out.size
      have hd : decide ((k : Int) < (n : Int)) = true := by simp; omega
      have hk0 : (0 : Int) ≤ (k : Int) := by omega
      have hk1 : (k : Int) < (n : Int) := by omega
      have hba := below2 wr (.cells (stpV sf st A1 ss.length c1) 31) (.cells (stpV tf tt A2 ts.length c2) 31)
      have hct := stsame_any (f := sf) (t := st) (f' := tf) (t' := tt) (Rp.sl_below hr1 hba hsr.2) (Rp.sl_below hr2 hba hsr'.2) (fun k hk => Nat.lt_of_lt_of_le (hsr.2 k hk) hba.size) (fun k hk => Nat.lt_of_lt_of_le (hsr'.2 k hk) hba.size)
      have HX := Lib.hid hx
      have HY := Lib.hid hy
      have HBA := Lib.hid hba
      have hbs := below1 wr (.cells (stpV sf st A1 ss.length c1) 31)
      have f20 := (hbs.cell (p := ⟨b2, off2 + k * 3, none⟩) (hsr'.2 _ hb2)).trans g20
      have f21 := (hbs.cell (p := ⟨b2, off2 + k * 3 + 1, none⟩) (hsr'.2 _ hb2)).trans g21
      have f22 := (hbs.cell (p := ⟨b2, off2 + k * 3 + 2, none⟩) (hsr'.2 _ hb2)).trans g22
      clear hbs g20 g21 g22
      clear hx hy hr1 hr2 hb1 hb2 hsr hsr' hba hs1 hs2 ht1 ht2
      cases hm : dec ((sf, st, ss) = (tf, tt, ts))
      case false =>
        rw [hm] at hct
        have HCT := Lib.hid hct
        have HM := Lib.hid (of_not_dec hm)
        clear hct hm
        go_wp2_with fail
        refine HCT.out.mono ?_; rintro en w3 ⟨rfl, hb3⟩
        have HB3 := Lib.hid (stepB (stepB hbel.out HBA.out) hb3)
        clear hb3
        go_wp2_with fail
        go_ret
        rw [dec_false (fun h : l = l' => HM.out (by have e1 := HX.out; rw [h, HY.out] at e1; injection e1 with e1; exact e1.symm))]
        exact ⟨rfl, HB3.out⟩
      case true =>
        rw [hm] at hct
        have HCT := Lib.hid hct
        have HM := Lib.hid (of_dec hm)
        clear hct hm
        go_wp2_with fail
        refine HCT.out.mono ?_; rintro en w3 ⟨rfl, hb3⟩
        have HB3 := Lib.hid (stepB (stepB hbel.out HBA.out) hb3)
        clear hb3
        go_wp2_with fail
        go_roundw
        case rel =>
          refine ⟨k + 1, by omega, by go_num, fun j hj => ?_, HB3.out⟩
          rcases Nat.lt_or_ge j k with h | h
          · exact hsh.out j h
          · obtain rfl : j = k := by omega
            rw [HX.out, HY.out, HM.out]
        case measure => simp [intOf]; omega
    case neg =>
      obtain rfl : n = k := by omega
      have hd : decide ((n : Int) < (n : Int)) = false := by simp
      go_wp2_with fail
      go_ret
      have hyes : l = l' := List.ext_getElem? (fun j => by
        rcases Nat.lt_or_ge j n with h | h
        · exact hsh.out j h
        · rw [List.getElem?_eq_none (by rw [HN.out]; exact h), List.getElem?_eq_none (by rw [HN'.out]; exact h)])
      rw [dec_true hyes]
      exact ⟨rfl, hbel.out⟩
set_option maxRecDepth 100000 in
set_option maxHeartbeats 2000000 in
theorem prsame_any (hs : rpStp.sl w D A n c l) (hs' : rpStp.sl w D' A' n' c' l') (hD : ∀ k, D k → k < w.heap.size) (hD' : ∀ k, D' k → k < w.heap.size) :
    Calls Try.prog 22 #[.agg (prjV e A n c), .agg (prjV e' A' n' c')] w fun en w' => en = .returned (.bool (dec ((e, l) = (e', l')))) ∧ Below w.heap.size w w' := by
  have HA := Lib.hid (blk21 w 25 25 (prjV e A n c) (prjV e' A' n' c'))
  have HB := Lib.hid (blk22 w 25 25 (prjV e A n c) (prjV e' A' n' c'))
  have hz := below2 w (.cells (prjV e A n c) 25) (.cells (prjV e' A' n' c') 25)
  have HZ := Lib.hid hz
  have HE := Lib.hid (eqs_any (Rp.sl_below hs hz hD) (Rp.sl_below hs' hz hD') (fun k hk => Nat.lt_of_lt_of_le (hD k hk) hz.size) (fun k hk => Nat.lt_of_lt_of_le (hD' k hk) hz.size))
  clear hs hs' hD hD' hz
  by_cases hf : e = e'
  case neg =>
    have q1 : ((e : Int) == (e' : Int)) = false := by simp; omega
    rw [dec_false (fun h : (e, l) = (e', l') => hf (by injection h))]
    clear hf
    go_enter Try.func22, Try.ntmps22
    go_wp2_with fail
    generalize World.alloc (World.alloc w _) _ = w0 at *
    have a0 := (show Blk w0 w.heap.size 25 _ from HA.out).cell 0
    have a1 := (show Blk w0 w.heap.size 25 _ from HA.out).cell 1
    have b0 := (show Blk w0 (w.heap.size + 1) 25 _ from HB.out).cell 0
    have b1 := (show Blk w0 (w.heap.size + 1) 25 _ from HB.out).cell 1
    go_wp2_with fail
    go_ret
    exact ⟨rfl, HZ.out⟩
  subst hf
  have q1 : ((e : Int) == (e : Int)) = true := by simp
  rw [dec_congr (show (e, l) = (e, l') ↔ l = l' from ⟨fun h => by injection h, fun h => by rw [h]⟩)]
  go_enter Try.func22, Try.ntmps22
  go_wp2_with fail
  generalize World.alloc (World.alloc w _) _ = w0 at *
  have a0 := (show Blk w0 w.heap.size 25 _ from HA.out).cell 0
  have a1 := (show Blk w0 w.heap.size 25 _ from HA.out).cell 1
  have b0 := (show Blk w0 (w.heap.size + 1) 25 _ from HB.out).cell 0
  have b1 := (show Blk w0 (w.heap.size + 1) 25 _ from HB.out).cell 1
  go_wp2_with fail
  refine HE.out.mono ?_; rintro en w1 ⟨rfl, hb⟩
  go_wp2_with fail
  go_ret
  exact ⟨rfl, stepB HZ.out hb⟩
end
end Go.Proofs.Ytmdgmnaaopineaa
/- slices.Equal of numbers; locate.rounds. -/
namespace Go.Proofs.Ytmdgmnaaopineaa
open Go.ChangeShapes Go.WideShapes Go.ChangeAt Go.RowKit
set_option linter.unusedVariables false
theorem rounds_any {f t f' t' n c n' c' : Nat} {A A' : Option Addr} (w : World) (h1 : n ≤ 8) (h2 : n' ≤ 8) :
    Calls Try.prog 82 #[.agg (stpV f t A n c), .agg (stpV f' t' A' n' c')] w fun en w' => en = .returned (.int .u64 ((n * n' : Nat) : Int)) ∧ Below w.heap.size w w' := by
  have hm : n * n' ≤ 64 := Nat.mul_le_mul h1 h2
  have e1 : IntKind.i64.wrap ((n : Int) * (n' : Int)) = ((n * n' : Nat) : Int) := by rw [← Int.natCast_mul]; exact IntWalk.i64_in _ (by omega)
  have e2 : IntKind.u64.wrap ((n * n' : Nat) : Int) = ((n * n' : Nat) : Int) := IntWalk.u64_in _ (by omega)
  have HZ := Lib.hid (cbelow_two w (.cells (stpV f t A n c) 31) (.cells (stpV f' t' A' n' c') 31))
  have HK := Lib.hid ((Blk.new w 31 (stpV f t A n c)).alloc (.cells (stpV f' t' A' n' c') 31))
  have HR := Lib.hid (cblk_top w (stpV f t A n c) (stpV f' t' A' n' c') 31 31)
  generalize n * n' = P at *
  clear hm
  go_enter Try.func82, Try.ntmps82
  go_wp2_with fail
  generalize World.alloc (World.alloc _ _) _ = w0 at *
  have c0 := (show Blk w0 _ _ _ from HK.out).cell 2
  have c1 := (show Blk w0 _ _ _ from HR.out).cell 2
  go_wp2_with fail
  go_ret
  exact ⟨rfl, HZ.out⟩
theorem eq64_any {D D' : Dom} {A A' : Option Addr} {n c n' c' : Nat} {l l' : List Nat} {w : World} (hs : rpU64.sl w D A n c l) (hs' : rpU64.sl w D' A' n' c' l') (hD : ∀ k, D k → k < w.heap.size) (hD' : ∀ k, D' k → k < w.heap.size) :
    Calls Try.prog 83 #[.slice A n c, .slice A' n' c'] w fun en w' => en = .returned (.bool (dec (l = l'))) ∧ Below w.heap.size w w' := by
  obtain ⟨hlen, hnc, hcm⟩ := Rp.sl_len hs
  obtain ⟨hlen', hnc', hcm'⟩ := Rp.sl_len hs'
  unfold maxLen at hcm hcm'
  have HL := Lib.hid hs
  have HL' := Lib.hid hs'
  have HN := Lib.hid hlen
  have HN' := Lib.hid hlen'
  have HD := Lib.hid hD
  have HD' := Lib.hid hD'
  clear hs hs' hlen hlen' hD hD'
  by_cases hne : n = n'
  case neg =>
    have hd : ((n : Int) != (n' : Int)) = true := by simp; omega
    rw [dec_false (fun h : l = l' => hne (by rw [← HN.out, ← HN'.out, h]))]
    clear hne
    go_enter Try.func83, Try.ntmps83
    go_wp2_with fail
    go_ret
    exact ⟨rfl, Below.refl _ _⟩
  subst hne
  go_enter Try.func83, Try.ntmps83
  go_wp2_with fail
  go_loopw [13] (fun i wr => ∃ k : Nat, k ≤ n ∧ i = .int .i64 k ∧ Hid (∀ (j : Nat), j < k → l[j]? = l'[j]?) ∧ Below w.heap.size w wr) (fun i _ => n - (intOf i).toNat)
  case atStart => exact ⟨0, by omega, rfl, fun j h => by omega, Below.refl _ _⟩
  case round =>
    obtain ⟨k, hk, rfl, hsh, hbr⟩ := hrel
    have HB := Lib.hid hbr
    by_cases hkn : k < n
    · obtain ⟨b, off, y, rfl, hb, hy, hc, hlt⟩ := u64_at (Rp.sl_below HL.out hbr HD.out) hkn
      obtain ⟨b', off', z, rfl, hb', hz, hc', hlt'⟩ := u64_at (Rp.sl_below HL'.out hbr HD'.out) hkn
      have hd : decide ((k : Int) < (n : Int)) = true := by simp; omega
      have hk0 : (0 : Int) ≤ (k : Int) := by omega
      have hk1 : (k : Int) < (n : Int) := by omega
      have HY := Lib.hid hy
      have HZ := Lib.hid hz
      clear hy hz hbr
      by_cases hyz : y = z
      · have hq : ((y : Int) != (z : Int)) = false := by simp; omega
        have HYZ := Lib.hid hyz
        clear hyz
        go_wp2_with fail
        go_quiet (fail)
        go_wp2_with fail
        go_roundw
        case rel =>
          refine ⟨k + 1, by omega, by go_num, fun j hj => ?_, HB.out.trans ⟨rfl, rfl, rfl, Nat.le_refl _, fun _ _ => rfl⟩⟩
          rcases Nat.lt_or_ge j k with h | h
          · exact hsh.out j h
          · obtain rfl : j = k := by omega
            rw [HY.out, HZ.out, HYZ.out]
        case measure => simp [intOf]; omega
      · have hq : ((y : Int) != (z : Int)) = true := by simp; omega
        have hno := Lib.hid (show ¬ l = l' from fun h => hyz (by have h1 := HY.out; rw [h, HZ.out] at h1; injection h1 with h1; exact h1.symm))
        clear hyz
        go_wp2_with fail
        go_quiet (fail)
        go_wp2_with fail
        go_ret
        rw [dec_false hno.out]
        exact ⟨rfl, HB.out.trans ⟨rfl, rfl, rfl, Nat.le_refl _, fun _ _ => rfl⟩⟩
    · obtain rfl : k = n := by omega
      have hd : decide ((k : Int) < (k : Int)) = false := by simp
      clear hbr
      go_wp2_with fail
      go_ret
      have hyes : l = l' := List.ext_getElem? (fun j => by
        rcases Nat.lt_or_ge j k with h | h
        · exact hsh.out j h
        · rw [List.getElem?_eq_none (by rw [HN.out]; exact h), List.getElem?_eq_none (by rw [HN'.out]; exact h)])
      rw [dec_true hyes]
      exact ⟨rfl, HB.out⟩
end Go.Proofs.Ytmdgmnaaopineaa
/- locate.At in all ways; locate.Moved. -/
namespace Go.Proofs.Ytmdgmnaaopineaa
open Go.ChangeShapes Go.WideShapes Go.ChangeAt Go.RowKit
set_option linter.unusedVariables false
def AtAny (l : List Stp) (e x : Nat) (w : World) (en : Ending) (w' : World) : Prop :=
  ∃ (r K N : Nat) (nd : List Nat) (A2 : Option Addr) (n2 c2 : Nat) (D2 : Dom) (cd : Int), en = .returned (.tuple #[.agg #[.int .i64 (r : Int), .int .i64 (K : Int), .int .u64 (N : Int), .slice A2 n2 c2], .int .i64 cd]) ∧ (cd = 0 → POk (e, l) ∧ PosOk x ∧ nodesAt l x = nd) ∧ (cd ≠ 0 → ¬ (POk (e, l) ∧ PosOk x)) ∧ Sl rpU64 w' D2 A2 n2 c2 nd ∧ Below w.heap.size w w'
section
variable {D D' : Dom} {A A' : Option Addr} {n c e n' c' e' : Nat} {l l' : List Stp} {w : World}
theorem at_any (x : Nat) (hs : rpStp.sl w D A n c l) (hD : ∀ k, D k → k < w.heap.size) (he : e ≤ 18446744073709551615) (hx : x ≤ 18446744073709551615) :
    Calls Try.prog 24 #[.agg (prjV e A n c), .int .u64 (x : Int)] w (AtAny l e x w) := by
  by_cases hok : POk (e, l)
  · by_cases hpo : PosOk x
    · refine (at_ok x hs hD he hx hok hpo).mono ?_
      rintro en w' ⟨r, K, N, nd, A2, n2, c2, D2, rfl, hpl, hsl, hd, hb⟩
      exact ⟨r, K, N, nd, A2, n2, c2, D2, 0, rfl, fun _ => ⟨hok, hpo, place_nodes hok hpl⟩, fun h => absurd rfl h, ⟨hsl, fun k hk => (hd k hk).2⟩, hb⟩
    · refine (at_bad x 17 hs hD he hx (.inr ⟨hok, hpo, rfl⟩)).mono ?_
      rintro en w' ⟨rfl, hb⟩
      exact ⟨0, 0, 0, [], none, 0, 0, fun _ => False, 17, rfl, fun h => absurd h (by decide), fun _ h => hpo h.2, ⟨Rp.sl_nil _ _ _ _ _ (by decide), fun k hk => hk.elim⟩, hb⟩
  · refine (at_bad x 3 hs hD he hx (.inl ⟨hok, rfl⟩)).mono ?_
    rintro en w' ⟨rfl, hb⟩
    exact ⟨0, 0, 0, [], none, 0, 0, fun _ => False, 3, rfl, fun h => absurd h (by decide), fun _ h => hok h.1, ⟨Rp.sl_nil _ _ _ _ _ (by decide), fun k hk => hk.elim⟩, hb⟩
def MovedIs (l l' : List Stp) (e e' x : Nat) : Prop := (POk (e, l) ∧ PosOk x) ∧ POk (e', l') ∧ nodesAt l x ≠ nodesAt l' x
set_option maxRecDepth 100000 in
set_option maxHeartbeats 2000000 in
theorem moved_any (x : Nat) (hs : rpStp.sl w D A n c l) (hs' : rpStp.sl w D' A' n' c' l') (hD : ∀ k, D k → k < w.heap.size) (hD' : ∀ k, D' k → k < w.heap.size) (he : e ≤ 18446744073709551615) (he' : e' ≤ 18446744073709551615) (hx : x ≤ 18446744073709551615) :
    Calls Try.prog 25 #[.agg (prjV e A n c), .agg (prjV e' A' n' c'), .int .u64 (x : Int)] w fun en w' => en = .returned (.bool (dec (MovedIs l l' e e' x))) ∧ Below w.heap.size w w' := by
  have pa_0 := Lib.hid (blk21 w 25 25 (prjV e A n c) (prjV e' A' n' c'))
  have pb_0 := Lib.hid (blk22 w 25 25 (prjV e A n c) (prjV e' A' n' c'))
  have hb := below2 w (.cells (prjV e A n c) 25) (.cells (prjV e' A' n' c') 25)
  have BB_0 := Lib.hid hb
  have sa_0 := Lib.hid (keepS (show Sl rpStp w D A n c l from ⟨hs, hD⟩) hb)
  have sb_0 := Lib.hid (keepS (show Sl rpStp w D' A' n' c' l' from ⟨hs', hD'⟩) hb)
  clear hb hs hs' hD hD'
  go_enter Try.func25, Try.ntmps25
  go_wp2_with fail
  generalize World.alloc (World.alloc w _) _ = w0 at *
  have z_pa0_0 := (show Blk w0 w.heap.size 25 (prjV e A n c) from pa_0.out).cell 0
  have z_pa1_0 := (show Blk w0 w.heap.size 25 (prjV e A n c) from pa_0.out).cell 1
  have z_pb0_0 := (show Blk w0 (w.heap.size + 1) 25 (prjV e' A' n' c') from pb_0.out).cell 0
  have z_pb1_0 := (show Blk w0 (w.heap.size + 1) 25 (prjV e' A' n' c') from pb_0.out).cell 1
  go_wp2_with fail
  refine (at_any x (sa_0.out).1 (sa_0.out).2 he hx).mono ?_; rintro en w1 ⟨r1, K1, N1, nd1, A1, n1, c1, D1, cd1, rfl, ok1, no1, hs1, hb⟩
  have OK1 := Lib.hid ok1
  have NO1 := Lib.hid no1
  clear ok1 no1
  have pa_1 : Hid (Blk w1 w.heap.size 25 (prjV e A n c)) := keepB pa_0.out hb
  have pb_1 : Hid (Blk w1 (w.heap.size + 1) 25 (prjV e' A' n' c')) := keepB pb_0.out hb
  have sa_1 : Hid (Sl rpStp w1 D A n c l) := keepS sa_0.out hb
  have sb_1 : Hid (Sl rpStp w1 D' A' n' c' l') := keepS sb_0.out hb
  have BB_1 : Hid (Below w.heap.size w w1) := stepB BB_0.out hb
  have n1_1 : Hid (Sl rpU64 w1 D1 A1 n1 c1 nd1) := hs1
  clear z_pa0_0 z_pa1_0 z_pb0_0 z_pb1_0
  clear hb
  clear hs1
  have z_pb0_1 := (show Blk w1 (w.heap.size + 1) 25 (prjV e' A' n' c') from pb_1.out).cell 0
  have z_pb1_1 := (show Blk w1 (w.heap.size + 1) 25 (prjV e' A' n' c') from pb_1.out).cell 1
  have lu_pb_1 := (show Blk w1 (w.heap.size + 1) 25 (prjV e' A' n' c') from pb_1.out).lt
  go_wp2_with fail
  have hb : Below w1.heap.size w1 (w1.alloc (.cells (#[.int .i64 (r1 : Int), .int .i64 (K1 : Int), .int .u64 (N1 : Int), .slice A1 n1 c1]) 48)) := below1 _ (.cells (#[.int .i64 (r1 : Int), .int .i64 (K1 : Int), .int .u64 (N1 : Int), .slice A1 n1 c1]) 48)
  have pa_2 : Hid (Blk (w1.alloc (.cells (#[.int .i64 (r1 : Int), .int .i64 (K1 : Int), .int .u64 (N1 : Int), .slice A1 n1 c1]) 48)) w.heap.size 25 (prjV e A n c)) := keepB pa_1.out hb
  have pb_2 : Hid (Blk (w1.alloc (.cells (#[.int .i64 (r1 : Int), .int .i64 (K1 : Int), .int .u64 (N1 : Int), .slice A1 n1 c1]) 48)) (w.heap.size + 1) 25 (prjV e' A' n' c')) := keepB pb_1.out hb
  have sa_2 : Hid (Sl rpStp (w1.alloc (.cells (#[.int .i64 (r1 : Int), .int .i64 (K1 : Int), .int .u64 (N1 : Int), .slice A1 n1 c1]) 48)) D A n c l) := keepS sa_1.out hb
  have sb_2 : Hid (Sl rpStp (w1.alloc (.cells (#[.int .i64 (r1 : Int), .int .i64 (K1 : Int), .int .u64 (N1 : Int), .slice A1 n1 c1]) 48)) D' A' n' c' l') := keepS sb_1.out hb
  have n1_2 : Hid (Sl rpU64 (w1.alloc (.cells (#[.int .i64 (r1 : Int), .int .i64 (K1 : Int), .int .u64 (N1 : Int), .slice A1 n1 c1]) 48)) D1 A1 n1 c1 nd1) := keepS n1_1.out hb
  have BB_2 : Hid (Below w.heap.size w (w1.alloc (.cells (#[.int .i64 (r1 : Int), .int .i64 (K1 : Int), .int .u64 (N1 : Int), .slice A1 n1 c1]) 48))) := stepB BB_1.out hb
  have sz_1 := BB_1.out.size
  have p1_2 : Hid (Blk (w1.alloc (.cells (#[.int .i64 (r1 : Int), .int .i64 (K1 : Int), .int .u64 (N1 : Int), .slice A1 n1 c1]) 48)) w1.heap.size 48 (#[.int .i64 (r1 : Int), .int .i64 (K1 : Int), .int .u64 (N1 : Int), .slice A1 n1 c1])) := blk11 _ _ _
  clear hb
  generalize hg1 : w1.heap.size = g1 at *
  generalize World.alloc w1 _ = w2 at *
  clear z_pb0_1 z_pb1_1 lu_pb_1
  refine (at_any x (sb_2.out).1 (sb_2.out).2 he' hx).mono ?_; rintro en w3 ⟨r2, K2, N2, nd2, A2, n2, c2, D2, cd2, rfl, ok2, no2, hs2, hb⟩
  have OK2 := Lib.hid ok2
  have NO2 := Lib.hid no2
  clear ok2 no2
  have pa_3 : Hid (Blk w3 w.heap.size 25 (prjV e A n c)) := keepB pa_2.out hb
  have pb_3 : Hid (Blk w3 (w.heap.size + 1) 25 (prjV e' A' n' c')) := keepB pb_2.out hb
  have sa_3 : Hid (Sl rpStp w3 D A n c l) := keepS sa_2.out hb
  have sb_3 : Hid (Sl rpStp w3 D' A' n' c' l') := keepS sb_2.out hb
  have n1_3 : Hid (Sl rpU64 w3 D1 A1 n1 c1 nd1) := keepS n1_2.out hb
  have p1_3 : Hid (Blk w3 g1 48 (#[.int .i64 (r1 : Int), .int .i64 (K1 : Int), .int .u64 (N1 : Int), .slice A1 n1 c1])) := keepB p1_2.out hb
  have BB_3 : Hid (Below w.heap.size w w3) := stepB BB_2.out hb
  have n2_3 : Hid (Sl rpU64 w3 D2 A2 n2 c2 nd2) := hs2
  clear hb
  clear hs2
  by_cases h1 : cd1 = 0
  case neg =>
    have lu_p1_3 := (show Blk w3 g1 48 (#[.int .i64 (r1 : Int), .int .i64 (K1 : Int), .int .u64 (N1 : Int), .slice A1 n1 c1]) from p1_3.out).lt
    have q1 : (cd1 == 0) = false := by simpa using h1
    have hr : ¬ MovedIs l l' e e' x := fun h => NO1.out h1 h.1
    have HR := Lib.hid hr
    clear hr h1
    have z_p13_3 := (show Blk w3 g1 48 (#[.int .i64 (r1 : Int), .int .i64 (K1 : Int), .int .u64 (N1 : Int), .slice A1 n1 c1]) from p1_3.out).cell 3
    go_wp2_with fail
    go_ret
    exact ⟨by rw [dec_false HR.out]; rfl, stepB BB_3.out (below1 _ _)⟩
  case pos =>
    by_cases h2 : cd2 = 0
    case neg =>
      have lu_p1_3 := (show Blk w3 g1 48 (#[.int .i64 (r1 : Int), .int .i64 (K1 : Int), .int .u64 (N1 : Int), .slice A1 n1 c1]) from p1_3.out).lt
      have q1 : (cd1 == 0) = true := by simpa using h1
      have q2 : (cd2 == 0) = false := by simpa using h2
      have hr : ¬ MovedIs l l' e e' x := fun h => NO2.out h2 ⟨h.2.1, h.1.2⟩
      have HR := Lib.hid hr
      clear hr h1 h2
      have z_p13_3 := (show Blk w3 g1 48 (#[.int .i64 (r1 : Int), .int .i64 (K1 : Int), .int .u64 (N1 : Int), .slice A1 n1 c1]) from p1_3.out).cell 3
      go_wp2_with fail
      go_ret
      exact ⟨by rw [dec_false HR.out]; rfl, stepB BB_3.out (below1 _ _)⟩
    case pos =>
      have lu_p1_3 := (show Blk w3 g1 48 (#[.int .i64 (r1 : Int), .int .i64 (K1 : Int), .int .u64 (N1 : Int), .slice A1 n1 c1]) from p1_3.out).lt
      have q1 : (cd1 == 0) = true := by simpa using h1
      have q2 : (cd2 == 0) = true := by simpa using h2
      have hr : MovedIs l l' e e' x ↔ nd1 ≠ nd2 := by
        have t1 := OK1.out h1
        have t2 := OK2.out h2
        exact ⟨fun h hn => h.2.2 (by rw [t1.2.2, t2.2.2, hn]), fun h => ⟨⟨t1.1, t1.2.1⟩, t2.1, by rw [t1.2.2, t2.2.2]; exact h⟩⟩
      have HR := Lib.hid hr
      clear hr h1 h2
      have z_p13_3 := (show Blk w3 g1 48 (#[.int .i64 (r1 : Int), .int .i64 (K1 : Int), .int .u64 (N1 : Int), .slice A1 n1 c1]) from p1_3.out).cell 3
      go_wp2_with fail
      have hb : Below w3.heap.size w3 (w3.alloc (.cells (#[.int .i64 (r2 : Int), .int .i64 (K2 : Int), .int .u64 (N2 : Int), .slice A2 n2 c2]) 48)) := below1 _ (.cells (#[.int .i64 (r2 : Int), .int .i64 (K2 : Int), .int .u64 (N2 : Int), .slice A2 n2 c2]) 48)
      have pa_4 : Hid (Blk (w3.alloc (.cells (#[.int .i64 (r2 : Int), .int .i64 (K2 : Int), .int .u64 (N2 : Int), .slice A2 n2 c2]) 48)) w.heap.size 25 (prjV e A n c)) := keepB pa_3.out hb
      have pb_4 : Hid (Blk (w3.alloc (.cells (#[.int .i64 (r2 : Int), .int .i64 (K2 : Int), .int .u64 (N2 : Int), .slice A2 n2 c2]) 48)) (w.heap.size + 1) 25 (prjV e' A' n' c')) := keepB pb_3.out hb
      have sa_4 : Hid (Sl rpStp (w3.alloc (.cells (#[.int .i64 (r2 : Int), .int .i64 (K2 : Int), .int .u64 (N2 : Int), .slice A2 n2 c2]) 48)) D A n c l) := keepS sa_3.out hb
      have sb_4 : Hid (Sl rpStp (w3.alloc (.cells (#[.int .i64 (r2 : Int), .int .i64 (K2 : Int), .int .u64 (N2 : Int), .slice A2 n2 c2]) 48)) D' A' n' c' l') := keepS sb_3.out hb
      have n1_4 : Hid (Sl rpU64 (w3.alloc (.cells (#[.int .i64 (r2 : Int), .int .i64 (K2 : Int), .int .u64 (N2 : Int), .slice A2 n2 c2]) 48)) D1 A1 n1 c1 nd1) := keepS n1_3.out hb
      have p1_4 : Hid (Blk (w3.alloc (.cells (#[.int .i64 (r2 : Int), .int .i64 (K2 : Int), .int .u64 (N2 : Int), .slice A2 n2 c2]) 48)) g1 48 (#[.int .i64 (r1 : Int), .int .i64 (K1 : Int), .int .u64 (N1 : Int), .slice A1 n1 c1])) := keepB p1_3.out hb
      have n2_4 : Hid (Sl rpU64 (w3.alloc (.cells (#[.int .i64 (r2 : Int), .int .i64 (K2 : Int), .int .u64 (N2 : Int), .slice A2 n2 c2]) 48)) D2 A2 n2 c2 nd2) := keepS n2_3.out hb
      have BB_4 : Hid (Below w.heap.size w (w3.alloc (.cells (#[.int .i64 (r2 : Int), .int .i64 (K2 : Int), .int .u64 (N2 : Int), .slice A2 n2 c2]) 48))) := stepB BB_3.out hb
      have sz_3 := BB_3.out.size
      have p2_4 : Hid (Blk (w3.alloc (.cells (#[.int .i64 (r2 : Int), .int .i64 (K2 : Int), .int .u64 (N2 : Int), .slice A2 n2 c2]) 48)) w3.heap.size 48 (#[.int .i64 (r2 : Int), .int .i64 (K2 : Int), .int .u64 (N2 : Int), .slice A2 n2 c2])) := blk11 _ _ _
      clear hb
      generalize hg2 : w3.heap.size = g2 at *
      generalize World.alloc w3 _ = w4 at *
      clear lu_p1_3 z_p13_3
      have z_p13_4 := (show Blk w4 g1 48 (#[.int .i64 (r1 : Int), .int .i64 (K1 : Int), .int .u64 (N1 : Int), .slice A1 n1 c1]) from p1_4.out).cell 3
      have z_p23_4 := (show Blk w4 g2 48 (#[.int .i64 (r2 : Int), .int .i64 (K2 : Int), .int .u64 (N2 : Int), .slice A2 n2 c2]) from p2_4.out).cell 3
      go_wp2_with fail
      have hq := eq64_any (n1_4.out).1 (n2_4.out).1 (n1_4.out).2 (n2_4.out).2
      have HQ := Lib.hid hq
      clear hq
      refine (HQ.out).mono ?_; rintro en w5 ⟨rfl, hb⟩
      have pa_5 : Hid (Blk w5 w.heap.size 25 (prjV e A n c)) := keepB pa_4.out hb
      have pb_5 : Hid (Blk w5 (w.heap.size + 1) 25 (prjV e' A' n' c')) := keepB pb_4.out hb
      have sa_5 : Hid (Sl rpStp w5 D A n c l) := keepS sa_4.out hb
      have sb_5 : Hid (Sl rpStp w5 D' A' n' c' l') := keepS sb_4.out hb
      have n1_5 : Hid (Sl rpU64 w5 D1 A1 n1 c1 nd1) := keepS n1_4.out hb
      have p1_5 : Hid (Blk w5 g1 48 (#[.int .i64 (r1 : Int), .int .i64 (K1 : Int), .int .u64 (N1 : Int), .slice A1 n1 c1])) := keepB p1_4.out hb
      have n2_5 : Hid (Sl rpU64 w5 D2 A2 n2 c2 nd2) := keepS n2_4.out hb
      have p2_5 : Hid (Blk w5 g2 48 (#[.int .i64 (r2 : Int), .int .i64 (K2 : Int), .int .u64 (N2 : Int), .slice A2 n2 c2])) := keepB p2_4.out hb
      have BB_5 : Hid (Below w.heap.size w w5) := stepB BB_4.out hb
      clear z_p13_4 z_p23_4
      clear hb
      go_wp2_with fail
      go_ret
      refine ⟨?_, BB_5.out⟩
      rw [dec_congr HR.out]
      by_cases hnd : nd1 = nd2
      · rw [dec_true hnd, dec_false (fun h : nd1 ≠ nd2 => h hnd)]; rfl
      · rw [dec_false hnd, dec_true hnd]; rfl
end
end Go.Proofs.Ytmdgmnaaopineaa
