/- Reading how many, and rising lists: the reference. -/
import Derived.Test.YtmdgmnaaopineaaStrR
import Derived.Test.YtmdgmnaaopineaaPut
import Derived.RegionTactic
namespace Go.Proofs.Ytmdgmnaaopineaa
open Go.ChangeShapes Go.WideShapes Go.ChangeAt Go.RowKit
set_option linter.unusedVariables false
abbrev riV (A : Option Addr) (n c : Nat) (r : Nat × Nat × Flt) : Value := .tuple #[.agg (rdV A n c r.2.1 r.2.2), .int .i64 (r.1 : Int)]
section
variable {D : Dom} {A : Option Addr} {n c : Nat} {l : List UInt8} {p : Nat} {f : Flt} {w : World}
set_option maxRecDepth 100000 in
set_option maxHeartbeats 1000000 in
theorem rint_any (h : rpU8.sl w D A n c l) (hD : ∀ k, D k → k < w.heap.size) (hf : OkF f) (hp : p ≤ n) (hn : n ≤ 1000000000) (m : Nat) (hm : m ≤ 1000) :
    Calls Try.prog 113 #[.agg (rdV A n c p f), .int .i64 (m : Int)] w fun e w' => e = .returned (riV A n c (mostF l p f m)) ∧ Below w.heap.size w w' := by
  have H : Hid ((Try.prog.info? 71).map (·.size) = some 4) := by unfold Hid; kernel_rfl
  have HSL : Hid (∀ w', Below w.heap.size w w' → rpU8.sl w' D A n c l ∧ ∀ k, D k → k < w'.heap.size) := fun w' hb => ⟨Rp.sl_below h hb hD, fun k hk => Nat.lt_of_lt_of_le (hD k hk) hb.size⟩
  have HM : Hid (∀ w', Below w.heap.size w w' → Calls Try.prog 138 #[.agg (rdV A n c p f), .int .u64 (m : Int)] w' fun e w'' => e = .returned (rnV A n c (mostF l p f m)) ∧ Below w'.heap.size w' w'') := fun w' hb => rmost_any (HSL.out w' hb).1 (HSL.out w' hb).2 hf hp hn m
  have hle := mostF_le (l := l) (p := p) (f := f) (m := m)
  generalize mostF l p f m = r at *
  obtain ⟨x, q, F1, F2⟩ := r
  simp only at HM hle ⊢
  have hc1 : IntKind.u64.wrap (m : Int) = (m : Int) := IntWalk.u64_in _ (by omega)
  have hc2 : IntKind.i64.wrap (x : Int) = (x : Int) := IntWalk.i64_in _ (by omega)
  have HZ := Lib.hid (cbelow_two w (.cells (rdV A n c p f) 71) (.cells rdZ 71))
  have HK := Lib.hid ((Blk.new w 71 (rdV A n c p f)).alloc (.cells rdZ 71))
  have HR := Lib.hid (cblk_top w (rdV A n c p f) rdZ 71 71)
  clear h hD hf hp hn
  go_enter Try.func113, Try.ntmps113
  go_wp2_with fail
  generalize World.alloc (World.alloc _ _) _ = w0 at *
  have hz0 := HZ.out.size
  have hr0 := (show Blk w0 _ _ _ from HR.out).lt
  have hk0 := (show Blk w0 _ _ _ from HK.out).lt
  go_wp2_with fail
  refine (HM.out _ HZ.out).mono ?_; rintro e w1 ⟨rfl, hb1⟩
  have HB1 := Lib.hid (HZ.out.trans (hb1.mono hz0))
  have hk1 : Blk w1 w.heap.size 71 (rdV A n c p f) := Blk.below HK.out hb1 hk0
  have HK1 := Lib.hid hk1
  have HR1 : Hid (Blk w1 (w.heap.size + 1) 71 rdZ) := Blk.below HR.out hb1 hr0
  have hz1 := hb1.size
  have hl1 := hk1.lt
  have d1 := hk1.cell 1
  clear hb1 hk1
  go_wp2_with (refine wpList_put_row rfl 71 (.tmp 4) (.tmp 19) rfl (w.heap.size + 1) (rdV A n c q (F1, F2)) rfl rfl 71 _ (HR1.out.alloc _) H.out rfl (by simp [Value.oneCell']) ?_; intro w9 hblk hgr)
  have hbz : Below w.heap.size w w9 := (HB1.out.alloc (by omega) _).grown hgr ((HB1.out.alloc (by omega) _)).size (fun k hk => by injection hk with hk; omega)
  have e0 := hblk.cell 0
  have e1 := hblk.cell 1
  have e2 := hblk.cell 2
  have e3 := hblk.cell 3
  refine bodyPost_ret (v := riV A n c (x, q, (F1, F2))) (by simp [results, Try.results113, go_sem, e0, e1, e2, e3]) rfl ⟨rfl, hbz⟩
set_option maxRecDepth 100000 in
set_option maxHeartbeats 1000000 in
theorem rmany_any (h : rpU8.sl w D A n c l) (hD : ∀ k, D k → k < w.heap.size) (hf : OkF f) (hp : p ≤ n) (hn : n ≤ 1000000000) (m : Nat) (hm : m ≤ 1000) :
    Calls Try.prog 97 #[.agg (rdV A n c p f), .int .i64 (m : Int)] w fun e w' => e = .returned (riV A n c (manyF l p f m)) ∧ Below w.heap.size w w' := by
  have H : Hid ((Try.prog.info? 71).map (·.size) = some 4) := by unfold Hid; kernel_rfl
  have HSL : Hid (∀ w', Below w.heap.size w w' → rpU8.sl w' D A n c l ∧ ∀ k, D k → k < w'.heap.size) := fun w' hb => ⟨Rp.sl_below h hb hD, fun k hk => Nat.lt_of_lt_of_le (hD k hk) hb.size⟩
  have HM : Hid (∀ w', Below w.heap.size w w' → Calls Try.prog 113 #[.agg (rdV A n c p f), .int .i64 (m : Int)] w' fun e w'' => e = .returned (riV A n c (mostF l p f m)) ∧ Below w'.heap.size w' w'') := fun w' hb => rint_any (HSL.out w' hb).1 (HSL.out w' hb).2 hf hp hn m hm
  unfold manyF
  generalize mostF l p f m = r at *
  obtain ⟨x, q, F1, F2⟩ := r
  simp only at HM ⊢
  have HZ := Lib.hid (cbelow_two w (.cells (rdV A n c p f) 71) (.cells rdZ 71))
  have HK := Lib.hid ((Blk.new w 71 (rdV A n c p f)).alloc (.cells rdZ 71))
  have HR := Lib.hid (cblk_top w (rdV A n c p f) rdZ 71 71)
  clear h hD hf hp hn
  by_cases h0 : x = 0
  case pos =>
    rw [if_pos h0]
    subst h0
    obtain ⟨G1, G2, hG⟩ : ∃ G1 G2, failF (F1, F2) 3 (p : Int) = (G1, G2) := ⟨_, _, rfl⟩
    have HFAIL : Hid (∀ w, Calls Try.prog 95 #[.agg (rdV A n c q (F1, F2)), .int .i64 3, .int .i64 (p : Int)] w fun e w' => e = .returned (.agg (rdV A n c q (G1, G2))) ∧ Below w.heap.size w w') := fun w => by have := rfail_any A n c q (F1, F2) 3 p w; rwa [hG] at this
    rw [hG]
    clear hG
    go_enter Try.func97, Try.ntmps97
    go_wp2_with fail
    generalize World.alloc (World.alloc _ _) _ = w0 at *
    have hz0 := HZ.out.size
    have hr0 := (show Blk w0 _ _ _ from HR.out).lt
    have hk0 := (show Blk w0 _ _ _ from HK.out).lt
    go_wp2_with fail
    refine (HM.out _ HZ.out).mono ?_; rintro e w1 ⟨rfl, hb1⟩
    have HB1 := Lib.hid (HZ.out.trans (hb1.mono hz0))
    have hk1 : Blk w1 w.heap.size 71 (rdV A n c p f) := Blk.below HK.out hb1 hk0
    have HK1 := Lib.hid hk1
    have HR1 : Hid (Blk w1 (w.heap.size + 1) 71 rdZ) := Blk.below HR.out hb1 hr0
    have hz1 := hb1.size
    have hl1 := hk1.lt
    have d1 := hk1.cell 1
    clear hb1 hk1
    go_wp2_with fail
    have hn1 := blk11 w1 71 (rdV A n c q (F1, F2))
    have HR1a := Lib.hid (HR1.out.alloc (.cells (rdV A n c q (F1, F2)) 71))
    have HB1a := Lib.hid (HB1.out.alloc (by omega) (.cells (rdV A n c q (F1, F2)) 71))
    have HN1 := Lib.hid hn1
    clear d1 hn1
    generalize hgn : w1.heap.size = gn at *
    generalize World.alloc w1 _ = w2 at *
    refine (HFAIL.out _).mono ?_; rintro e w3 ⟨rfl, hb⟩
    have HR3 := Lib.hid (keepB (show Blk w2 (w.heap.size + 1) 71 rdZ from HR1a.out) hb)
    have HN3 := Lib.hid (keepB (show Blk w2 gn 71 _ from HN1.out) hb)
    have HB3 := Lib.hid (stepB HB1a.out hb)
    clear hb
    go_wp2_with (first
      | (refine wpList_put_row rfl 71 (.tmp 6) (.tmp 19) rfl gn (rdV A n c q (G1, G2)) rfl rfl 71 _ HN3.out H.out rfl (by simp [Value.oneCell']) ?_; intro w4 hblk4 hgr4; have g0 := hblk4.cell 0; have g1 := hblk4.cell 1; have g2 := hblk4.cell 2; have g3 := hblk4.cell 3; have HR4 := Lib.hid ((show Blk w3 (w.heap.size + 1) 71 rdZ from HR3.out).grown hgr4 (by simp; omega)); have HB4 := Lib.hid (HB3.out.grown hgr4 HB3.out.size (fun k hk => by injection hk with hk; omega)); clear hblk4 hgr4)
      | (refine wpList_put_row rfl 71 (.tmp 4) (.tmp 20) rfl (w.heap.size + 1) (rdV A n c q (G1, G2)) rfl rfl 71 _ HR4.out H.out rfl (by simp [Value.oneCell']) ?_; intro w9 hblk hgr))
    have hbz : Below w.heap.size w w9 := HB4.out.grown hgr HB4.out.size (fun k hk => by injection hk with hk; omega)
    have e0 := hblk.cell 0
    have e1 := hblk.cell 1
    have e2 := hblk.cell 2
    have e3 := hblk.cell 3
    refine bodyPost_ret (v := riV A n c (0, q, (G1, G2))) (by simp [results, Try.results97, go_sem, e0, e1, e2, e3]) rfl ⟨rfl, hbz⟩
  case neg =>
    rw [if_neg h0]
    have hq : ((x : Int) == 0) = false := by simpa using h0
    have hq2 : (x == 0) = false := by simpa using h0
    clear h0
    go_enter Try.func97, Try.ntmps97
    go_wp2_with fail
    generalize World.alloc (World.alloc _ _) _ = w0 at *
    have hz0 := HZ.out.size
    have hr0 := (show Blk w0 _ _ _ from HR.out).lt
    have hk0 := (show Blk w0 _ _ _ from HK.out).lt
    go_wp2_with fail
    refine (HM.out _ HZ.out).mono ?_; rintro e w1 ⟨rfl, hb1⟩
    have HB1 := Lib.hid (HZ.out.trans (hb1.mono hz0))
    have hk1 : Blk w1 w.heap.size 71 (rdV A n c p f) := Blk.below HK.out hb1 hk0
    have HK1 := Lib.hid hk1
    have HR1 : Hid (Blk w1 (w.heap.size + 1) 71 rdZ) := Blk.below HR.out hb1 hr0
    have hz1 := hb1.size
    have hl1 := hk1.lt
    have d1 := hk1.cell 1
    clear hb1 hk1
    clear d1
    go_wp2_with (refine wpList_put_row rfl 71 (.tmp 4) (.tmp 20) rfl (w.heap.size + 1) (rdV A n c q (F1, F2)) rfl rfl 71 _ (HR1.out.alloc _) H.out rfl (by simp [Value.oneCell']) ?_; intro w9 hblk hgr)
    have hbz : Below w.heap.size w w9 := (HB1.out.alloc (by omega) _).grown hgr ((HB1.out.alloc (by omega) _)).size (fun k hk => by injection hk with hk; omega)
    have e0 := hblk.cell 0
    have e1 := hblk.cell 1
    have e2 := hblk.cell 2
    have e3 := hblk.cell 3
    refine bodyPost_ret (v := riV A n c (x, q, (F1, F2))) (by simp [results, Try.results97, go_sem, e0, e1, e2, e3]) rfl ⟨rfl, hbz⟩
def RlIs (w : World) (A : Option Addr) (n c : Nat) (r : List Nat × Nat × Flt) (e : Ending) (w' : World) : Prop :=
  ∃ A2 c2, e = .returned (.tuple #[.agg (rdV A n c r.2.1 r.2.2), .slice A2 r.1.length c2]) ∧ w'.ownsRow w.heap.size 22 1 (.slice A2 r.1.length c2) r.1.length (r.1.map uv) ∧ Below w.heap.size w w'
set_option maxRecDepth 100000 in
set_option maxHeartbeats 4000000 in
theorem rris_any (h : rpU8.sl w D A n c l) (hD : ∀ k, D k → k < w.heap.size) (hf : OkF f) (hp : p ≤ n) (hn : n ≤ 1000000000) (m : Nat) (hm : m ≤ 1000) :
    Calls Try.prog 98 #[.agg (rdV A n c p f), .int .i64 (m : Int)] w (RlIs w A n c (risF l m p f [])) := by
  have H : Hid ((Try.prog.info? 71).map (·.size) = some 4) := by unfold Hid; kernel_rfl
  have HSL : Hid (∀ w', Below w.heap.size w w' → rpU8.sl w' D A n c l ∧ ∀ k, D k → k < w'.heap.size) := fun w' hb => ⟨Rp.sl_below h hb hD, fun k hk => Nat.lt_of_lt_of_le (hD k hk) hb.size⟩
  have HRD : Hid (∀ w' q F, Below w.heap.size w w' → OkF F → q ≤ n → Calls Try.prog 96 #[.agg (rdV A n c q F)] w' fun e w'' => e = .returned (rnV A n c (vrdF l q F)) ∧ Below w'.heap.size w' w'') := fun w' q F hb h1 h2 => rread_any (HSL.out w' hb).1 (HSL.out w' hb).2 h1 h2 hn
  obtain ⟨R, hR⟩ : ∃ R, R = risF l m p f [] := ⟨_, rfl⟩
  rw [← hR]
  have HR0 := Lib.hid hR
  have HOK := Lib.hid hf
  have HP := Lib.hid hp
  have hll : l.length = n := (Rp.sl_len h).1
  have HLL := Lib.hid hll
  have HZ := Lib.hid (cbelow_two w (.cells (rdV A n c p f) 71) (.cells rdZ 71))
  have HK := Lib.hid ((Blk.new w 71 (rdV A n c p f)).alloc (.cells rdZ 71))
  have HR := Lib.hid (cblk_top w (rdV A n c p f) rdZ 71 71)
  clear h hD hf hp hn hR hll
  go_enter Try.func98, Try.ntmps98
  go_wp2_with fail
  generalize World.alloc (World.alloc _ _) _ = w0 at *
  have hz0 := HZ.out.size
  have hr0 := (show Blk w0 _ _ _ from HR.out).lt
  have hk0 := (show Blk w0 _ _ _ from HK.out).lt
  go_wp2_with fail
  go_loopw [6, 7] (fun o i wr => ∃ (k q : Nat) (F : Flt) (acc : List Nat) (Aa : Option Addr) (ca : Nat), k ≤ m ∧ i = .int .i64 k ∧ o = .slice Aa k ca ∧ acc.length = k ∧ Hid (q ≤ n) ∧ Hid (OkF F) ∧ Hid (∀ x ∈ acc, x < 18446744073709551616) ∧ Hid (wr.ownsRow (w.heap.size + 2) 22 1 (.slice Aa k ca) k (acc.map uv)) ∧ Hid (Blk wr w.heap.size 71 (rdV A n c q F)) ∧ Hid (Blk wr (w.heap.size + 1) 71 rdZ) ∧ Hid (Below w.heap.size w wr) ∧ Hid (risF l (m - k) q F acc = R)) (fun _ i _ => m - (intOf i).toNat)
  case atStart => exact ⟨0, p, f, [], none, 0, by omega, rfl, rfl, rfl, HP.out, HOK.out, (fun x hx => by cases hx), World.ownsRow_nil _ _ _ _, HK.out, HR.out, HZ.out, HR0.out.symm⟩
  case round =>
    obtain ⟨k, q, F, acc, Aa, ca, hk, rfl, rfl, hacc, hqn, hokF, hlt64, hown, hkk, hrr, hbel, heq⟩ := hrel
    have HA71 := Lib.hid hacc
    clear hacc
    have hzr := hbel.out.size
    have hklt := (show Blk wr w.heap.size 71 _ from hkk.out).lt
    have hrlt := (show Blk wr (w.heap.size + 1) 71 _ from hrr.out).lt
    have d0 := (show Blk wr w.heap.size 71 _ from hkk.out).cell 0
    have d1 := (show Blk wr w.heap.size 71 _ from hkk.out).cell 1
    have d2 := (show Blk wr w.heap.size 71 _ from hkk.out).cell 2
    have d3 := (show Blk wr w.heap.size 71 _ from hkk.out).cell 3
    by_cases hkn : k < m
    case neg =>
      have hd : decide ((k : Int) < (m : Int)) = false := by simp; omega
      have hd2 : decide (k < m) = false := by simpa using hkn
      have HKN := Lib.hid (show m - k = 0 by omega)
      clear hkn
      go_wp2_with (refine wpList_put_row rfl 71 (.tmp 4) (.tmp 58) rfl (w.heap.size + 1) (rdV A n c q F) rfl rfl 71 _ hrr.out H.out rfl (by simp [Value.oneCell']) ?_; intro w9 hblk hgr)
      have hh := heq.out
      rw [HKN.out] at hh
      subst hh
      have hal := HA71.out
      subst hal
      have e0 := hblk.cell 0
      have e1 := hblk.cell 1
      have e2 := hblk.cell 2
      have e3 := hblk.cell 3
      have ho9 : w9.ownsRow w.heap.size 22 1 (.slice Aa acc.length ca) acc.length (acc.map uv) := own_mono (ownsRow_same hown.out (fun j hj => hgr.block j (hown.out.lt j hj).2 (fun e => by injection e with e; subst e; have := (hown.out.lt _ hj).1; omega))) (by omega)
      exact bodyPost_ret (v := .tuple #[.agg (rdV A n c q F), .slice Aa acc.length ca]) (by simp [results, Try.results98, go_sem, e0, e1, e2, e3]) rfl ⟨Aa, ca, rfl, ho9, hbel.out.grown hgr hbel.out.size (fun j hj => by injection hj with hj; omega)⟩
    case pos =>
      have hd : decide ((k : Int) < (m : Int)) = true := by simp; omega
      have hd2 : decide (k < m) = true := by simpa using hkn
      have HV := Lib.hid (HRD.out wr q F hbel.out hokF.out hqn.out)
      have hstep : m - k = (m - (k + 1)) + 1 := by omega
      have heq2 := heq.out
      rw [hstep] at heq2
      have hbad := risF_bad1 (l := l) (k := m - (k + 1)) (p := q) (f := F) (acc := acc)
      have hgood := risF_step (l := l) (k := m - (k + 1)) (p := q) (f := F) (acc := acc)
      have hover := risF_over (l := l) (k := m - (k + 1)) (p := q) (f := F) (acc := acc)
      have hx64 := vrdF_lt l q F
      have hok2 := vrdF_ok (l := l) (p := q) hokF.out
      have hqle := (vrdF_le (l := l) (p := q) (f := F) (by rw [HLL.out]; exact hqn.out)).1
      rw [HLL.out] at hqle
      rw [heq2] at hbad hgood hover
      generalize vrdF l q F = r at *
      obtain ⟨x, q2, F2⟩ := r
      simp only at HV hbad hgood hover hx64 hok2 hqle
      have HOK2 := Lib.hid hok2
      have HBAD := Lib.hid hbad
      have HGOOD := Lib.hid hgood
      have HOVER := Lib.hid hover
      have HX64 := Lib.hid hx64
      have HQ2 := Lib.hid hqle
      clear hbad hgood hover heq2 hstep hx64 hok2 heq hqle
      by_cases hF : F2.1 = 0
      case neg =>
        have hq : (F2.1 != 0) = true := by simpa using hF
        have hq2 : (F2.1 == 0) = false := by simpa using hF
        have HBD : Hid (R = ([], q2, F2)) := HBAD.out hF
        clear hF
        go_wp2_with fail
        refine HV.out.mono ?_; rintro e w1 ⟨rfl, hb⟩
        have HK1 := Lib.hid (keepB (show Blk wr w.heap.size 71 _ from hkk.out) hb)
        have HR1 := Lib.hid (keepB (show Blk wr (w.heap.size + 1) 71 _ from hrr.out) hb)
        have HB1 := Lib.hid (stepB hbel.out hb)
        have HW1 := Lib.hid (keepO hown.out hb)
        have hz1 := hb.size
        clear hb d0 d1 d2 d3
        have HK2 := Lib.hid (Blk.alloc (show Blk w1 w.heap.size 71 _ from HK1.out) (.cells (rdV A n c q2 F2) 71))
        have HR2 := Lib.hid (Blk.alloc (show Blk w1 (w.heap.size + 1) 71 _ from HR1.out) (.cells (rdV A n c q2 F2) 71))
        have HB2 := Lib.hid (HB1.out.alloc HB1.out.size (.cells (rdV A n c q2 F2) 71))
        have HW2 := Lib.hid (HW1.out.alloc (.cells (rdV A n c q2 F2) 71))
        have hl1 := (show Blk w1 w.heap.size 71 _ from HK1.out).lt
        go_wp2_with (first
          | (refine wpList_put_row rfl 71 (.tmp 2) (.tmp 24) rfl w.heap.size (rdV A n c q2 F2) rfl rfl 71 _ HK2.out H.out rfl (by simp [Value.oneCell']) ?_; intro w3 hblk hgr; have d0 := hblk.cell 0; have d1 := hblk.cell 1; have d2 := hblk.cell 2; have d3 := hblk.cell 3; have HK3 := Lib.hid hblk; have HR3 := Lib.hid ((show Blk (w1.alloc (.cells (rdV A n c q2 F2) 71)) (w.heap.size + 1) 71 _ from HR2.out).grown hgr (by simp)); have HB3 := Lib.hid (HB2.out.grown hgr HB2.out.size (fun j hj => by injection hj with hj; omega)); have HW3 := Lib.hid (ownsRow_same HW2.out (fun j hj => hgr.block j (HW2.out.lt j hj).2 (fun e => by injection e with e; subst e; have := (HW2.out.lt _ hj).1; omega))); clear hblk hgr)
          | (refine wpList_put_row rfl 71 (.tmp 4) (.tmp 29) rfl (w.heap.size + 1) (rdV A n c q2 F2) rfl rfl 71 _ HR3.out H.out rfl (by simp [Value.oneCell']) ?_; intro w9 hblk9 hgr9))
        have e0 := hblk9.cell 0
        have e1 := hblk9.cell 1
        have e2 := hblk9.cell 2
        have e3 := hblk9.cell 3
        have hRR := HBD.out
        subst hRR
        exact bodyPost_ret (v := .tuple #[.agg (rdV A n c q2 F2), .slice none 0 0]) (by simp [results, Try.results98, go_sem, e0, e1, e2, e3]) rfl ⟨none, 0, rfl, World.ownsRow_nil _ _ _ _, HB3.out.grown hgr9 (HB3.out).size (fun j hj => by injection hj with hj; omega)⟩
      case pos =>
        have hq : (F2.1 != 0) = false := by simpa using hF
        have hq2 : (F2.1 == 0) = true := by simpa using hF
        have HF := Lib.hid hF
        clear hF
        by_cases hk0 : k = 0
        case pos =>
          subst hk0
          have hnx : nx acc[acc.length - 1]? x = x := by
            obtain rfl := List.eq_nil_of_length_eq_zero HA71.out
            rfl
          have HNX := Lib.hid hnx
          have HY64 : Hid (x < 18446744073709551616) := HX64.out
          have HGD : Hid (R = risF l (m - (0 + 1)) q2 F2 (acc ++ [x])) := by
            have := HGOOD.out HF.out (by rw [HNX.out]; have := HX64.out; omega)
            rw [HNX.out] at this
            exact this
          clear hnx
          go_wp2_with fail
          refine HV.out.mono ?_; rintro e w1 ⟨rfl, hb⟩
          have HK1 := Lib.hid (keepB (show Blk wr w.heap.size 71 _ from hkk.out) hb)
          have HR1 := Lib.hid (keepB (show Blk wr (w.heap.size + 1) 71 _ from hrr.out) hb)
          have HB1 := Lib.hid (stepB hbel.out hb)
          have HW1 := Lib.hid (keepO hown.out hb)
          have hz1 := hb.size
          clear hb d0 d1 d2 d3
          have HK2 := Lib.hid (Blk.alloc (show Blk w1 w.heap.size 71 _ from HK1.out) (.cells (rdV A n c q2 F2) 71))
          have HR2 := Lib.hid (Blk.alloc (show Blk w1 (w.heap.size + 1) 71 _ from HR1.out) (.cells (rdV A n c q2 F2) 71))
          have HB2 := Lib.hid (HB1.out.alloc HB1.out.size (.cells (rdV A n c q2 F2) 71))
          have HW2 := Lib.hid (HW1.out.alloc (.cells (rdV A n c q2 F2) 71))
          have hl1 := (show Blk w1 w.heap.size 71 _ from HK1.out).lt
          go_wp2_with (first
            | (refine wpList_put_row rfl 71 (.tmp 2) (.tmp 24) rfl w.heap.size (rdV A n c q2 F2) rfl rfl 71 _ HK2.out H.out rfl (by simp [Value.oneCell']) ?_; intro w3 hblk hgr; have d0 := hblk.cell 0; have d1 := hblk.cell 1; have d2 := hblk.cell 2; have d3 := hblk.cell 3; have HK3 := Lib.hid hblk; have HR3 := Lib.hid ((show Blk (w1.alloc (.cells (rdV A n c q2 F2) 71)) (w.heap.size + 1) 71 _ from HR2.out).grown hgr (by simp)); have HB3 := Lib.hid (HB2.out.grown hgr HB2.out.size (fun j hj => by injection hj with hj; omega)); have HW3 := Lib.hid (ownsRow_same HW2.out (fun j hj => hgr.block j (HW2.out.lt j hj).2 (fun e => by injection e with e; subst e; have := (HW2.out.lt _ hj).1; omega))); clear hblk hgr)
            | (at_builtin; refine wpList_app rfl (.tmp 54) (.tmp 56) _ rfl elem64 rfl (HW3.out.alloc _) rfl (Src.new w3 (.int .u64 ((x : Int))) _ rfl) (by unfold maxLen; omega) (by omega) (by have := (show Blk w3 (w.heap.size + 1) _ _ from HR3.out).lt; simp; omega) ?_; intro A5 c5 w5 ho5 hg5 hat5; have HO5 := Lib.hid ho5; have HG5 := Lib.hid (show w3.grownBy w5 _ from ⟨hg5.os, hg5.tape, hg5.output, by have := hg5.size; simp at this; omega, fun j hj hn => (hg5.block j (by simp; omega) hn).trans (Below.heap_alloc _ _ _ hj)⟩); clear ho5 hg5 hat5))
          have hKn : some w.heap.size ≠ (Value.slice Aa 0 ca).ownBlock := fun e => by have := (HW3.out.lt _ e.symm).1; omega
          have hRn : some (w.heap.size + 1) ≠ (Value.slice Aa 0 ca).ownBlock := fun e => by have := (HW3.out.lt _ e.symm).1; omega
          go_roundw
          case rel =>
            refine ⟨0 + 1, q2, F2, acc ++ [x], A5, c5, by omega, by go_num, rfl, by rw [List.length_append, HA71.out]; rfl, HQ2.out, HOK2.out, ?_, ?_, ?_, ?_, ?_, HGD.out.symm⟩
            · intro z hz
              rcases List.mem_append.1 hz with hz | hz
              · exact hlt64.out z hz
              · simp only [List.mem_singleton] at hz
                subst hz
                exact HY64.out
            · have := HO5.out
              rw [List.map_append]
              exact this
            · exact (show Blk w3 w.heap.size 71 _ from HK3.out).grown HG5.out hKn
            · exact (show Blk w3 (w.heap.size + 1) 71 _ from HR3.out).grown HG5.out hRn
            · exact HB3.out.grown HG5.out HB3.out.size (fun j hj => by have := (HW3.out.lt j hj).1; omega)
          case measure => simp [intOf]; omega
        case neg =>
          have hkp : 0 < k := by omega
          have hkI : (1 : Int) ≤ (k : Int) := by omega
          have hkI0 : (0 : Int) < (k : Int) := by omega
          have hd3 : decide ((0 : Int) < (k : Int)) = true := by simp; omega
          obtain ⟨a, ha⟩ : ∃ a, acc[k - 1]? = some a := ⟨_, List.getElem?_eq_getElem (by have := HA71.out; omega)⟩
          have ha64 : a < 18446744073709551616 := hlt64.out a (List.mem_of_getElem? ha)
          have HA := Lib.hid ha
          have hnx : nx acc[acc.length - 1]? x = a + x + 1 := by rw [HA71.out, ha]; rfl
          have HNX := Lib.hid hnx
          have hx64 := HX64.out
          have s0 : IntKind.u64.wrap ((18446744073709551615 : Int) - (a : Int)) = (18446744073709551615 : Int) - (a : Int) := IntWalk.u64_in _ (by omega)
          clear hnx ha
          by_cases hov : 18446744073709551616 ≤ a + x + 1
          case neg =>
            have HY64 : Hid (a + x + 1 < 18446744073709551616) := (by omega : a + x + 1 < 18446744073709551616)
            have t1 : decide ((18446744073709551615 : Int) - (a : Int) < (x : Int)) = false := by simp; omega
            have t2 : ((x : Int) == (18446744073709551615 : Int) - (a : Int)) = false := by simp; omega
            have s1 : IntKind.u64.wrap ((a : Int) + (x : Int)) = (a : Int) + (x : Int) := IntWalk.u64_in _ (by omega)
            have s2 : IntKind.u64.wrap ((a : Int) + (x : Int) + 1) = (a : Int) + (x : Int) + 1 := IntWalk.u64_in _ (by omega)
            have HYY : Hid ((a : Int) + (x : Int) + 1 = ((a + x + 1 : Nat) : Int)) := (by omega : (a : Int) + (x : Int) + 1 = ((a + x + 1 : Nat) : Int))
            have HGD : Hid (R = risF l (m - (k + 1)) q2 F2 (acc ++ [a + x + 1])) := by
              have := HGOOD.out HF.out (by rw [HNX.out]; exact hov)
              rw [HNX.out] at this
              exact this
            go_wp2_with fail
            refine HV.out.mono ?_; rintro e w1 ⟨rfl, hb⟩
            have HK1 := Lib.hid (keepB (show Blk wr w.heap.size 71 _ from hkk.out) hb)
            have HR1 := Lib.hid (keepB (show Blk wr (w.heap.size + 1) 71 _ from hrr.out) hb)
            have HB1 := Lib.hid (stepB hbel.out hb)
            have HW1 := Lib.hid (keepO hown.out hb)
            have hz1 := hb.size
            clear hb d0 d1 d2 d3
            have HK2 := Lib.hid (Blk.alloc (show Blk w1 w.heap.size 71 _ from HK1.out) (.cells (rdV A n c q2 F2) 71))
            have HR2 := Lib.hid (Blk.alloc (show Blk w1 (w.heap.size + 1) 71 _ from HR1.out) (.cells (rdV A n c q2 F2) 71))
            have HB2 := Lib.hid (HB1.out.alloc HB1.out.size (.cells (rdV A n c q2 F2) 71))
            have HW2 := Lib.hid (HW1.out.alloc (.cells (rdV A n c q2 F2) 71))
            have hl1 := (show Blk w1 w.heap.size 71 _ from HK1.out).lt
            go_wp2_with (first
              | (refine wpList_put_row rfl 71 (.tmp 2) (.tmp 24) rfl w.heap.size (rdV A n c q2 F2) rfl rfl 71 _ HK2.out H.out rfl (by simp [Value.oneCell']) ?_; intro w3 hblk hgr; have d0 := hblk.cell 0; have d1 := hblk.cell 1; have d2 := hblk.cell 2; have d3 := hblk.cell 3; have HK3 := Lib.hid hblk; have HR3 := Lib.hid ((show Blk (w1.alloc (.cells (rdV A n c q2 F2) 71)) (w.heap.size + 1) 71 _ from HR2.out).grown hgr (by simp)); have HB3 := Lib.hid (HB2.out.grown hgr HB2.out.size (fun j hj => by injection hj with hj; omega)); have HW3 := Lib.hid (ownsRow_same HW2.out (fun j hj => hgr.block j (HW2.out.lt j hj).2 (fun e => by injection e with e; subst e; have := (HW2.out.lt _ hj).1; omega))); obtain ⟨bo, hAo, hbo, _, _, hco, _⟩ := own_block HW3.out hkp; have hcell := hco (k - 1) (uv a) (by rw [List.getElem?_map, HA.out]; rfl); unfold uv at hcell; clear hco; subst hAo; clear hblk hgr)
              | (at_builtin; refine wpList_app rfl (.tmp 54) (.tmp 56) _ rfl elem64 rfl (HW3.out.alloc _) rfl (Src.new w3 (.int .u64 ((a : Int) + (x : Int) + 1)) _ rfl) (by unfold maxLen; omega) (by omega) (by have := (show Blk w3 (w.heap.size + 1) _ _ from HR3.out).lt; simp; omega) ?_; intro A5 c5 w5 ho5 hg5 hat5; have HO5 := Lib.hid ho5; have HG5 := Lib.hid (show w3.grownBy w5 _ from ⟨hg5.os, hg5.tape, hg5.output, by have := hg5.size; simp at this; omega, fun j hj hn => (hg5.block j (by simp; omega) hn).trans (Below.heap_alloc _ _ _ hj)⟩); clear ho5 hg5 hat5))
            have hKn : some w.heap.size ≠ (Value.slice (some ⟨bo, 0, none⟩) k ca).ownBlock := fun e => by have := (HW3.out.lt _ e.symm).1; omega
            have hRn : some (w.heap.size + 1) ≠ (Value.slice (some ⟨bo, 0, none⟩) k ca).ownBlock := fun e => by have := (HW3.out.lt _ e.symm).1; omega
            go_roundw
            case rel =>
              refine ⟨k + 1, q2, F2, acc ++ [a + x + 1], A5, c5, by omega, by go_num, rfl, by rw [List.length_append, HA71.out]; rfl, HQ2.out, HOK2.out, ?_, ?_, ?_, ?_, ?_, HGD.out.symm⟩
              · intro z hz
                rcases List.mem_append.1 hz with hz | hz
                · exact hlt64.out z hz
                · simp only [List.mem_singleton] at hz
                  subst hz
                  exact HY64.out
              · have := HO5.out
                rw [HYY.out] at this
                rw [List.map_append]
                exact this
              · exact (show Blk w3 w.heap.size 71 _ from HK3.out).grown HG5.out hKn
              · exact (show Blk w3 (w.heap.size + 1) 71 _ from HR3.out).grown HG5.out hRn
              · exact HB3.out.grown HG5.out HB3.out.size (fun j hj => by have := (HW3.out.lt j hj).1; omega)
            case measure => simp [intOf]; omega
          case pos =>
            have HOV : Hid (R = ([], q2, failF F2 13 q)) := HOVER.out (by rw [HNX.out]; exact hov)
            obtain ⟨FF, hFF⟩ : ∃ FF, FF = failF F2 13 (q : Int) := ⟨_, rfl⟩
            rw [← hFF] at HOV
            have HFL : Hid (∀ w, Calls Try.prog 95 #[.agg (rdV A n c q2 F2), .int .i64 13, .int .i64 (q : Int)] w fun e w' => e = .returned (.agg (rdV A n c q2 FF)) ∧ Below w.heap.size w w') := fun w => by rw [hFF]; exact rfail_any A n c q2 F2 13 q w
            clear hFF
            by_cases hgt : 18446744073709551615 < a + x
            case pos =>
              have t1 : decide ((18446744073709551615 : Int) - (a : Int) < (x : Int)) = true := by simp; omega
              clear hov hgt
              go_wp2_with fail
              refine HV.out.mono ?_; rintro e w1 ⟨rfl, hb⟩
              have HK1 := Lib.hid (keepB (show Blk wr w.heap.size 71 _ from hkk.out) hb)
              have HR1 := Lib.hid (keepB (show Blk wr (w.heap.size + 1) 71 _ from hrr.out) hb)
              have HB1 := Lib.hid (stepB hbel.out hb)
              have HW1 := Lib.hid (keepO hown.out hb)
              have hz1 := hb.size
              clear hb d0 d1 d2 d3
              have HK2 := Lib.hid (Blk.alloc (show Blk w1 w.heap.size 71 _ from HK1.out) (.cells (rdV A n c q2 F2) 71))
              have HR2 := Lib.hid (Blk.alloc (show Blk w1 (w.heap.size + 1) 71 _ from HR1.out) (.cells (rdV A n c q2 F2) 71))
              have HB2 := Lib.hid (HB1.out.alloc HB1.out.size (.cells (rdV A n c q2 F2) 71))
              have HW2 := Lib.hid (HW1.out.alloc (.cells (rdV A n c q2 F2) 71))
              have hl1 := (show Blk w1 w.heap.size 71 _ from HK1.out).lt
              go_wp2_with (first
                | (refine wpList_put_row rfl 71 (.tmp 2) (.tmp 24) rfl w.heap.size (rdV A n c q2 F2) rfl rfl 71 _ HK2.out H.out rfl (by simp [Value.oneCell']) ?_; intro w3 hblk hgr; have d0 := hblk.cell 0; have d1 := hblk.cell 1; have d2 := hblk.cell 2; have d3 := hblk.cell 3; have HK3 := Lib.hid hblk; have HR3 := Lib.hid ((show Blk (w1.alloc (.cells (rdV A n c q2 F2) 71)) (w.heap.size + 1) 71 _ from HR2.out).grown hgr (by simp)); have HB3 := Lib.hid (HB2.out.grown hgr HB2.out.size (fun j hj => by injection hj with hj; omega)); have HW3 := Lib.hid (ownsRow_same HW2.out (fun j hj => hgr.block j (HW2.out.lt j hj).2 (fun e => by injection e with e; subst e; have := (HW2.out.lt _ hj).1; omega))); obtain ⟨bo, hAo, hbo, _, _, hco, _⟩ := own_block HW3.out hkp; have hcell := hco (k - 1) (uv a) (by rw [List.getElem?_map, HA.out]; rfl); unfold uv at hcell; clear hco; subst hAo; clear hblk hgr))
              refine (HFL.out _).mono ?_; rintro e w4 ⟨rfl, hb⟩
              have HR4 := Lib.hid (keepB (show Blk w3 (w.heap.size + 1) 71 _ from HR3.out) hb)
              have HB4 := Lib.hid (stepB HB3.out hb)
              clear hb hcell d0 d1 d2 d3
              go_wp2_with (first
                | (refine wpList_put_row rfl 71 (.tmp 4) (.tmp 49) rfl (w.heap.size + 1) (rdV A n c q2 FF) rfl rfl 71 _ HR4.out H.out rfl (by simp [Value.oneCell']) ?_; intro w9 hblk9 hgr9))
              have e0 := hblk9.cell 0
              have e1 := hblk9.cell 1
              have e2 := hblk9.cell 2
              have e3 := hblk9.cell 3
              have hRR := HOV.out
              subst hRR
              exact bodyPost_ret (v := .tuple #[.agg (rdV A n c q2 FF), .slice none 0 0]) (by simp [results, Try.results98, go_sem, e0, e1, e2, e3]) rfl ⟨none, 0, rfl, World.ownsRow_nil _ _ _ _, HB4.out.grown hgr9 (HB4.out).size (fun j hj => by injection hj with hj; omega)⟩
            case neg =>
              have t1 : decide ((18446744073709551615 : Int) - (a : Int) < (x : Int)) = false := by simp; omega
              have t2 : ((x : Int) == (18446744073709551615 : Int) - (a : Int)) = true := by simp; omega
              clear hov hgt
              go_wp2_with fail
              refine HV.out.mono ?_; rintro e w1 ⟨rfl, hb⟩
              have HK1 := Lib.hid (keepB (show Blk wr w.heap.size 71 _ from hkk.out) hb)
              have HR1 := Lib.hid (keepB (show Blk wr (w.heap.size + 1) 71 _ from hrr.out) hb)
              have HB1 := Lib.hid (stepB hbel.out hb)
              have HW1 := Lib.hid (keepO hown.out hb)
              have hz1 := hb.size
              clear hb d0 d1 d2 d3
              have HK2 := Lib.hid (Blk.alloc (show Blk w1 w.heap.size 71 _ from HK1.out) (.cells (rdV A n c q2 F2) 71))
              have HR2 := Lib.hid (Blk.alloc (show Blk w1 (w.heap.size + 1) 71 _ from HR1.out) (.cells (rdV A n c q2 F2) 71))
              have HB2 := Lib.hid (HB1.out.alloc HB1.out.size (.cells (rdV A n c q2 F2) 71))
              have HW2 := Lib.hid (HW1.out.alloc (.cells (rdV A n c q2 F2) 71))
              have hl1 := (show Blk w1 w.heap.size 71 _ from HK1.out).lt
              go_wp2_with (first
                | (refine wpList_put_row rfl 71 (.tmp 2) (.tmp 24) rfl w.heap.size (rdV A n c q2 F2) rfl rfl 71 _ HK2.out H.out rfl (by simp [Value.oneCell']) ?_; intro w3 hblk hgr; have d0 := hblk.cell 0; have d1 := hblk.cell 1; have d2 := hblk.cell 2; have d3 := hblk.cell 3; have HK3 := Lib.hid hblk; have HR3 := Lib.hid ((show Blk (w1.alloc (.cells (rdV A n c q2 F2) 71)) (w.heap.size + 1) 71 _ from HR2.out).grown hgr (by simp)); have HB3 := Lib.hid (HB2.out.grown hgr HB2.out.size (fun j hj => by injection hj with hj; omega)); have HW3 := Lib.hid (ownsRow_same HW2.out (fun j hj => hgr.block j (HW2.out.lt j hj).2 (fun e => by injection e with e; subst e; have := (HW2.out.lt _ hj).1; omega))); obtain ⟨bo, hAo, hbo, _, _, hco, _⟩ := own_block HW3.out hkp; have hcell := hco (k - 1) (uv a) (by rw [List.getElem?_map, HA.out]; rfl); unfold uv at hcell; clear hco; subst hAo; clear hblk hgr))
              refine (HFL.out _).mono ?_; rintro e w4 ⟨rfl, hb⟩
              have HR4 := Lib.hid (keepB (show Blk w3 (w.heap.size + 1) 71 _ from HR3.out) hb)
              have HB4 := Lib.hid (stepB HB3.out hb)
              clear hb hcell d0 d1 d2 d3
              go_wp2_with (first
                | (refine wpList_put_row rfl 71 (.tmp 4) (.tmp 49) rfl (w.heap.size + 1) (rdV A n c q2 FF) rfl rfl 71 _ HR4.out H.out rfl (by simp [Value.oneCell']) ?_; intro w9 hblk9 hgr9))
              have e0 := hblk9.cell 0
              have e1 := hblk9.cell 1
              have e2 := hblk9.cell 2
              have e3 := hblk9.cell 3
              have hRR := HOV.out
              subst hRR
              exact bodyPost_ret (v := .tuple #[.agg (rdV A n c q2 FF), .slice none 0 0]) (by simp [results, Try.results98, go_sem, e0, e1, e2, e3]) rfl ⟨none, 0, rfl, World.ownsRow_nil _ _ _ _, HB4.out.grown hgr9 (HB4.out).size (fun j hj => by injection hj with hj; omega)⟩
end
end Go.Proofs.Ytmdgmnaaopineaa
