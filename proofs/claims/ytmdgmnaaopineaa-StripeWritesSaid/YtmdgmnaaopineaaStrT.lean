/- Reading a stripe: the program. -/
import Derived.Test.YtmdgmnaaopineaaLL
import Derived.Test.YtmdgmnaaopineaaStp3
import Derived.Deep.RegionLaw
namespace Go.Proofs.Ytmdgmnaaopineaa
open Go.ChangeShapes Go.WideShapes Go.ChangeAt Go.RowKit
set_option linter.unusedVariables false
theorem setsF_stop {l : List UInt8} {k p : Nat} {f : Flt} {sets : List (List Nat)} (h : (setF l p f sets).2.2.1 ≠ 0) : setsF l (k + 1) p f sets = (sets ++ [(setF l p f sets).1], (setF l p f sets).2) := by
  rw [setsF, if_neg h]
theorem setF_lt {l : List UInt8} {p : Nat} {f : Flt} {others : List (List Nat)} : ∀ y ∈ (setF l p f others).1, y < 18446744073709551616 := by
  have h : ∀ y ∈ (risF l (manyF l p f 8).1 (manyF l p f 8).2.1 (manyF l p f 8).2.2 []).1, y < 18446744073709551616 := risF_lt (fun x hx => by cases hx)
  unfold setF
  simp only
  split
  · split
    · exact h
    · split <;> exact h
  · intro y hy; cases hy
def StrIs (w : World) (D : Dom) (g : Nat) (l : List UInt8) (r : Stp × Nat × Flt) (e : Ending) (w' : World) : Prop :=
  ∃ A n c, e = .returned (.agg (stpV r.1.1 r.1.2.1 A n c)) ∧ LL w' w.heap.size A n c r.1.2.2 ∧ Rd w' D g l r.2.1 r.2.2 ∧ Chg (one g) w w'
section
variable {w : World} {D : Dom} {g : Nat} {l : List UInt8} {p : Nat} {f : Flt}
set_option maxRecDepth 100000 in
set_option maxHeartbeats 4000000 in
theorem strRead_good (h : Rd w D g l p f) (hf : OkF f) (hl : l.length ≤ 1000000000) (fr : Nat) (hfr : fr ≤ 4611686018427387904) {x q : Nat} {F : Flt} (hv : vrdF l p f = (x, q, F)) (h0 : F.1 = 0) (hx : fr + x < 4611686018427387904) :
    Calls Try.prog 41 #[.pointer (some ⟨g, 0, none⟩), .int .u64 (fr : Int)] w (StrIs w D g l (strF l p f fr)) := by
  have HS4 : Hid ((Try.prog.info? 31).map (·.size) = some 3) := by unfold Hid; kernel_rfl
  have hvr := vread_any h hf hl
  have hok2 := vrdF_ok (l := l) (p := p) hf
  rw [hv] at hvr hok2
  simp only at hvr hok2
  obtain ⟨RS, hRS⟩ : ∃ RS, RS = setsF l (manyF l q F 8).1 (manyF l q F 8).2.1 (manyF l q F 8).2.2 [] := ⟨_, rfl⟩
  have hstr : strF l p f fr = (if RS.2.2.1 = 0 then ((fr, fr + x + 1, RS.1), RS.2) else ((0, 0, []), RS.2)) := by
    unfold strF
    rw [if_neg (by omega), hv]
    simp only
    rw [if_neg (by rintro ⟨_, hh⟩; omega), ← hRS]
  have HM : Hid (∀ w, Rd w D g l q F → Calls Try.prog 93 #[.pointer (some ⟨g, 0, none⟩), .int .i64 8] w fun e w' => e = .returned (.int .i64 ((manyF l q F 8).1 : Int)) ∧ Rd w' D g l (manyF l q F 8).2.1 (manyF l q F 8).2.2 ∧ Chg (one g) w w') := fun w h => many_at h hok2 hl 8 (by decide)
  have hmok := manyF_ok (l := l) (p := q) (m := 8) hok2
  have hmle := manyF_le (l := l) (p := q) (f := F) (m := 8)
  generalize manyF l q F 8 = m at *
  obtain ⟨mn, mq, mf⟩ := m
  simp only at HM hmok hmle hRS
  rw [hstr]
  obtain ⟨X, hX⟩ : ∃ X : Stp × Nat × Flt, X = (if RS.2.2.1 = 0 then ((fr, fr + x + 1, RS.1), RS.2) else ((0, 0, []), RS.2)) := ⟨_, rfl⟩
  rw [← hX]
  have HX := Lib.hid hX
  have HRS := Lib.hid hRS
  have HMOK := Lib.hid hmok
  have HV := Lib.hid (show ∀ w', Rd w' D g l p f → Calls Try.prog 92 #[.pointer (some ⟨g, 0, none⟩)] w' fun e w'' => e = .returned (.int .u64 (x : Int)) ∧ Rd w'' D g l q F ∧ Chg (one g) w' w'' from fun w' h' => by have := vread_any h' hf hl; rw [hv] at this; exact this)
  have hgl := h.lt
  have HRD := Lib.hid h
  have HDD := Lib.hid h.dom
  have dd0 : decide ((4611686018427387904 : Int) < (fr : Int)) = false := by simp; omega
  have dd1 : (if (4611686018427387904 : Int) < (fr : Int) then (4611686018427387904 : Int) else (fr : Int)) = (fr : Int) := if_neg (by omega)
  have dd1' : (if (fr : Int) < (4611686018427387904 : Int) then (fr : Int) else (4611686018427387904 : Int)) = (fr : Int) := by split <;> omega
  have dd2 : decide ((4611686018427387904 : Int) - (fr : Int) ≤ (x : Int)) = false := by simp; omega
  have dd3 : IntKind.u64.wrap ((4611686018427387904 : Int) - (fr : Int)) = (4611686018427387904 : Int) - (fr : Int) := IntWalk.u64_in _ (by omega)
  have dd4 : IntKind.u64.wrap ((fr : Int) + (x : Int)) = (fr : Int) + (x : Int) := IntWalk.u64_in _ (by omega)
  have dd5 : IntKind.u64.wrap ((fr : Int) + (x : Int) + 1) = (fr : Int) + (x : Int) + 1 := IntWalk.u64_in _ (by omega)
  clear h hf hvr hok2 hRS hstr hX hmok hv h0
  have HT0 := Lib.hid (Blk.new w 31 (stpV 0 0 none 0 0))
  have HC0 := Lib.hid (Chg.of_pure (below1 w (.cells (stpV 0 0 none 0 0) 31)) (one g))
  have HR0 := Lib.hid (HRD.out.below (below1 w (.cells (stpV 0 0 none 0 0) 31)))
  go_enter Try.func41, Try.ntmps41
  go_wp2_with fail
  go_step3
  go_wp2_with fail
  generalize World.alloc w _ = w0 at *
  have hz0 := HC0.out.size
  have hl0 := (show Blk w0 w.heap.size 31 (stpV 0 0 none 0 0) from HT0.out).lt
  refine (cat_at HR0.out).mono ?_; rintro e wx ⟨rfl, rfl⟩
  go_wp2_with fail
  have HKa := Lib.hid (blk11 w0 31 (stpV fr 0 none 0 0))
  have HTa := Lib.hid (keepB (show Blk w0 w.heap.size 31 (stpV 0 0 none 0 0) from HT0.out) (below1 w0 (.cells (stpV fr 0 none 0 0) 31)))
  have HRa := Lib.hid (HR0.out.below (below1 w0 (.cells (stpV fr 0 none 0 0) 31)))
  have HCa := Lib.hid (HC0.out.trans (Chg.of_pure (below1 w0 (.cells (stpV fr 0 none 0 0) 31)) (one g)))
  generalize hgs : w0.heap.size = gs at *
  generalize World.alloc w0 _ = w1 at *
  have HG1 : Hid (¬ one g gs) := fun e => by have e : gs = g := e; omega
  have HG2 : Hid (¬ one g w.heap.size) := fun e => by have e : w.heap.size = g := e; omega
  have HD1 : Hid (¬ D gs) := fun e => by have := HDD.out gs e; omega
  have HD2 : Hid (¬ D w.heap.size) := fun e => by have := HDD.out _ e; omega
  refine (HV.out _ HRa.out).mono ?_; rintro e w2 ⟨rfl, hr, hc⟩
  have hk2 := chB (show Blk w1 gs 31 (stpV fr 0 none 0 0) from HKa.out) hc HG1.out
  have k1 := hk2.cell 1
  have kf1 := hk2.frozen 1
  have HKb := Lib.hid (show Blk (w2.setCell ⟨gs, 1, none⟩ (.int .u64 ((fr : Int) + (x : Int) + 1))) gs 31 #[.int .u64 (fr : Int), .int .u64 ((fr : Int) + (x : Int) + 1), .slice none 0 0] from hk2.put 1 _)
  have HTb := Lib.hid ((chB (show Blk w1 w.heap.size 31 (stpV 0 0 none 0 0) from HTa.out) hc HG2.out).far (p := ⟨gs, 1, none⟩) (by dsimp only; omega) (.int .u64 ((fr : Int) + (x : Int) + 1)))
  have HRb := Lib.hid (rdPut hr (a := ⟨gs, 1, none⟩) HG1.out HD1.out (.int .u64 ((fr : Int) + (x : Int) + 1)))
  have HCb := Lib.hid ((HCa.out.trans hc).setCell (p := ⟨gs, 1, none⟩) (.inr (by dsimp only; omega)) (.int .u64 ((fr : Int) + (x : Int) + 1)))
  clear hr hc hk2
  go_wp2_with fail
  clear k1 kf1 dd0 dd1 dd1' dd2 dd3 dd4 dd5
  generalize World.setCell w2 _ _ = w3 at *
  refine (HM.out _ HRb.out).mono ?_; rintro e w4 ⟨rfl, hr, hc⟩
  have HKc := Lib.hid (chB (show Blk w3 gs 31 _ from HKb.out) hc HG1.out)
  have HTc := Lib.hid (chB (show Blk w3 w.heap.size 31 _ from HTb.out) hc HG2.out)
  have HRc := Lib.hid hr
  have HCc := Lib.hid (HCb.out.trans hc)
  clear hr hc
  go_wp2_with fail
  go_step3
  go_wp2_with fail
  go_loopw [36] (fun i wr => ∃ (k q : Nat) (F : Flt) (sets : List (List Nat)) (A : Option Addr) (c : Nat), k ≤ mn ∧ i = .int .i64 k ∧ Hid (OkF F) ∧ Hid (Blk wr gs 31 #[.int .u64 (fr : Int), .int .u64 ((fr : Int) + (x : Int) + 1), .slice A k c]) ∧ Hid (Blk wr w.heap.size 31 (stpV 0 0 none 0 0)) ∧ Hid (LL wr w.heap.size A k c sets) ∧ Hid (Rd wr D g l q F) ∧ Hid (Chg (one g) w wr) ∧ Hid (setsF l (mn - k) q F sets = RS)) (fun i _ => mn - (intOf i).toNat)
  case atStart => exact ⟨0, mq, mf, [], none, 0, by omega, rfl, HMOK.out, HKc.out, HTc.out, LL.nil _ _, HRc.out, HCc.out, HRS.out.symm⟩
  case round =>
    obtain ⟨k, q, F, sets, A, c, hk, rfl, hokF, hkk, htt, hll, hrd, hch, heq⟩ := hrel
    have hzr := hch.out.size
    have hgsl := (show Blk wr gs 31 _ from hkk.out).lt
    by_cases hkn : k < mn
    case pos =>
      have hd : decide ((k : Int) < (mn : Int)) = true := by simp; omega
      have hd2 : decide (k < mn) = true := by simpa using hkn
      have hset : Hid (∀ w', Rd w' D g l q F → LL w' w.heap.size A k c sets → Calls Try.prog 94 #[.pointer (some ⟨g, 0, none⟩), .slice A k c] w' (RisIs w' D g l (setF l q F sets))) := fun w' h1 h2 => readSet_at h1 hokF.out hl h2.sl.1 h2.sl.2 (fun e => by have := e.1; omega)
      have s64 := setF_lt (l := l) (p := q) (f := F) (others := sets)
      have sok := setF_ok (l := l) (p := q) (others := sets) hokF.out
      have hstep : mn - k = (mn - (k + 1)) + 1 := by omega
      have heq2 := heq.out
      rw [hstep] at heq2
      have hgo := setsF_step (l := l) (k := mn - (k + 1)) (p := q) (f := F) (sets := sets)
      have hst := setsF_stop (l := l) (k := mn - (k + 1)) (p := q) (f := F) (sets := sets)
      rw [heq2] at hgo hst
      generalize setF l q F sets = s at *
      obtain ⟨xs, q2, F2⟩ := s
      simp only at hgo hst s64 sok
      obtain ⟨nx', hnx⟩ : ∃ nn, nn = xs.length := ⟨_, rfl⟩
      have hset2 : Hid (∀ w', Rd w' D g l q F → LL w' w.heap.size A k c sets → Calls Try.prog 94 #[.pointer (some ⟨g, 0, none⟩), .slice A k c] w' fun e w'' => ∃ A c, e = .returned (.slice A nx' c) ∧ w''.ownsRow w'.heap.size 22 1 (.slice A nx' c) nx' (xs.map uv) ∧ Rd w'' D g l q2 F2 ∧ Chg (one g) w' w'') := by rw [hnx]; exact hset.out
      have HNX := Lib.hid hnx
      have HGO := Lib.hid hgo
      have HST := Lib.hid hst
      have HS64 := Lib.hid s64
      have HSOK := Lib.hid sok
      have k2 := (show Blk wr gs 31 _ from hkk.out).cell 2
      have kf2 := (show Blk wr gs 31 _ from hkk.out).frozen 2
      clear hset hnx hgo hst s64 sok hstep heq2 heq
      go_wp2_with fail
      obtain ⟨vals, hov, hln, hvi⟩ := hll.out
      have HOV := Lib.hid hov
      have HVI := Lib.hid hvi
      clear hov hvi
      have hk16 : k + 1 ≤ maxLen := by unfold maxLen; omega
      go_region_law ((first
        | (refine step_app rfl (.tmp 39) (.tmp 44) _ (by rfl) elemSets (by rfl) HO5.out (by rfl) (Src.new w5 (.slice A5 nx' c5) _ rfl) hk16 (by omega) (by have := HZ5.out; simp; omega) ?_
           intro A6 c6 w6 ho6 hg6 hat6
           have HO6 := Lib.hid ho6
           have HG6 := Lib.hid (show w5.grownBy w6 _ from ⟨hg6.os, hg6.tape, hg6.output, by have := hg6.size; simp at this; omega, fun j hj hn => (hg6.block j (by simp; omega) hn).trans (Below.heap_alloc _ _ _ hj)⟩)
           have hk6 : Blk w6 gs 31 _ := HK5.out.grown HG6.out (Pen.ne' HK5.out HO5'.out (by decide))
           have k6 := hk6.cell 2
           have kf6 := hk6.frozen 2
           have HK6 := Lib.hid hk6
           clear ho6 hg6 hat6 hk6)
        | (go_simp; refine (hset2.out _ (rdDrew hrd.out) (hll.out.below ((Below.refl _ _).drew))).mono ?_
           rintro e w5 ⟨A5, c5, rfl, ho5, hr5, hc5⟩
           have hc5' : Chg (one g) wr w5 := ⟨hc5.os, hc5.tape, hc5.output, hc5.size, hc5.block⟩
           have HC5 := Lib.hid hc5'
           have HR5 := Lib.hid hr5
           have HW5 := Lib.hid ho5
           have hk5 := chB (show Blk wr gs 31 _ from hkk.out) hc5' HG1.out
           have k5 := hk5.cell 2
           have kf5 := hk5.frozen 2
           have kz5 := hk5.lt
           have HK5 := Lib.hid hk5
           have HO5' := Lib.hid (chO HOV.out hc5' (fun j hj e => by have e : j = g := e; have := (HOV.out.lt j hj).1; omega))
           have HO5 := Lib.hid (HO5'.out.alloc (.cells #[.slice A5 nx' c5] 46))
           have HZ5 := Lib.hid (Nat.le_trans hzr hc5'.size)
           clear ho5 hr5 hc5 hc5' hk5
           dsimp only)))
      all_goals
        have hvi5 : ∀ (i : Nat) x, sets[i]? = some x → (∃ A' c', vals[i]? = some (.slice A' x.length c') ∧ w5.ownsRow w.heap.size 22 1 (.slice A' x.length c') x.length (x.map uv)) ∧ ∀ y ∈ x, y < 18446744073709551616 := fun i x hx => by
          obtain ⟨⟨A', c', h1, h2⟩, h3⟩ := HVI.out i x hx
          exact ⟨⟨A', c', h1, chO h2 HC5.out (fun j hj e => by have e : j = g := e; have := (h2.lt j hj).1; omega)⟩, h3⟩
        have hll5 : LL w5 w.heap.size A k c sets := ⟨vals, HO5'.out, hln, hvi5⟩
        have hw5 : w5.ownsRow w.heap.size 22 1 (.slice A5 xs.length c5) xs.length (xs.map uv) := by rw [← HNX.out]; exact own_mono HW5.out hzr
        have ho6 : w6.ownsRow w.heap.size 46 1 (.slice A6 (k + 1) c6) (k + 1) (vals ++ [.slice A5 xs.length c5]) := by rw [← HNX.out]; exact HO6.out
        have hll6 := hll5.push HO5'.out hvi5 ho6 HG6.out hw5 HS64.out
        have HL7 := Lib.hid (hll6.put HK6.out (by decide) (by decide) (a := ⟨gs, 2, none⟩) rfl (.slice A6 (k + 1) c6))
        have HK7 := Lib.hid (show Blk (w6.setCell ⟨gs, 2, none⟩ (.slice A6 (k + 1) c6)) gs 31 #[.int .u64 (fr : Int), .int .u64 ((fr : Int) + (x : Int) + 1), .slice A6 (k + 1) c6] from HK6.out.put 2 _)
        have ht5 := chB (show Blk wr w.heap.size 31 (stpV 0 0 none 0 0) from htt.out) HC5.out HG2.out
        have HT7 := Lib.hid ((ht5.grown HG6.out (Pen.ne' ht5 HO5'.out (by decide))).far (p := ⟨gs, 2, none⟩) (by dsimp only; omega) (.slice A6 (k + 1) c6))
        have HR7 := Lib.hid (rdPut (rdGrown HR5.out HG6.out (fun e => by have := (HO5'.out.lt g e.symm).1; omega) (fun j hj e => by have h1 := (HO5'.out.lt j e.symm).1; have h2 := HDD.out j hj; omega)) (a := ⟨gs, 2, none⟩) HG1.out HD1.out (.slice A6 (k + 1) c6))
        have HC7 := Lib.hid ((chGrown (hch.out.trans HC5.out) HG6.out (fun j hj => (HO5'.out.lt j hj).1)).setCell (p := ⟨gs, 2, none⟩) (.inr (by dsimp only; omega)) (.slice A6 (k + 1) c6))
        clear hvi5 hll5 hw5 ho6 hll6 ht5 k2 kf2 k5 kf5 k6 kf6 hln kz5
        generalize World.setCell w6 _ _ = w7 at *
        by_cases hF : F2.1 = 0
        · have hq : (F2.1 == 0) = true := by simpa using hF
          have HG := Lib.hid (HGO.out hF)
          clear hF
          go_wp2_with fail
          refine (cgood_at HR7.out).mono ?_; rintro e w8 ⟨rfl, hb⟩
          have HK8 := Lib.hid (keepB (show Blk w7 gs 31 _ from HK7.out) hb)
          have HT8 := Lib.hid (keepB (show Blk w7 w.heap.size 31 _ from HT7.out) hb)
          have HL8 := Lib.hid (HL7.out.below hb)
          have HR8 := Lib.hid (HR7.out.below hb)
          have HC8 := Lib.hid (HC7.out.trans (Chg.of_pure hb _))
          clear hb
          go_wp2_with fail
          go_roundw
          case rel => exact ⟨k + 1, q2, F2, sets ++ [xs], A6, c6, by omega, by go_num, HSOK.out, HK8.out, HT8.out, HL8.out, HR8.out, HC8.out, HG.out.symm⟩
          case measure => simp [intOf]; omega
        · have hq : (F2.1 == 0) = false := by simpa using hF
          have hxx : X = ((0, 0, []), q2, F2) := by
            have h1 := HST.out hF
            have h2 := HX.out
            rw [h1] at h2
            rw [h2, if_neg hF]
          have HXX := Lib.hid hxx
          clear hF hxx
          go_wp2_with fail
          refine (cgood_at HR7.out).mono ?_; rintro e w8 ⟨rfl, hb⟩
          have HT8 := Lib.hid (keepB (show Blk w7 w.heap.size 31 _ from HT7.out) hb)
          have HR8 := Lib.hid (HR7.out.below hb)
          have HC8 := Lib.hid (HC7.out.trans (Chg.of_pure hb _))
          clear hb
          go_wp2_with fail
          refine (cgood_at HR8.out).mono ?_; rintro e w10 ⟨rfl, hb⟩
          have HTz := Lib.hid (keepB (show Blk w8 w.heap.size 31 _ from HT8.out) hb)
          have HRz := Lib.hid (HR8.out.below hb)
          have HCz := Lib.hid (HC8.out.trans (Chg.of_pure hb _))
          clear hb
          go_wp2_with (refine wpList_put_row rfl 31 (.tmp 4) (.tmp 54) rfl w.heap.size (stpV 0 0 none 0 0) rfl rfl 31 _ HTz.out HS4.out rfl (by simp [Value.oneCell']) ?_; intro w9 hblk hgr)
          try rw [Exit.noGoto_ret]
          have hXX := HXX.out
          clear HX HXX
          subst hXX
          exact bodyPost_ret (results_cell_row rfl _ _ w.heap.size 31 _ (0, 0) _ rfl hblk Try.underlying31 rfl HS4.out) rfl ⟨none, 0, 0, rfl, LL.nil _ _, rdGrown HRz.out hgr (fun e => by injection e with e; omega) (fun j hj e => by injection e with e; subst e; exact HD2.out hj), chGrown HCz.out hgr (fun j hj => by injection hj with hj; omega)⟩
    case neg =>
      obtain rfl : k = mn := by omega
      have hd : decide ((k : Int) < (k : Int)) = false := by simp
      have hd2 : decide (k < k) = false := by simp
      have heq2 := heq.out
      rw [Nat.sub_self] at heq2
      have heq3 : RS = (sets, q, F) := heq2.symm
      by_cases hF : F.1 = 0
      · have hq : (F.1 == 0) = true := by simpa using hF
        have hxx : X = ((fr, fr + x + 1, sets), q, F) := by
          have h2 := HX.out
          rw [heq3] at h2
          rw [h2, if_pos hF]
        have HXX := Lib.hid hxx
        clear hF hxx heq2 heq3 heq
        go_wp2_with fail
        refine (cgood_at hrd.out).mono ?_; rintro e w8 ⟨rfl, hb⟩
        have hk8 := keepB (show Blk wr gs 31 _ from hkk.out) hb
        have k0 := hk8.cell 0
        have k1 := hk8.cell 1
        have k2 := hk8.cell 2
        have HT8 := Lib.hid (keepB (show Blk wr w.heap.size 31 _ from htt.out) hb)
        have HL8 := Lib.hid (hll.out.below hb)
        have HR8 := Lib.hid (hrd.out.below hb)
        have HC8 := Lib.hid (hch.out.trans (Chg.of_pure hb _))
        clear hb hk8
        go_wp2_with (refine wpList_put_row rfl 31 (.tmp 4) (.tmp 55) rfl w.heap.size (#[.int .u64 (fr : Int), .int .u64 ((fr : Int) + (x : Int) + 1), .slice A k c]) rfl rfl 31 _ HT8.out HS4.out rfl (by simp [Value.oneCell']) ?_; intro w9 hblk hgr)
        try rw [Exit.noGoto_ret]
        have hXX := HXX.out
        clear HX HXX
        subst hXX
        have hl9 := HL8.out.same (w' := w9) (fun j cs t hj ht _ => hgr.block j (Blk.lt (w := w8) hj) (fun e => by
          injection e with e
          subst e
          have h1 : some (Obj.cells cs t (0, 0)) = some (Obj.cells (stpV 0 0 none 0 0) 31 (0, 0)) := hj.symm.trans HT8.out
          injection h1 with h1
          injection h1 with _ h2 _
          rcases ht with rfl | rfl <;> cases h2))
        have he : ((fr + x + 1 : Nat) : Int) = (fr : Int) + (x : Int) + 1 := by omega
        refine bodyPost_ret (results_cell_row rfl _ _ w.heap.size 31 _ (0, 0) _ rfl hblk Try.underlying31 rfl HS4.out) rfl ⟨A, k, c, ?_, hl9, rdGrown HR8.out hgr (fun e => by injection e with e; omega) (fun j hj e => by injection e with e; subst e; exact HD2.out hj), chGrown HC8.out hgr (fun j hj => by injection hj with hj; omega)⟩
        show _ = Ending.returned (.agg #[.int .u64 (fr : Int), .int .u64 ((fr + x + 1 : Nat) : Int), .slice A k c])
        rw [he]
      · have hq : (F.1 == 0) = false := by simpa using hF
        have hxx : X = ((0, 0, []), q, F) := by
          have h2 := HX.out
          rw [heq3] at h2
          rw [h2, if_neg hF]
        have HXX := Lib.hid hxx
        have HT7 := htt
        have HR7 := hrd
        have HC7 := hch
        clear hF hxx heq2 heq3 heq
        go_wp2_with fail
        refine (cgood_at HR7.out).mono ?_; rintro e w10 ⟨rfl, hb⟩
        have HTz := Lib.hid (keepB (show Blk wr w.heap.size 31 _ from HT7.out) hb)
        have HRz := Lib.hid (HR7.out.below hb)
        have HCz := Lib.hid (HC7.out.trans (Chg.of_pure hb _))
        clear hb
        go_wp2_with (refine wpList_put_row rfl 31 (.tmp 4) (.tmp 54) rfl w.heap.size (stpV 0 0 none 0 0) rfl rfl 31 _ HTz.out HS4.out rfl (by simp [Value.oneCell']) ?_; intro w9 hblk hgr)
        try rw [Exit.noGoto_ret]
        have hXX := HXX.out
        clear HX HXX
        subst hXX
        exact bodyPost_ret (results_cell_row rfl _ _ w.heap.size 31 _ (0, 0) _ rfl hblk Try.underlying31 rfl HS4.out) rfl ⟨none, 0, 0, rfl, LL.nil _ _, rdGrown HRz.out hgr (fun e => by injection e with e; omega) (fun j hj e => by injection e with e; subst e; exact HD2.out hj), chGrown HCz.out hgr (fun j hj => by injection hj with hj; omega)⟩
end
end Go.Proofs.Ytmdgmnaaopineaa
