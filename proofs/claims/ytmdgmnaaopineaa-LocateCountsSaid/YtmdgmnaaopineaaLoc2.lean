/- Rows of numbers; locate.place and locate.At. -/
import Derived.Test.YtmdgmnaaopineaaU64
import Derived.Test.YtmdgmnaaopineaaLoc
namespace Go.Proofs.Ytmdgmnaaopineaa
open Go.ChangeShapes Go.WideShapes Go.ChangeAt Go.RowKit
set_option linter.unusedVariables false
/-- The place of a position in its stripe: the set's number, the number there, its nodes. -/
def PlaceIs (l : List Stp) (x r K N : Nat) (nd : List Nat) : Prop := ∃ s, InStripe l x r s ∧ SOk s ∧ K = (x - s.1) % s.2.2.length ∧ N = (x - s.1) / s.2.2.length ∧ s.2.2[K]? = some nd
def PlacePost (l : List Stp) (x r : Nat) (w : World) (en : Ending) (w' : World) : Prop :=
  ∃ (K N : Nat) (nd : List Nat) (A2 : Option Addr) (n2 c2 : Nat) (D2 : Dom), en = .returned (.agg #[.int .i64 (r : Int), .int .i64 (K : Int), .int .u64 (N : Int), .slice A2 n2 c2]) ∧ PlaceIs l x r K N nd ∧ rpU64.sl w' D2 A2 n2 c2 nd ∧ (∀ k, D2 k → w.heap.size ≤ k ∧ k < w'.heap.size) ∧ Below w.heap.size w w'
set_option maxRecDepth 100000 in
set_option maxHeartbeats 4000000 in
theorem place_any {D : Dom} {A : Option Addr} {n c e r : Nat} {l : List Stp} {s : Stp} {w : World} (x : Nat) (hs : rpStp.sl w D A n c l) (hD : ∀ k, D k → k < w.heap.size) (hx : x ≤ 18446744073709551615) (hin : InStripe l x r s) (hok : SOk s) :
    Calls Try.prog 84 #[.agg (prjV e A n c), .int .i64 (r : Int), .int .u64 (x : Int)] w (PlacePost l x r w) := by
  obtain ⟨hlen, hnc, hcm⟩ := Rp.sl_len hs
  unfold maxLen at hcm
  have H : Hid ((Try.prog.info? 48).map (·.size) = some 4) := by unfold Hid; kernel_rfl
  have hb0 : Below w.heap.size w ((w.alloc (.cells (prjV e A n c) 25)).alloc (.cells #[.int .i64 0, .int .i64 0, .int .u64 0, .slice none 0 0] 48)) := ((Below.refl _ _).alloc (Nat.le_refl _) _).alloc (by simp) _
  have HK0 : Hid (Blk ((w.alloc (.cells (prjV e A n c) 25)).alloc (.cells #[.int .i64 0, .int .i64 0, .int .u64 0, .slice none 0 0] 48)) w.heap.size 25 (prjV e A n c)) := (Blk.newAt rfl _ _).alloc _
  have HK1 : Hid (Blk ((w.alloc (.cells (prjV e A n c) 25)).alloc (.cells #[.int .i64 0, .int .i64 0, .int .u64 0, .slice none 0 0] 48)) (w.heap.size + 1) 48 #[.int .i64 0, .int .i64 0, .int .u64 0, .slice none 0 0]) := Blk.newAt (size_alloc _ _) _ _
  have HS := Lib.hid (Rp.sl_below hs hb0 hD)
  have HD := Lib.hid (fun k hk => Nat.lt_of_lt_of_le (hD k hk) hb0.size)
  have HB0 := Lib.hid hb0
  have hrn : r < n := by have := (List.getElem?_eq_some_iff.1 hin.1).1; omega
  have HIN := Lib.hid hin
  have HOK := Lib.hid hok
  clear hs hD hb0 hlen hin hok
  obtain ⟨b, off, s', A2, c2, rfl, hb, hsk, g0, g1, g2, hrow, hs1, hs2⟩ := stps_at HS.out hrn
  have es : s' = s := by have := HIN.out.1; rw [hsk] at this; injection this
  subst es
  have hbz := HD.out b hb
  have hsfx : s'.1 ≤ x := HIN.out.2.1
  have hxst : x < s'.2.1 := HIN.out.2.2
  have hm1 : 1 ≤ s'.2.2.length := HOK.out.2.2.1
  have hm8 : s'.2.2.length ≤ 8 := HOK.out.2.2.2.1
  obtain ⟨K, hK⟩ : ∃ K : Nat, K = (x - s'.1) % s'.2.2.length := ⟨_, rfl⟩
  obtain ⟨N, hN⟩ : ∃ N : Nat, N = (x - s'.1) / s'.2.2.length := ⟨_, rfl⟩
  have hKl : K < s'.2.2.length := by rw [hK]; exact Nat.mod_lt _ hm1
  have hdl := dealt_any (f := s'.1) (t := s'.2.1) x hrow HD.out hs1 hs2 hx
  have hde : dealt (s'.1, s'.2.1, s'.2.2) x = (K, N, true) := by rw [hK, hN]; exact dealt_in HOK.out hsfx hxst
  rw [hde] at hdl
  have HDL := Lib.hid hdl
  have HR := Lib.hid hrow
  have HKK := Lib.hid hK
  have HNN := Lib.hid hN
  obtain ⟨sf, hsf⟩ : ∃ sf, sf = s'.1 := ⟨_, rfl⟩
  obtain ⟨st, hst⟩ : ∃ st, st = s'.2.1 := ⟨_, rfl⟩
  obtain ⟨sn, hsn⟩ : ∃ sn, sn = s'.2.2.length := ⟨_, rfl⟩
  have hdl2 := HDL.out
  rw [← hsf, ← hst, ← hsn] at hdl2
  have HDL2 := Lib.hid hdl2
  rw [← hsf] at g0 hsfx hs1
  rw [← hst] at g1 hxst hs2
  rw [← hsn] at g2 hm1 hm8 hKl
  have HSN := Lib.hid hsn
  have HSK := Lib.hid hsk
  have hr0 : (0 : Int) ≤ (r : Int) := by omega
  have hr1 : (r : Int) < (n : Int) := by omega
  clear hdl hde hrow hK hN hsf hst hsn hsk hdl2 HDL
  go_enter Try.func84, Try.ntmps84
  go_wp2_with fail
  generalize World.alloc (World.alloc w _) _ = w0 at *
  have hz0 := HB0.out.size
  refine HDL2.out.mono ?_; rintro en w1 ⟨rfl, hb1⟩
  have hkk0 := Blk.below (show Blk _ _ _ _ from HK0.out) hb1 (show Blk _ _ _ _ from HK0.out).lt
  have hz1 := hb1.size
  have hba : Below w1.heap.size w1 (w1.alloc (.cells #[] 22)) := (Below.refl _ _).alloc (Nat.le_refl _) _
  have e1 : (w1.alloc (.cells #[] 22)).cell? ⟨w.heap.size, 1, none⟩ = some (.slice (some ⟨b, off, none⟩) n c) := (hkk0.below hba hkk0.lt).cell 1
  have q2 : (w1.alloc (.cells #[] 22)).cell? ⟨b, off + r * 3 + 2, none⟩ = some (.slice A2 sn c2) := (hba.cell (p := ⟨b, off + r * 3 + 2, none⟩) (Nat.lt_of_lt_of_le hbz hz1)).trans ((hb1.cell (p := ⟨b, off + r * 3 + 2, none⟩) hbz).trans g2)
  obtain ⟨b2, off2, nd, A3, c3, rfl, hb2, hnd, hcell, hrow2⟩ := rows_at (Rp.sl_below (Rp.sl_below HR.out hb1 HD.out) hba (fun k hk => Nat.lt_of_lt_of_le (HD.out k hk) hz1)) (show K < s'.2.2.length by rw [← HSN.out]; exact hKl)
  have hndl : nd.length ≤ 8 := (HOK.out.2.2.2.2 K nd hnd).2.1
  have HSR := Lib.hid (Src.u64 hrow2)
  have HLT := Lib.hid (u64_lt hrow2)
  have hm := World.ownsRow_made (e := 22) (size := 1) (base := w.heap.size) w1 #[] 0 (by omega) (by decide) rfl
  have HM := Lib.hid hm
  have HND := Lib.hid hnd
  have HBA := Lib.hid (hb1.trans (hba.mono hz1))
  have HK1a := Lib.hid ((Blk.below (show Blk _ _ _ _ from HK1.out) hb1 (show Blk _ _ _ _ from HK1.out).lt).alloc (.cells #[] 22))
  have hl1 := (show Blk _ _ _ _ from HK1.out).lt
  have hK0 : (0 : Int) ≤ (K : Int) := by omega
  have hK1 : (K : Int) < (sn : Int) := by omega
  clear hb1 hkk0 hba hrow2 hnd hm g0 g1 g2
  go_wp2_with (first
    | (at_builtin; refine wpList_app rfl (.tmp 24) (.tmp 33) _ rfl elem64 rfl HM.out rfl HSR.out (by unfold maxLen; omega) (by omega) (by simp; omega) ?_; intro A4 c4 w4 ho4 hg4 hat4
       have hb4 : Below w.heap.size w0 w4 := (HBA.out.mono hz0).grown hg4 (by have := HBA.out.size; omega) (fun k hk => by have e : k = w1.heap.size := (by injection hk with hk; exact hk.symm); omega)
       have HB4 := Lib.hid hb4
       have HO4 := Lib.hid ho4
       have HK4 := Lib.hid (HK1a.out.grown hg4 (by show some (w.heap.size + 1) ≠ some w1.heap.size; intro e; injection e with e; omega))
       clear ho4 hg4 hat4 hb4)
    | (refine wpList_put_row rfl 48 (.tmp 6) (.tmp 35) rfl (w.heap.size + 1) _ rfl rfl 48 _ (show Blk _ _ _ _ from HK4.out) H.out rfl (by simp [Value.oneCell']) ?_; intro w5 hblk hgr))
  have ho4 := HO4.out
  rw [Nat.zero_add, List.nil_append] at ho4
  have hne : some (w.heap.size + 1) ≠ (Value.slice A4 nd.length c4).ownBlock := fun h => by
    rcases ho4.2 with ⟨hv, _⟩ | ⟨q, cap, cur, hv, _, hh, _⟩
    · rw [hv] at h; cases h
    · rw [hv] at h
      simp only [Value.ownBlock, Option.some.injEq] at h
      have hk4 := (show Blk _ _ _ _ from HK4.out)
      unfold Blk at hk4
      rw [h, hh] at hk4
      injection hk4 with hk4
      injection hk4 with _ he
      exact absurd he (by decide)
  have ho5 := ho4.kept hgr (.inr (fun e => hne e.symm))
  have hbz5 : Below w.heap.size w w5 := (HB0.out.trans HB4.out).grown hgr (by have := HB4.out.size; omega) (fun k hk => by injection hk with hk; omega)
  refine bodyPost_ret (results_cell_row rfl _ _ (w.heap.size + 1) 48 _ (0, 0) _ rfl hblk Try.underlying48 rfl H.out) rfl ?_
  refine ⟨K, N, nd, A4, nd.length, c4, fun k => some k = (Value.slice A4 nd.length c4).ownBlock, by simp, ⟨s', HIN.out, HOK.out, HKK.out, HNN.out, HND.out⟩, own_u64 ho5 HLT.out, fun k hk => ⟨(ho5.lt k hk.symm).1, (ho5.lt k hk.symm).2⟩, hbz5⟩
end Go.Proofs.Ytmdgmnaaopineaa
