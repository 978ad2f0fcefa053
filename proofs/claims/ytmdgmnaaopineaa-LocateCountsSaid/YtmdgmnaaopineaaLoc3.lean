/- locate.At and locate.Pos. -/
import Derived.Test.YtmdgmnaaopineaaLoc2
namespace Go.Proofs.Ytmdgmnaaopineaa
open Go.ChangeShapes Go.WideShapes Go.ChangeAt Go.RowKit
set_option linter.unusedVariables false
abbrev plcZ : Array Value := #[.int .i64 0, .int .i64 0, .int .u64 0, .slice none 0 0]
def AtPost (l : List Stp) (x : Nat) (w : World) (en : Ending) (w' : World) : Prop :=
  ∃ (r K N : Nat) (nd : List Nat) (A2 : Option Addr) (n2 c2 : Nat) (D2 : Dom), en = .returned (.tuple #[.agg #[.int .i64 (r : Int), .int .i64 (K : Int), .int .u64 (N : Int), .slice A2 n2 c2], .int .i64 0]) ∧ PlaceIs l x r K N nd ∧ rpU64.sl w' D2 A2 n2 c2 nd ∧ (∀ k, D2 k → w.heap.size ≤ k ∧ k < w'.heap.size) ∧ Below w.heap.size w w'
section
variable {D : Dom} {A : Option Addr} {n c e : Nat} {l : List Stp} {w : World}
set_option maxRecDepth 100000 in
theorem at_ok (x : Nat) (hs : rpStp.sl w D A n c l) (hD : ∀ k, D k → k < w.heap.size) (he : e ≤ 18446744073709551615) (hx : x ≤ 18446744073709551615) (hok : POk (e, l)) (hpos : PosOk x) :
    Calls Try.prog 24 #[.agg (prjV e A n c), .int .u64 (x : Int)] w (AtPost l x w) := by
  have H : Hid ((Try.prog.info? 48).map (·.size) = some 4) := by unfold Hid; kernel_rfl
  have hb0 : Below w.heap.size w ((w.alloc (.cells (prjV e A n c) 25)).alloc (.cells plcZ 48)) := ((Below.refl _ _).alloc (Nat.le_refl _) _).alloc (by simp) _
  have HK0 : Hid (Blk ((w.alloc (.cells (prjV e A n c) 25)).alloc (.cells plcZ 48)) w.heap.size 25 (prjV e A n c)) := (Blk.newAt rfl _ _).alloc _
  have HK1 : Hid (Blk ((w.alloc (.cells (prjV e A n c) 25)).alloc (.cells plcZ 48)) (w.heap.size + 1) 48 plcZ) := Blk.newAt (size_alloc _ _) _ _
  have hr := pright_any (Rp.sl_below hs hb0 hD) (fun k hk => Nat.lt_of_lt_of_le (hD k hk) hb0.size) he
  rw [dec_true hok] at hr
  have HR := Lib.hid hr
  have HS := Lib.hid (Rp.sl_below hs hb0 hD)
  have HD := Lib.hid (fun k hk => Nat.lt_of_lt_of_le (hD k hk) hb0.size)
  have HB0 := Lib.hid hb0
  have HOK := Lib.hid hok
  have HPO := Lib.hid hpos
  clear hr hs hD hb0 hok hpos
  go_enter Try.func24, Try.ntmps24
  go_wp2_with fail
  generalize World.alloc (World.alloc w _) _ = w0 at *
  have hz0 := HB0.out.size
  have hl0 := (show Blk _ _ _ _ from HK0.out).lt
  have hl1 := (show Blk _ _ _ _ from HK1.out).lt
  refine HR.out.mono ?_; rintro en w1 ⟨rfl, hb1⟩
  have hk0 := Blk.below (show Blk _ _ _ _ from HK0.out) hb1 hl0
  have e0 : w1.cell? ⟨w.heap.size, 0, none⟩ = some (.int .u64 (e : Int)) := hk0.cell 0
  have e1 : w1.cell? ⟨w.heap.size, 1, none⟩ = some (.slice A n c) := hk0.cell 1
  have B1 := Lib.hid hb1
  clear hb1 hk0
  go_wp2_with fail
  refine (lstripe_any x (Rp.sl_below HS.out B1.out HD.out) (fun k hk => Nat.lt_of_lt_of_le (HD.out k hk) B1.out.size) he hx HOK.out HPO.out).mono ?_; rintro en w2 ⟨r, s, rfl, hin, hb2⟩
  have hb2' := B1.out.trans (hb2.mono B1.out.size)
  have hk0 := Blk.below (show Blk _ _ _ _ from HK0.out) hb2' hl0
  clear e0 e1
  have e0 : w2.cell? ⟨w.heap.size, 0, none⟩ = some (.int .u64 (e : Int)) := hk0.cell 0
  have e1 : w2.cell? ⟨w.heap.size, 1, none⟩ = some (.slice A n c) := hk0.cell 1
  have B2 := Lib.hid hb2'
  have HIN := Lib.hid hin
  clear hb2 hb2' hk0 hin
  go_wp2_with fail
  have hsok : SOk s := (HOK.out.1.2 r s (List.getElem?_eq_some_iff.1 HIN.out.1).1 HIN.out.1).1
  refine (place_any x (Rp.sl_below HS.out B2.out HD.out) (fun k hk => Nat.lt_of_lt_of_le (HD.out k hk) B2.out.size) hx HIN.out hsok).mono ?_; rintro en w3 ⟨K, N, nd, A2, n2, c2, D2, rfl, hpl, hs2, hd2, hb3⟩
  have hb3' := B2.out.trans (hb3.mono B2.out.size)
  have HK3 := Lib.hid (Blk.below (show Blk _ _ _ _ from HK1.out) hb3' hl1)
  have B3 := Lib.hid hb3'
  have HPL := Lib.hid hpl
  have HS2 := Lib.hid hs2
  have HD2 := Lib.hid hd2
  clear e0 e1 hb3 hb3' hpl hs2 hd2 hsok
  go_wp2_with (refine wpList_put_row rfl 48 (.tmp 4) (.tmp 24) rfl (w.heap.size + 1) _ rfl rfl 48 _ (show Blk _ _ _ _ from HK3.out) H.out rfl (by simp [Value.oneCell']) ?_; intro w5 hblk hgr)
  have z2 := B2.out.size
  have hbz : Below w.heap.size w w5 := (HB0.out.trans (B3.out.mono hz0)).grown hgr (by have := B3.out.size; omega) (fun k hk => by injection hk with hk; omega)
  have f0 := hblk.cell 0
  have f1 := hblk.cell 1
  have f2 := hblk.cell 2
  have f3 := hblk.cell 3
  refine bodyPost_ret (v := .tuple #[.agg #[.int .i64 (r : Int), .int .i64 (K : Int), .int .u64 (N : Int), .slice A2 n2 c2], .int .i64 0]) (by simp [results, Try.results24, go_sem, f0, f1, f2, f3]) rfl ?_
  exact ⟨r, K, N, nd, A2, n2, c2, D2, rfl, HPL.out, Rp.sl_keep HS2.out (fun k hk => hgr.block k (HD2.out k hk).2 (fun e => by injection e with e; have := (HD2.out k hk).1; omega)), fun k hk => ⟨by have := (HD2.out k hk).1; omega, Nat.lt_of_lt_of_le (HD2.out k hk).2 hgr.size⟩, hbz⟩
set_option maxRecDepth 100000 in
theorem at_bad (x : Nat) (cd : Int) (hs : rpStp.sl w D A n c l) (hD : ∀ k, D k → k < w.heap.size) (he : e ≤ 18446744073709551615) (hx : x ≤ 18446744073709551615) (hno : (¬ POk (e, l) ∧ cd = 3) ∨ (POk (e, l) ∧ ¬ PosOk x ∧ cd = 17)) :
    Calls Try.prog 24 #[.agg (prjV e A n c), .int .u64 (x : Int)] w fun en w' => en = .returned (.tuple #[.agg plcZ, .int .i64 cd]) ∧ Below w.heap.size w w' := by
  have H : Hid ((Try.prog.info? 48).map (·.size) = some 4) := by unfold Hid; kernel_rfl
  have hb0 : Below w.heap.size w ((w.alloc (.cells (prjV e A n c) 25)).alloc (.cells plcZ 48)) := ((Below.refl _ _).alloc (Nat.le_refl _) _).alloc (by simp) _
  have HK0 : Hid (Blk ((w.alloc (.cells (prjV e A n c) 25)).alloc (.cells plcZ 48)) w.heap.size 25 (prjV e A n c)) := (Blk.newAt rfl _ _).alloc _
  have HK1 : Hid (Blk ((w.alloc (.cells (prjV e A n c) 25)).alloc (.cells plcZ 48)) (w.heap.size + 1) 48 plcZ) := Blk.newAt (size_alloc _ _) _ _
  have hr := pright_any (Rp.sl_below hs hb0 hD) (fun k hk => Nat.lt_of_lt_of_le (hD k hk) hb0.size) he
  have HS := Lib.hid (Rp.sl_below hs hb0 hD)
  have HD := Lib.hid (fun k hk => Nat.lt_of_lt_of_le (hD k hk) hb0.size)
  have HB0 := Lib.hid hb0
  clear hs hD hb0
  rcases hno with ⟨hno, rfl⟩ | ⟨hok, hno, rfl⟩
  · rw [dec_false hno] at hr
    have HR := Lib.hid hr
    clear hr hno
    go_enter Try.func24, Try.ntmps24
    go_wp2_with fail
    generalize World.alloc (World.alloc w _) _ = w0 at *
    have hz0 := HB0.out.size
    have hl1 := (show Blk _ _ _ _ from HK1.out).lt
    refine HR.out.mono ?_; rintro en w1 ⟨rfl, hb1⟩
    have HK3 := Lib.hid (Blk.below (show Blk _ _ _ _ from HK1.out) hb1 hl1)
    have B1 := Lib.hid hb1
    clear hb1
    go_wp2_with (refine wpList_put_row rfl 48 (.tmp 4) (.tmp 11) rfl (w.heap.size + 1) _ rfl rfl 48 _ (show Blk _ _ _ _ from HK3.out) H.out rfl (by simp [Value.oneCell']) ?_; intro w5 hblk hgr)
    have hbz : Below w.heap.size w w5 := (HB0.out.trans (B1.out.mono hz0)).grown hgr (by have := B1.out.size; omega) (fun k hk => by injection hk with hk; omega)
    have f0 := hblk.cell 0
    have f1 := hblk.cell 1
    have f2 := hblk.cell 2
    have f3 := hblk.cell 3
    exact bodyPost_ret (v := .tuple #[.agg plcZ, .int .i64 3]) (by simp [results, Try.results24, go_sem, f0, f1, f2, f3]) rfl ⟨rfl, hbz⟩
  · rw [dec_true hok] at hr
    have HR := Lib.hid hr
    have HNO := Lib.hid (show ¬ (POk (e, l) ∧ PosOk x) from fun h => hno h.2)
    clear hr hno hok
    go_enter Try.func24, Try.ntmps24
    go_wp2_with fail
    generalize World.alloc (World.alloc w _) _ = w0 at *
    have hz0 := HB0.out.size
    have hl0 := (show Blk _ _ _ _ from HK0.out).lt
    have hl1 := (show Blk _ _ _ _ from HK1.out).lt
    refine HR.out.mono ?_; rintro en w1 ⟨rfl, hb1⟩
    have hk0 := Blk.below (show Blk _ _ _ _ from HK0.out) hb1 hl0
    have e0 : w1.cell? ⟨w.heap.size, 0, none⟩ = some (.int .u64 (e : Int)) := hk0.cell 0
    have e1 : w1.cell? ⟨w.heap.size, 1, none⟩ = some (.slice A n c) := hk0.cell 1
    have B1 := Lib.hid hb1
    clear hb1 hk0
    go_wp2_with fail
    refine (lstripe_bad x (Rp.sl_below HS.out B1.out HD.out) (fun k hk => Nat.lt_of_lt_of_le (HD.out k hk) B1.out.size) he hx HNO.out).mono ?_; rintro en w2 ⟨rfl, hb2⟩
    have hb2' := B1.out.trans (hb2.mono B1.out.size)
    have HK3 := Lib.hid (Blk.below (show Blk _ _ _ _ from HK1.out) hb2' hl1)
    have B2 := Lib.hid hb2'
    clear hb2 hb2' e0 e1
    go_wp2_with (refine wpList_put_row rfl 48 (.tmp 4) (.tmp 20) rfl (w.heap.size + 1) _ rfl rfl 48 _ (show Blk _ _ _ _ from HK3.out) H.out rfl (by simp [Value.oneCell']) ?_; intro w5 hblk hgr)
    have hbz : Below w.heap.size w w5 := (HB0.out.trans (B2.out.mono hz0)).grown hgr (by have := B2.out.size; omega) (fun k hk => by injection hk with hk; omega)
    have f0 := hblk.cell 0
    have f1 := hblk.cell 1
    have f2 := hblk.cell 2
    have f3 := hblk.cell 3
    exact bodyPost_ret (v := .tuple #[.agg plcZ, .int .i64 17]) (by simp [results, Try.results24, go_sem, f0, f1, f2, f3]) rfl ⟨rfl, hbz⟩
/-- Which position is at a place. -/
noncomputable def posAt (l : List Stp) (r : Int) (set : Int) (loc : Nat) : Nat × Bool := if 0 ≤ r then match l[r.toNat]? with
  | some s => back s set loc
  | none => (0, false) else (0, false)
theorem posAt_in {l : List Stp} {r : Nat} {s : Stp} (set : Int) (loc : Nat) (h : l[r]? = some s) : posAt l (r : Int) set loc = back s set loc := by
  unfold posAt
  rw [if_pos (by omega), Int.toNat_natCast, h]
theorem posAt_out {l : List Stp} {r set : Int} {loc : Nat} (h : r < 0 ∨ (l.length : Int) ≤ r) : posAt l r set loc = (0, false) := by
  unfold posAt
  split
  · rw [List.getElem?_eq_none (by omega)]
  · rfl
end
end Go.Proofs.Ytmdgmnaaopineaa
