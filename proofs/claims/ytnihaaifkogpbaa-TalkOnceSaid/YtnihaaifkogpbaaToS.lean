/- State, put, Epoch of a unit; epoch.Admit. -/
import Derived.Test.YtnihaaifkogpbaaToM
import Derived.BigQuiet
import Derived.RegionTactic
import Derived.StillTailTactics
namespace Go.Proofs.Ytnihaaifkogpbaa
open Go.ChangeShapes Go.WideShapes Go.ChangeAt Go.RowKit
set_option linter.unusedVariables false
/-- How a position is. -/
def St (f : Nat → Option Value) (x : Nat) (st : Int) : Prop := (f x = none ∧ st = 4) ∨ ∃ (A : Option Addr) (n c : Nat), f x = some (slV st A n c)
section
variable {w : World} {gu gm nd ep tl nx nt ct n x : Nat} {se : Bool} {pj : Value} {At : Option Addr} {f : Nat → Option Value} {st : Int}
theorem wpList_sput {b : Nat} {ops : Array Oper} {rest : List Oper} {o : Oper} {a : Act} {Q : Exit → Act → World → Prop} (hg : o.guard = none) (m x v : Operand) (hop : o.op = Op.mapUpdate 57 m x v) {y : Nat} {u : Value}
    (h : SMap w b n f) (hy : y ≤ 18446744073709551615) (hn : n < maxLen) (hm : a.eval m = .map (some b)) (hx : a.eval x = .int .u64 (y : Int)) (hv : a.eval v = u)
    (hK : ∀ w', SMap w' b (n + 1) (fset f y u) → w.grownBy w' (some b) → wpList Try.prog ops Q rest (a.put o.dst undef) w') : wpList Try.prog ops Q (o :: rest) a w := by
  refine wpList_plain hg fun K' hK' => ?_
  obtain ⟨w', hrun, r1, r2⟩ := h.put_run (v := u) hy hn
  unfold Oper.wp
  simp [execOp, hop, hm, hx, hv, hrun, Result.andThen]
  exact hK' _ _ (hK w' r1 r2)
set_option maxRecDepth 100000 in
set_option maxHeartbeats 4000000 in
theorem state_any (hu : Blk w gu 60 (unV nd ep se (.map (some gm)) tl pj nx At nt ct)) (hm : SMap w gm n f) (hx : x ≤ 18446744073709551615) (hs : St f x st) :
    Calls Try.prog 12 #[.pointer (some ⟨gu, 0, none⟩), .int .u64 (x : Int)] w fun e w' => e = .returned (.int .i64 st) ∧ Below w.heap.size w w' := by
  have u3 := hu.cell 3
  have hlk := hm.look hx (u := w) rfl
  rcases hs with ⟨h1, rfl⟩ | ⟨A, m, c, h1⟩
  · rw [h1] at hlk
    have hlk2 : (Instr.lookup 57 (.map (some gm)) (.int .u64 (x : Int)) true).run Try.prog w = .ok (.tuple #[slV 0 none 0 0, .bool false]) w := hlk
    clear hlk hm h1 hu
    have HB := Lib.hid (below1 w (.cells #[.int .i64 0, .slice none 0 0] 69))
    go_enter Try.func12, Try.ntmps12
    go_wp2_with fail
    go_ret
    exact ⟨rfl, HB.out⟩
  · rw [h1] at hlk
    have hlk2 : (Instr.lookup 57 (.map (some gm)) (.int .u64 (x : Int)) true).run Try.prog w = .ok (.tuple #[slV st A m c, .bool true]) w := hlk
    clear hlk hm h1 hu
    have HB := Lib.hid (below1 w (.cells #[.int .i64 st, .slice A m c] 69))
    have HK := Lib.hid (blk11 w 69 #[.int .i64 st, .slice A m c])
    go_enter Try.func12, Try.ntmps12
    go_upto_region 5 with (fail)
    clear u3 hlk2
    generalize World.alloc w _ = w1 at *
    have k0 := (show Blk w1 w.heap.size 69 _ from HK.out).cell 0
    go_wp2_with fail
    go_ret
    exact ⟨rfl, HB.out⟩
set_option maxRecDepth 100000 in
set_option maxHeartbeats 4000000 in
theorem put_any {A : Option Addr} {m c : Nat} (hu : Blk w gu 60 (unV nd ep se (.map (some gm)) tl pj nx At nt ct)) (hm : SMap w gm n f) (hx : x < 4611686018427387904) (hn : n < maxLen) :
    Calls Try.prog 50 #[.pointer (some ⟨gu, 0, none⟩), .int .u64 (x : Int), slV st A m c] w fun e w' => e = .returned (.tuple #[]) ∧ Blk w' gu 60 (unV nd ep se (.map (some gm)) (max tl (x + 1)) pj nx At nt ct) ∧ SMap w' gm (n + 1) (fset f x (slV st A m c)) ∧ Chg (fun k => k = gu ∨ k = gm) w w' := by
  have hb1 := below1 w (.cells #[.int .i64 st, .slice A m c] 69)
  have HNE : Hid (gu ≠ gm) := fun e => hm.no (by rw [← e]; exact hu)
  have HB1 := Lib.hid hb1
  have K1 := Lib.hid (blk11 w 69 #[.int .i64 st, .slice A m c])
  have U1 := Lib.hid (keepB hu hb1)
  have M1 := Lib.hid (hm.below hb1 hm.lt)
  have HUL := Lib.hid hu.lt
  have HML := Lib.hid hm.lt
  clear hu hm hb1
  go_enter Try.func50, Try.ntmps50
  go_upto_region 1 with (fail)
  obtain ⟨gb, hgb⟩ : ∃ gb, gb = w.heap.size := ⟨_, rfl⟩
  rw [← hgb] at K1 ⊢
  have HGB := Lib.hid hgb
  clear hgb
  generalize World.alloc w _ = w1 at *
  have k0 := (show Blk w1 gb 69 #[.int .i64 st, .slice A m c] from K1.out).cell 0
  have k1 := (show Blk w1 gb 69 #[.int .i64 st, .slice A m c] from K1.out).cell 1
  have u3 := (show Blk w1 gu 60 (unV nd ep se (.map (some gm)) tl pj nx At nt ct) from U1.out).cell 3
  go_still_tail 6, (by kernel_rfl)
  change wpList _ _ _ _ _ w1.drew
  have hdr : Below w1.heap.size w1 w1.drew := (Below.refl _ _).drew
  have U2 := Lib.hid (keepB (show Blk w1 gu 60 (unV nd ep se (.map (some gm)) tl pj nx At nt ct) from U1.out) hdr)
  have M2 := Lib.hid (M1.out.below hdr M1.out.lt)
  have HB2 := Lib.hid (stepB HB1.out hdr)
  clear hdr k0 k1 u3
  refine wpList_sput rfl (.tmp 9) (.tmp 10) (.tmp 11) rfl M2.out (by omega) hn rfl rfl rfl ?_
  intro w3 hm3 hg3
  have M3 := Lib.hid hm3
  have U3 := Lib.hid ((show Blk w1.drew gu 60 (unV nd ep se (.map (some gm)) tl pj nx At nt ct) from U2.out).grown hg3 (fun e => HNE.out (Option.some.inj e)))
  have C3 := Lib.hid (Chg.trans (Chg.of_pure HB2.out (fun k => k = gu ∨ k = gm)) ((Chg.of_grown hg3).more (fun k _ hk => .inr (Option.some.inj hk))))
  clear hm3 hg3
  have u4 := (show Blk w3 gu 60 (unV nd ep se (.map (some gm)) tl pj nx At nt ct) from U3.out).cell 4
  have uf4 := (show Blk w3 gu 60 (unV nd ep se (.map (some gm)) tl pj nx At nt ct) from U3.out).frozen 4
  have hxw : IntKind.u64.wrap ((x : Int) + 1) = ((x + 1 : Nat) : Int) := by rw [IntWalk.u64_in _ (by omega)]; omega
  have hmx : max (tl : Int) ((x : Int) + 1) = ((max tl (x + 1) : Nat) : Int) := by omega
  have U4 : Hid (Blk (w3.setCell ⟨gu, 4, none⟩ (.int .u64 ((max tl (x + 1) : Nat) : Int))) gu 60 (unV nd ep se (.map (some gm)) (max tl (x + 1)) pj nx At nt ct)) := (show Blk w3 gu 60 (unV nd ep se (.map (some gm)) tl pj nx At nt ct) from U3.out).put 4 _
  have c34 : Chg (fun k => k = gu) w3 (w3.setCell ⟨gu, 4, none⟩ (.int .u64 ((max tl (x + 1) : Nat) : Int))) := (Chg.refl (fun k => k = gu) w3).setCell (p := ⟨gu, 4, none⟩) (.inl rfl) _
  have M4 := Lib.hid (M3.out.chg c34 (fun e => HNE.out e.symm))
  have C4 := Lib.hid (C3.out.trans (c34.more (fun k _ hk => .inl hk)))
  have HMX := Lib.hid hmx
  clear c34 hmx
  go_wp2_with fail
  rw [HMX.out]
  go_end0
  exact ⟨rfl, U4.out, M4.out, C4.out⟩
set_option maxRecDepth 100000 in
theorem epoch_any (hu : Blk w gu 60 (unV nd ep se (.map (some gm)) tl pj nx At nt ct)) :
    Calls Try.prog 10 #[.pointer (some ⟨gu, 0, none⟩)] w fun e w' => e = .returned (.tuple #[.int .u64 (ep : Int), .bool se]) ∧ Below w.heap.size w w' := by
  have u1 := hu.cell 1
  have u2 := hu.cell 2
  clear hu
  go_enter Try.func10, Try.ntmps10
  go_wp2_with fail
  go_quiet (fail)
  go_wp2_with fail
  refine bodyPost_ret (v := .tuple #[.int .u64 (ep : Int), .bool se]) (by simp [results, Try.results10, go_sem]) rfl ⟨rfl, ⟨rfl, rfl, rfl, Nat.le_refl _, fun _ _ => rfl⟩⟩
end
/-- What epoch.Admit tells, at two epochs. -/
def admC (ep : Nat) (se : Bool) (e : Nat) : Int := if ep < e then 13 else if e < ep ∨ se = true then 18 else 0
set_option maxRecDepth 100000 in
set_option maxHeartbeats 4000000 in
theorem admit_any {ep e : Nat} (se : Bool) (w : World) (he : EOk ep) (he2 : EOk e) : Calls Try.prog 30 #[.int .u64 (ep : Int), .bool se, .int .u64 (e : Int)] w fun r w' => r = .returned (.int .i64 (admC ep se e)) ∧ w = w' := by
  have hep : ep ≤ 18446744073709551615 := by have := he.2; omega
  have hep2 : e ≤ 18446744073709551615 := by have := he2.2; omega
  have HER : Hid (∀ u, Calls Try.prog 15 #[.int .u64 (ep : Int)] u fun e w' => e = .returned (.bool true) ∧ u = w') := fun u => by
    have h := eright_any ep u hep
    rw [dec_true he] at h
    exact h
  have HER2 : Hid (∀ u, Calls Try.prog 15 #[.int .u64 (e : Int)] u fun e w' => e = .returned (.bool true) ∧ u = w') := fun u => by
    have h := eright_any e u hep2
    rw [dec_true he2] at h
    exact h
  clear he he2
  obtain ⟨z, hz⟩ : ∃ z, z = admC ep se e := ⟨_, rfl⟩
  have HZ := Lib.hid hz
  rw [← hz]
  clear hz
  by_cases h1 : ep < e
  case pos =>
    have hz : z = 13 := by rw [HZ.out]; unfold admC; rw [if_pos h1]
    have hd1 : decide ((e : Int) > (ep : Int)) = true := by simp; omega
    have hd1b : decide ((ep : Int) < (e : Int)) = true := by simp; omega
    have hd1c : decide (ep < e) = true := by simp; omega
    clear h1 HZ
    subst hz
    go_enter Try.func30, Try.ntmps30
    go_wp2_with (go_at_call 15; first | (refine (HER.out _).mono ?_; rintro e w' ⟨rfl, hw⟩; subst hw) | (refine (HER2.out _).mono ?_; rintro e w' ⟨rfl, hw⟩; subst hw))
    go_ret
    exact ⟨rfl, rfl⟩
  case neg =>
  have hd1 : decide ((e : Int) > (ep : Int)) = false := by simp; omega
  have hd1b : decide ((ep : Int) < (e : Int)) = false := by simp; omega
  have hd1c : decide (ep < e) = false := by simp; omega
  by_cases h2 : e < ep
  case pos =>
    have hz : z = 18 := by rw [HZ.out]; unfold admC; rw [if_neg h1, if_pos (.inl h2)]
    have hd2 : decide ((e : Int) < (ep : Int)) = true := by simp; omega
    have hd2b : decide (e < ep) = true := by simp; omega
    clear h1 h2 HZ
    subst hz
    go_enter Try.func30, Try.ntmps30
    go_wp2_with (go_at_call 15; first | (refine (HER.out _).mono ?_; rintro e w' ⟨rfl, hw⟩; subst hw) | (refine (HER2.out _).mono ?_; rintro e w' ⟨rfl, hw⟩; subst hw))
    go_ret
    exact ⟨rfl, rfl⟩
  case neg =>
  have hd2 : decide ((e : Int) < (ep : Int)) = false := by simp; omega
  have hd2b : decide (e < ep) = false := by simp; omega
  cases se
  case true =>
    have hz : z = 18 := by rw [HZ.out]; unfold admC; rw [if_neg h1, if_pos (.inr rfl)]
    clear h1 h2 HZ
    subst hz
    go_enter Try.func30, Try.ntmps30
    go_wp2_with (go_at_call 15; first | (refine (HER.out _).mono ?_; rintro e w' ⟨rfl, hw⟩; subst hw) | (refine (HER2.out _).mono ?_; rintro e w' ⟨rfl, hw⟩; subst hw))
    go_ret
    exact ⟨rfl, rfl⟩
  case false =>
    have hz : z = 0 := by rw [HZ.out]; unfold admC; rw [if_neg h1, if_neg (by rintro (h | h); exact h2 h; cases h)]
    clear h1 h2 HZ
    subst hz
    go_enter Try.func30, Try.ntmps30
    go_wp2_with (go_at_call 15; first | (refine (HER.out _).mono ?_; rintro e w' ⟨rfl, hw⟩; subst hw) | (refine (HER2.out _).mono ?_; rintro e w' ⟨rfl, hw⟩; subst hw))
    go_ret
    exact ⟨rfl, rfl⟩
end Go.Proofs.Ytnihaaifkogpbaa
