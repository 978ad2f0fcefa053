/- link.copied, link.Copy, link.place, link.Find, link.Extend. -/
import Derived.Test.YtnihaaifkogpbaaLkI
import Derived.Test.YtnihaaifkogpbaaU64
import Derived.Test.YtnihaaifkogpbaaOL
import Derived.OwnWalk
namespace Go.Proofs.Ytnihaaifkogpbaa
open Go.ChangeShapes Go.WideShapes Go.ChangeAt Go.RowKit
set_option linter.unusedVariables false
abbrev lkV (s : Nat) (A : Option Addr) (n c : Nat) : Array Value := #[.int .u64 (s : Int), .slice A n c]
/-- A row of numbers that the call has made. -/
def Row64 (w : World) (base : Nat) (A : Option Addr) (n c : Nat) (l : List Nat) : Prop := w.ownsRow base 29 1 (.slice A n c) n (l.map uv) ∧ ∀ x ∈ l, x < 18446744073709551616
theorem Row64.below {w w' : World} {base n c : Nat} {A : Option Addr} {l : List Nat} (h : Row64 w base A n c l) (hb : Below w.heap.size w w') : Row64 w' base A n c l := ⟨keepO h.1 hb, h.2⟩
theorem Row64.lo {w : World} {base base' n c : Nat} {A : Option Addr} {l : List Nat} (h : Row64 w base A n c l) (hb : base' ≤ base) : Row64 w base' A n c l := by
  refine ⟨⟨h.1.1, ?_⟩, h.2⟩
  rcases h.1.2 with h0 | ⟨g, cap, cur, hv, hg, hh, hr⟩
  · exact .inl h0
  · exact .inr ⟨g, cap, cur, hv, Nat.le_trans hb hg, hh, hr⟩
theorem Row64.len {w : World} {base n c : Nat} {A : Option Addr} {l : List Nat} (h : Row64 w base A n c l) : l.length = n := by
  have := h.1.1
  simpa using this
theorem Row64.nil (w : World) (base : Nat) : Row64 w base none 0 0 [] := ⟨World.ownsRow_nil _ _ _ _, fun x hx => by cases hx⟩
/-- .. reads as its list, in blocks of that type. -/
theorem Row64.sl {w : World} {base n c : Nat} {A : Option Addr} {l : List Nat} (h : Row64 w base A n c l) {TS : TypeId → Prop} (hT : TS 29) (D0 : Dom) : rpU64.sl w (Tb TS D0 w) A n c l :=
  Rp.sl_more (own_u64 h.1 h.2) (fun k hk => by
    refine ⟨(h.1.lt k hk.symm).2, .inr ?_⟩
    rcases h.1.2 with ⟨hv, h0⟩ | ⟨g, cap, cur, hv, hg, hh, _⟩
    · rw [hv] at hk; cases hk
    · rw [hv] at hk
      simp only [Value.ownBlock, Option.some.injEq] at hk
      subst hk
      exact ⟨cur, _, hh, hT⟩)
theorem Row64.rd {w : World} {base n c : Nat} {A : Option Addr} {l : List Nat} (h : Row64 w base A n c l) : rpU64.sl w (lt w.heap.size) A n c l :=
  Rp.sl_more (own_u64 h.1 h.2) (fun k hk => (h.1.lt k hk.symm).2)
theorem sl64_bd {w : World} {D : Dom} {A : Option Addr} {n c : Nat} {l : List Nat} (h : rpU64.sl w D A n c l) : ∀ x ∈ l, x < 18446744073709551616 := by
  intro x hx
  obtain ⟨i, hi⟩ := List.getElem?_of_mem hx
  have hn := (Rp.sl_len h).1
  obtain ⟨_, _, y, _, _, hy, _, hlt⟩ := u64_at h (k := i) (by have := (List.getElem?_eq_some_iff.1 hi).1; omega)
  rw [hi] at hy
  injection hy with hy
  subst hy
  omega
theorem own_zeroA {w : World} {base : Nat} {e : TypeId} {z : Nat} {A : Option Addr} {n c : Nat} {xs : List Value} (h : w.ownsRow base e z (.slice A (0 + n) c) (0 + n) ([] ++ xs)) : w.ownsRow base e z (.slice A n c) n xs := by
  rw [Nat.zero_add, List.nil_append] at h; exact h
section
variable {D : Dom} {A : Option Addr} {n c s : Nat} {l : List Nat} {w : World}
set_option maxRecDepth 100000 in
set_option maxHeartbeats 2000000 in
theorem copied_any (hs : rpU64.sl w D A n c l) (hD : ∀ k, D k → k < w.heap.size) (hn : n ≤ 1000000) :
    Calls Try.prog 57 #[.agg (lkV s A n c)] w fun e w' => ∃ A' c', e = .returned (.agg (lkV s A' n c')) ∧ Row64 w' w.heap.size A' n c' l ∧ Below w.heap.size w w' := by
  have hb2 := below2 w (.cells (lkV s A n c) 44) (.cells #[.int .u64 0, .slice none 0 0] 44)
  have hbd := sl64_bd hs
  have HBD := Lib.hid hbd
  have K1 := Lib.hid (blk21 w 44 44 (lkV s A n c) #[.int .u64 0, .slice none 0 0])
  have K2 := Lib.hid (blk22 w 44 44 (lkV s A n c) #[.int .u64 0, .slice none 0 0])
  have HB2 := Lib.hid hb2
  have HS2 := Lib.hid (keepS (show Sl rpU64 w D A n c l from ⟨hs, hD⟩) hb2)
  have HZ2 : Hid ((((w.alloc (.cells (lkV s A n c) 44)).alloc (.cells #[.int .u64 0, .slice none 0 0] 44))).heap.size = w.heap.size + 2) := by show _ = _; simp
  have HSZ : Hid ((Try.prog.info? 44).map (·.size) = some 2) := by show _ = _; kernel_rfl
  clear hs hD hb2 hbd
  go_enter Try.func57, Try.ntmps57
  go_upto_region 1 with (fail)
  generalize World.alloc (World.alloc w _) _ = w2 at *
  have hb3 := below1 w2 (.cells #[] 29)
  have k1 := (show Blk (w2.alloc (.cells #[] 29)) w.heap.size 44 (lkV s A n c) from keepB K1.out hb3).cell 1
  have HB3 := Lib.hid (stepB HB2.out hb3)
  have K1' := Lib.hid (keepB (show Blk w2 w.heap.size 44 (lkV s A n c) from K1.out) hb3)
  have K2' := Lib.hid (keepB (show Blk w2 (w.heap.size + 1) 44 #[.int .u64 0, .slice none 0 0] from K2.out) hb3)
  have HM := Lib.hid (World.ownsRow_made (e := 29) (size := 1) (base := w2.heap.size) w2 #[] 0 (Nat.le_refl _) (by decide) rfl)
  have HSR := Lib.hid (Src.u64 (keepS HS2.out hb3).1)
  clear hb3
  have hne1 : (some w.heap.size : Option Nat) ≠ (Value.slice (some ⟨w2.heap.size, 0, none⟩) 0 0).ownBlock := fun e => by have e' : w.heap.size = w2.heap.size := Option.some.inj e; have := HZ2.out; omega
  have hne2 : (some (w.heap.size + 1) : Option Nat) ≠ (Value.slice (some ⟨w2.heap.size, 0, none⟩) 0 0).ownBlock := fun e => by have e' : w.heap.size + 1 = w2.heap.size := Option.some.inj e; have := HZ2.out; omega
  go_upto_region 2 with (at_builtin; refine wpList_app rfl (.tmp 3) (.tmp 5) _ rfl elem64 rfl HM.out rfl HSR.out (by unfold maxLen; omega) (by omega) (by simp) ?_; intro A2 c2 w3 ho2 hg2 hat2
                         have hk1 := (show Blk _ w.heap.size 44 (lkV s A n c) from K1'.out).grown hg2 hne1
                         have hk2 := (show Blk _ (w.heap.size + 1) 44 #[.int .u64 0, .slice none 0 0] from K2'.out).grown hg2 hne2
                         have HB4 := Lib.hid (HB3.out.grown hg2 HB3.out.size (fun q hq => by have e' : w2.heap.size = q := Option.some.inj hq; have := HZ2.out; omega))
                         have HO2 := Lib.hid (own_zeroA ho2)
                         have c0 := hk1.cell 0
                         have c1 := hk1.cell 1
                         have c1f := hk1.frozen 1
                         have HK1 := Lib.hid hk1
                         have HK2 := Lib.hid hk2
                         clear ho2 hg2 hat2 hk1 hk2 k1)
  go_wp2_with (refine wpList_put_row rfl 44 (.tmp 2) (.tmp 8) rfl (w.heap.size + 1) (lkV s A2 n c2) rfl rfl 44 _ ((show Blk w3 (w.heap.size + 1) 44 _ from HK2.out).far (p := ⟨w.heap.size, 1, none⟩) (by show w.heap.size + 1 ≠ w.heap.size; omega) (.slice A2 n c2)) HSZ.out rfl (by simp [Value.oneCell']) ?_; intro w5 hblk hgr)
  try rw [Exit.noGoto_ret]
  have x0 : w5.cell? ⟨w.heap.size + 1, 0, none⟩ = some (.int .u64 (s : Int)) := (show Blk w5 (w.heap.size + 1) 44 (lkV s A2 n c2) from hblk).cell 0
  have x1 : w5.cell? ⟨w.heap.size + 1, 1, none⟩ = some (.slice A2 n c2) := (show Blk w5 (w.heap.size + 1) 44 (lkV s A2 n c2) from hblk).cell 1
  have hch : Chg (fun k => k = w.heap.size ∨ k = w.heap.size + 1) w3 w5 :=
    ((Chg.refl _ w3).setCell (p := ⟨w.heap.size, 1, none⟩) (.inl (.inl rfl)) (.slice A2 n c2)).trans ((Chg.of_grown hgr).more (fun k _ hk => by
      have e' : k = w.heap.size + 1 := Option.some.inj hk
      exact .inr e'))
  refine bodyPost_ret (v := .agg (lkV s A2 n c2)) (by simp [results, Try.results57, go_sem, x0, x1]) rfl ⟨A2, c2, rfl, Row64.lo (base := w2.heap.size) ⟨chO HO2.out hch (fun k hk hf => ?_), HBD.out⟩ (by have := HZ2.out; omega), chBase HB4.out hch (fun k hk => by omega)⟩
  have h1 := (HO2.out.lt k hk).1
  have := HZ2.out
  omega
end
/-! ### link.Copy -/
def T64 : TypeId → Prop := fun t => t = 29
/-- Links in a row that the call has made, their Backs in rows of numbers. -/
abbrev OLk (w : World) (base : Nat) (A : Option Addr) (n c : Nat) (l : List Lnk) : Prop := OL rpLnk T64 (fun _ => False) 44 w base A n c l
theorem t64_link : ¬ T64 44 := by unfold T64; decide
theorem OLk.push {w w3 : World} {base n c s xn c5 c3 : Nat} {A A5 A3 : Option Addr} {l : List Lnk} {xl : List Nat} {b5 : Nat} {vals : List Value} (h : OLk w base A n c l) (ho : w.ownsRow base 44 2 (.slice A n c) n vals)
    (hv : ∀ (i : Nat) x, l[i]? = some x → ∃ cs, rpLnk.ok w (Tb T64 (fun _ => False) w) x cs ∧ ∀ (j : Nat) u, cs[j]? = some u → vals[i * 2 + j]? = some u)
    (ho3 : w3.ownsRow base 44 2 (.slice A3 (n + 1) c3) (n + 1) (vals ++ [.int .u64 (s : Int), .slice A5 xn c5])) (hg : w.grownBy w3 (Value.slice A n c).ownBlock) (hr : Row64 w b5 A5 xn c5 xl) (hs : s ≤ 18446744073709551615) :
    OLk w3 base A3 (n + 1) c3 (l ++ [(s, xl)]) := by
  refine OL.push h (vals := vals) ho hv t64_link (fun k hk => hk.elim) ho3 hg ?_
  have e := hr.len
  subst e
  exact ⟨[.int .u64 (s : Int)], [.slice A5 xl.length c5], rfl, ⟨rfl, by show s < _; omega⟩, hr.sl (TS := T64) rfl _⟩
section
variable {D : Dom} {A : Option Addr} {n c : Nat} {l : List Lnk} {w : World}
set_option maxRecDepth 100000 in
set_option maxHeartbeats 2000000 in
theorem lcopy_any (hs : rpLnk.sl w D A n c l) (hD : ∀ k, D k → k < w.heap.size) (hn : n ≤ 100000) (hL : ∀ x ∈ l, x.2.length ≤ 1000000) :
    Calls Try.prog 35 #[.slice A n c] w fun e w' => ∃ A' c', e = .returned (.slice A' n c') ∧ OLk w' w.heap.size A' n c' l ∧ Below w.heap.size w w' := by
  have HS := Lib.hid (show Sl rpLnk w D A n c l from ⟨hs, hD⟩)
  have HN := Lib.hid (Rp.sl_len hs).1
  have HL := Lib.hid hL
  clear hs hD hL
  go_enter Try.func35, Try.ntmps35
  go_wp2_with fail
  go_loopw [3, 8] (fun v3 v8 wr => ∃ (k : Nat) (As : Option Addr) (cs : Nat), k ≤ n ∧ v3 = .slice As k cs ∧ v8 = .int .i64 (k : Int) ∧ Hid (OLk wr w.heap.size As k cs (l.take k)) ∧ Hid (Below w.heap.size w wr)) (fun _ v8 _ => n - (intOf v8).toNat)
  case atStart => exact ⟨0, none, 0, by omega, rfl, rfl, OL.nil _ _ _ _ _ _, Below.refl _ _⟩
  case round =>
    obtain ⟨k, As, cs, hk, rfl, rfl, hol, hbel⟩ := hrel
    by_cases hkn : k < n
    case neg =>
      obtain rfl : k = n := by omega
      have hd : decide ((k : Int) < (k : Int)) = false := by simp
      have HO : Hid (OLk wr w.heap.size As k cs l) := by
        have h := hol.out
        rw [List.take_of_length_le (by have := HN.out; omega)] at h
        exact h
      go_wp2_with fail
      go_ret
      exact ⟨As, cs, rfl, HO.out, hbel.out⟩
    case pos =>
      have hd : decide ((k : Int) < (n : Int)) = true := by simp; omega
      have hkI : (0 : Int) ≤ (k : Int) := by omega
      have hkI2 : (k : Int) < (n : Int) := by omega
      have hzr := hbel.out.size
      have hsr := keepS HS.out hbel.out
      obtain ⟨bo, off, x, A3, c3, rfl, hbD, hx, g0, g1, hrow, hx64⟩ := lnk_at hsr.1 hkn
      obtain ⟨xs, xl⟩ := x
      simp only at g0 g1 hrow hx64
      have hxb : xl.length ≤ 1000000 := HL.out _ (List.mem_of_getElem? hx)
      obtain ⟨xn, hxn⟩ : ∃ xn, xn = xl.length := ⟨_, rfl⟩
      rw [← hxn] at g1 hrow hxb
      have HT : Hid (l.take (k + 1) = l.take k ++ [(xs, xl)]) := by show _ = _; rw [List.take_add_one, hx]; rfl
      have hba := below1 wr (.cells (lkV xs A3 xn c3) 44)
      have HBA := Lib.hid hba
      have HK := Lib.hid (blk11 wr 44 (lkV xs A3 xn c3))
      have hdd : ∀ k, D k → k < (wr.alloc (.cells (lkV xs A3 xn c3) 44)).heap.size := fun k hk => Nat.lt_of_lt_of_le (hsr.2 k hk) hba.size
      have HC := Lib.hid (copied_any (s := xs) (Rp.sl_below hrow hba hsr.2) hdd hxb)
      have HO4 := Lib.hid (OL.below hol.out hba)
      clear hrow hx hbD hsr hba hdd hxn
      go_upto_region 5 with (fail)
      generalize World.alloc wr _ = w4 at *
      have v0 : w4.cell? ⟨wr.heap.size, 0, none⟩ = some (.int .u64 (xs : Int)) := (show Blk w4 wr.heap.size 44 _ from HK.out).cell 0
      have v1 : w4.cell? ⟨wr.heap.size, 1, none⟩ = some (.slice A3 xn c3) := (show Blk w4 wr.heap.size 44 _ from HK.out).cell 1
      clear g0 g1
      go_wp2_with fail
      refine HC.out.mono ?_; rintro e w5 ⟨A5, c5, rfl, hr5, hb5⟩
      have hb6 := below1 w5 (.cells (lkV xs A5 xn c5) 44)
      have HB6 := Lib.hid (stepB hbel.out (stepB HBA.out (stepB hb5 hb6)))
      have HO6 := Lib.hid (OL.below (OL.below HO4.out hb5) hb6)
      have HR6 := Lib.hid (hr5.below hb6)
      obtain ⟨vals, hov, hon, hvv⟩ := HO6.out
      have HOV := Lib.hid hov
      have HVV := Lib.hid hvv
      have HSRC := Lib.hid (Src.blk (size := 2) (blk11 w5 44 (lkV xs A5 xn c5)) rfl (by
        intro u hu
        simp only [List.mem_cons, List.not_mem_nil, or_false] at hu
        rcases hu with rfl | rfl <;> rfl))
      have hbs : w.heap.size ≤ (w5.alloc (.cells (lkV xs A5 xn c5) 44)).heap.size := HB6.out.size
      have HBS := Lib.hid hbs
      clear v0 v1 hr5 hb5 hb6 hov hon hvv hbs
      go_wp2_with (at_builtin; refine wpList_app rfl (.tmp 12) (.tmp 15) _ rfl elemLink (by rfl) HOV.out (by rfl) HSRC.out (by unfold maxLen; omega) (by omega) HBS.out ?_; intro A6 c6 w6 ho6 hg6 hat6
                   have HP := Lib.hid (OLk.push HO6.out HOV.out HVV.out ho6 hg6 HR6.out hx64)
                   have HB7 := Lib.hid (HB6.out.grown hg6 HBS.out (fun q hq => (HOV.out.lt q hq).1))
                   clear ho6 hg6 hat6)
      have HP2 : Hid (OLk w6 w.heap.size A6 (k + 1) c6 (l.take (k + 1))) := by
        show OLk _ _ _ _ _ _
        rw [HT.out]; exact HP.out
      go_roundw
      case rel => exact ⟨k + 1, A6, c6, by omega, rfl, by go_num, HP2, HB7⟩
      case measure => simp [intOf]; omega
end
end Go.Proofs.Ytnihaaifkogpbaa
