/- link.Find, link.Extend. -/
import Derived.Test.YtnihaaifkogpbaaLkB
namespace Go.Proofs.Ytnihaaifkogpbaa
open Go.ChangeShapes Go.WideShapes Go.ChangeAt Go.RowKit
set_option linter.unusedVariables false
def idxOf (l : List Lnk) (id : Nat) : Nat := l.findIdx (fun x => x.1 == id)
/-- The link of a stream, and whether there is one. -/
def fnd (l : List Lnk) (id : Nat) : Bool × Lnk := match l[idxOf l id]? with | some x => (true, x) | none => (false, (0, []))
def extL (x : Lnk) (p : Nat) : Lnk := (x.1, (p :: x.2).take 4)
theorem idx_le (l : List Lnk) (id : Nat) : idxOf l id ≤ l.length := List.findIdx_le_length
section
variable {D : Dom} {A : Option Addr} {n c id : Nat} {l : List Lnk} {w : World}
/-- What link.Find tells. -/
def FindIs (w : World) (l : List Lnk) (id : Nat) (e : Ending) (w' : World) : Prop :=
  ∃ (A' : Option Addr) (n' c' : Nat), e = .returned (.tuple #[.agg (lkV (fnd l id).2.1 A' n' c'), .bool (fnd l id).1]) ∧ Row64 w' w.heap.size A' n' c' (fnd l id).2.2 ∧ Below w.heap.size w w'
set_option maxRecDepth 100000 in
set_option maxHeartbeats 2000000 in
theorem find_any (hs : rpLnk.sl w D A n c l) (hD : ∀ k, D k → k < w.heap.size) (hn : n ≤ 100000) (hL : ∀ x ∈ l, x.2.length ≤ 1000000) (hid : id ≤ 18446744073709551615) :
    Calls Try.prog 51 #[.slice A n c, .int .u64 (id : Int)] w (FindIs w l id) := by
  have hb2 := below2 w (.cells #[.int .u64 (id : Int)] 29) (.cells #[.int .u64 0, .slice none 0 0] 44)
  have HB2 := Lib.hid hb2
  have K1 := Lib.hid (blk21 w 29 44 #[.int .u64 (id : Int)] #[.int .u64 0, .slice none 0 0])
  have K2 := Lib.hid (blk22 w 29 44 #[.int .u64 (id : Int)] #[.int .u64 0, .slice none 0 0])
  have HS2 := Lib.hid (keepS (show Sl rpLnk w D A n c l from ⟨hs, hD⟩) hb2)
  have HN := Lib.hid (Rp.sl_len hs).1
  have HL := Lib.hid hL
  have HSZ : Hid ((Try.prog.info? 44).map (·.size) = some 2) := by show _ = _; kernel_rfl
  clear hb2 hs hD hL
  obtain ⟨r, hr⟩ : ∃ r, idxOf l id = r := ⟨_, rfl⟩
  have hrn : r ≤ n := by rw [← hr]; have := idx_le l id; have := HN.out; omega
  have HR := Lib.hid hr
  clear hr
  go_enter Try.func51, Try.ntmps51
  go_upto_region 1 with (fail)
  generalize World.alloc (World.alloc w _) _ = w2 at *
  have HP : Hid (Calls Try.prog 69 #[.slice A n c, .func (Fn.func 71) #[] #[.pointer (some ⟨w.heap.size, 0, none⟩)]] w2 fun e w' => e = .returned (.int .i64 (r : Int)) ∧ Below w2.heap.size w2 w') := by
    have h := lplaceF_any (P := fun s => s == id) (g := w.heap.size) HS2.out.1 HS2.out.2 hn (fun u s A' n' c' hu => find1_any ((hu.cell (p := ⟨w.heap.size, 0, none⟩) (show Blk w2 w.heap.size _ _ from K1.out).lt).trans ((show Blk w2 w.heap.size 29 #[.int .u64 (id : Int)] from K1.out).cell 0)) (Nat.lt_of_lt_of_le (show Blk w2 w.heap.size _ _ from K1.out).lt hu.size))
    have e := HR.out
    unfold idxOf at e
    rw [e] at h
    exact h
  go_wp2_with fail
  refine HP.out.mono ?_; rintro e w3 ⟨rfl, hb3⟩
  have HB3 := Lib.hid (stepB HB2.out hb3)
  have K3 := Lib.hid (keepB (show Blk w2 (w.heap.size + 1) 44 #[.int .u64 0, .slice none 0 0] from K2.out) hb3)
  have HS3 := Lib.hid (keepS HS2.out hb3)
  clear hb3
  by_cases hrn2 : r < n
  case neg =>
    have hq : ((r : Int) == (n : Int)) = true := by rw [beq_iff_eq]; omega
    have HF : Hid (fnd l id = (false, (0, []))) := by
      show _ = _
      unfold fnd
      rw [HR.out, List.getElem?_eq_none (by have := HN.out; omega)]
    clear hrn2
    go_wp2_with (refine wpList_put_row rfl 44 (.tmp 4) (.tmp 14) rfl (w.heap.size + 1) #[.int .u64 0, .slice none 0 0] rfl rfl 44 _ K3.out HSZ.out rfl (by simp [Value.oneCell']) ?_; intro w5 hblk hgr)
    try rw [Exit.noGoto_ret]
    have x0 : w5.cell? ⟨w.heap.size + 1, 0, none⟩ = some (.int .u64 0) := (show Blk w5 (w.heap.size + 1) 44 #[.int .u64 0, .slice none 0 0] from hblk).cell 0
    have x1 : w5.cell? ⟨w.heap.size + 1, 1, none⟩ = some (.slice none 0 0) := (show Blk w5 (w.heap.size + 1) 44 #[.int .u64 0, .slice none 0 0] from hblk).cell 1
    refine bodyPost_ret (v := .tuple #[.agg #[.int .u64 0, .slice none 0 0], .bool false]) (by simp [results, Try.results51, go_sem, x0, x1]) rfl ⟨none, 0, 0, by rw [HF.out]; rfl, by rw [HF.out]; exact Row64.nil _ _, HB3.out.grown hgr HB3.out.size (fun q hq => by have e' : w.heap.size + 1 = q := Option.some.inj hq; omega)⟩
  case pos =>
    have hq : ((r : Int) == (n : Int)) = false := by rw [beq_eq_false_iff_ne]; omega
    have hkI : (0 : Int) ≤ (r : Int) := by omega
    have hkI2 : (r : Int) < (n : Int) := by omega
    obtain ⟨bo, off, x, A3, c3, rfl, hbD, hx, g0, g1, hrow, hx64⟩ := lnk_at HS3.out.1 hrn2
    obtain ⟨xs, xl⟩ := x
    simp only at g0 g1 hrow hx64
    have HF : Hid (fnd l id = (true, (xs, xl))) := by
      show _ = _
      unfold fnd
      rw [HR.out, hx]
    have HC := Lib.hid (copied_any (s := xs) hrow HS3.out.2 (HL.out _ (List.mem_of_getElem? hx)))
    obtain ⟨xn, hxn⟩ : ∃ xn, xl.length = xn := ⟨_, rfl⟩
    rw [hxn] at g1
    have HC2 := HC.out
    rw [hxn] at HC2
    have HC3 := Lib.hid HC2
    clear hrow hx hbD hxn HC2
    go_upto_region 4 with (fail)
    go_wp2_with (first
      | (go_at_call 57; refine HC3.out.mono ?_; rintro e w4 ⟨A4, c4, rfl, hr4, hb4⟩
         have HB4 := Lib.hid (stepB HB3.out hb4)
         have K4 := Lib.hid (keepB (show Blk w3 (w.heap.size + 1) 44 #[.int .u64 0, .slice none 0 0] from K3.out) hb4)
         have HR4 := Lib.hid hr4
         have HB34 := Lib.hid hb4
         clear hb4 hr4)
      | (refine wpList_put_row rfl 44 (.tmp 4) (.tmp 19) rfl (w.heap.size + 1) (lkV xs A4 xn c4) rfl rfl 44 _ K4.out HSZ.out rfl (by simp [Value.oneCell']) ?_; intro w5 hblk hgr))
    try rw [Exit.noGoto_ret]
    have x0 : w5.cell? ⟨w.heap.size + 1, 0, none⟩ = some (.int .u64 (xs : Int)) := (show Blk w5 (w.heap.size + 1) 44 (lkV xs A4 xn c4) from hblk).cell 0
    have x1 : w5.cell? ⟨w.heap.size + 1, 1, none⟩ = some (.slice A4 xn c4) := (show Blk w5 (w.heap.size + 1) 44 (lkV xs A4 xn c4) from hblk).cell 1
    have hz3 : w.heap.size + 1 < w3.heap.size := (show Blk w3 (w.heap.size + 1) _ _ from K3.out).lt
    have hch : Chg (fun k => k = w.heap.size + 1) w4 w5 := (Chg.of_grown hgr).more (fun k _ hk => Option.some.inj hk)
    refine bodyPost_ret (v := .tuple #[.agg (lkV xs A4 xn c4), .bool true]) (by simp [results, Try.results51, go_sem, x0, x1]) rfl ⟨A4, xn, c4, by rw [HF.out], by
      rw [HF.out]
      exact Row64.lo (base := w3.heap.size) ⟨chO HR4.out.1 hch (fun k hk hf => by have := (HR4.out.1.lt k hk).1; omega), HR4.out.2⟩ HB3.out.size, chBase HB4.out hch (fun k hk => by omega)⟩
end
/-- A block that was laid just now, as a row of one's own. -/
theorem own_new (w : World) {base : Nat} (hb : base ≤ w.heap.size) (e : TypeId) (size : Nat) (cs : Array Value) {n : Nat} (hs : cs.size = n * size) (hn : n ≤ maxLen) : (w.alloc (.cells cs e)).ownsRow base e size (.slice (some ⟨w.heap.size, 0, none⟩) n n) n cs.toList :=
  ⟨by simp [hs], .inr ⟨w.heap.size, n, cs, rfl, hb, Blk.new w e cs, Nat.le_refl _, hn, hs, by rw [List.take_of_length_le (by simp [hs])]⟩⟩
theorem own_less2 {w : World} {base base' size n : Nat} {e : TypeId} {v : Value} {xs : List Value} (h : w.ownsRow base e size v n xs) (hb : base' ≤ base) : w.ownsRow base' e size v n xs := by
  refine ⟨h.1, ?_⟩
  rcases h.2 with h0 | ⟨g, cap, cur, hv, hg, hh, hr⟩
  · exact .inl h0
  · exact .inr ⟨g, cap, cur, hv, Nat.le_trans hb hg, hh, hr⟩
theorem own_take {w : World} {base n c m size : Nat} {e : TypeId} {A : Option Addr} {xs : List Value} (h : w.ownsRow base e size (.slice A n c) n xs) (hm : m ≤ n) (h0 : 0 < n) : w.ownsRow base e size (.slice A m c) m (xs.take (m * size)) := by
  have hl := h.1
  refine ⟨by rw [List.length_take, hl, Nat.min_eq_left (Nat.mul_le_mul_right _ hm)], ?_⟩
  rcases h.2 with ⟨_, h1⟩ | ⟨g, cap, cur, hv, hg, hh, hnc, hcm, hcs, htake⟩
  · omega
  · injection hv with e1 e2 e3
    subst e1; subst e3
    refine .inr ⟨g, c, cur, rfl, hg, hh, by omega, hcm, hcs, ?_⟩
    rw [← htake, List.take_take, Nat.min_eq_left (Nat.mul_le_mul_right _ hm)]
section
variable {D : Dom} {A : Option Addr} {n c s p : Nat} {l : List Nat} {w : World}
set_option maxRecDepth 100000 in
set_option maxHeartbeats 2000000 in
theorem extend_any (hs : rpU64.sl w D A n c l) (hD : ∀ k, D k → k < w.heap.size) (hn : n ≤ 1000000) (hp : p ≤ 18446744073709551615) :
    Calls Try.prog 53 #[.agg (lkV s A n c), .int .u64 (p : Int)] w fun e w' => ∃ (A' : Option Addr) (n' c' : Nat), e = .returned (.agg (lkV s A' n' c')) ∧ Row64 w' w.heap.size A' n' c' (extL (s, l) p).2 ∧ Below w.heap.size w w' := by
  have hb2 := below2 w (.cells (lkV s A n c) 44) (.cells #[.int .u64 0, .slice none 0 0] 44)
  have hbd := sl64_bd hs
  have HBD := Lib.hid hbd
  have hlen := (Rp.sl_len hs).1
  have HLEN := Lib.hid hlen
  have K1 := Lib.hid (blk21 w 44 44 (lkV s A n c) #[.int .u64 0, .slice none 0 0])
  have K2 := Lib.hid (blk22 w 44 44 (lkV s A n c) #[.int .u64 0, .slice none 0 0])
  have HB2 := Lib.hid hb2
  have HS2 := Lib.hid (keepS (show Sl rpU64 w D A n c l from ⟨hs, hD⟩) hb2)
  have HZ2 : Hid ((((w.alloc (.cells (lkV s A n c) 44)).alloc (.cells #[.int .u64 0, .slice none 0 0] 44))).heap.size = w.heap.size + 2) := by show _ = _; simp
  clear hs hD hb2 hbd hlen
  go_enter Try.func53, Try.ntmps53
  go_upto_region 1 with (fail)
  generalize World.alloc (World.alloc w _) _ = w2 at *
  have hb3 := below1 w2 (.cells #[.int .u64 (p : Int)] 29)
  have k1 := (show Blk (w2.alloc (.cells #[.int .u64 (p : Int)] 29)) w.heap.size 44 (lkV s A n c) from keepB K1.out hb3).cell 1
  have HB3 := Lib.hid (stepB HB2.out hb3)
  have K1' := Lib.hid (keepB (show Blk w2 w.heap.size 44 (lkV s A n c) from K1.out) hb3)
  have K2' := Lib.hid (keepB (show Blk w2 (w.heap.size + 1) 44 #[.int .u64 0, .slice none 0 0] from K2.out) hb3)
  have HM := Lib.hid (own_new w2 (Nat.le_refl _) 29 1 #[.int .u64 (p : Int)] (n := 1) rfl (by decide))
  have HSR := Lib.hid (Src.u64 (keepS HS2.out hb3).1)
  obtain ⟨on, hon⟩ : ∃ on, on = 1 + n := ⟨_, rfl⟩
  have HON := Lib.hid hon
  have hne1 : (some w.heap.size : Option Nat) ≠ (Value.slice (some ⟨w2.heap.size, 0, none⟩) 1 1).ownBlock := fun e => by have e' : w.heap.size = w2.heap.size := Option.some.inj e; have := HZ2.out; omega
  have hne2 : (some (w.heap.size + 1) : Option Nat) ≠ (Value.slice (some ⟨w2.heap.size, 0, none⟩) 1 1).ownBlock := fun e => by have e' : w.heap.size + 1 = w2.heap.size := Option.some.inj e; have := HZ2.out; omega
  clear hb3 hon
  go_upto_region 2 with
    (at_builtin
     refine wpList_app rfl (.tmp 7) (.tmp 9) _ rfl elem64 rfl HM.out rfl HSR.out (by unfold maxLen; omega) (by omega) (by simp) ?_
     intro A2 c2 w3 ho2 hg2 hat2
     have hk1 := (show Blk _ w.heap.size 44 (lkV s A n c) from K1'.out).grown hg2 hne1
     have hk2 := (show Blk _ (w.heap.size + 1) 44 #[.int .u64 0, .slice none 0 0] from K2'.out).grown hg2 hne2
     have HB4 := Lib.hid (HB3.out.grown hg2 HB3.out.size (fun q hq => by have e' : w2.heap.size = q := Option.some.inj hq; have := HZ2.out; omega))
     have HO2 := Lib.hid ho2
     have c0 := hk1.cell 0
     have HK1 := Lib.hid hk1
     have HK2 := Lib.hid hk2
     clear ho2 hg2 hat2 hk1 hk2 k1)
  have ho := HO2.out
  obtain ⟨g2, hA2, hg2, hg2l, _, _, _⟩ := own_block ho (by omega)
  subst hA2
  have hxl : ([Value.int .u64 (p : Int)] ++ l.map uv) = (p :: l).map uv := rfl
  have HBDp : Hid (∀ x ∈ p :: l, x < 18446744073709551616) := fun x hx => by
    rcases List.mem_cons.1 hx with rfl | hx
    · omega
    · exact HBD.out x hx
  have ho' : w3.ownsRow w2.heap.size 29 1 (.slice (some ⟨g2, 0, none⟩) (1 + n) c2) (1 + n) ((p :: l).map uv) := ho
  have hc63 : 1 + n ≤ c2 ∧ c2 ≤ 9223372036854775807 := by
    rcases ho'.2 with ⟨_, h1⟩ | ⟨g, cap, cur, hv, _, _, hnc, hcm, _⟩
    · omega
    · injection hv with e1 e2 e3
      subst e3
      unfold maxLen at hcm
      omega
  obtain ⟨hcl, hch⟩ := hc63
  have HOP := Lib.hid ho'
  have hg2w : w2.heap.size ≤ g2 := hg2
  have HG2 := Lib.hid hg2w
  clear ho ho' hg2 hg2w hg2l hxl
  have y0 := (show Blk w3 (w.heap.size + 1) 44 #[.int .u64 0, .slice none 0 0] from HK2.out).cell 0
  have y1 := (show Blk w3 (w.heap.size + 1) 44 #[.int .u64 0, .slice none 0 0] from HK2.out).cell 1
  have f0 := (show Blk w3 (w.heap.size + 1) 44 #[.int .u64 0, .slice none 0 0] from HK2.out).frozen 0
  have f1 := (show Blk w3 (w.heap.size + 1) 44 #[.int .u64 0, .slice none 0 0] from HK2.out).frozen 1
  have fin : ∀ (m : Nat) (w5 : World), Chg (fun k => k = w.heap.size + 1) w3 w5 → m = min 4 (1 + n) → Row64 w5 w.heap.size (some ⟨g2, 0, none⟩) m c2 (extL (s, l) p).2 ∧ Below w.heap.size w w5 := fun m w5 hch hm => by
    refine ⟨⟨?_, fun x hx => HBDp.out x (List.mem_of_mem_take hx)⟩, chBase HB4.out hch (fun k hk => by omega)⟩
    have h1 := own_take HOP.out (m := m) (by omega) (by omega)
    have e : ((p :: l).map uv).take (m * 1) = ((p :: l).take 4).map uv := by
      rw [Nat.mul_one, hm, ← List.map_take, Nat.min_comm]
      congr 1
      rcases Nat.lt_or_ge 4 (1 + n) with h | h
      · rw [Nat.min_eq_right (by omega)]
      · rw [Nat.min_eq_left (by omega), List.take_of_length_le (by simp [HLEN.out]; omega), List.take_of_length_le (by simp [HLEN.out]; omega)]
    rw [e] at h1
    have h2 := chO h1 hch (fun k hk hf => by
      have e' : g2 = k := Option.some.inj hk
      have := HG2.out
      have := HZ2.out
      omega)
    exact own_less2 h2 (by have := HZ2.out; omega)
  have FIN := Lib.hid fin
  clear fin
  obtain ⟨on, hon⟩ : ∃ on, on = 1 + n := ⟨_, rfl⟩
  rw [← hon] at hcl ⊢
  have HON2 := Lib.hid hon
  clear hon
  obtain ⟨M, hM⟩ : ∃ M, M = (min (on : Int) 4).toNat := ⟨_, rfl⟩
  have HM4 : Hid (M = min 4 (1 + n)) := by
    show _ = _
    have := HON2.out
    omega
  go_region
  rw [← hM]
  have hblk : Blk (((w3.setCell ⟨w.heap.size + 1, 0, none⟩ (.int .u64 (s : Int))).setCell ⟨w.heap.size + 1, 1, none⟩ (.slice (some ⟨g2, 0, none⟩) M c2)).drew) (w.heap.size + 1) 44 (lkV s (some ⟨g2, 0, none⟩) M c2) := (HK2.out.put 0 _).put 1 _
  have hch : Chg (fun k => k = w.heap.size + 1) w3 (((w3.setCell ⟨w.heap.size + 1, 0, none⟩ (.int .u64 (s : Int))).setCell ⟨w.heap.size + 1, 1, none⟩ (.slice (some ⟨g2, 0, none⟩) M c2)).drew) :=
    (((Chg.refl (fun k => k = w.heap.size + 1) w3).setCell (p := ⟨w.heap.size + 1, 0, none⟩) (.inl (show w.heap.size + 1 = w.heap.size + 1 from rfl)) _).setCell (p := ⟨w.heap.size + 1, 1, none⟩) (.inl (show w.heap.size + 1 = w.heap.size + 1 from rfl)) _).drew
  generalize ((w3.setCell ⟨w.heap.size + 1, 0, none⟩ (.int .u64 (s : Int))).setCell ⟨w.heap.size + 1, 1, none⟩ (.slice (some ⟨g2, 0, none⟩) M c2)).drew = w5 at *
  have HCH := Lib.hid hch
  have x0 : w5.cell? ⟨w.heap.size + 1, 0, none⟩ = some (.int .u64 (s : Int)) := hblk.cell 0
  have x1 : w5.cell? ⟨w.heap.size + 1, 1, none⟩ = some (.slice (some ⟨g2, 0, none⟩) M c2) := hblk.cell 1
  clear hM hch hblk y0 y1 f0 f1 c0
  go_wp2_with fail
  try rw [Exit.noGoto_ret]
  refine bodyPost_ret (v := .agg (lkV s (some ⟨g2, 0, none⟩) M c2)) (by simp [results, Try.results53, go_sem, x0, x1]) rfl ⟨_, M, c2, rfl, (FIN.out M _ HCH.out HM4.out).1, (FIN.out M _ HCH.out HM4.out).2⟩
end
end Go.Proofs.Ytnihaaifkogpbaa
