/- The document's Find and Extend. -/
import Derived.Test.YtcbmnfjbmkpfiaaPkEq
import Derived.Test.YtcbmnfjbmkpfiaaPkF
namespace Go.Proofs.Ytcbmnfjbmkpfiaa
open Go.ChangeShapes Go.WideShapes Go.ChangeAt Go.RowKit
set_option linter.unusedVariables false
/-- The place of a stream's link; -1: none. -/
def rfI (l : List Lnk) (s : Nat) : Int := if idxOf l s < l.length then (idxOf l s : Int) else -1
section
variable {D : Dom} {A : Option Addr} {n c s p : Nat} {w : World}
set_option maxRecDepth 100000 in
set_option maxHeartbeats 4000000 in
theorem rfind_any {l : List Lnk} (hs : rpLnk.sl w D A n c l) (hD : ∀ k, D k → k < w.heap.size) (hn : n ≤ 100000) (hss : s ≤ 18446744073709551615) :
    Calls Try.prog 41 #[.slice A n c, .int .u64 (s : Int)] w fun e w' => e = .returned (.int .i64 (rfI l s)) ∧ Below w.heap.size w w' := by
  have HS := Lib.hid (show Sl rpLnk w D A n c l from ⟨hs, hD⟩)
  have HN := Lib.hid (Rp.sl_len hs).1
  obtain ⟨R, hR⟩ : ∃ R, rfI l s = R := ⟨_, rfl⟩
  rw [hR]
  have HR := Lib.hid hR
  clear hs hD hR
  go_enter Try.func41, Try.ntmps41
  go_wp2_with fail
  go_loopw [5] (fun vi wr => ∃ k : Nat, k ≤ n ∧ vi = .int .i64 (k : Int) ∧ Hid (∀ (j : Nat) x, j < k → l[j]? = some x → (x.1 == s) = false) ∧ Hid (Below w.heap.size w wr)) (fun vi _ => n - (intOf vi).toNat)
  case atStart => exact ⟨0, Nat.zero_le _, rfl, fun j x h => absurd h (Nat.not_lt_zero _), Below.refl _ _⟩
  case round =>
    obtain ⟨k, hkn', rfl, hat, hbel⟩ := hrel
    by_cases hkn : k < n
    case neg =>
      obtain rfl : k = n := by omega
      have hd : decide ((k : Int) < (k : Int)) = false := by simp
      have HE : Hid (R = -1) := by
        show R = -1
        rw [← HR.out]
        have h := fi_eq (P := fun x => x.1 == s) l k hat.out (fun x hx => by have := (List.getElem?_eq_some_iff.1 hx).1; have := HN.out; omega) (by have := HN.out; omega)
        unfold rfI idxOf
        rw [h, if_neg (by have := HN.out; omega)]
      go_wp2_with fail
      go_ret
      exact ⟨by rw [HE.out]; rfl, hbel.out⟩
    case pos =>
      have hd : decide ((k : Int) < (n : Int)) = true := by simp; omega
      have hkI : (0 : Int) ≤ (k : Int) := by omega
      have hkI2 : (k : Int) < (n : Int) := by omega
      have hsr := keepS HS.out hbel.out
      obtain ⟨bo, off, x, A3, c3, rfl, hbD, hx, g0, g1, hrow, hx64⟩ := lnk_at hsr.1 hkn
      obtain ⟨xs, xl⟩ := x
      simp only at g0 g1 hrow hx64
      have HX := Lib.hid hx
      clear hrow hx hbD hsr g1
      by_cases he : xs = s
      case pos =>
        subst he
        have HE : Hid (R = k) := by
          show R = k
          rw [← HR.out]
          have h := fi_eq (P := fun x => x.1 == xs) l k hat.out (fun x hx => by
            rw [HX.out] at hx
            injection hx with hx
            subst hx
            simp) (by have := HN.out; omega)
          unfold rfI idxOf
          rw [h, if_pos (by have := HN.out; omega)]
        go_wp2_with fail
        go_ret
        exact ⟨by rw [HE.out]; rfl, hbel.out⟩
      case neg =>
        have hd2 : ((xs : Int) == (s : Int)) = false := by rw [Bool.eq_false_iff]; intro h; exact he (by have := beq_iff_eq.1 h; omega)
        have HA : Hid (∀ (j : Nat) x, j < k + 1 → l[j]? = some x → (x.1 == s) = false) := fun j x hj hx => by
          rcases Nat.lt_or_ge j k with h | h
          · exact hat.out j x h hx
          · obtain rfl : j = k := by omega
            rw [HX.out] at hx
            injection hx with hx
            subst hx
            simpa using he
        go_wp2_with fail
        go_roundw
        case rel => exact ⟨k + 1, hkn, by go_num, HA, hbel⟩
        case measure => simp [intOf]; omega
set_option maxRecDepth 100000 in
set_option maxHeartbeats 4000000 in
theorem rextend_any {l : List Nat} (hs : rpU64.sl w D A n c l) (hD : ∀ k, D k → k < w.heap.size) (hn : n ≤ 1000000) (hp : p ≤ 18446744073709551615) :
    Calls Try.prog 43 #[.agg (lkV s A n c), .int .u64 (p : Int)] w fun e w' => ∃ (A' : Option Addr) (n' c' : Nat), e = .returned (.agg (lkV s A' n' c')) ∧ Row64 w' w.heap.size A' n' c' (extL (s, l) p).2 ∧ Below w.heap.size w w' := by
  have hb2 := below2 w (.cells (lkV s A n c) 57) (.cells #[.int .u64 0, .slice none 0 0] 57)
  have HB2 := Lib.hid hb2
  have HBD := Lib.hid (sl64_bd hs)
  have HN := Lib.hid (Rp.sl_len hs).1
  have K1 := Lib.hid (blk21 w 57 57 (lkV s A n c) #[.int .u64 0, .slice none 0 0])
  have K2 := Lib.hid (blk22 w 57 57 (lkV s A n c) #[.int .u64 0, .slice none 0 0])
  have HS := Lib.hid (keepS (show Sl rpU64 w D A n c l from ⟨hs, hD⟩) hb2)
  have HS0 := Lib.hid (show Sl rpU64 w D A n c l from ⟨hs, hD⟩)
  have HSZ : Hid ((Try.prog.info? 57).map (·.size) = some 2) := by show _ = _; kernel_rfl
  clear hb2 hs hD
  go_enter Try.func43, Try.ntmps43
  go_upto_region 1 with (fail)
  obtain ⟨gx, hgx⟩ : ∃ gx, gx = w.heap.size := ⟨_, rfl⟩
  rw [← hgx] at K1 K2 ⊢
  have HGX := Lib.hid hgx
  clear hgx
  generalize World.alloc (World.alloc w _) _ = w2 at *
  have k0 := (show Blk w2 gx 57 (lkV s A n c) from K1.out).cell 0
  have hb4 := below2 w2 (.cells #[.int .u64 (p : Int)] 22) (.cells (lkV s (some ⟨w2.heap.size, 0, none⟩) 1 1) 57)
  have HB4 := Lib.hid (stepB HB2.out hb4)
  have KP := Lib.hid (blk21 w2 22 57 #[.int .u64 (p : Int)] (lkV s (some ⟨w2.heap.size, 0, none⟩) 1 1))
  have KO := Lib.hid (blk22 w2 22 57 #[.int .u64 (p : Int)] (lkV s (some ⟨w2.heap.size, 0, none⟩) 1 1))
  have HW4 := Lib.hid hb4
  clear hb4
  go_upto_region 2 with (fail)
  obtain ⟨gp, hgp⟩ : ∃ gp, gp = w2.heap.size := ⟨_, rfl⟩
  rw [← hgp] at KP KO ⊢
  have HGP : Hid (gx + 1 < gp) := by show _ < _; rw [hgp]; exact (show Blk w2 (gx + 1) 57 _ from K2.out).lt
  have K14 := Lib.hid (keepB (show Blk w2 gx 57 (lkV s A n c) from K1.out) HW4.out)
  have K24 := Lib.hid (keepB (show Blk w2 (gx + 1) 57 #[.int .u64 0, .slice none 0 0] from K2.out) HW4.out)
  have S4 := Lib.hid (keepS HS.out HW4.out)
  have hown : (((w2.alloc (.cells #[.int .u64 (p : Int)] 22)).alloc (.cells (lkV s (some ⟨w2.heap.size, 0, none⟩) 1 1) 57))).ownsRow w.heap.size 22 1 (.slice (some ⟨w2.heap.size, 0, none⟩) 1 1) 1 [.int .u64 (p : Int)] := by
    have h1 := own_new w2 (base := w.heap.size) (by rw [← hgp]; have := HGP.out; have := HGX.out; omega) 22 1 #[.int .u64 (p : Int)] (n := 1) rfl (by decide)
    exact keepO h1 (below1 _ _)
  have HOW := Lib.hid hown
  clear hown HW4
  rw [← hgp] at HOW HB4 K14 K24 S4
  clear hgp k0
  generalize World.alloc (World.alloc w2 _) _ = w4 at *
  go_wp2_with fail
  go_loopw [6] (fun v6 wr => ∃ (i : Nat) (Ao : Option Addr) (co : Nat), i ≤ n ∧ i ≤ 3 ∧ v6 = .int .i64 (i : Int) ∧ Hid (wr.ownsRow w.heap.size 22 1 (.slice Ao (i + 1) co) (i + 1) (([p] ++ l.take i).map uv)) ∧ Hid (Blk wr (gp + 1) 57 (lkV s Ao (i + 1) co)) ∧ Hid (Blk wr gx 57 (lkV s A n c)) ∧ Hid (Blk wr (gx + 1) 57 #[.int .u64 0, .slice none 0 0]) ∧ Hid (Sl rpU64 wr D A n c l) ∧ Hid (Below w.heap.size w wr)) (fun v6 _ => n - (intOf v6).toNat)
  case atStart => exact ⟨0, some ⟨gp, 0, none⟩, 1, by omega, by omega, rfl, HOW.out, KO.out, K14.out, K24.out, S4.out, HB4.out⟩
  case round =>
    clear HOW KO K14 K24 S4 HB4 KP K1 K2 HS
    obtain ⟨i, Ao, co, hin', hi3, rfl, how, hko, hk1, hk2, hsl, hbel⟩ := hrel
    have x1 := (show Blk wr gx 57 (lkV s A n c) from hk1.out).cell 1
    have HZR := Lib.hid hbel.out.size
    by_cases hc : i < n ∧ i < 3
    case neg =>
      have HR : Hid (Row64 wr w.heap.size Ao (i + 1) co (extL (s, l) p).2) := by
        refine ⟨?_, fun x hx => ?_⟩
        · have h := how.out
          have e : [p] ++ l.take i = (extL (s, l) p).2 := by
            unfold extL
            show _ = (p :: l).take 4
            rw [List.take_succ_cons, List.singleton_append]
            congr 1
            rcases Nat.lt_or_ge i 3 with h3 | h3
            · have h4 : ¬ i < n := fun h => hc ⟨h, h3⟩
              have := HN.out
              rw [List.take_of_length_le (by omega), List.take_of_length_le (by omega)]
            · obtain rfl : i = 3 := by omega
              rfl
          rw [e] at h
          exact h
        · have h4 := List.mem_of_mem_take hx
          rw [List.mem_cons] at h4
          rcases h4 with rfl | h4
          · omega
          · exact HBD.out x h4
      have o0 := (show Blk wr (gp + 1) 57 (lkV s Ao (i + 1) co) from hko.out).cell 0
      have o1 := (show Blk wr (gp + 1) 57 (lkV s Ao (i + 1) co) from hko.out).cell 1
      have HFIN : Hid (∀ w6, Blk w6 (gx + 1) 57 (lkV s Ao (i + 1) co) → wr.grownBy w6 (some (gx + 1)) → Row64 w6 w.heap.size Ao (i + 1) co (extL (s, l) p).2 ∧ Below w.heap.size w w6) := fun w6 hblk hgr =>
        ⟨Row64.boxed HR.out hk2.out (by decide) hgr, hbel.out.grown hgr HZR.out (fun q hq => by have e' : gx + 1 = q := Option.some.inj hq; have := HGX.out; omega)⟩
      by_cases h1 : i < n
      case pos =>
        have hd1 : decide ((i : Int) < (n : Int)) = true := by simp; omega
        have hd2 : decide ((i : Int) < 3) = false := by have : ¬ i < 3 := fun h => hc ⟨h1, h⟩; simp; omega
        go_wp2_with (refine wpList_put_row rfl 57 (.tmp 4) (.tmp 33) rfl (gx + 1) (lkV s Ao (i + 1) co) rfl rfl 57 _ hk2.out HSZ.out rfl (by simp [Value.oneCell']) ?_; intro w6 hblk hgr)
        try rw [Exit.noGoto_ret]
        have y0 := (show Blk w6 (gx + 1) 57 (lkV s Ao (i + 1) co) from hblk).cell 0
        have y1 := (show Blk w6 (gx + 1) 57 (lkV s Ao (i + 1) co) from hblk).cell 1
        have hfin := HFIN.out w6 hblk hgr
        refine bodyPost_ret (v := .agg (lkV s Ao (i + 1) co)) (by simp [results, Try.results43, go_sem, y0, y1]) rfl ⟨Ao, i + 1, co, rfl, hfin⟩
      case neg =>
        have hd1 : decide ((i : Int) < (n : Int)) = false := by simp; omega
        go_wp2_with (refine wpList_put_row rfl 57 (.tmp 4) (.tmp 33) rfl (gx + 1) (lkV s Ao (i + 1) co) rfl rfl 57 _ hk2.out HSZ.out rfl (by simp [Value.oneCell']) ?_; intro w6 hblk hgr)
        try rw [Exit.noGoto_ret]
        have y0 := (show Blk w6 (gx + 1) 57 (lkV s Ao (i + 1) co) from hblk).cell 0
        have y1 := (show Blk w6 (gx + 1) 57 (lkV s Ao (i + 1) co) from hblk).cell 1
        have hfin := HFIN.out w6 hblk hgr
        refine bodyPost_ret (v := .agg (lkV s Ao (i + 1) co)) (by simp [results, Try.results43, go_sem, y0, y1]) rfl ⟨Ao, i + 1, co, rfl, hfin⟩
    case pos =>
      obtain ⟨h1, h3⟩ := hc
      have hd1 : decide ((i : Int) < (n : Int)) = true := by simp; omega
      have hd2 : decide ((i : Int) < 3) = true := by simp; omega
      have hiI : (0 : Int) ≤ (i : Int) := by omega
      have hiI2 : (i : Int) < (n : Int) := by omega
      obtain ⟨y, hy⟩ : ∃ y, l[i]? = some y := ⟨_, List.getElem?_eq_getElem (by have := HN.out; omega)⟩
      have HY := Lib.hid hy
      obtain ⟨bo, off, rfl, hbD, hcell⟩ : ∃ bo off, A = some ⟨bo, off, none⟩ ∧ D bo ∧ wr.cell? ⟨bo, off + i, none⟩ = some (.int .u64 (y : Int)) := by
        obtain ⟨bo, off, x, cs, hA, hb, hx, hcc, hg⟩ := Rp.sl_at hsl.out.1 h1
        rw [hy] at hx
        injection hx with hx
        subst hx
        obtain ⟨rfl, _⟩ := hcc
        refine ⟨bo, off, hA, hb, ?_⟩
        have h := hg 0 _ rfl
        have e : off + i * rpU64.size + 0 = off + i := by show off + i * 1 + 0 = off + i; omega
        rw [e] at h
        exact h
      have HDB := Lib.hid (hsl.out.2 _ hbD)
      clear hbD hy
      go_wp2_with fail
      have hbd : Below wr.heap.size wr (wr.drew.alloc (.cells #[.int .u64 (y : Int)] 22)) := ((Below.refl _ wr).drew).alloc (Nat.le_refl _) _
      have hbe : Below wr.heap.size wr wr.drew := (Below.refl _ wr).drew
      have x1d := (hbe.cell (p := ⟨gx, 1, none⟩) (show Blk wr gx 57 (lkV s (some ⟨bo, off, none⟩) n c) from hk1.out).lt).trans x1
      have o1 := (show Blk wr (gp + 1) 57 (lkV s Ao (i + 1) co) from hko.out).cell 1
      have o1d := (hbe.cell (p := ⟨gp + 1, 1, none⟩) (show Blk wr (gp + 1) 57 (lkV s Ao (i + 1) co) from hko.out).lt).trans o1
      have o1a := (hbd.cell (p := ⟨gp + 1, 1, none⟩) (show Blk wr (gp + 1) 57 (lkV s Ao (i + 1) co) from hko.out).lt).trans o1
      have o1b : (wr.alloc (.cells #[.int .u64 (y : Int)] 22)).drew.cell? ⟨gp + 1, 1, none⟩ = some (.slice Ao (i + 1) co) := o1a
      have x1a := (hbd.cell (p := ⟨gx, 1, none⟩) (show Blk wr gx 57 (lkV s (some ⟨bo, off, none⟩) n c) from hk1.out).lt).trans x1
      have hcd := (hbe.cell (p := ⟨bo, off + i, none⟩) HDB.out).trans hcell
      have hcd0 : wr.drew.cell? ⟨bo, off + i * 1, none⟩ = some (.int .u64 (y : Int)) := by rw [Nat.mul_one]; exact hcd
      have HOA := Lib.hid (keepO how.out hbd)
      have HSRC := Lib.hid (Src.new wr.drew (.int .u64 (y : Int)) 22 rfl)
      have KOA := Lib.hid (keepB (show Blk wr (gp + 1) 57 (lkV s Ao (i + 1) co) from hko.out) hbd)
      have o1f := (show Blk _ (gp + 1) 57 (lkV s Ao (i + 1) co) from KOA.out).frozen 1
      have K1A := Lib.hid (keepB (show Blk wr gx 57 (lkV s (some ⟨bo, off, none⟩) n c) from hk1.out) hbd)
      have K2A := Lib.hid (keepB (show Blk wr (gx + 1) 57 #[.int .u64 0, .slice none 0 0] from hk2.out) hbd)
      have SA := Lib.hid (keepS hsl.out hbd)
      have HBA := Lib.hid (stepB hbel.out hbd)
      have HMX : Hid (w.heap.size ≤ (wr.drew.alloc (.cells #[.int .u64 (y : Int)] 22)).heap.size) := Nat.le_trans HZR.out hbd.size
      have HNL : Hid (∀ g t cs, Blk wr g t cs → t ≠ 22 → some g ≠ (Value.slice Ao (i + 1) co).ownBlock) := fun g t cs hb ht e => by
        obtain ⟨cs', hcs⟩ := own_type how.out e.symm
        exact ht (blk_type hb hcs).symm
      have HNO := Lib.hid (HNL.out _ _ _ hko.out (by decide))
      have HNX := Lib.hid (HNL.out _ _ _ hk1.out (by decide))
      have HNZ := Lib.hid (HNL.out _ _ _ hk2.out (by decide))
      have HOL := Lib.hid (fun q (hq : (Value.slice Ao (i + 1) co).ownBlock = some q) => (how.out.lt q hq).1)
      clear hbd hbe
      go_region_law ((refine step_app rfl (.tmp 24) (.tmp 30) _ (by rfl) elem64 (by rfl) HOA.out (by rfl) HSRC.out (by unfold maxLen; omega) (by omega) HMX.out ?_
                      intro A6 c6 w6 ho6 hg6 hat6
                      have HO6 := Lib.hid ho6
                      have K6 := Lib.hid ((show Blk _ (gp + 1) 57 (lkV s Ao (i + 1) co) from KOA.out).grown hg6 HNO.out)
                      have o6 := (show Blk w6 (gp + 1) 57 (lkV s Ao (i + 1) co) from K6.out).cell 1
                      have o6f := (show Blk w6 (gp + 1) 57 (lkV s Ao (i + 1) co) from K6.out).frozen 1
                      have HG6 := Lib.hid hg6
                      clear ho6 hg6 hat6))
      all_goals
        have hgr : w6.grownBy (w6.setCell ⟨gp + 1, 1, none⟩ (.slice A6 (i + 1 + 1) c6)) (some (gp + 1)) := grown_setCell w6 ⟨gp + 1, 1, none⟩ _
        have K7 : Hid (Blk (w6.setCell ⟨gp + 1, 1, none⟩ (.slice A6 (i + 1 + 1) c6)) (gp + 1) 57 (lkV s A6 (i + 1 + 1) c6)) := (show Blk w6 (gp + 1) 57 (lkV s Ao (i + 1) co) from K6.out).put 1 _
        have X7 := Lib.hid (((show Blk _ gx 57 (lkV s (some ⟨bo, off, none⟩) n c) from K1A.out).grown HG6.out HNX.out).far (p := ⟨gp + 1, 1, none⟩) (by have := HGP.out; show gx ≠ gp + 1; omega) (.slice A6 (i + 1 + 1) c6))
        have Z7 := Lib.hid (((show Blk _ (gx + 1) 57 #[.int .u64 0, .slice none 0 0] from K2A.out).grown HG6.out HNZ.out).far (p := ⟨gp + 1, 1, none⟩) (by have := HGP.out; show gx + 1 ≠ gp + 1; omega) (.slice A6 (i + 1 + 1) c6))
        have HB6 := HBA.out.grown HG6.out HBA.out.size (fun q hq => HOL.out q hq)
        have HB7 := Lib.hid (HB6.grown hgr HB6.size (fun q hq => by have e' : gp + 1 = q := Option.some.inj hq; have := HGP.out; have := HGX.out; omega))
        have O7 : Hid ((w6.setCell ⟨gp + 1, 1, none⟩ (.slice A6 (i + 1 + 1) c6)).ownsRow w.heap.size 22 1 (.slice A6 (i + 1 + 1) c6) (i + 1 + 1) (([p] ++ l.take (i + 1)).map uv)) := by
          show World.ownsRow _ _ _ _ _ _ _
          rw [List.take_add_one, HY.out, Option.toList_some, ← List.append_assoc, List.map_append]
          exact own_sameT HO6.out (fun k cs hk _ _ => Below.heap_setCell w6 ⟨gp + 1, 1, none⟩ _ k (fun e => by
            have e' : k = gp + 1 := e
            subst e'
            exact absurd (blk_type (show Blk w6 (gp + 1) 57 _ from K6.out) hk) (by decide)))
        have S7 : Hid (Sl rpU64 (w6.setCell ⟨gp + 1, 1, none⟩ (.slice A6 (i + 1 + 1) c6)) D (some ⟨bo, off, none⟩) n c l) := keepS HS0.out HB7.out
        clear hgr HB6
        go_wp2_with fail
        go_roundw
        case rel => exact ⟨i + 1, A6, c6, by omega, by omega, by go_num, O7, K7, X7, Z7, S7, HB7⟩
        case measure => simp [intOf]; omega
end
end Go.Proofs.Ytcbmnfjbmkpfiaa
