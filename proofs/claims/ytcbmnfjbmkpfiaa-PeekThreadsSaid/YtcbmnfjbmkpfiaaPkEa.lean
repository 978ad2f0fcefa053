/- The links of a batch in order; peek.each. -/
import Derived.Test.YtcbmnfjbmkpfiaaPkR
import Derived.Test.YtcbmnfjbmkpfiaaPkQ
namespace Go.Proofs.Ytcbmnfjbmkpfiaa
open Go.ChangeShapes Go.WideShapes Go.ChangeAt Go.RowKit
set_option linter.unusedVariables false
/-- A position, as it is counted. -/
def posN (b i : Nat) : Nat := (b + i) % 18446744073709551616
/-- The links of entries, each with its position: the first entry is number i. -/
def lkB (b : Nat) : Nat → List Ent → List (Nat × Lnk)
  | _, [] => []
  | i, e :: es => e.1.map (fun x => (posN b i, x)) ++ lkB b (i + 1) es
theorem lkB_app (b : Nat) : ∀ (i : Nat) (xs ys : List Ent), lkB b i (xs ++ ys) = lkB b i xs ++ lkB b (i + xs.length) ys
  | i, [], ys => by simp [lkB]
  | i, x :: xs, ys => by
    rw [List.cons_append, lkB, lkB, lkB_app b (i + 1) xs ys, List.append_assoc, List.length_cons]
    rw [show i + 1 + xs.length = i + (xs.length + 1) by omega]
theorem lkB_take {b : Nat} {es : List Ent} {i : Nat} {e : Ent} (h : es[i]? = some e) : lkB b 0 (es.take (i + 1)) = lkB b 0 (es.take i) ++ e.1.map (fun x => (posN b i, x)) := by
  have h1 : i < es.length := (List.getElem?_eq_some_iff.1 h).1
  rw [List.take_add_one, h, lkB_app, List.length_take, Nat.min_eq_left (by omega), Nat.zero_add]
  simp [lkB]
theorem lkB_all {b : Nat} {es : List Ent} {i k : Nat} {e : Ent} {x : Lnk} (h : es[i]? = some e) (hk : e.1[k]? = some x) : ∃ R, lkB b 0 es = lkB b 0 (es.take i) ++ (e.1.take k).map (fun x => (posN b i, x)) ++ (posN b i, x) :: R := by
  have h1 : es = es.take (i + 1) ++ es.drop (i + 1) := (List.take_append_drop _ _).symm
  have h2 : e.1 = e.1.take k ++ x :: e.1.drop (k + 1) := by
    have h3 : k < e.1.length := (List.getElem?_eq_some_iff.1 hk).1
    have h4 := List.drop_eq_getElem_cons h3
    rw [(List.getElem?_eq_some_iff.1 hk).2] at h4
    rw [← h4, List.take_append_drop]
  refine ⟨(e.1.drop (k + 1)).map (fun x => (posN b i, x)) ++ lkB b (0 + (es.take (i + 1)).length) (es.drop (i + 1)), ?_⟩
  conv => lhs; rw [h1]
  rw [lkB_app, lkB_take h]
  conv => lhs; arg 1; arg 2; rw [h2]
  simp [List.map_append, List.append_assoc]
theorem posN_wrap {b i : Nat} (hb : b ≤ 18446744073709551615) (hi : i ≤ 1000) : IntKind.u64.wrap ((b : Int) + (i : Int)) = (posN b i : Int) := by
  unfold posN
  rcases Nat.lt_or_ge (b + i) 18446744073709551616 with h | h
  · rw [IntWalk.u64_in _ (by omega), Nat.mod_eq_of_lt h]; omega
  · have e : (b + i) % 18446744073709551616 = b + i - 18446744073709551616 := by omega
    rw [e, IntKind.wrap_u64]; omega
theorem posN_le (b i : Nat) : posN b i ≤ 18446744073709551615 := by unfold posN; omega
section
variable {D F : Dom} {A : Option Addr} {n c ep b : Nat} {es : List Ent} {w : World} {I : List (Nat × Lnk) → World → Prop} {a0 a1 : Addr}
set_option maxRecDepth 100000 in
set_option maxHeartbeats 4000000 in
theorem eachC_any (hs : rpEnt.sl w D A n c es) (hD : ∀ k, D k → k < w.heap.size) (hDF : ∀ k, D k → ¬ F k) (hF : ∀ k, F k → k < w.heap.size) (hn : n ≤ 1000) (hM : ∀ e ∈ es, e.1.length ≤ 1000) (hb : b ≤ 18446744073709551615)
    (hI : ∀ L u u', I L u → Below u.heap.size u u' → I L u') (h0 : I [] w)
    (hK : ∀ (L : List (Nat × Lnk)) (u : World) (p s : Nat) (l : List Nat) (A' : Option Addr) (n' c' : Nat), (∃ R, lkB b 0 es = L ++ (p, (s, l)) :: R) → p ≤ 18446744073709551615 → s ≤ 18446744073709551615 → rpU64.sl u D A' n' c' l → (∀ k, D k → k < u.heap.size) → I L u → (∀ k, F k → k < u.heap.size) →
      Calls Try.prog 46 #[.int .u64 (p : Int), .agg (lkV s A' n' c'), .pointer (some a0), .pointer (some a1)] u fun e w' => e = .returned (.tuple #[]) ∧ I (L ++ [(p, (s, l))]) w' ∧ Chg F u w') :
    Calls Try.prog 45 #[.agg (batV ep b A n c), .func (Fn.func 46) #[] #[.pointer (some a0), .pointer (some a1)]] w fun e w' => e = .returned (.tuple #[]) ∧ I (lkB b 0 es) w' ∧ Chg F w w' := by
  have hba := below1 w (.cells (batV ep b A n c) 25)
  have K1 := Lib.hid (blk11 w 25 (batV ep b A n c))
  have HS := Lib.hid (keepS (show Sl rpEnt w D A n c es from ⟨hs, hD⟩) hba)
  have HN := Lib.hid (Rp.sl_len hs).1
  have HI := Lib.hid hI
  have HI0 := Lib.hid (hI _ _ _ h0 hba)
  have HK := Lib.hid hK
  have HC0 := Lib.hid (Chg.of_pure hba F)
  have HDF := Lib.hid hDF
  have HF := Lib.hid hF
  have HB := Lib.hid hb
  have HDD := Lib.hid hD
  have HM := Lib.hid hM
  clear hs hD hDF hF hb hI h0 hK hba hM
  go_enter Try.func45, Try.ntmps45
  go_upto_region 1 with (fail)
  obtain ⟨gz, hgz⟩ : ∃ gz, gz = w.heap.size := ⟨_, rfl⟩
  rw [← hgz] at K1 ⊢
  have HGF : Hid (¬ F gz) := fun h => by have := HF.out gz h; omega
  clear hgz
  generalize World.alloc w _ = w2 at *
  have k2 := (show Blk w2 gz 25 (batV ep b A n c) from K1.out).cell 2
  go_wp2_with fail
  clear k2
  go_loopw [11] (fun v11 wr => ∃ (i : Nat), i ≤ n ∧ v11 = .int .i64 (i : Int) ∧ Hid (I (lkB b 0 (es.take i)) wr) ∧ Hid (Blk wr gz 25 (batV ep b A n c)) ∧ Hid (Sl rpEnt wr D A n c es) ∧ Hid (Chg F w wr)) (fun v11 _ => n - (intOf v11).toNat)
  case atStart => exact ⟨0, by omega, rfl, HI0.out, K1.out, HS.out, HC0.out⟩
  case round =>
    clear HI0 K1 HS HC0
    obtain ⟨i, hi, rfl, hst, hk1, hsl, hch⟩ := hrel
    by_cases hin : i < n
    case neg =>
      obtain rfl : i = n := by omega
      have hd : decide ((i : Int) < (i : Int)) = false := by simp
      have HE : Hid (I (lkB b 0 es) wr) := by
        have h := hst.out
        rw [List.take_of_length_le (by have := HN.out; omega)] at h
        exact h
      go_wp2_with fail
      go_end0
      exact ⟨rfl, HE.out, hch.out⟩
    case pos =>
      have hd : decide ((i : Int) < (n : Int)) = true := by simp; omega
      have hiI : (0 : Int) ≤ (i : Int) := by omega
      have hiI2 : (i : Int) < (n : Int) := by omega
      have hsr := hsl.out
      obtain ⟨bo, off, x, A3, c3, B3, d3, rfl, hbD, hx, g0, g1, hrow, hdat⟩ := ent_at hsr.1 hin
      obtain ⟨xL, xd⟩ := x
      simp only at g0 g1 hrow
      have HX := Lib.hid hx
      obtain ⟨xn, hxn⟩ : ∃ xn, xn = xL.length := ⟨_, rfl⟩
      obtain ⟨dn, hdn⟩ : ∃ dn, dn = xd.length := ⟨_, rfl⟩
      rw [← hxn] at g0 hrow
      rw [← hdn] at g1
      have HXN := Lib.hid hxn
      have hxn1 : xn ≤ 1000 := by rw [hxn]; exact HM.out _ (List.mem_of_getElem? hx)
      obtain ⟨p, hp⟩ : ∃ p, p = posN b i := ⟨_, rfl⟩
      have HP := Lib.hid hp
      have hpw : IntKind.u64.wrap ((b : Int) + (i : Int)) = (p : Int) := by rw [hp]; exact posN_wrap HB.out (by omega)
      have hiw : IntKind.u64.wrap (i : Int) = (i : Int) := IntWalk.u64_in _ (by omega)
      have hba := below1 wr (.cells (entV A3 xn c3 B3 dn d3) 45)
      have KE := Lib.hid (blk11 wr 45 (entV A3 xn c3 B3 dn d3))
      have K3 := Lib.hid (keepB (show Blk wr gz 25 (batV ep b _ n c) from hk1.out) hba)
      have S3 := Lib.hid (keepS hsr hba)
      have SL3 := Lib.hid (keepS (show Sl rpLnk wr D A3 xn c3 xL from ⟨hrow, hsr.2⟩) hba)
      have I3 : Hid (I (lkB b 0 (es.take i) ++ (xL.take 0).map (fun x => (p, x))) (wr.alloc (.cells (entV A3 xn c3 B3 dn d3) 45))) := by
        show I _ _
        rw [List.take_zero, List.map_nil, List.append_nil]
        exact HI.out _ _ _ hst.out hba
      have C3 := Lib.hid (hch.out.trans (Chg.of_pure hba F))
      have HFE : Hid (¬ F wr.heap.size) := fun h => by have := HF.out _ h; have := hch.out.size; omega
      clear hrow hx hbD hsr hxn hdn hdat hp hba hst hk1 hsl hch
      go_upto_region 4 with (fail)
      clear g0 g1
      obtain ⟨ge, hge⟩ : ∃ ge, ge = wr.heap.size := ⟨_, rfl⟩
      rw [← hge] at KE HFE ⊢
      clear hge
      obtain ⟨ws, hws⟩ : ∃ ws, ws = wr := ⟨_, rfl⟩
      subst hws
      generalize World.alloc ws _ = w3 at *
      have v0 := (show Blk w3 ge 45 (entV A3 xn c3 B3 dn d3) from KE.out).cell 0
      go_wp2_with fail
      clear v0
      go_loopw [19] (fun v19 wr => ∃ (k : Nat), k ≤ xn ∧ v19 = .int .i64 (k : Int) ∧ Hid (I (lkB b 0 (es.take i) ++ (xL.take k).map (fun x => (p, x))) wr) ∧ Hid (Blk wr gz 25 (batV ep b (some ⟨bo, off, none⟩) n c)) ∧ Hid (Sl rpEnt wr D (some ⟨bo, off, none⟩) n c es) ∧ Hid (Sl rpLnk wr D A3 xn c3 xL) ∧ Hid (Chg F w wr)) (fun v19 _ => xn - (intOf v19).toNat)
      case atStart => exact ⟨0, by omega, rfl, I3.out, K3.out, S3.out, SL3.out, C3.out⟩
      case round =>
        clear I3 K3 S3 SL3 C3 KE
        obtain ⟨k, hk, rfl, hst, hk1, hsl, hlk, hch⟩ := hrel
        by_cases hkn : k < xn
        case neg =>
          obtain rfl : k = xn := by omega
          have hd2 : decide ((k : Int) < (k : Int)) = false := by simp
          have HE : Hid (I (lkB b 0 (es.take (i + 1))) wr) := by
            have h := hst.out
            rw [List.take_of_length_le (l := xL) (by have := HXN.out; omega), HP.out] at h
            show I _ _
            rw [lkB_take HX.out]; exact h
          go_wp2_with fail
          go_roundw
          case rel => exact ⟨i + 1, by omega, by go_num, HE, hk1, hsl, hch⟩
          case measure => simp [intOf]; omega
        case pos =>
          have hd2 : decide ((k : Int) < (xn : Int)) = true := by simp; omega
          have hkI : (0 : Int) ≤ (k : Int) := by omega
          have hkI2 : (k : Int) < (xn : Int) := by omega
          have hlr := hlk.out
          obtain ⟨bo2, off2, y, A4, c4, rfl, hyD, hy, q0, q1, hyr, hy64⟩ := lnk_at hlr.1 hkn
          obtain ⟨ys, yl⟩ := y
          simp only at q0 q1 hyr hy64
          have HY := Lib.hid hy
          obtain ⟨yn, hyn⟩ : ∃ yn, yn = yl.length := ⟨_, rfl⟩
          rw [← hyn] at q1 hyr
          have hba := below1 wr (.cells (lkV ys A4 yn c4) 57)
          have KY := Lib.hid (blk11 wr 57 (lkV ys A4 yn c4))
          have KZ := Lib.hid (keepB (show Blk wr gz 25 (batV ep b _ n c) from hk1.out) hba)
          have SE := Lib.hid (keepS hsl.out hba)
          have SK := Lib.hid (keepS hlr hba)
          have SY := Lib.hid (keepS (show Sl rpU64 wr D A4 yn c4 yl from ⟨hyr, hlr.2⟩) hba)
          have IY := Lib.hid (HI.out _ _ _ hst.out hba)
          have CY := Lib.hid (hch.out.trans (Chg.of_pure hba F))
          clear hyr hy hyD hlr hyn hba hst hk1 hsl hlk hch
          go_upto_region 7 with (fail)
          clear q0 q1
          obtain ⟨gy, hgy⟩ : ∃ gy, gy = wr.heap.size := ⟨_, rfl⟩
          rw [← hgy] at KY ⊢
          clear hgy
          generalize World.alloc wr _ = w4 at *
          have y0 := (show Blk w4 gy 57 (lkV ys A4 yn c4) from KY.out).cell 0
          have y1 := (show Blk w4 gy 57 (lkV ys A4 yn c4) from KY.out).cell 1
          have z1 := (show Blk w4 gz 25 (batV ep b (some ⟨bo, off, none⟩) n c) from KZ.out).cell 1
          have HC := Lib.hid (HK.out _ w4 p ys yl A4 yn c4 (by rw [HP.out]; exact lkB_all HX.out HY.out) (by rw [HP.out]; exact posN_le _ _) hy64 SY.out.1 SY.out.2 IY.out (fun k hk => Nat.lt_of_lt_of_le (HF.out k hk) CY.out.size))
          go_wp2_with fail
          refine HC.out.mono ?_; rintro e w5 ⟨rfl, hi5, hc5⟩
          have I5 : Hid (I (lkB b 0 (es.take i) ++ (xL.take (k + 1)).map (fun x => (p, x))) w5) := by
            show I _ _
            rw [List.take_add_one, HY.out, List.map_append, ← List.append_assoc]; exact hi5
          have K5 := Lib.hid (chB (show Blk w4 gz 25 (batV ep b (some ⟨bo, off, none⟩) n c) from KZ.out) hc5 HGF.out)
          have S5 := Lib.hid (chS SE.out hc5 HDF.out)
          have L5 := Lib.hid (chS SK.out hc5 HDF.out)
          have C5 := Lib.hid (CY.out.trans hc5)
          clear hi5 hc5 y0 y1 z1
          go_wp2_with fail
          go_roundw
          case rel => exact ⟨k + 1, by omega, by go_num, I5, K5, S5, L5, C5⟩
          case measure => simp [intOf]; omega
end
end Go.Proofs.Ytcbmnfjbmkpfiaa
