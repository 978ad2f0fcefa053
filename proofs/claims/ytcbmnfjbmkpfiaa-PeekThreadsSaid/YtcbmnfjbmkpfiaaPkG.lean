/- Whether a batch is well-formed: the program's walks. -/
import Derived.Test.YtcbmnfjbmkpfiaaPkR
import Derived.Test.YtcbmnfjbmkpfiaaTkT
import Derived.Test.YtcbmnfjbmkpfiaaEp
import Derived.IntWalk
namespace Go.Proofs.Ytcbmnfjbmkpfiaa
open Go.ChangeShapes Go.WideShapes Go.ChangeAt Go.RowKit
set_option linter.unusedVariables false
def FitOk (b n : Nat) : Prop := 1 ≤ n ∧ n ≤ 16 ∧ PosOk b ∧ b + n ≤ 4611686018427387904
theorem fits_any {b n : Nat} (w : World) (hb : b ≤ 18446744073709551615) (hn : n ≤ 1000000) : Calls Try.prog 61 #[.int .u64 (b : Int), .int .i64 (n : Int)] w fun e w' => e = .returned (.bool (dec (FitOk b n))) ∧ w = w' := by
  have HP := epos_any b w hb
  by_cases h1 : 1 ≤ n
  case neg =>
    rw [dec_false (fun h : FitOk b n => h1 h.1)]
    have hd : decide ((1 : Int) ≤ (n : Int)) = false := by simp; omega
    clear HP
    go_enter Try.func61, Try.ntmps61
    go_wp2_with fail
    go_ret
    exact ⟨rfl, rfl⟩
  case pos =>
  have hd : decide ((1 : Int) ≤ (n : Int)) = true := by simp; omega
  by_cases h2 : n ≤ 16
  case neg =>
    rw [dec_false (fun h : FitOk b n => h2 h.2.1)]
    have hd2 : decide ((n : Int) ≤ 16) = false := by simp; omega
    clear HP
    go_enter Try.func61, Try.ntmps61
    go_wp2_with fail
    go_ret
    exact ⟨rfl, rfl⟩
  case pos =>
  have hd2 : decide ((n : Int) ≤ 16) = true := by simp; omega
  by_cases h3 : PosOk b
  case neg =>
    rw [dec_false (fun h : FitOk b n => h3 h.2.2.1)]
    rw [dec_false h3] at HP
    have HP' := Lib.hid HP
    clear HP h3
    go_enter Try.func61, Try.ntmps61
    go_wp2_with fail
    refine HP'.out.mono ?_; rintro e w1 ⟨rfl, rfl⟩
    go_wp2_with fail
    go_ret
    exact ⟨rfl, rfl⟩
  case pos =>
  rw [dec_true h3] at HP
  have HP' := Lib.hid HP
  have hb62 : b < 4611686018427387904 := h3
  have hw1 : IntKind.u64.wrap (n : Int) = (n : Int) := IntWalk.u64_in _ (by omega)
  have hw2 : IntKind.u64.wrap ((b : Int) + (n : Int)) = (b : Int) + (n : Int) := IntWalk.u64_in _ (by omega)
  obtain ⟨q, hq⟩ : ∃ q, decide (b + n ≤ 4611686018427387904) = q := ⟨_, rfl⟩
  have hq2 : decide ((b : Int) + (n : Int) ≤ 4611686018427387904) = q := by rw [← hq]; apply decide_eq_decide.2; omega
  have HE : Hid (dec (FitOk b n) = q) := by
    show _ = _
    rw [← hq]
    by_cases h4 : b + n ≤ 4611686018427387904
    · rw [dec_true (show FitOk b n from ⟨h1, h2, h3, h4⟩)]; simp [h4]
    · rw [dec_false (fun h : FitOk b n => h4 h.2.2.2)]; simp [h4]
  rw [HE.out]
  clear HP h3 hq
  go_enter Try.func61, Try.ntmps61
  go_wp2_with fail
  refine HP'.out.mono ?_; rintro e w1 ⟨rfl, rfl⟩
  go_wp2_with fail
  go_ret
  exact ⟨rfl, rfl⟩
theorem rfits25_any {b n : Nat} (w : World) (hb : b ≤ 18446744073709551615) (hn : n ≤ 1000000) : Calls Try.prog 33 #[.int .u64 (b : Int), .int .i64 (n : Int)] w fun e w' => e = .returned (.bool (dec (FitOk b n))) ∧ w = w' := by
  have HP := repos_any b w hb
  by_cases h1 : 1 ≤ n
  case neg =>
    rw [dec_false (fun h : FitOk b n => h1 h.1)]
    have hd : decide ((1 : Int) ≤ (n : Int)) = false := by simp; omega
    clear HP
    go_enter Try.func33, Try.ntmps33
    go_wp2_with fail
    go_ret
    exact ⟨rfl, rfl⟩
  case pos =>
  have hd : decide ((1 : Int) ≤ (n : Int)) = true := by simp; omega
  by_cases h2 : n ≤ 16
  case neg =>
    rw [dec_false (fun h : FitOk b n => h2 h.2.1)]
    have hd2 : decide ((n : Int) ≤ 16) = false := by simp; omega
    clear HP
    go_enter Try.func33, Try.ntmps33
    go_wp2_with fail
    go_ret
    exact ⟨rfl, rfl⟩
  case pos =>
  have hd2 : decide ((n : Int) ≤ 16) = true := by simp; omega
  by_cases h3 : PosOk b
  case neg =>
    rw [dec_false (fun h : FitOk b n => h3 h.2.2.1)]
    rw [dec_false h3] at HP
    have HP' := Lib.hid HP
    clear HP h3
    go_enter Try.func33, Try.ntmps33
    go_wp2_with fail
    refine HP'.out.mono ?_; rintro e w1 ⟨rfl, rfl⟩
    go_wp2_with fail
    go_ret
    exact ⟨rfl, rfl⟩
  case pos =>
  rw [dec_true h3] at HP
  have HP' := Lib.hid HP
  have hb62 : b < 4611686018427387904 := h3
  have hw1 : IntKind.u64.wrap (n : Int) = (n : Int) := IntWalk.u64_in _ (by omega)
  have hw2 : IntKind.u64.wrap (4611686018427387904 - (b : Int)) = 4611686018427387904 - (b : Int) := IntWalk.u64_in _ (by omega)
  obtain ⟨q, hq⟩ : ∃ q, decide (b + n ≤ 4611686018427387904) = q := ⟨_, rfl⟩
  have hq2 : decide ((n : Int) ≤ 4611686018427387904 - (b : Int)) = q := by rw [← hq]; apply decide_eq_decide.2; omega
  have HE : Hid (dec (FitOk b n) = q) := by
    show _ = _
    rw [← hq]
    by_cases h4 : b + n ≤ 4611686018427387904
    · rw [dec_true (show FitOk b n from ⟨h1, h2, h3, h4⟩)]; simp [h4]
    · rw [dec_false (fun h : FitOk b n => h4 h.2.2.2)]; simp [h4]
  rw [HE.out]
  clear HP h3 hq
  go_enter Try.func33, Try.ntmps33
  go_wp2_with fail
  refine HP'.out.mono ?_; rintro e w1 ⟨rfl, rfl⟩
  go_wp2_with fail
  go_ret
  exact ⟨rfl, rfl⟩
section
variable {D : Dom} {A B : Option Addr} {n c m d pos : Nat} {L : List Lnk} {w : World}
theorem eright24_any (hs : rpLnk.sl w D A n c L) (hD : ∀ k, D k → k < w.heap.size) (hm : m ≤ 1000000) (hp : pos ≤ 18446744073709551615) :
    Calls Try.prog 63 #[.int .u64 (pos : Int), .agg (entV A n c B m d)] w fun e w' => e = .returned (.bool (dec (LOk pos L))) ∧ Below w.heap.size w w' := by
  have hb0 := below1 w (.cells (entV A n c B m d) 45)
  have HB := Lib.hid hb0
  have HK := Lib.hid (blk11 w 45 (entV A n c B m d))
  have HS := keepS (show Sl rpLnk w D A n c L from ⟨hs, hD⟩) hb0
  obtain ⟨q, hq⟩ : ∃ q, dec (LOk pos L) = q := ⟨_, rfl⟩
  have HR := lright_any HS.1 HS.2 hp
  rw [hq] at HR ⊢
  have HR' := Lib.hid HR
  have hd : decide ((m : Int) ≤ 1048576) = true := by simp; omega
  clear hs hD hb0 HS HR hq
  go_enter Try.func63, Try.ntmps63
  go_upto_region 1 with (fail)
  generalize World.alloc w _ = w0 at *
  have k0 := (show Blk w0 w.heap.size 45 (entV A n c B m d) from HK.out).cell 0
  go_wp2_with fail
  refine HR'.out.mono ?_; rintro e w1 ⟨rfl, hb1⟩
  have HB1 := Lib.hid (stepB HB.out hb1)
  have k1 := (keepB (show Blk w0 w.heap.size 45 (entV A n c B m d) from HK.out) hb1).cell 1
  clear k0 hb1
  cases q
  all_goals
    go_wp2_with fail
    go_ret
    exact ⟨rfl, HB1.out⟩
theorem reright24_any (hs : rpLnk.sl w D A n c L) (hD : ∀ k, D k → k < w.heap.size) (hm : m ≤ 1000000) (hp : pos ≤ 18446744073709551615) :
    Calls Try.prog 35 #[.int .u64 (pos : Int), .agg (entV A n c B m d)] w fun e w' => e = .returned (.bool (dec (LOk pos L))) ∧ Below w.heap.size w w' := by
  have hb0 := below1 w (.cells (entV A n c B m d) 45)
  have HB := Lib.hid hb0
  have HK := Lib.hid (blk11 w 45 (entV A n c B m d))
  have HS := keepS (show Sl rpLnk w D A n c L from ⟨hs, hD⟩) hb0
  obtain ⟨q, hq⟩ : ∃ q, dec (LOk pos L) = q := ⟨_, rfl⟩
  have HR := rlright_any HS.1 HS.2 hp
  rw [hq] at HR ⊢
  have HR' := Lib.hid HR
  have hd : decide ((m : Int) ≤ 1048576) = true := by simp; omega
  clear hs hD hb0 HS HR hq
  go_enter Try.func35, Try.ntmps35
  go_upto_region 1 with (fail)
  generalize World.alloc w _ = w0 at *
  have k0 := (show Blk w0 w.heap.size 45 (entV A n c B m d) from HK.out).cell 0
  go_wp2_with fail
  refine HR'.out.mono ?_; rintro e w1 ⟨rfl, hb1⟩
  have HB1 := Lib.hid (stepB HB.out hb1)
  have k1 := (keepB (show Blk w0 w.heap.size 45 (entV A n c B m d) from HK.out) hb1).cell 1
  clear k0 hb1
  cases q
  all_goals
    go_wp2_with fail
    go_ret
    exact ⟨rfl, HB1.out⟩
end
theorem tot_take {es : List Ent} {k : Nat} {x : Ent} (h : es[k]? = some x) : totL (es.take (k + 1)) = totL (es.take k) + x.2.length := by
  unfold totL
  rw [List.take_add_one, h, List.map_append, List.sum_append]
  simp
theorem tot_le {es : List Ent} (k : Nat) : totL (es.take k) ≤ totL es := by
  unfold totL
  have e : es = es.take k ++ es.drop k := (List.take_append_drop k es).symm
  conv => rhs; rw [e]
  rw [List.map_append, List.sum_append]; omega
theorem tot_mem {es : List Ent} {k : Nat} {x : Ent} (h : es[k]? = some x) : x.2.length ≤ totL es := by
  have h1 := tot_take h
  have h2 := tot_le (es := es) (k + 1)
  omega
section
variable {D : Dom} {A : Option Addr} {n c ep b : Nat} {es : List Ent} {w : World}
set_option maxRecDepth 100000 in
theorem total_any (hs : rpEnt.sl w D A n c es) (hD : ∀ k, D k → k < w.heap.size) (hn : n ≤ 1000) (hT : totL es ≤ 100000) :
    Calls Try.prog 62 #[.slice A n c] w fun e w' => e = .returned (.int .i64 (totL es : Int)) ∧ Below w.heap.size w w' := by
  have HS := Lib.hid (show Sl rpEnt w D A n c es from ⟨hs, hD⟩)
  have HN := Lib.hid (Rp.sl_len hs).1
  have HT := Lib.hid hT
  clear hs hD hT
  go_enter Try.func62, Try.ntmps62
  go_wp2_with fail
  go_loopw [3, 8] (fun v3 v8 wr => ∃ k s : Nat, k ≤ n ∧ s ≤ 100000 ∧ v3 = .int .i64 (s : Int) ∧ v8 = .int .i64 (k : Int) ∧ Hid (s = totL (es.take k)) ∧ Hid (Below w.heap.size w wr)) (fun _ v8 _ => n - (intOf v8).toNat)
  case atStart => exact ⟨0, 0, by omega, by omega, rfl, rfl, rfl, Below.refl _ _⟩
  case round =>
    obtain ⟨k, s, hk, hs, rfl, rfl, hst, hbel⟩ := hrel
    by_cases hkn : k < n
    case neg =>
      obtain rfl : k = n := by omega
      have hd : decide ((k : Int) < (k : Int)) = false := by simp
      have HE : Hid (s = totL es) := by
        have h := hst.out
        rw [List.take_of_length_le (by have := HN.out; omega)] at h
        exact h
      go_wp2_with fail
      go_ret
      exact ⟨by rw [← HE.out]; rfl, hbel.out⟩
    case pos =>
      have hd : decide ((k : Int) < (n : Int)) = true := by simp; omega
      have hkI : (0 : Int) ≤ (k : Int) := by omega
      have hkI2 : (k : Int) < (n : Int) := by omega
      have hsr := keepS HS.out hbel.out
      obtain ⟨bo, off, x, A3, c3, B3, d3, rfl, hbD, hx, g0, g1, hrow, hdat⟩ := ent_at hsr.1 hkn
      obtain ⟨xL, xd⟩ := x
      simp only at g0 g1
      obtain ⟨xn, hxn⟩ : ∃ xn, xL.length = xn := ⟨_, rfl⟩
      obtain ⟨dn, hdn⟩ : ∃ dn, xd.length = dn := ⟨_, rfl⟩
      rw [hxn] at g0
      rw [hdn] at g1
      have h1 := tot_take hx
      have h2 := tot_le (es := es) (k + 1)
      have h3 := HT.out
      have h4 := hst.out
      simp only at h1
      have hsum : s + dn ≤ 100000 := by omega
      have HS2 : Hid (s + dn = totL (es.take (k + 1))) := by show _ = _; omega
      have hw : IntKind.i64.wrap ((s : Int) + (dn : Int)) = (s : Int) + (dn : Int) := IntWalk.i64_in _ (by omega)
      have hba := below1 wr (.cells (entV A3 xn c3 B3 dn d3) 45)
      have HBA := Lib.hid (stepB hbel.out hba)
      have HK := Lib.hid (blk11 wr 45 (entV A3 xn c3 B3 dn d3))
      clear hrow hdat hx hbD hsr hba h1 h2 h3 h4 hxn hdn
      go_upto_region 5 with (fail)
      generalize World.alloc wr _ = w4 at *
      have v1 := (show Blk w4 wr.heap.size 45 (entV A3 xn c3 B3 dn d3) from HK.out).cell 1
      clear g0 g1
      go_wp2_with fail
      go_roundw
      case rel => exact ⟨k + 1, s + dn, by omega, hsum, by go_num, by go_num, HS2, HBA⟩
      case measure => clear hw; simp [intOf]; omega
end
end Go.Proofs.Ytcbmnfjbmkpfiaa
