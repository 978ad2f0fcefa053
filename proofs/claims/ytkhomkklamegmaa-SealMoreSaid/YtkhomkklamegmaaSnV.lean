/- The walk of the law SealMore. -/
import Derived.Test.YtkhomkklamegmaaSnU
import Derived.Test.YtkhomkklamegmaaSealL
namespace Go.Proofs.Ytkhomkklamegmaa
open Go.ChangeShapes Go.WideShapes Go.ChangeAt Go.RowKit
set_option linter.unusedVariables false
theorem own_zero {w : World} {base : Nat} {e : TypeId} {z : Nat} {A : Option Addr} {n c : Nat} {xs : List Value} (h : w.ownsRow base e z (.slice A (0 + n) c) (0 + n) ([] ++ xs)) : w.ownsRow base e z (.slice A n c) n xs := by
  rw [Nat.zero_add, List.nil_append] at h; exact h
theorem own_zero1 {w : World} {base : Nat} {e : TypeId} {z : Nat} {A : Option Addr} {n c : Nat} {xs ys : List Value} (h : w.ownsRow base e z (.slice A (0 + n + 1) c) (0 + n + 1) ([] ++ xs ++ ys)) : w.ownsRow base e z (.slice A (n + 1) c) (n + 1) (xs ++ ys) := by
  rw [Nat.zero_add, List.nil_append] at h; exact h
section
variable {w : World} {D : Dom} {A : Option Addr} {n c : Nat} {l : List Sea} {s : Sea} {q : Int}
set_option maxRecDepth 100000 in
set_option maxHeartbeats 8000000 in
theorem sealMore_live (hn : 100 < n ∨ n = 0) :
    Calls Try.prog 6 #[.slice A n c, .agg (sV s), .int .i64 q] w fun e w' => e = .returned (.bool true) ∧ Below w.heap.size w w' := by
  have HLV := Lib.hid (fun w => slive_any w)
  have HB0 := Lib.hid (below1 w (.cells (sV s) 24))
  rcases hn with hn | rfl
  · have hdn : decide ((100 : Int) < (n : Int)) = true := by simp; omega
    go_enter Try.func6, Try.ntmps6
    go_wp2_with fail
    refine (HLV.out _).mono ?_; rintro e w1 ⟨rfl, hb⟩
    go_wp2_with fail
    go_ret
    exact ⟨rfl, stepB HB0.out hb⟩
  · go_enter Try.func6, Try.ntmps6
    go_wp2_with fail
    refine (HLV.out _).mono ?_; rintro e w1 ⟨rfl, hb⟩
    go_wp2_with fail
    go_ret
    exact ⟨rfl, stepB HB0.out hb⟩
set_option maxRecDepth 100000 in
set_option maxHeartbeats 8000000 in
theorem sealMore_few (hs : rpSeaN.sl w D A n c l) (hD : ∀ k, D k → k < w.heap.size) (hn : n ≤ 100) (hn0 : 0 < n) (h64 : Sea64 [s]) (hq0 : -9223372036854775808 ≤ q) (hq1 : q ≤ 9223372036854775807) :
    Calls Try.prog 6 #[.slice A n c, .agg (sV s), .int .i64 q] w fun e w' => e = .returned (.bool true) ∧ Below w.heap.size w w' := by
  have hlen := (Rp.sl_len hs).1
  have hdn : decide ((100 : Int) < (n : Int)) = false := by simp; omega
  have hdz : ((n : Int) == 0) = false := by simp; omega
  have HL64 : Hid (Sea64 l) := sea_lt hs
  have H64 := Lib.hid h64
  obtain ⟨b, off, t, rfl, hDb, ht, g0, g1, g2, t1, t2, t3⟩ := sea_at hs hn0
  rw [Nat.zero_mul] at g0
  have hbw : b < w.heap.size := hD _ hDb
  have hnI : (0 : Int) < (n : Int) := by omega
  have hb0 := below1 w (.cells (sV s) 24)
  have HS0 := Lib.hid (keepS (show Sl rpSeaN w D (some ⟨b, off, none⟩) n c l from ⟨hs, hD⟩) hb0)
  have HK0 := Lib.hid (blk11 w 24 (sV s))
  have HG0 := Lib.hid ((hb0.cell (p := ⟨b, off, none⟩) hbw).trans g0)
  have HN := Lib.hid hlen
  have HB0 := Lib.hid hb0
  clear hs hD hlen h64 hb0 g0 g1 g2 ht hDb t2 t3
  go_enter Try.func6, Try.ntmps6
  go_upto_region 3 with (fail)
  generalize World.alloc w _ = w0 at *
  have g0 := (show w0.cell? ⟨b, off, none⟩ = _ from HG0.out)
  go_wp2_with fail
  have hta := stail_any (q := q) (show rpSeaN.sl w0 D (some ⟨b, off, none⟩) n c l from HS0.out.1) HS0.out.2 (by omega) t1
  unfold TailIs at hta
  obtain ⟨x, hx⟩ : ∃ x, x = (tailQ l t.1 q).1 := ⟨_, rfl⟩
  obtain ⟨ok, hok⟩ : ∃ ok, ok = (tailQ l t.1 q).2 := ⟨_, rfl⟩
  rw [← hx, ← hok] at hta
  have HX := Lib.hid hx
  have HOK := Lib.hid hok
  have HTA := Lib.hid hta
  clear hx hok hta
  refine HTA.out.mono ?_; rintro e w1 ⟨rfl, hb⟩
  have HS1 := Lib.hid (keepS HS0.out hb)
  have HK1 := Lib.hid (keepB (show Blk w0 w.heap.size _ _ from HK0.out) hb)
  have HB1 := Lib.hid (stepB HB0.out hb)
  clear hb g0
  go_upto_region 5 with (fail)
  have k0 := (show Blk w1 w.heap.size 24 (sV s) from HK1.out).cell 0
  have k1 := (show Blk w1 w.heap.size 24 (sV s) from HK1.out).cell 1
  have k2 := (show Blk w1 w.heap.size 24 (sV s) from HK1.out).cell 2
  have hzb := HB1.out.size
  have hgw : w.heap.size < w1.heap.size := HK1.out.lt
  have hbd : Below w1.heap.size w1 (w1.drew.alloc (.cells #[] 24)) := ((Below.refl _ w1).drew).alloc (Nat.le_refl _) _
  have hbd2 : Below w1.heap.size w1 ((w1.drew.alloc (.cells #[] 24)).alloc (.cells (sV s) 24)) := hbd.alloc hbd.size _
  have hbe : Below w1.heap.size w1 (w1.drew.alloc (.cells (sV s) 24)) := ((Below.refl _ w1).drew).alloc (Nat.le_refl _) _
  have hbd3 : Below w1.heap.size w1 ((w1.drew.alloc (.cells (sV s) 24)).alloc (.cells #[] 24)) := hbe.alloc hbe.size _
  have HM := Lib.hid (World.ownsRow_made (e := 24) (size := 3) (base := w1.heap.size) w1.drew #[] 0 (Nat.le_refl _) (by decide) rfl)
  have hz1 : (w1.drew.alloc (.cells (sV s) 24)).heap.size = w1.heap.size + 1 := by simp
  have hz2 : (w1.drew.alloc (.cells #[] 24)).heap.size = w1.heap.size + 1 := by simp
  have hm3 := World.ownsRow_made (e := 24) (size := 3) (base := w1.heap.size) (w1.drew.alloc (.cells (sV s) 24)) #[] 0 (by simp) (by decide) rfl
  rw [hz1] at hm3
  have HM3 := Lib.hid hm3
  have hx2 := Blk.new (w1.drew.alloc (.cells #[] 24)) 24 (sV s)
  rw [hz2] at hx2
  have HX2 := Lib.hid hx2
  clear hz1 hz2 hm3 hx2
  have HX3 := Lib.hid ((Blk.new w1.drew 24 (sV s)).alloc (.cells #[] 24))
  have HSR := Lib.hid (Src.sea (keepS HS1.out hbd).1)
  have HSR2 := Lib.hid (Src.sea (keepS HS1.out hbd2).1)
  have HSR3 := Lib.hid (Src.sea (keepS HS1.out hbd3).1)
  have HBD := Lib.hid hbd
  have HBD2 := Lib.hid hbd2
  have HBD3 := Lib.hid hbd3
  clear hbd hbe hbd2 hbd3
  go_cut [10] (fun s10 wx => ∃ (A3 : Option Addr) (c3 : Nat), s10 = .slice A3 (n + 1) c3 ∧ Hid (wx.ownsRow w1.heap.size 24 3 (.slice A3 (n + 1) c3) (n + 1) (l.flatMap sl3 ++ [s].flatMap sl3)) ∧ Hid (Below w1.heap.size w1 wx))
  case first =>
    go_region_held3 (fun w' => w'.cell? ⟨w.heap.size, 0, none⟩ = some (.int .u64 (s.1 : Int)) ∧ w'.cell? ⟨w.heap.size, 1, none⟩ = some (.int .u64 (s.2.1 : Int)) ∧ w'.cell? ⟨w.heap.size, 2, none⟩ = some (.int .u64 (s.2.2 : Int)))
        (first | go_keep | exact ⟨k0, k1, k2⟩)
        (first
         | (refine step_app rfl (.tmp 37) (.tmp 38) _ rfl elemSeal (by rfl) HM.out (by rfl) HSR.out (by unfold maxLen; omega) (by omega) (by simp <;> omega) ?_; intro A2 c2 w2 ho2 hg2 hat2
            have hb2 : Below w1.heap.size w1 w2 := HBD.out.grown hg2 HBD.out.size (fun j hj => by have e : j = w1.heap.size := (by injection hj with hj; exact hj.symm); omega)
            have HK2 := Lib.hid (keepB (show Blk w1 w.heap.size 24 (sV s) from HK1.out) hb2)
            have HB2 := Lib.hid hb2
            have HO2 := Lib.hid (own_zero ho2)
            have hz12 : w1.heap.size ≤ w2.heap.size := hb2.size
            have k0 := HK2.out.cell 0
            have k1 := HK2.out.cell 1
            have k2 := HK2.out.cell 2
            clear ho2 hg2 hat2 hb2)
         | (refine step_app rfl (.tmp 37) (.tmp 38) _ rfl elemSeal (by rfl) (HM.out.alloc (.cells (sV s) 24)) (by rfl) HSR2.out (by unfold maxLen; omega) (by omega) (by simp <;> omega) ?_; intro A2 c2 w2 ho2 hg2 hat2
            have hb2 : Below w1.heap.size w1 w2 := HBD2.out.grown hg2 HBD2.out.size (fun j hj => by have e : j = w1.heap.size := (by injection hj with hj; exact hj.symm); omega)
            have HK2 := Lib.hid (keepB (show Blk w1 w.heap.size 24 (sV s) from HK1.out) hb2)
            have HB2 := Lib.hid hb2
            have HO2 := Lib.hid ho2
            have hz12 : w1.heap.size ≤ w2.heap.size := hb2.size
            have HX := Lib.hid (HX2.out.grown hg2 (fun e => by injection e with e; simp at e))
            have k0 := HK2.out.cell 0
            have k1 := HK2.out.cell 1
            have k2 := HK2.out.cell 2
            clear ho2 hg2 hat2 hb2)
         | (refine step_app rfl (.tmp 37) (.tmp 38) _ rfl elemSeal (by rfl) HM3.out (by rfl) HSR3.out (by unfold maxLen; omega) (by omega) (by simp <;> omega) ?_; intro A2 c2 w2 ho2 hg2 hat2
            have hb2 : Below w1.heap.size w1 w2 := HBD3.out.grown hg2 HBD3.out.size (fun j hj => by have e : j = w1.heap.size + 1 := (by injection hj with hj; exact hj.symm); omega)
            have HK2 := Lib.hid (keepB (show Blk w1 w.heap.size 24 (sV s) from HK1.out) hb2)
            have HB2 := Lib.hid hb2
            have HO2 := Lib.hid ho2
            have hz12 : w1.heap.size ≤ w2.heap.size := hb2.size
            have HX := Lib.hid (HX3.out.grown hg2 (fun e => by injection e with e; simp at e))
            have k0 := HK2.out.cell 0
            have k1 := HK2.out.cell 1
            have k2 := HK2.out.cell 2
            clear ho2 hg2 hat2 hb2)
         | (refine step_app rfl (.tmp 39) (.tmp 41) _ rfl elemSeal (by rfl) (HO2.out.alloc _) (by rfl) (Src.sea1 (blk11 w2 24 (sV s))) (by unfold maxLen; omega) (by omega) (by simp; omega) ?_; intro A3 c3 w3 ho3 hg3 hat3
            have hk3 := (HK2.out.alloc (.cells (sV s) 24)).grown hg3 (fun e => by
              have h1 := (HO2.out.lt _ e.symm).1
              have h2 := HK1.out.lt
              omega)
            have k0 := hk3.cell 0
            have k1 := hk3.cell 1
            have k2 := hk3.cell 2
            have HO3 := Lib.hid ho3
            have hb3 : Below w1.heap.size w1 w3 := (HB2.out.alloc HB2.out.size (.cells (sV s) 24)).grown hg3 (HB2.out.alloc HB2.out.size (.cells (sV s) 24)).size (fun j hj => (HO2.out.lt j hj).1)
            have HC3 := Lib.hid hb3
            clear hk3 ho3 hg3 hat3 hb3)
         | (refine step_app rfl (.tmp 39) (.tmp 41) _ rfl elemSeal (by rfl) HO2.out (by rfl) (Src.sea1 HX.out) (by unfold maxLen; omega) (by omega) (by first | omega | (simp; omega)) ?_; intro A3 c3 w3 ho3 hg3 hat3
            have hk3 := (HK2.out).grown hg3 (fun e => by
              have h1 := (HO2.out.lt _ e.symm).1
              have h2 := HK1.out.lt
              omega)
            have k0 := hk3.cell 0
            have k1 := hk3.cell 1
            have k2 := hk3.cell 2
            have HO3 := Lib.hid (own_zero1 ho3)
            have hb3 : Below w1.heap.size w1 w3 := (HB2.out).grown hg3 (HB2.out).size (fun j hj => (HO2.out.lt j hj).1)
            have HC3 := Lib.hid hb3
            clear hk3 ho3 hg3 hat3 hb3))
    all_goals
      go_wp2_with fail
      go_meet
      exact ⟨A3, c3, rfl, HO3, HC3⟩
  case rest =>
    obtain ⟨A3, c3, rfl, HO3, HC3⟩ := hcut
    obtain ⟨w3, hw3⟩ : ∃ w3, w3 = wc := ⟨_, rfl⟩
    subst hw3
    clear HM HM3 HX2 HX3 HSR HSR2 HSR3 HBD HBD2 HBD3
    obtain ⟨L, hL⟩ : ∃ L, L = l ++ [s] := ⟨_, rfl⟩
    obtain ⟨m, hm⟩ : ∃ m, m = n + 1 := ⟨_, rfl⟩
    have ho3 : w3.ownsRow w1.heap.size 24 3 (.slice A3 m c3) m (L.flatMap sl3) := by
      rw [hL, List.flatMap_append, hm]; exact HO3.out
    rw [← hm]
    have HLL : Hid (L.length = m) := by show L.length = m; rw [hL, hm, List.length_append, HN.out]; rfl
    have HL : Hid (Sea64 L) := fun y hy => by
      rw [hL, List.mem_append] at hy
      exact hy.elim (HL64.out y) (H64.out y)
    have HS3 : Hid (Sl rpSeaN w3 (fun k => some k = (Value.slice A3 m c3).ownBlock) A3 m c3 L) := ⟨own_sea ho3 HL.out, fun k hk => (ho3.lt k hk.symm).2⟩
    have HB3 := Lib.hid (stepB HB1.out HC3.out)
    have HLE := Lib.hid hL
    have hm100 : m ≤ 101 := by omega
    have hm0 : 0 < m := by omega
    clear ho3 hL hm k0 k1 k2 hgw hzb
    have hta := stail_any (q := q) HS3.out.1 HS3.out.2 (by omega) t1
    unfold TailIs at hta
    obtain ⟨y, hy⟩ : ∃ y, y = (tailQ L t.1 q).1 := ⟨_, rfl⟩
    obtain ⟨is, his⟩ : ∃ is, is = (tailQ L t.1 q).2 := ⟨_, rfl⟩
    rw [← hy, ← his] at hta
    have HY := Lib.hid hy
    have HIS := Lib.hid his
    have HTA2 := Lib.hid hta
    clear hy his hta
    go_wp2_with fail
    refine HTA2.out.mono ?_; rintro e w4 ⟨rfl, hb⟩
    have HS4 := Lib.hid (keepS HS3.out hb)
    have HB4 := Lib.hid (stepB HB3.out hb)
    clear hb
    have y1 : IntKind.i64.wrap ((m : Int) - 1) = ((m - 1 : Nat) : Int) := by rw [IntWalk.i64_in _ (by omega)]; omega
    have HAT : Hid (∀ k, k < m → ∃ b off z, A3 = some ⟨b, off, none⟩ ∧ b < w4.heap.size ∧ L.reverse[k]? = some z ∧ w4.cell? ⟨b, off + (m - 1 - k) * 3, none⟩ = some (.int .u64 (z.1 : Int)) ∧ w4.cell? ⟨b, off + (m - 1 - k) * 3 + 1, none⟩ = some (.int .u64 (z.2.1 : Int)) ∧ w4.cell? ⟨b, off + (m - 1 - k) * 3 + 2, none⟩ = some (.int .u64 (z.2.2 : Int))) := fun k hk => by
      obtain ⟨b, off, z, hA, hDb, hz, g0, g1, g2, _⟩ := sea_at HS4.out.1 (k := m - 1 - k) (by omega)
      refine ⟨b, off, z, hA, HS4.out.2 _ hDb, ?_, g0, g1, g2⟩
      rw [List.getElem?_reverse (by rw [HLL.out]; exact hk), HLL.out]; exact hz
    go_wp2_with fail
    go_loopw [13, 14] (fun vb vi wr => ∃ (k : Nat) (A5 : Option Addr) (c5 : Nat), k ≤ m ∧ vb = .slice A5 k c5 ∧ vi = .int .i64 ((m : Int) - 1 - k) ∧ Hid (wr.ownsRow w4.heap.size 24 3 (.slice A5 k c5) k ((L.reverse.take k).flatMap sl3)) ∧ Hid (Below w4.heap.size w4 wr)) (fun _ vi _ => (intOf vi + 1).toNat)
    case atStart =>
      refine ⟨0, none, 0, Nat.zero_le _, rfl, ?_, World.ownsRow_nil _ _ _ _, Below.refl _ _⟩
      go_num
    case round =>
      obtain ⟨k, A5, c5, hkm', rfl, rfl, hrow, hb⟩ := hrel
      by_cases hkm : k < m
      case neg =>
        obtain rfl : k = m := by omega
        have hd : decide (0 ≤ (k : Int) - 1 - (k : Int)) = false := by simp; omega
        have HR5 : Hid (Sl rpSeaN wr (fun j => some j = (Value.slice A5 k c5).ownBlock) A5 k c5 L.reverse) := by
          have hr := hrow.out
          rw [List.take_of_length_le (by rw [List.length_reverse, HLL.out]; exact Nat.le_refl _)] at hr
          exact ⟨own_sea hr (fun z hz => HL.out z (List.mem_reverse.1 hz)), fun j hj => (hr.lt j hj.symm).2⟩
        have HB5 := Lib.hid (stepB HB4.out hb.out)
        have hta := stail_any (q := q) HR5.out.1 HR5.out.2 (by omega) t1
        unfold TailIs at hta
        rw [tailQ_congr (l := L.reverse) (l' := L) (fun z => List.mem_reverse), ← HY.out, ← HIS.out] at hta
        have HTA3 := Lib.hid hta
        have HLV := Lib.hid (fun w => slive_any w)
        have HMORE : Hid (ok = true → is = true ∧ x ≤ y) := fun h => by
          rw [HIS.out, HY.out, HX.out, HLE.out]
          rw [HOK.out] at h
          exact tailQ_more l s t.1 q h
        clear hta hrow hb HAT HTA2 HTA
        go_wp2_with fail
        refine HTA3.out.mono ?_; rintro e w6 ⟨rfl, hb⟩
        have HB6 := Lib.hid (stepB HB5.out hb)
        clear hb
        have hyy : ((y : Int) == (y : Int)) = true := by simp
        cases ok
        case false =>
          cases is
          all_goals
            go_wp2_with fail
            refine (HLV.out _).mono ?_; rintro e w7 ⟨rfl, hb7⟩
            go_wp2_with fail
            go_ret
            exact ⟨rfl, stepB HB6.out hb7⟩
        case true =>
          obtain ⟨h1, h2⟩ := HMORE.out rfl
          subst h1
          have hxy : decide ((x : Int) ≤ (y : Int)) = true := by simp; omega
          have hxy' : decide (x ≤ y) = true := by simpa using h2
          clear h2
          go_wp2_with fail
          refine (HLV.out _).mono ?_; rintro e w7 ⟨rfl, hb7⟩
          go_wp2_with fail
          go_ret
          exact ⟨rfl, stepB HB6.out hb7⟩
      case pos =>
        have hd : decide (0 ≤ (m : Int) - 1 - (k : Int)) = true := by simp; omega
        obtain ⟨b', off', z, hA3, hbb, hz, g0, g1, g2⟩ := HAT.out k hkm
        obtain ⟨i, hi⟩ : ∃ i, i = m - 1 - k := ⟨_, rfl⟩
        rw [← hi] at g0 g1 g2
        have hiI : (m : Int) - 1 - (k : Int) = (i : Int) := by omega
        have him : i < m := by omega
        have hiM : (i : Int) < (m : Int) := by omega
        have hi0 : (0 : Int) ≤ (i : Int) := by omega
        subst hA3
        have c0 := (hb.out.cell (p := ⟨b', off' + i * 3, none⟩) hbb).trans g0
        have c1 := (hb.out.cell (p := ⟨b', off' + i * 3 + 1, none⟩) hbb).trans g1
        have c2 := (hb.out.cell (p := ⟨b', off' + i * 3 + 2, none⟩) hbb).trans g2
        have HTK : Hid (L.reverse.take (k + 1) = L.reverse.take k ++ [z]) := by
          show L.reverse.take (k + 1) = _
          rw [List.take_add_one, hz]; rfl
        have hzr := hb.out.size
        have w1' : IntKind.i64.wrap ((i : Int) - 1) = (m : Int) - 1 - ((k + 1 : Nat) : Int) := by rw [IntWalk.i64_in _ (by omega)]; omega
        have HWW := Lib.hid w1'
        clear hz g0 g1 g2 w1' hi
        go_wp2_with (at_builtin; refine wpList_app rfl (.tmp 57) (.tmp 62) _ rfl elemSeal rfl (hrow.out.alloc _) rfl (Src.sea1 (blk11 wr 24 (sV z))) (by unfold maxLen; omega) (by omega) (by simp; omega) ?_; intro A6 c6 w6 ho6 hg6 hat6
                     have hb6 : Below w4.heap.size w4 w6 := by
                       have h4 : Below w4.heap.size w4 (wr.alloc (.cells (sV z) 24)) := hb.out.alloc hb.out.size _
                       exact h4.grown hg6 h4.size (fun j hj => (hrow.out.lt j hj).1)
                     have HB6 := Lib.hid hb6
                     have HO6 := Lib.hid ho6
                     clear ho6 hg6 hat6 hb6)
        go_roundw
        case rel =>
          refine ⟨k + 1, A6, c6, hkm, rfl, ?_, ?_, HB6⟩
          · exact congrArg (Value.int .i64) (show (i : Int) - 1 = (m : Int) - 1 - ((k + 1 : Nat) : Int) by omega)
          · show w6.ownsRow _ _ _ _ _ _
            rw [HTK.out, List.flatMap_append]; exact HO6.out
        case measure => simp [intOf]; omega
end
theorem sea3_cells {w : World} {D : Dom} {x : Sea} {cs : Array Value} (h : rpSeaN.ok w D x cs.toList) : cs = sV x ∧ ∀ y ∈ [x.1, x.2.1, x.2.2], y < 18446744073709551616 := by
  obtain ⟨x1, x2, x3⟩ := x
  obtain ⟨cs1, cs2, e, ⟨rfl, q1⟩, cs3, cs4, rfl, ⟨rfl, q2⟩, ⟨rfl, q3⟩⟩ := h
  refine ⟨?_, ?_⟩
  · have : cs.toList.toArray = cs := by simp
    rw [← this, e]; rfl
  · intro y hy
    simp only [List.mem_cons, List.mem_nil_iff, or_false] at hy
    dsimp only at q1 q2 q3
    rcases hy with rfl | rfl | rfl <;> assumption
theorem sealMore_any (A : Option Addr) (n c : Nat) (l : List Sea) (cs : Array Value) (s : Sea) (q : Int) (w : World) (hs : rpSeaN.sl w (lt w.heap.size) A n c l) (hx : rpSeaN.ok w (lt w.heap.size) s cs.toList) (hq0 : -9223372036854775808 ≤ q) (hq1 : q ≤ 9223372036854775807) :
    Calls Try.prog 6 #[.slice A n c, .agg cs, .int .i64 q] w fun e w' => e = .returned (.bool true) ∧ Below w.heap.size w w' := by
  obtain ⟨rfl, h64⟩ := sea3_cells hx
  by_cases hn : 100 < n ∨ n = 0
  · exact sealMore_live hn
  · exact sealMore_few hs (fun k hk => hk) (by omega) (by omega) (fun y hy => by
      obtain rfl := List.mem_singleton.1 hy
      exact ⟨h64 _ (by simp), h64 _ (by simp), h64 _ (by simp)⟩) hq0 hq1
end Go.Proofs.Ytkhomkklamegmaa
