/- Reading how many, and rising lists: the program. -/
import Derived.Test.YtmdgmnaaopineaaStrM
import Derived.Test.YtmdgmnaaopineaaVarS
import Derived.Test.YtmdgmnaaopineaaKeep
import Derived.Test.YtmdgmnaaopineaaU64
namespace Go.Proofs.Ytmdgmnaaopineaa
open Go.ChangeShapes Go.WideShapes Go.ChangeAt Go.RowKit
set_option linter.unusedVariables false
theorem risF_lt {l : List UInt8} : ∀ {k p : Nat} {f : Flt} {acc : List Nat}, (∀ x ∈ acc, x < 18446744073709551616) → ∀ x ∈ (risF l k p f acc).1, x < 18446744073709551616
  | 0, p, f, acc, h => h
  | k + 1, p, f, acc, h => by
    unfold risF
    split
    · split
      · intro x hx; cases hx
      · rename_i h1
        exact risF_lt (fun x hx => by
          rcases List.mem_append.1 hx with hx | hx
          · exact h x hx
          · simp only [List.mem_singleton] at hx; subst hx; omega)
    · intro x hx; cases hx
theorem risF_bad1 {l : List UInt8} {k p : Nat} {f : Flt} {acc : List Nat} (h : (vrdF l p f).2.2.1 ≠ 0) : risF l (k + 1) p f acc = ([], (vrdF l p f).2) := by rw [risF, if_neg h]
theorem risF_over {l : List UInt8} {k p : Nat} {f : Flt} {acc : List Nat} (h : 18446744073709551616 ≤ nx acc[acc.length - 1]? (vrdF l p f).1) : risF l (k + 1) p f acc = ([], (vrdF l p f).2.1, failF (vrdF l p f).2.2 13 p) := by
  rw [risF]
  by_cases h0 : (vrdF l p f).2.2.1 = 0
  · rw [if_pos h0, if_pos h]
  · rw [if_neg h0]
    unfold failF
    rw [if_neg h0]
theorem Chg.more' {g : Nat} {w2 w4 w5 : World} {base : Nat} {e : TypeId} {size n : Nat} {v : Value} {xs : List Value} (h : Chg (fun k => some k = v.ownBlock) w4 w5) (ho : w4.ownsRow base e size v n xs) (hb : w2.heap.size ≤ base) (hz : Chg (one g) w2 w4) : Chg (one g) w2 w5 :=
  ⟨h.os.trans hz.os, h.tape.trans hz.tape, h.output.trans hz.output, Nat.le_trans hz.size h.size, fun k hk hn => (h.block k (Nat.lt_of_lt_of_le hk hz.size) (fun e => by have := (ho.lt k e.symm).1; omega)).trans (hz.block k hk hn)⟩
section
variable {w : World} {D : Dom} {g : Nat} {l : List UInt8} {p : Nat} {f : Flt}
set_option maxRecDepth 100000 in
theorem vint_at (h : Rd w D g l p f) (hf : OkF f) (hl : l.length ≤ 1000000000) (m : Nat) (hm : m ≤ 1000) :
    Calls Try.prog 115 #[.pointer (some ⟨g, 0, none⟩), .int .i64 (m : Int)] w fun e w' => e = .returned (.int .i64 ((mostF l p f m).1 : Int)) ∧ Rd w' D g l (mostF l p f m).2.1 (mostF l p f m).2.2 ∧ Chg (one g) w w' := by
  have HV := Lib.hid (vmost_any h hf hl m)
  have hle := mostF_le (l := l) (p := p) (f := f) (m := m)
  generalize mostF l p f m = r at *
  obtain ⟨x, q, F⟩ := r
  simp only at HV hle ⊢
  have hc1 : IntKind.u64.wrap (m : Int) = (m : Int) := IntWalk.u64_in _ (by omega)
  have hc2 : IntKind.i64.wrap (x : Int) = (x : Int) := IntWalk.i64_in _ (by omega)
  clear h hf hl
  go_enter Try.func115, Try.ntmps115
  go_wp2_with fail
  refine HV.out.mono ?_; rintro e w1 ⟨rfl, hr, hc⟩
  have HR := Lib.hid hr
  have HC := Lib.hid hc
  clear hr hc
  go_wp2_with fail
  go_ret
  exact ⟨rfl, HR.out, HC.out⟩
set_option maxRecDepth 100000 in
theorem many_at (h : Rd w D g l p f) (hf : OkF f) (hl : l.length ≤ 1000000000) (m : Nat) (hm : m ≤ 1000) :
    Calls Try.prog 93 #[.pointer (some ⟨g, 0, none⟩), .int .i64 (m : Int)] w fun e w' => e = .returned (.int .i64 ((manyF l p f m).1 : Int)) ∧ Rd w' D g l (manyF l p f m).2.1 (manyF l p f m).2.2 ∧ Chg (one g) w w' := by
  have HA := Lib.hid (cat_at h)
  have HV := Lib.hid (vint_at h hf hl m hm)
  have hle := mostF_le (l := l) (p := p) (f := f) (m := m)
  unfold manyF
  generalize mostF l p f m = r at *
  obtain ⟨x, q, F⟩ := r
  simp only at HV hle ⊢
  clear h hf hl
  by_cases h0 : x = 0
  · rw [if_pos h0]
    subst h0
    go_enter Try.func93, Try.ntmps93
    go_wp2_with fail
    refine HA.out.mono ?_; rintro e w1 ⟨rfl, rfl⟩
    go_wp2_with fail
    refine HV.out.mono ?_; rintro e w1 ⟨rfl, hr, hc⟩
    have HR := Lib.hid hr
    have HC := Lib.hid hc
    clear hr hc
    go_wp2_with fail
    refine (cfail_at HR.out 3 _).mono ?_; rintro e w2 ⟨rfl, hr, hc⟩
    have HR2 := Lib.hid hr
    have HC2 := Lib.hid (HC.out.trans hc)
    clear hr hc
    go_wp2_with fail
    go_ret
    exact ⟨rfl, HR2.out, HC2.out⟩
  · rw [if_neg h0]
    have hq : ((x : Int) == 0) = false := by simpa using h0
    have hq2 : (x == 0) = false := by simpa using h0
    clear h0
    go_enter Try.func93, Try.ntmps93
    go_wp2_with fail
    refine HA.out.mono ?_; rintro e w1 ⟨rfl, rfl⟩
    go_wp2_with fail
    refine HV.out.mono ?_; rintro e w1 ⟨rfl, hr, hc⟩
    have HR := Lib.hid hr
    have HC := Lib.hid hc
    clear hr hc
    go_wp2_with fail
    go_ret
    exact ⟨rfl, HR.out, HC.out⟩
def RisIs (w : World) (D : Dom) (g : Nat) (l : List UInt8) (r : List Nat × Nat × Flt) (e : Ending) (w' : World) : Prop :=
  ∃ A c, e = .returned (.slice A r.1.length c) ∧ w'.ownsRow w.heap.size 22 1 (.slice A r.1.length c) r.1.length (r.1.map uv) ∧ Rd w' D g l r.2.1 r.2.2 ∧ Chg (one g) w w'
set_option maxRecDepth 100000 in
set_option maxHeartbeats 4000000 in
theorem rising_at (h : Rd w D g l p f) (hf : OkF f) (hl : l.length ≤ 1000000000) (n : Nat) (hn : n ≤ 1000) :
    Calls Try.prog 131 #[.pointer (some ⟨g, 0, none⟩), .int .i64 (n : Int)] w (RisIs w D g l (risF l n p f [])) := by
  obtain ⟨R, hR⟩ : ∃ R, R = risF l n p f [] := ⟨_, rfl⟩
  rw [← hR]
  have HR0 := Lib.hid hR
  have HRD := Lib.hid h
  have HOK := Lib.hid hf
  have hgl := h.lt
  have hmx : (if (n : Int) < 0 then (0 : Int) else (n : Int)) = (n : Int) := if_neg (by omega)
  clear h hf hR
  go_enter Try.func131, Try.ntmps131
  go_wp2_with fail
  go_loopw [5, 12] (fun o i wr => ∃ (k q : Nat) (F : Flt) (acc : List Nat) (A : Option Addr) (c : Nat), k ≤ n ∧ i = .int .i64 k ∧ o = .slice A k c ∧ acc.length = k ∧ Hid (OkF F) ∧ Hid (∀ x ∈ acc, x < 18446744073709551616) ∧ Hid (wr.ownsRow w.heap.size 22 1 (.slice A k c) k (acc.map uv)) ∧ Hid (Rd wr D g l q F) ∧ Hid (Chg (one g) w wr) ∧ Hid (risF l (n - k) q F acc = R)) (fun _ i _ => n - (intOf i).toNat)
  case atStart => exact ⟨0, p, f, [], none, 0, by omega, rfl, rfl, rfl, HOK.out, (fun x hx => by cases hx), World.ownsRow_nil _ _ _ _, HRD.out, Chg.refl _ _, HR0.out.symm⟩
  case round =>
    obtain ⟨k, q, F, acc, A, c, hk, rfl, rfl, hacc, hokF, hlt64, hown, hrd, hch, heq⟩ := hrel
    have HACC := Lib.hid hacc
    clear hacc
    have hzr := hch.out.size
    by_cases hkn : k < n
    case neg =>
      have hd : decide ((k : Int) < (n : Int)) = false := by simp; omega
      have hd2 : decide (k < n) = false := by simpa using hkn
      have HKN := Lib.hid (show n - k = 0 by omega)
      clear hkn
      go_wp2_with fail
      go_ret
      have hh := heq.out
      rw [HKN.out] at hh
      subst hh
      have hal := HACC.out
      subst hal
      exact ⟨A, c, rfl, hown.out, hrd.out, hch.out⟩
    case pos =>
      have hd : decide ((k : Int) < (n : Int)) = true := by simp; omega
      have hd2 : decide (k < n) = true := by simpa using hkn
      have HAT := Lib.hid (cat_at hrd.out)
      have HV := Lib.hid (vread_any hrd.out hokF.out hl)
      have hstep : n - k = (n - (k + 1)) + 1 := by omega
      have heq2 := heq.out
      rw [hstep] at heq2
      have hbad := risF_bad1 (l := l) (k := n - (k + 1)) (p := q) (f := F) (acc := acc)
      have hgood := risF_step (l := l) (k := n - (k + 1)) (p := q) (f := F) (acc := acc)
      have hover := risF_over (l := l) (k := n - (k + 1)) (p := q) (f := F) (acc := acc)
      have hx64 := vrdF_lt l q F
      have hx0 := @vrdF_fail0 l q F
      have hok2 := vrdF_ok (l := l) (p := q) hokF.out
      have hqle := (vrdF_le (l := l) (p := q) (f := F) hrd.out.le).1
      rw [heq2] at hbad hgood hover
      generalize vrdF l q F = r at *
      obtain ⟨x, q2, F2⟩ := r
      simp only at HV hbad hgood hover hx64 hx0 hok2 hqle
      have HOK2 := Lib.hid hok2
      have HBAD := Lib.hid hbad
      have HGOOD := Lib.hid hgood
      have HOVER := Lib.hid hover
      have HX64 := Lib.hid hx64
      clear hbad hgood hover heq2 hstep hx64 hok2 heq
      by_cases hk0 : k = 0
      case pos =>
        subst hk0
        have hnx : nx acc[acc.length - 1]? x = x := by
          obtain rfl := List.eq_nil_of_length_eq_zero HACC.out
          rfl
        have HNX := Lib.hid hnx
        have HY64 : Hid (x < 18446744073709551616) := HX64.out
        clear hnx
        by_cases hF : F2.1 = 0
        case pos =>
          have hq : (F2.1 == 0) = true := by simpa using hF
          have HGD : Hid (R = risF l (n - (0 + 1)) q2 F2 (acc ++ [x])) := by
            have := HGOOD.out hF (by rw [HNX.out]; have := HX64.out; omega)
            rw [HNX.out] at this
            exact this
          clear hF
          go_wp2_with fail
          refine HAT.out.mono ?_; rintro e w1 ⟨rfl, rfl⟩
          go_wp2_with fail
          refine HV.out.mono ?_; rintro e w2 ⟨rfl, hr, hc⟩
          have HR2 := Lib.hid hr
          have HC2 := Lib.hid (hch.out.trans hc)
          have HOW2 := Lib.hid (chO hown.out hc (fun j hj e => by have e : j = g := e; have := (hown.out.lt j hj).1; omega))
          clear hr hc
          go_wp2_with fail
          have HG := Lib.hid (cgood_at HR2.out)
          refine HG.out.mono ?_; rintro e w4 ⟨rfl, hb⟩
          have HR4 := Lib.hid (HR2.out.below hb)
          have HC4 := Lib.hid (HC2.out.trans (Chg.of_pure hb _))
          have HOW4 := Lib.hid (keepO HOW2.out hb)
          clear hb
          go_wp2_with (at_builtin; refine wpList_app rfl (.tmp 45) (.tmp 47) _ rfl elem64 rfl (HOW4.out.alloc _) rfl (Src.new w4 (.int .u64 ((x : Int))) _ rfl) (by unfold maxLen; omega) (by omega) (by have := HC4.out.size; simp; omega) ?_; intro A5 c5 w5 ho5 hg5 hat5; have HO5 := Lib.hid ho5; have HG5 := Lib.hid (show w4.grownBy w5 _ from ⟨hg5.os, hg5.tape, hg5.output, by have := hg5.size; simp at this; omega, fun j hj hn => (hg5.block j (by simp; omega) hn).trans (Below.heap_alloc _ _ _ hj)⟩); clear ho5 hg5 hat5)
          have hgn : some g ≠ (Value.slice A 0 c).ownBlock := fun e => by have := (HOW4.out.lt g e.symm).1; omega
          go_roundw
          case rel =>
            refine ⟨0 + 1, q2, F2, acc ++ [x], A5, c5, by omega, by go_num, rfl, by rw [List.length_append, HACC.out]; rfl, HOK2.out, ?_, ?_, ?_, ?_, ?_⟩
            · intro z hz
              rcases List.mem_append.1 hz with hz | hz
              · exact hlt64.out z hz
              · simp only [List.mem_singleton] at hz
                subst hz
                exact HY64.out
            · have := HO5.out
              rw [List.map_append]
              exact this
            · exact HR4.out.keep (fun j hj => HG5.out.block j (by rcases hj with rfl | hj; exact HR4.out.lt; exact HR4.out.dom j hj) (fun e => by
                rcases hj with rfl | hj
                · exact hgn e
                · have h1 := (HOW4.out.lt j e.symm).1
                  have h2 := HRD.out.dom j hj
                  omega)) HG5.out.size
            · exact (Chg.of_grown HG5.out).more' HOW4.out (Nat.le_refl _) HC4.out
            · exact HGD.out.symm
          case measure => simp [intOf]; omega
        case neg =>
          have hq : (F2.1 == 0) = false := by simpa using hF
          have HBD : Hid (R = ([], q2, F2)) := HBAD.out hF
          clear hF
          go_wp2_with fail
          refine HAT.out.mono ?_; rintro e w1 ⟨rfl, rfl⟩
          go_wp2_with fail
          refine HV.out.mono ?_; rintro e w2 ⟨rfl, hr, hc⟩
          have HR2 := Lib.hid hr
          have HC2 := Lib.hid (hch.out.trans hc)
          have HOW2 := Lib.hid (chO hown.out hc (fun j hj e => by have e : j = g := e; have := (hown.out.lt j hj).1; omega))
          clear hr hc
          go_wp2_with fail
          have HG := Lib.hid (cgood_at HR2.out)
          refine HG.out.mono ?_; rintro e w4 ⟨rfl, hb⟩
          have HR4 := Lib.hid (HR2.out.below hb)
          have HC4 := Lib.hid (HC2.out.trans (Chg.of_pure hb _))
          have HOW4 := Lib.hid (keepO HOW2.out hb)
          clear hb
          go_wp2_with fail
          go_ret
          have hR := HBD.out
          subst hR
          exact ⟨none, 0, rfl, World.ownsRow_nil _ _ _ _, HR4.out, HC4.out⟩
      case neg =>
        have hkp : 0 < k := by omega
        have hkI : (1 : Int) ≤ (k : Int) := by omega
        have hkI0 : (0 : Int) < (k : Int) := by omega
        have hd3 : decide ((0 : Int) < (k : Int)) = true := by simp; omega
        obtain ⟨a, ha⟩ : ∃ a, acc[k - 1]? = some a := ⟨_, List.getElem?_eq_getElem (by have := HACC.out; omega)⟩
        have ha64 : a < 18446744073709551616 := hlt64.out a (List.mem_of_getElem? ha)
        have HA := Lib.hid ha
        have hnx : nx acc[acc.length - 1]? x = a + x + 1 := by rw [HACC.out, ha]; rfl
        have HNX := Lib.hid hnx
        have hx64 := HX64.out
        clear hnx ha
        by_cases hov : 18446744073709551616 ≤ a + x + 1
        case neg =>
          have HY64 : Hid (a + x + 1 < 18446744073709551616) := (by omega : a + x + 1 < 18446744073709551616)
          have s1 : IntKind.u64.wrap ((a : Int) + 1) = (a : Int) + 1 := IntWalk.u64_in _ (by omega)
          have s2 : IntKind.u64.wrap ((x : Int) + ((a : Int) + 1)) = (x : Int) + ((a : Int) + 1) := IntWalk.u64_in _ (by omega)
          have t1 : (((a : Int) + 1) == 0) = false := by simp; omega
          have t2 : decide ((x : Int) + ((a : Int) + 1) < (x : Int)) = false := by simp; omega
          by_cases hF : F2.1 = 0
          case pos =>
            have hq : (F2.1 == 0) = true := by simpa using hF
            have HGD : Hid (R = risF l (n - (k + 1)) q2 F2 (acc ++ [a + x + 1])) := by
              have := HGOOD.out hF (by rw [HNX.out]; exact hov)
              rw [HNX.out] at this
              exact this
            have hyy : (x : Int) + ((a : Int) + 1) = ((a + x + 1 : Nat) : Int) := by omega
            have HYY := Lib.hid hyy
            clear hF hyy
            go_wp2_with fail
            refine HAT.out.mono ?_; rintro e w1 ⟨rfl, rfl⟩
            go_wp2_with fail
            refine HV.out.mono ?_; rintro e w2 ⟨rfl, hr, hc⟩
            have HR2 := Lib.hid hr
            have HC2 := Lib.hid (hch.out.trans hc)
            have HOW2 := Lib.hid (chO hown.out hc (fun j hj e => by have e : j = g := e; have := (hown.out.lt j hj).1; omega))
            clear hr hc
            obtain ⟨bo, hAo, hbo, _, _, hco, _⟩ := own_block HOW2.out hkp
            have hcell := hco (k - 1) (uv a) (by rw [List.getElem?_map, HA.out]; rfl)
            unfold uv at hcell
            have HAo := Lib.hid hAo
            clear hco
            subst hAo
            go_wp2_with fail
            have HG := Lib.hid (cgood_at HR2.out)
            refine HG.out.mono ?_; rintro e w4 ⟨rfl, hb⟩
            have HR4 := Lib.hid (HR2.out.below hb)
            have HC4 := Lib.hid (HC2.out.trans (Chg.of_pure hb _))
            have HOW4 := Lib.hid (keepO HOW2.out hb)
            clear hb
            go_wp2_with (at_builtin; refine wpList_app rfl (.tmp 45) (.tmp 47) _ rfl elem64 rfl (HOW4.out.alloc _) rfl (Src.new w4 (.int .u64 ((x : Int) + ((a : Int) + 1))) _ rfl) (by unfold maxLen; omega) (by omega) (by have := HC4.out.size; simp; omega) ?_; intro A5 c5 w5 ho5 hg5 hat5; have HO5 := Lib.hid ho5; have HG5 := Lib.hid (show w4.grownBy w5 _ from ⟨hg5.os, hg5.tape, hg5.output, by have := hg5.size; simp at this; omega, fun j hj hn => (hg5.block j (by simp; omega) hn).trans (Below.heap_alloc _ _ _ hj)⟩); clear ho5 hg5 hat5)
            have hgn : some g ≠ (Value.slice (some ⟨bo, 0, none⟩) k c).ownBlock := fun e => by have := (HOW4.out.lt g e.symm).1; omega
            go_roundw
            case rel =>
              refine ⟨k + 1, q2, F2, acc ++ [a + x + 1], A5, c5, by omega, by go_num, rfl, by rw [List.length_append, HACC.out]; rfl, HOK2.out, ?_, ?_, ?_, ?_, ?_⟩
              · intro z hz
                rcases List.mem_append.1 hz with hz | hz
                · exact hlt64.out z hz
                · simp only [List.mem_singleton] at hz
                  subst hz
                  exact HY64.out
              · have := HO5.out
                rw [HYY.out] at this
                rw [List.map_append]
                exact this
              · exact HR4.out.keep (fun j hj => HG5.out.block j (by rcases hj with rfl | hj; exact HR4.out.lt; exact HR4.out.dom j hj) (fun e => by
                  rcases hj with rfl | hj
                  · exact hgn e
                  · have h1 := (HOW4.out.lt j e.symm).1
                    have h2 := HRD.out.dom j hj
                    omega)) HG5.out.size
              · exact (Chg.of_grown HG5.out).more' HOW4.out (Nat.le_refl _) HC4.out
              · exact HGD.out.symm
            case measure => simp [intOf]; omega
          case neg =>
            have hq : (F2.1 == 0) = false := by simpa using hF
            have HBD : Hid (R = ([], q2, F2)) := HBAD.out hF
            clear hF
            go_wp2_with fail
            refine HAT.out.mono ?_; rintro e w1 ⟨rfl, rfl⟩
            go_wp2_with fail
            refine HV.out.mono ?_; rintro e w2 ⟨rfl, hr, hc⟩
            have HR2 := Lib.hid hr
            have HC2 := Lib.hid (hch.out.trans hc)
            have HOW2 := Lib.hid (chO hown.out hc (fun j hj e => by have e : j = g := e; have := (hown.out.lt j hj).1; omega))
            clear hr hc
            obtain ⟨bo, hAo, hbo, _, _, hco, _⟩ := own_block HOW2.out hkp
            have hcell := hco (k - 1) (uv a) (by rw [List.getElem?_map, HA.out]; rfl)
            unfold uv at hcell
            have HAo := Lib.hid hAo
            clear hco
            subst hAo
            go_wp2_with fail
            have HG := Lib.hid (cgood_at HR2.out)
            refine HG.out.mono ?_; rintro e w4 ⟨rfl, hb⟩
            have HR4 := Lib.hid (HR2.out.below hb)
            have HC4 := Lib.hid (HC2.out.trans (Chg.of_pure hb _))
            have HOW4 := Lib.hid (keepO HOW2.out hb)
            clear hb
            go_wp2_with fail
            go_ret
            have hR := HBD.out
            subst hR
            exact ⟨none, 0, rfl, World.ownsRow_nil _ _ _ _, HR4.out, HC4.out⟩
        case pos =>
          have HOV : Hid (R = ([], q2, failF F2 13 q)) := HOVER.out (by rw [HNX.out]; exact hov)
          obtain ⟨FF, hFF⟩ : ∃ FF, FF = failF F2 13 (q : Int) := ⟨_, rfl⟩
          have hFFb : (FF.1 == 0) = false := by
            have := failF_bad (f := F2) (c := 13) (a := (q : Int)) (by decide)
            rw [← hFF] at this
            simpa using this
          have HFF := Lib.hid hFF
          rw [← hFF] at HOV
          clear hFF
          by_cases hm : a = 18446744073709551615
          case pos =>
            have s1 : IntKind.u64.wrap ((a : Int) + 1) = 0 := by rw [hm]; rfl
            have t1 : ((0 : Int) == 0) = true := rfl
            have s2 : IntKind.u64.wrap (x : Int) = (x : Int) := IntWalk.u64_in _ (by omega)
            clear hm hov
            go_wp2_with fail
            refine HAT.out.mono ?_; rintro e w1 ⟨rfl, rfl⟩
            go_wp2_with fail
            refine HV.out.mono ?_; rintro e w2 ⟨rfl, hr, hc⟩
            have HR2 := Lib.hid hr
            have HC2 := Lib.hid (hch.out.trans hc)
            have HOW2 := Lib.hid (chO hown.out hc (fun j hj e => by have e : j = g := e; have := (hown.out.lt j hj).1; omega))
            clear hr hc
            obtain ⟨bo, hAo, hbo, _, _, hco, _⟩ := own_block HOW2.out hkp
            have hcell := hco (k - 1) (uv a) (by rw [List.getElem?_map, HA.out]; rfl)
            unfold uv at hcell
            have HAo := Lib.hid hAo
            clear hco
            subst hAo
            go_wp2_with fail
            refine (cfail_at HR2.out 13 _).mono ?_; rintro e w3 ⟨rfl, hr, hc⟩
            rw [← HFF.out] at hr
            have HR3 := Lib.hid hr
            have HC3 := Lib.hid (HC2.out.trans hc)
            have HOW3 := Lib.hid (chO HOW2.out hc (fun j hj e => by have e : j = g := e; have := (HOW2.out.lt j hj).1; omega))
            clear hr hc
            go_wp2_with fail
            have HG := Lib.hid (cgood_at HR3.out)
            refine HG.out.mono ?_; rintro e w4 ⟨rfl, hb⟩
            have HR4 := Lib.hid (HR3.out.below hb)
            have HC4 := Lib.hid (HC3.out.trans (Chg.of_pure hb _))
            have HOW4 := Lib.hid (keepO HOW3.out hb)
            clear hb
            go_wp2_with fail
            go_ret
            have hR := HOV.out
            subst hR
            exact ⟨none, 0, rfl, World.ownsRow_nil _ _ _ _, HR4.out, HC4.out⟩
          case neg =>
            have s1 : IntKind.u64.wrap ((a : Int) + 1) = (a : Int) + 1 := IntWalk.u64_in _ (by omega)
            have s2 : IntKind.u64.wrap ((x : Int) + ((a : Int) + 1)) = (x : Int) + ((a : Int) + 1) - 18446744073709551616 := by rw [IntKind.wrap_u64]; omega
            have t1 : (((a : Int) + 1) == 0) = false := by simp; omega
            have t2 : decide ((x : Int) + ((a : Int) + 1) - 18446744073709551616 < (x : Int)) = true := by simp; omega
            clear hm hov
            go_wp2_with fail
            refine HAT.out.mono ?_; rintro e w1 ⟨rfl, rfl⟩
            go_wp2_with fail
            refine HV.out.mono ?_; rintro e w2 ⟨rfl, hr, hc⟩
            have HR2 := Lib.hid hr
            have HC2 := Lib.hid (hch.out.trans hc)
            have HOW2 := Lib.hid (chO hown.out hc (fun j hj e => by have e : j = g := e; have := (hown.out.lt j hj).1; omega))
            clear hr hc
            obtain ⟨bo, hAo, hbo, _, _, hco, _⟩ := own_block HOW2.out hkp
            have hcell := hco (k - 1) (uv a) (by rw [List.getElem?_map, HA.out]; rfl)
            unfold uv at hcell
            have HAo := Lib.hid hAo
            clear hco
            subst hAo
            go_wp2_with fail
            refine (cfail_at HR2.out 13 _).mono ?_; rintro e w3 ⟨rfl, hr, hc⟩
            rw [← HFF.out] at hr
            have HR3 := Lib.hid hr
            have HC3 := Lib.hid (HC2.out.trans hc)
            have HOW3 := Lib.hid (chO HOW2.out hc (fun j hj e => by have e : j = g := e; have := (HOW2.out.lt j hj).1; omega))
            clear hr hc
            go_wp2_with fail
            have HG := Lib.hid (cgood_at HR3.out)
            refine HG.out.mono ?_; rintro e w4 ⟨rfl, hb⟩
            have HR4 := Lib.hid (HR3.out.below hb)
            have HC4 := Lib.hid (HC3.out.trans (Chg.of_pure hb _))
            have HOW4 := Lib.hid (keepO HOW3.out hb)
            clear hb
            go_wp2_with fail
            go_ret
            have hR := HOV.out
            subst hR
            exact ⟨none, 0, rfl, World.ownsRow_nil _ _ _ _, HR4.out, HC4.out⟩
end
end Go.Proofs.Ytmdgmnaaopineaa
