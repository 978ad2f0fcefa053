/- slices.Compact at numbers. -/
import Derived.Test.YtmdgmnaaopineaaSr11
import Derived.Lib.SliceRun
import Derived.Lib.SlicesCompact
namespace Go.Proofs.Ytmdgmnaaopineaa
open Go.ChangeShapes Go.WideShapes Go.ChangeAt Go.RowKit
set_option linter.unusedVariables false
section
variable {w0 w w1 w2 : World} {blk off : Nat} {d0 d d1 d2 : Array Int}
/-- One place changes its number. -/
theorem SW.set (h : SW w0 w1 blk off d0 d1) {i : Nat} (hi : i < d1.size) (x : Int) {w : World} (hw : w.heap = w1.heap) (ho : w.os = w1.os) (ht : w.tape = w1.tape) (hu : w.output = w1.output) :
    SW w0 (w.setCell ⟨blk, off + i, none⟩ (.int .u64 x)) blk off d0 (d1.setIfInBounds i x) := by
  have hc : Chg (fun k => k = blk) w1 w := ⟨ho, ht, hu, by rw [hw]; exact Nat.le_refl _, fun k _ _ => by rw [hw]⟩
  refine ⟨h.h0, h.lt, by simpa using h.sz, (h.ch.trans hc).setCell (.inl rfl) _, ?_⟩
  rw [← Sort.putRow_set eu w0 blk off d1 i x hi]
  exact setCell_at (a := ⟨blk, off + i, none⟩) (by rw [hw]; exact h.row) _
theorem SW.clear : ∀ (r i : Nat) (w1 : World) (d1 : Array Int), SW w0 w1 blk off d0 d1 → i + r ≤ d1.size →
    ∃ d2, SW w0 (w1.setCells blk (off + i) (List.replicate r (.int .u64 0))) blk off d0 d2 ∧ ∀ j, j < i → d2[j]! = d1[j]!
  | 0, i, w1, d1, h, _ => ⟨d1, h, fun _ _ => rfl⟩
  | r + 1, i, w1, d1, h, hi => by
    have h1 := h.set (i := i) (by omega) 0 (w := w1) rfl rfl rfl rfl
    obtain ⟨d2, h2, h3⟩ := SW.clear r (i + 1) _ _ h1 (by simp; omega)
    refine ⟨d2, ?_, fun j hj => ?_⟩
    · rw [List.replicate_succ]
      exact h2
    · rw [h3 j (by omega), Sort.getElem!_set_other _ _ _ _ (by omega)]
end
theorem elemN8 : Elem Try.prog 46 22 1 8 := Elem.of (z := .int .u64 0) Try.underlying46 (by kernel_rfl) rfl (by decide)
/-- What slices.Compact ends in. -/
def Cpt (w : World) (blk off c n : Nat) (d : Array Int) (e : Ending) (w' : World) : Prop :=
  ∃ d', e = .returned (.slice (some ⟨blk, off, none⟩) (Lib.compactUpTo d n).length c) ∧ SW w w' blk off d d' ∧ ∀ j, j < (Lib.compactUpTo d n).length → (Lib.compactUpTo d n)[j]? = some d'[j]!
theorem cpt_le (d : Array Int) (n : Nat) : (Lib.compactUpTo d n).length ≤ n := by
  unfold Lib.compactUpTo
  rw [List.length_map]
  exact Nat.le_trans (List.length_filter_le _ _) (by simp)
theorem cpt_same {d : Array Int} {n : Nat} (h : ∀ j, j < n → Lib.keeps d j = true) : (Lib.compactUpTo d n).length = n ∧ ∀ j, j < n → (Lib.compactUpTo d n)[j]? = some d[j]! := by
  rw [Lib.compactUpTo_all d n h]
  refine ⟨by simp, fun j hj => ?_⟩
  simp [hj]
set_option maxRecDepth 100000 in
set_option maxHeartbeats 4000000 in
theorem compact_row {blk off c n : Nat} {d : Array Int} {w : World} (hH : Sort.Holds eu w blk off d) (hl : blk < w.heap.size) (hn : d.size = n) (hsz : n < 65536) (h2 : 2 ≤ n) (hnc : n ≤ c) (hcm : c ≤ maxLen) :
    Calls Try.prog 122 #[.slice (some ⟨blk, off, none⟩) n c] w (Cpt w blk off c n d) := by
  have HS := Lib.hid (SW.refl hH hl)
  have HN := Lib.hid hn
  have hd2 : decide ((n : Int) < 2) = false := by simp; omega
  unfold maxLen at hcm
  clear hn hH hl
  go_enter Try.func122, Try.ntmps122
  go_wp2_with fail
  go_loopw [3] (fun vk wr => ∃ k : Nat, 1 ≤ k ∧ k ≤ n ∧ vk = .int .i64 k ∧ Hid (SW w wr blk off d d) ∧ Hid (∀ j, j < k → Lib.keeps d j = true)) (fun vk _ => n - (intOf vk).toNat)
  case atStart => exact ⟨1, Nat.le_refl _, by omega, rfl, HS, Lib.keeps_lt_one d⟩
  case round =>
    obtain ⟨k, hk1, hkn, rfl, hsw, hke⟩ := hrel
    by_cases hlt : k < n
    case neg =>
      have hd : decide (k < n) = false := by simpa using hlt
      obtain rfl : k = n := by omega
      have HC := Lib.hid (cpt_same hke.out)
      go_wp2_with fail
      go_ret
      exact ⟨d, congrArg (fun m => Ending.returned (.slice (some ⟨blk, off, none⟩) m c)) HC.out.1.symm, hsw.out, fun j hj => HC.out.2 j (by rw [HC.out.1] at hj; exact hj)⟩
    case pos =>
      have hd : decide (k < n) = true := by simpa using hlt
      have hdn := HN.out
      obtain ⟨q, hq⟩ : ∃ q, q = k - 1 := ⟨_, rfl⟩
      have hqn : q < n := by omega
      obtain ⟨X, hX⟩ : ∃ X, X = d[k]! := ⟨_, rfl⟩
      obtain ⟨Y, hY⟩ : ∃ X, X = d[q]! := ⟨_, rfl⟩
      have c1 := hsw.out.cell (t := k) (by omega)
      have c2 := hsw.out.cell (t := q) (by omega)
      rw [← hX] at c1
      rw [← hY] at c2
      have y1 : IntKind.i64.wrap ((k : Int) - 1) = (q : Int) := by rw [IntWalk.i64_in _ (by omega)]; omega
      have y1' : (k : Int) - 1 = (q : Int) := by omega
      have HX := Lib.hid hX
      have HY := Lib.hid hY
      have HQ := Lib.hid hq
      clear hX hY hdn hq
      by_cases hxy : X = Y
      case neg =>
        have hb : (X == Y) = false := by simpa using hxy
        have HK : Hid (∀ j, j < k + 1 → Lib.keeps d j = true) := fun j hj => by
          by_cases e : j = k
          · subst e
            exact Lib.keeps_pos (by rw [← HX.out, ← HQ.out, ← HY.out]; exact hxy)
          · exact hke.out j (by omega)
        clear hxy
        go_wp2_with fail
        go_quiet (fail)
        go_wp2_with fail
        go_roundw
        case rel => exact ⟨k + 1, Nat.le_succ_of_le hk1, hlt, by go_num, hsw.out.same rfl rfl rfl rfl, HK⟩
        case measure => clear y1 y1'; simp [intOf]; omega
      case pos =>
        have hb : (X == Y) = true := by simpa using hxy
        have HDUP : Hid (Lib.keeps d k = false) := Lib.keeps_neg hk1 (by rw [← HX.out, ← HQ.out, ← HY.out]; exact hxy)
        have HCI := Lib.hid (Lib.CompInv.start hke.out HDUP.out)
        obtain ⟨N, hN⟩ : ∃ N, N = n - k := ⟨_, rfl⟩
        obtain ⟨C, hC⟩ : ∃ C, C = c - k := ⟨_, rfl⟩
        obtain ⟨off2, ho2⟩ : ∃ o, o = off + k := ⟨_, rfl⟩
        have hsl : ∀ w', (Instr.slice 46 (.slice (some ⟨blk, off, none⟩) n c) (some (.int .i64 (k : Int))) none none).run Try.prog w' = .ok (.slice (some ⟨blk, off2, none⟩) N C) w' := fun w' => by
          rw [run_slice_l (P := Try.prog) w' 46 (some ⟨blk, off, none⟩) n c (by rw [elemN8.elem]; exact elemN8.ht) .i64 (k : Int) (by omega) (by omega), elemN8.elem, elemN8.sizeOf]
          show Result.ok (sliced (some ⟨blk, off, none⟩) (k : Int).toNat n c 1) w' = _
          unfold sliced
          rw [Int.toNat_natCast, if_neg (by omega)]
          show Result.ok (Value.slice (some ((⟨blk, off, none⟩ : Addr).add (k * 1))) (n - k) (c - k)) w' = _
          rw [add_plain, Nat.mul_one, hN, hC, ho2]
        have hN1 : 1 ≤ N := by clear y1 y1'; omega
        have hNn : N ≤ n := by clear y1 y1'; omega
        have HNE := Lib.hid hN
        have HO2 := Lib.hid ho2
        clear hxy hN hC ho2
        go_wp2_with fail
        go_quiet (fail)
        have HSW1 := Lib.hid (hsw.out.same (w := wr.drewN nq) rfl rfl rfl rfl)
        clear c1 c2 y1 y1' hb hd
        generalize World.drewN wr nq = w1 at *
        go_wp2_with fail
        obtain ⟨k0, hk0⟩ : ∃ k0, k0 = k := ⟨_, rfl⟩
        have HK0 := Lib.hid hk0
        clear hk0
        go_loopw [3, 5] (fun vk vj wr => ∃ (m j : Nat) (dk : Array Int), 1 ≤ j ∧ j ≤ N ∧ vk = .int .i64 m ∧ vj = .int .i64 j ∧ Hid (SW w wr blk off d dk) ∧ Hid (Lib.CompInv d (k0 + j) m dk)) (fun _ vj _ => N - (intOf vj).toNat)
        case atStart => exact ⟨k, 1, d, Nat.le_refl _, hN1, rfl, rfl, HSW1, by show Lib.CompInv d (k0 + 1) k d; rw [HK0.out]; exact HCI.out⟩
        case round =>
          clear HCI HDUP HX HY HQ HSW1
          obtain ⟨m, j, dk, hj1, hjN, rfl, rfl, hsw2, hci⟩ := hrel
          by_cases hjn : j < N
          case neg =>
            obtain rfl : j = N := by omega
            have hd : decide (j < j) = false := by simp
            have hkj : k0 + j = n := by have := HK0.out; have := HNE.out; omega
            have hml : (Lib.compactUpTo d n).length = m := by have := hci.out.len; rw [hkj] at this; exact this
            have hmn : m < n := by have := hci.out.lt; omega
            have hdk : dk.size = n := hsw2.out.sz.trans HN.out
            obtain ⟨R, hR⟩ : ∃ R, R = n - m := ⟨_, rfl⟩
            obtain ⟨off3, ho3⟩ : ∃ o, o = off + m := ⟨_, rfl⟩
            obtain ⟨C3, hC3⟩ : ∃ C, C = c - m := ⟨_, rfl⟩
            have hsl3 : ∀ w', (Instr.slice 46 (.slice (some ⟨blk, off, none⟩) n c) (some (.int .i64 (m : Int))) none none).run Try.prog w' = .ok (.slice (some ⟨blk, off3, none⟩) R C3) w' := fun w' => by
              rw [run_slice_l (P := Try.prog) w' 46 (some ⟨blk, off, none⟩) n c (by rw [elemN8.elem]; exact elemN8.ht) .i64 (m : Int) (by omega) (by omega), elemN8.elem, elemN8.sizeOf]
              show Result.ok (sliced (some ⟨blk, off, none⟩) (m : Int).toNat n c 1) w' = _
              unfold sliced
              rw [Int.toNat_natCast, if_neg (by omega)]
              show Result.ok (Value.slice (some ((⟨blk, off, none⟩ : Addr).add (m * 1))) (n - m) (c - m)) w' = _
              rw [add_plain, Nat.mul_one, hR, hC3, ho3]
            obtain ⟨d2, hcl, hlow⟩ := SW.clear R m wr dk hsw2.out (by omega)
            have hrun : ∀ ty, (Builtin.clear_ #[46] ty #[.slice (some ⟨blk, off3, none⟩) R C3]).run Try.prog wr = .ok (.tuple #[]) (wr.setCells blk off3 (List.replicate R (.int .u64 0))) := fun ty => by
              refine Lib.run_clear_slice (P := Try.prog) wr 46 22 ty (.int .u64 0) elemN8.ht Try.zeroValue22 rfl rfl blk off3 R C3 (by omega) (fun j hj => ?_) (fun j hj => ?_)
              · have := hsw2.out.cell (t := m + j) (by omega)
                rw [ho3, Nat.add_assoc, this]; rfl
              · have := hsw2.out.frozen (t := m + j) (by omega)
                rw [ho3, Nat.add_assoc]; exact this
            rw [← ho3] at hcl
            have HCL := Lib.hid hcl
            have HLOW := Lib.hid hlow
            have HML := Lib.hid hml
            have HKJ := Lib.hid hkj
            clear hcl hlow hml hkj hR hC3 ho3 hdk
            go_wp2_with fail
            go_ret
            refine ⟨d2, congrArg (fun q => Ending.returned (.slice (some ⟨blk, off, none⟩) q c)) HML.out.symm, HCL.out, fun q hq => ?_⟩
            have hlw := hci.out.low q (by rw [HML.out] at hq; exact hq)
            rw [HKJ.out] at hlw
            rw [hlw, HLOW.out q (by rw [HML.out] at hq; exact hq)]
          case pos =>
            have hd : decide (j < N) = true := by simpa using hjn
            have hdn := HN.out
            have hko := HK0.out
            have hne := HNE.out
            have hdk : dk.size = n := hsw2.out.sz.trans HN.out
            have hmk : m < k + j := by have := hci.out.lt; omega
            have hkjn : k + j < n := by omega
            have hmn : m < n := by omega
            obtain ⟨q, hq⟩ : ∃ q, q = j - 1 := ⟨_, rfl⟩
            obtain ⟨o1, ho1⟩ : ∃ o, o = off2 + j := ⟨_, rfl⟩
            have hqN : q < N := by omega
            obtain ⟨X, hX⟩ : ∃ X, X = d[k + j]! := ⟨_, rfl⟩
            obtain ⟨Y, hY⟩ : ∃ X, X = d[k + q]! := ⟨_, rfl⟩
            have c1 := hsw2.out.cell (t := k + j) (by omega)
            have c2 := hsw2.out.cell (t := k + q) (by omega)
            have c3 := hsw2.out.cell (t := m) (by omega)
            have z3 := hsw2.out.frozen (t := m) (by omega)
            rw [hci.out.high (k + j) (by omega), ← hX, ← Nat.add_assoc, ← HO2.out] at c1
            rw [hci.out.high (k + q) (by omega), ← hY, ← Nat.add_assoc, ← HO2.out] at c2
            have y1 : IntKind.i64.wrap ((j : Int) - 1) = (q : Int) := by rw [IntWalk.i64_in _ (by omega)]; omega
            have y1' : (j : Int) - 1 = (q : Int) := by clear y1; omega
            have HX := Lib.hid hX
            have HY := Lib.hid hY
            have HQ := Lib.hid hq
            have HDK := Lib.hid hdk
            have hrel1 : k0 + j + 1 = k0 + (j + 1) := by clear y1 y1'; omega
            have HR1 := Lib.hid hrel1
            clear hX hY hdn hko hne hdk hq ho1 o1 hrel1
            by_cases hxy : X = Y
            case pos =>
              have hb : (X != Y) = false := by simpa using hxy
              have HCI : Hid (Lib.CompInv d (k0 + (j + 1)) m dk) := by
                show Lib.CompInv d (k0 + (j + 1)) m dk
                rw [← HR1.out]
                refine hci.out.skip (Lib.keeps_neg (by omega) ?_)
                rw [HK0.out, show k + j - 1 = k + q by have := HQ.out; omega, ← HX.out, ← HY.out]; exact hxy
              clear hxy
              go_wp2_with fail
              go_quiet (fail)
              go_wp2_with fail
              go_roundw
              case rel => exact ⟨m, j + 1, dk, Nat.le_succ_of_le hj1, hjn, rfl, by go_num, hsw2.out.same rfl rfl rfl rfl, HCI⟩
              case measure => clear y1 y1'; simp [intOf]; omega
            case neg =>
              have hb : (X != Y) = true := by simpa using hxy
              have HCI : Hid (Lib.CompInv d (k0 + (j + 1)) (m + 1) (dk.setIfInBounds m X)) := by
                show Lib.CompInv d (k0 + (j + 1)) (m + 1) (dk.setIfInBounds m X)
                have h := hci.out.keep (by rw [HK0.out, HN.out]; exact hkjn) (Lib.keeps_pos (by rw [HK0.out, show k + j - 1 = k + q by have := HQ.out; omega, ← HX.out, ← HY.out]; exact hxy))
                rw [HR1.out, HK0.out, ← HX.out, ← HK0.out] at h
                exact h
              clear hxy
              go_wp2_with fail
              go_quiet (fail)
              have HSW2 := Lib.hid (hsw2.out.same (w := wr.drewN nq) rfl rfl rfl rfl)
              have c1' : (World.drewN wr nq).cell? ⟨blk, off2 + j, none⟩ = some (.int .u64 X) := c1
              have c3' : (World.drewN wr nq).cell? ⟨blk, off + m, none⟩ = _ := c3
              have z3' : (World.drewN wr nq).frozen? ⟨blk, off + m, none⟩ = false := z3
              clear c1 c2 c3 z3
              generalize World.drewN wr nq = w2 at *
              go_wp2_with fail
              go_roundw
              case rel => exact ⟨m + 1, j + 1, dk.setIfInBounds m X, Nat.le_succ_of_le hj1, hjn, by go_num, by go_num, HSW2.out.set (by rw [HDK.out]; exact hmn) X rfl rfl rfl rfl, HCI⟩
              case measure => clear y1 y1'; simp [intOf]; omega
end Go.Proofs.Ytmdgmnaaopineaa
