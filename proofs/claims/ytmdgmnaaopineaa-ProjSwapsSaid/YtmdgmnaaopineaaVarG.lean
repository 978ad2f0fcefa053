/- The reference's number from the front: Get. -/
import Derived.Test.YtmdgmnaaopineaaVarR
import Derived.Test.YtmdgmnaaopineaaCur3
namespace Go.Proofs.Ytmdgmnaaopineaa
open Go.ChangeShapes Go.WideShapes Go.ChangeAt Go.RowKit
set_option linter.unusedVariables false
abbrev gvV (r : Nat × Nat × Flt) : Value := .tuple #[.int .u64 (r.1 : Int), .int .i64 (if r.2.2.1 = 0 then (r.2.1 : Int) else 0), .agg #[.int .i64 r.2.2.1, .int .i64 r.2.2.2]]
theorem dsum_step {l : List UInt8} {k : Nat} {x : UInt8} (h : l[k]? = some x) : dsum l (k + 1) = dsum l k + x.toNat % 128 * 128 ^ k := by
  rw [dsum, List.getD_eq_getElem?_getD, h]; rfl
theorem dsum_64 {l : List UInt8} {k : Nat} {x : UInt8} (h : l[k]? = some x) (hk : k ≤ 9) (h9 : ¬ (k = 9 ∧ 1 < x.toNat)) : dsum l (k + 1) < 18446744073709551616 := by
  have hd := dsum_lt l k
  rw [dsum_step h]
  have hpn : (128 : Nat) ^ k ≤ 128 ^ 9 := Nat.pow_le_pow_right (by decide) hk
  rw [pow_9] at hpn
  by_cases h : k = 9
  · have h1 : x.toNat ≤ 1 := by omega
    subst h
    rw [pow_9] at hd ⊢
    have : x.toNat % 128 ≤ 1 := by omega
    omega
  · have h1 : x.toNat % 128 * 128 ^ k ≤ 127 * 128 ^ k := Nat.mul_le_mul_right _ (by omega)
    have h3 : (128 : Nat) ^ (k + 1) ≤ 128 ^ 9 := Nat.pow_le_pow_right (by decide) (by omega)
    rw [Nat.pow_succ, pow_9] at h3
    omega
/-- One digit more, from the highest on. -/
theorem dsum_back {l : List UInt8} {q y T : Nat} {x : UInt8} (h : l[q]? = some x) (hy : y * 128 ^ (q + 1) + dsum l (q + 1) = T) : (128 * y + x.toNat % 128) * 128 ^ q + dsum l q = T := by
  rw [dsum_step h, Nat.pow_succ] at hy
  rw [← hy, Nat.add_mul, Nat.mul_comm (128 ^ q) 128, ← Nat.mul_assoc, Nat.mul_comm y 128]
  omega
theorem dsum_le {l : List UInt8} {q y T : Nat} (hy : y * 128 ^ q + dsum l q = T) : y ≤ T := by
  have : y * 1 ≤ y * 128 ^ q := Nat.mul_le_mul_left _ (Nat.pow_pos (by decide))
  omega
set_option maxRecDepth 100000 in
set_option maxHeartbeats 8000000 in
theorem rget_any {D : Dom} {A : Option Addr} {n c : Nat} {l : List UInt8} {w : World} (h : rpU8.sl w D A n c l) (hD : ∀ k, D k → k < w.heap.size) (hn : n ≤ 1000000000) :
    Calls Try.prog 133 #[.slice A n c] w fun e w' => e = .returned (gvV (vrd l 0)) ∧ Below w.heap.size w w' := by
  have H : Hid ((Try.prog.info? 40).map (·.size) = some 2) := by unfold Hid; kernel_rfl
  obtain ⟨hlen, hnc, hcm⟩ := Rp.sl_len h
  unfold maxLen at hcm
  have HH := Lib.hid h
  have HD := Lib.hid hD
  have HL := Lib.hid hlen
  obtain ⟨G, hG⟩ : ∃ G, G = vrd l 0 := ⟨_, rfl⟩
  have HG := Lib.hid hG
  rw [← hG]
  have HB0 := Lib.hid ((Below.refl w.heap.size w).alloc (Nat.le_refl _) (.cells #[.int .i64 0, .int .i64 0] 40))
  have HK0 := Lib.hid (Blk.new w 40 #[.int .i64 0, .int .i64 0])
  clear h hlen hD hG
  go_enter Try.func133, Try.ntmps133
  go_wp2_with fail
  go_loopw [5] (fun ii wr => ∃ k : Nat, k ≤ n ∧ k ≤ 9 ∧ ii = .int .i64 (k : Int) ∧ Hid (vgo l 0 (10 - k) k (dsum l k) = vrd l 0) ∧ Hid (Blk wr w.heap.size 40 #[.int .i64 0, .int .i64 0]) ∧ Hid (Below w.heap.size w wr)) (fun ii _ => n - (intOf ii).toNat)
  case atStart => exact ⟨0, by omega, by omega, rfl, rfl, HK0.out, HB0.out⟩
  case round =>
    obtain ⟨k, hk, hk9, rfl, hvg, hblk, hbw⟩ := hrel
    have hzw := hbw.out.size
    rcases Nat.lt_or_ge k n with hlt | hge
    case inr =>
      have hd : decide (k < n) = false := by simp; omega
      have hkn : k = n := by omega
      subst hkn
      go_wp2_with fail
      refine (rat_any 1 _ _).mono ?_; rintro e w1 ⟨rfl, hb1⟩
      have HK1 := Lib.hid (hblk.out.below hb1 hblk.out.lt)
      have HB1 := Lib.hid (hbw.out.trans (hb1.mono hzw))
      clear hb1
      rw [failF_set rfl (by decide)]
      go_wp2_with (refine wpList_put_row rfl 40 (.tmp 4) (.tmp 61) rfl w.heap.size #[.int .i64 1, .int .i64 (k : Int)] rfl rfl 40 _ HK1.out H.out rfl (by simp [Value.oneCell']) ?_; intro w3 hblk3 hgr)
      have hbz : Below w.heap.size w w3 := HB1.out.grown hgr HB1.out.size (fun k hk => by injection hk with hk; omega)
      have e0 := hblk3.cell 0
      have e1 := hblk3.cell 1
      have hG2 : G = (0, k, (1, (k : Int))) := by
        rw [HG.out, ← hvg.out]
        obtain ⟨m, hm⟩ : ∃ m, 10 - k = m + 1 := ⟨9 - k, by omega⟩
        rw [hm, vgo_none (by rw [Nat.zero_add]; exact List.getElem?_eq_none (by rw [HL.out]; exact Nat.le_refl _)), HL.out, Nat.zero_add]
      rw [hG2]
      refine bodyPost_ret (v := .tuple #[.int .u64 0, .int .i64 0, .agg #[.int .i64 1, .int .i64 (k : Int)]]) (by simp [results, Try.results133, go_sem, e0, e1]) rfl ⟨rfl, hbz⟩
    case inl =>
      have hd : decide (k < n) = true := by simp; omega
      obtain ⟨b, off, x, rfl, hDb, hx, hcell⟩ := bytes_at (Rp.sl_below HH.out hbw.out HD.out) hlt
      have hxl := x.toNat_lt
      have HX := Lib.hid hx
      obtain ⟨m, hm⟩ : ∃ m, 10 - k = m + 1 := ⟨9 - k, by omega⟩
      rw [hm] at hvg
      have hx0 : l[0 + k]? = some x := by rw [Nat.zero_add]; exact hx
      have HX0 := Lib.hid hx0
      have HM := Lib.hid hm
      have hk0 : (0 : Int) ≤ (k : Int) := by omega
      have hk1 : (k : Int) < (n : Int) := by omega
      have HMM := Lib.hid hm
      clear hx hx0 hm
      by_cases hA : k = 9 ∧ 1 < x.toNat
      · have HG2 : Hid (G = (0, k + 1, (5, (k : Int)))) := by
          have := hvg.out
          rw [vgo_over HX0.out hA.1 hA.2, Nat.zero_add] at this
          exact HG.out.trans this.symm
        have hd2 : decide ((1 : Int) < (x.toNat : Int)) = true := by simp; omega
        have hq : ((k : Int) == 9) = true := by simp; omega
        clear hA
        go_wp2_with fail
        refine (rat_any 5 _ _).mono ?_; rintro e w1 ⟨rfl, hb1⟩
        have HK1 := Lib.hid (hblk.out.below hb1 hblk.out.lt)
        have HB1 := Lib.hid (hbw.out.trans (hb1.mono hzw))
        clear hb1
        rw [failF_set rfl (by decide)]
        go_wp2_with (refine wpList_put_row rfl 40 (.tmp 4) (.tmp 24) rfl w.heap.size #[.int .i64 5, .int .i64 (k : Int)] rfl rfl 40 _ HK1.out H.out rfl (by simp [Value.oneCell']) ?_; intro w3 hblk3 hgr)
        have hbz : Below w.heap.size w w3 := HB1.out.grown hgr HB1.out.size (fun k hk => by injection hk with hk; omega)
        have e0 := hblk3.cell 0
        have e1 := hblk3.cell 1
        rw [HG2.out]
        refine bodyPost_ret (v := .tuple #[.int .u64 0, .int .i64 0, .agg #[.int .i64 5, .int .i64 (k : Int)]]) (by simp [results, Try.results133, go_sem, e0, e1]) rfl ⟨rfl, hbz⟩
      · by_cases hB : x.toNat = 0 ∧ 0 < k
        · have HG2 : Hid (G = (0, k + 1, (4, (k : Int)))) := by
            have := hvg.out
            rw [vgo_zero HX0.out hA hB.1 hB.2, Nat.zero_add] at this
            exact HG.out.trans this.symm
          have hd2 : decide ((1 : Int) < (x.toNat : Int)) = false := by simp; omega
          have hd3 : decide (0 < k) = true := by simp; omega
          have hq2 : ((x.toNat : Int) == 0) = true := by simp; omega
          clear hA hB
          rcases Bool.eq_false_or_eq_true ((k : Int) == 9) with hq | hq
          all_goals
            go_wp2_with fail
            refine (rat_any 4 _ _).mono ?_; rintro e w1 ⟨rfl, hb1⟩
            have HK1 := Lib.hid (hblk.out.below hb1 hblk.out.lt)
            have HB1 := Lib.hid (hbw.out.trans (hb1.mono hzw))
            clear hb1
            rw [failF_set rfl (by decide)]
            go_wp2_with (refine wpList_put_row rfl 40 (.tmp 4) (.tmp 35) rfl w.heap.size #[.int .i64 4, .int .i64 (k : Int)] rfl rfl 40 _ HK1.out H.out rfl (by simp [Value.oneCell']) ?_; intro w3 hblk3 hgr)
            have hbz : Below w.heap.size w w3 := HB1.out.grown hgr HB1.out.size (fun k hk => by injection hk with hk; omega)
            have e0 := hblk3.cell 0
            have e1 := hblk3.cell 1
            rw [HG2.out]
            refine bodyPost_ret (v := .tuple #[.int .u64 0, .int .i64 0, .agg #[.int .i64 4, .int .i64 (k : Int)]]) (by simp [results, Try.results133, go_sem, e0, e1]) rfl ⟨rfl, hbz⟩
        · by_cases hC : 128 ≤ x.toNat
          · have hq : ((k : Int) == 9) = false := by simp; omega
            have hq2 : ((x.toNat : Int) == 0) = false := by simp; omega
            have hd5 : decide ((x.toNat : Int) < 128) = false := by simp; omega
            have hvg2 : Hid (vgo l 0 (10 - (k + 1)) (k + 1) (dsum l (k + 1)) = vrd l 0) := by
              have := hvg.out
              rw [vgo_more HX0.out hA hC, ← dsum_step HX.out] at this
              rw [show 10 - (k + 1) = m by have := HM.out; omega]
              exact this
            have hk8 : k + 1 ≤ 9 := by
              rcases Nat.lt_or_ge k 9 with h | h
              · omega
              · exact absurd ⟨by omega, by omega⟩ hA
            clear hA hB hC
            rcases Bool.eq_false_or_eq_true (decide (0 < k)) with hr | hr
            all_goals
              go_wp2_with fail
              go_roundw
              case rel => exact ⟨k + 1, by omega, hk8, by go_num, hvg2.out, hblk.out, hbw.out⟩
              case measure => simp only [intOf]; omega
          · have hd5 : decide ((x.toNat : Int) < 128) = true := by simp; omega
            have hT := dsum_64 HX.out hk9 hA
            obtain ⟨T, hTT⟩ : ∃ T, T = dsum l (k + 1) := ⟨_, rfl⟩
            rw [← hTT] at hT
            have HT := Lib.hid hTT
            have HG2 : Hid (G = (T, k + 1, (0, 0))) := by
              have := hvg.out
              rw [vgo_last HX0.out hA hB hC, ← dsum_step HX.out, ← hTT, Nat.zero_add] at this
              exact HG.out.trans this.symm
            have hcase : (((k : Int) == 9) = true ∧ decide ((1 : Int) < (x.toNat : Int)) = false ∧ decide (0 < k) = true ∧ ((x.toNat : Int) == 0) = false) ∨ (((k : Int) == 9) = false ∧ decide (0 < k) = true ∧ ((x.toNat : Int) == 0) = false) ∨ (((k : Int) == 9) = false ∧ decide (0 < k) = false) := by
              rcases Nat.eq_zero_or_pos k with h0 | h0
              · exact .inr (.inr ⟨by simp; omega, by simp; omega⟩)
              · rcases Nat.lt_or_ge k 9 with h9 | h9
                · exact .inr (.inl ⟨by simp; omega, by simp; omega, by simp; omega⟩)
                · exact .inl ⟨by simp; omega, by simp; omega, by simp; omega, by simp; omega⟩
            clear hTT hA hB hC
            rcases hcase with ⟨hq, hd2, hr, hq2⟩ | ⟨hq, hr, hq2⟩ | ⟨hq, hr⟩
            all_goals
              go_wp2_with fail
              go_loopw [6, 7] (fun xx jj wr2 => ∃ y j : Nat, j ≤ k + 1 ∧ y < 18446744073709551616 ∧ xx = .int .u64 (y : Int) ∧ jj = .int .i64 ((j : Int) - 1) ∧ Hid (y * 128 ^ j + dsum l j = T) ∧ Hid (Blk wr2 w.heap.size 40 #[.int .i64 0, .int .i64 0]) ∧ Hid (Below w.heap.size w wr2)) (fun _ jj _ => (intOf jj + 1).toNat)
              case atStart => exact ⟨0, k + 1, Nat.le_refl _, by decide, rfl, by go_num, by show 0 * 128 ^ (k + 1) + dsum l (k + 1) = T; rw [HT.out]; omega, hblk.out, hbw.out⟩
              case round =>
                obtain ⟨y, j, hj, hy64, rfl, rfl, hyj, hblk2, hbw2⟩ := hrel
                have hzw2 := hbw2.out.size
                rcases Nat.eq_zero_or_pos j with h0 | h0
                · subst h0
                  have hyT : y = T := by have := hyj.out; simpa [dsum] using this
                  subst hyT
                  go_wp2_with (refine wpList_put_row rfl 40 (.tmp 4) (.tmp 58) rfl w.heap.size #[.int .i64 0, .int .i64 0] rfl rfl 40 _ hblk2.out H.out rfl (by simp [Value.oneCell']) ?_; intro w3 hblk3 hgr)
                  have hbz : Below w.heap.size w w3 := hbw2.out.grown hgr hzw2 (fun k hk => by injection hk with hk; omega)
                  have e0 := hblk3.cell 0
                  have e1 := hblk3.cell 1
                  rw [HG2.out]
                  refine bodyPost_ret (v := .tuple #[.int .u64 (y : Int), .int .i64 ((k + 1 : Nat) : Int), .agg #[.int .i64 0, .int .i64 0]]) (by simp [results, Try.results133, go_sem, e0, e1]) rfl ⟨rfl, hbz⟩
                · obtain ⟨q, rfl⟩ : ∃ q, j = q + 1 := ⟨j - 1, by omega⟩
                  obtain ⟨b', off', z, hAA, hDb', hz, hcell'⟩ := bytes_at (Rp.sl_below HH.out hbw2.out HD.out) (show q < n by omega)
                  injection hAA with hAA
                  injection hAA with hA1 hA2
                  subst hA1; subst hA2
                  have hzl := z.toNat_lt
                  have hnew := dsum_back hz hyj.out
                  have hle := dsum_le hnew
                  have hy1 : 128 * y + z.toNat % 128 < 18446744073709551616 := by omega
                  have hy2 : 128 * y < 18446744073709551616 := by omega
                  have HNEW := Lib.hid hnew
                  have hqn : q < n := by omega
                  clear hnew hle hz
                  go_wp2_with fail
                  go_roundw
                  case rel => exact ⟨128 * y + z.toNat % 128, q, by omega, hy1, by go_num, by go_num, HNEW.out, hblk2.out, hbw2.out⟩
                  case measure => simp only [intOf]; omega
end Go.Proofs.Ytmdgmnaaopineaa
