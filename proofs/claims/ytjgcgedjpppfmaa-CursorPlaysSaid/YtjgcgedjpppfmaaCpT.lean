/- A further step of the law CursorPlays. -/
import Derived.Test.YtjgcgedjpppfmaaCpM
namespace Go.Proofs.Ytjgcgedjpppfmaa
open Go.ChangeShapes Go.WideShapes Go.ChangeAt Go.RowKit
set_option linter.unusedVariables false
section
variable {w : World} {D : Dom} {A : Option Addr} {c g : Nat} {l : List UInt8} {p : Nat} {f : Flt} {m x : Int}
set_option maxRecDepth 100000 in
set_option maxHeartbeats 4000000 in
theorem cstep_5 (hr : Rd w D g l p f) (hs : Sl rpU8 w D A l.length c l) (hn : l.length ≤ 300) (m0 : -9223372036854775808 ≤ m) (m1 : m ≤ 9223372036854775807) (x0 : -9223372036854775808 ≤ x) (x1 : x ≤ 9223372036854775807) :
    Calls Try.prog 40 #[.pointer (some ⟨g, 0, none⟩), .agg (rdV A l.length c p f), .agg #[.int .i64 5, .int .i64 m, .int .i64 x]] w (StepIs w D A c g l) := by
  have H : Hid ((Try.prog.info? 68).map (·.size) = some 4) := by unfold Hid; kernel_rfl
  have HF := Lib.hid (StF.start (kd := 5) (m := m) (x := x) hr hs)
  have hp := hr.le
  clear hr hs
  go_enter Try.func40, Try.ntmps40
  go_upto_region 1 with (fail)
  generalize hb0 : w.heap.size = b0 at *
  generalize World.alloc (World.alloc (World.alloc w _) _) _ = w0 at *
  clear hb0
  have q0 := HF.out.kc.cell 0
  have q1 := HF.out.kc.cell 1
  have q2 := HF.out.kc.cell 2
  have q3 := HF.out.kc.cell 3
  have d0 := HF.out.kdo.cell 0
  have d1 := HF.out.kdo.cell 1
  have d2 := HF.out.kdo.cell 2
  have HL := Lib.hid (Rp.sl_len HF.out.sl.1)
  by_cases hm : 0 ≤ m ∧ m ≤ p
  case pos =>
    obtain ⟨k, rfl⟩ : ∃ k : Nat, m = k := ⟨m.toNat, by omega⟩
    have HIF : Hid ((if (0 : Int) ≤ (k : Int) ∧ (k : Int) ≤ (p : Int) then (l.take p).drop (k : Int).toNat else []) = (l.take p).drop k) := by
      show (if (0 : Int) ≤ (k : Int) ∧ (k : Int) ≤ (p : Int) then (l.take p).drop (k : Int).toNat else []) = _
      rw [if_pos hm, Int.toNat_natCast]
    have hkp : k ≤ p := by omega
    have dkp : decide (k ≤ p) = true := by simpa using hkp
    have hkn : p - k ≤ 300 := by omega
    obtain ⟨A', hcut, hsl2⟩ := run_cut_lh elemU HF.out.sl.1 rfl (k : Int) (p : Int) (by omega) (by omega) (by omega)
    rw [Int.toNat_natCast, Int.toNat_natCast] at hcut hsl2
    have HSR := Lib.hid (Src.bytes hsl2)
    clear hsl2 hm
    go_wp2_with (at_builtin; refine wpList_app rfl (.tmp 117) (.tmp 124) _ rfl elemU rfl (show World.ownsRow _ w0.heap.size 5 1 (.slice none 0 0) 0 (List.map bv []) from World.ownsRow_nil _ _ _ _) rfl HSR.out (by unfold maxLen; omega) (by omega) (Nat.le_refl _) ?_; intro A1 c1 w1 ho1 hg1 hat1
                 change World.grownBy _ _ none at hg1
                 have hb1 : Below w0.heap.size w0 w1 := (Below.refl _ _).grown hg1 (Nat.le_refl _) (fun k hk => by cases hk)
                 have HF1 := Lib.hid (HF.out.below hb1)
                 rw [Nat.zero_add, ← List.map_append, List.nil_append] at ho1
                 have HS1 := Lib.hid (ownS ho1)
                 clear ho1 hg1 hat1 hb1)
    clear q0 q1 q2 q3 d0 d1 d2
    have v0 := HF1.out.kc.cell 0
    have v1 := HF1.out.kc.cell 1
    have v2 := HF1.out.kc.cell 2
    have v3 := HF1.out.kc.cell 3
    have v4 := HF1.out.kdo.cell 1
    go_wp2_with fail
    go_region_held3 (fun w' => w'.cell? ⟨b0, 0, none⟩ = some (.slice A l.length c) ∧ w'.cell? ⟨b0, 1, none⟩ = some (.int .i64 (p : Int)) ∧ w'.cell? ⟨b0, 2, none⟩ = some (.int .i64 f.1) ∧ w'.cell? ⟨b0, 3, none⟩ = some (.int .i64 f.2) ∧ w'.cell? ⟨b0 + 1, 1, none⟩ = some (.int .i64 (k : Int))) (first | exact ⟨t0, t1, t2, t3, t4⟩ | exact ⟨u0, u1, u2, u3, u4⟩ | exact ⟨v0, v1, v2, v3, v4⟩)
      ((first
        | (go_at_call 39; refine (csince_at (rdDrew HF1.out.r) (k : Int) (by omega) (by omega) (by omega)).mono ?_; rintro e w3 ⟨A3, n3, c3, rfl, ho3, hb3'⟩
           have hb3 : Below w1.heap.size w1 w3 := ⟨hb3'.os, hb3'.tape, hb3'.output, hb3'.size, hb3'.block⟩
           rw [HIF.out] at ho3
           have HF3 := Lib.hid (HF1.out.below hb3)
           have hsm := same_any _ _ _ _ _ _ _ _ _ _ _ (own_bytes ho3) ((keepS HS1.out hb3).1)
           rw [beq_self_eq_true] at hsm
           have HSM := Lib.hid hsm
           clear hsm ho3 hb3'
           have t0 := HF3.out.kc.cell 0
           have t1 := HF3.out.kc.cell 1
           have t2 := HF3.out.kc.cell 2
           have t3 := HF3.out.kc.cell 3
           have t4 := HF3.out.kdo.cell 1
           have hy := far4 HF3.out.kc (show b0 ≠ b0 + 1 + 1 by omega) (.slice A l.length c) (.int .i64 (p : Int)) (.int .i64 f.1) (.int .i64 f.2)
           have u0 := hy.cell 0
           have u1 := hy.cell 1
           have u2 := hy.cell 2
           have u3 := hy.cell 3
           have u4 := (far4 HF3.out.kdo (show b0 + 1 ≠ b0 + 1 + 1 by omega) (.slice A l.length c) (.int .i64 (p : Int)) (.int .i64 f.1) (.int .i64 f.2)).cell 1
           clear hy
           have r0 := HF3.out.kr.cell 0
           have r1 := HF3.out.kr.cell 1
           have r2 := HF3.out.kr.cell 2
           have r3 := HF3.out.kr.cell 3
           have s0 := HF3.out.kr.frozen 0
           have s1 := HF3.out.kr.frozen 1
           have s2 := HF3.out.kr.frozen 2
           have s3 := HF3.out.kr.frozen 3
           clear hb3)
        | (go_at_call 12; refine HSM.out.mono ?_; rintro e w4 ⟨rfl, rfl⟩)))
    go_wp2_with fail
    all_goals
      obtain ⟨hk, hrz, hcz⟩ := HF3.out.out4 (.slice A l.length c) (.int .i64 p) (.int .i64 f.1) (.int .i64 f.2)
      have e0 := hk.cell 0
      have e1 := hk.cell 1
      have e2 := hk.cell 2
      have e3 := hk.cell 3
      first
        | refine bodyPost_ret (v := .tuple #[.agg (rdV A l.length c p f), .bool true]) (by simp [results, Try.results40, go_sem, e0, e1, e2, e3]) rfl ⟨p, f, rfl, hrz, hcz⟩
        | refine bodyPost_ret (v := .tuple #[.agg (rdV A l.length c p f), .bool true]) (by simp [results, Try.results40, go_sem, e0, e1, e2, e3]) rfl ⟨p, f, rfl, rdDrew hrz, hcz.drew⟩

  case neg =>
    have HIF : Hid ((if 0 ≤ m ∧ m ≤ (p : Int) then (l.take p).drop m.toNat else []) = ([] : List UInt8)) := by
      show (if 0 ≤ m ∧ m ≤ (p : Int) then (l.take p).drop m.toNat else []) = _
      rw [if_neg hm]
    by_cases h0 : 0 ≤ m
    case pos =>
      have dk0 : decide (0 ≤ m) = true := by simpa using h0
      have dkp : decide (m ≤ (p : Int)) = false := by simp; omega
      clear hm
      go_wp2_with fail
      clear q0 q1 q2 q3 d0 d1 d2
      have v0 := HF.out.kc.cell 0
      have v1 := HF.out.kc.cell 1
      have v2 := HF.out.kc.cell 2
      have v3 := HF.out.kc.cell 3
      have v4 := HF.out.kdo.cell 1
      go_wp2_with fail
      go_region_held3 (fun w' => w'.cell? ⟨b0, 0, none⟩ = some (.slice A l.length c) ∧ w'.cell? ⟨b0, 1, none⟩ = some (.int .i64 (p : Int)) ∧ w'.cell? ⟨b0, 2, none⟩ = some (.int .i64 f.1) ∧ w'.cell? ⟨b0, 3, none⟩ = some (.int .i64 f.2) ∧ w'.cell? ⟨b0 + 1, 1, none⟩ = some (.int .i64 m)) (first | exact ⟨t0, t1, t2, t3, t4⟩ | exact ⟨u0, u1, u2, u3, u4⟩ | exact ⟨v0, v1, v2, v3, v4⟩)
        ((first
          | (go_at_call 39; refine (csince_at (rdDrew HF.out.r) m (by omega) (by omega) (by omega)).mono ?_; rintro e w3 ⟨A3, n3, c3, rfl, ho3, hb3'⟩
             have hb3 : Below w0.heap.size w0 w3 := ⟨hb3'.os, hb3'.tape, hb3'.output, hb3'.size, hb3'.block⟩
             rw [HIF.out] at ho3
             have HF3 := Lib.hid (HF.out.below hb3)
             have hsm := same_any _ _ _ _ _ _ _ _ _ _ _ (own_bytes ho3) (Rp.sl_nil rpU8 w3 (fun _ => False) none 0 (by decide))
             rw [beq_self_eq_true] at hsm
             have HSM := Lib.hid hsm
             clear hsm ho3 hb3'
             have t0 := HF3.out.kc.cell 0
             have t1 := HF3.out.kc.cell 1
             have t2 := HF3.out.kc.cell 2
             have t3 := HF3.out.kc.cell 3
             have t4 := HF3.out.kdo.cell 1
             have hy := far4 HF3.out.kc (show b0 ≠ b0 + 1 + 1 by omega) (.slice A l.length c) (.int .i64 (p : Int)) (.int .i64 f.1) (.int .i64 f.2)
             have u0 := hy.cell 0
             have u1 := hy.cell 1
             have u2 := hy.cell 2
             have u3 := hy.cell 3
             have u4 := (far4 HF3.out.kdo (show b0 + 1 ≠ b0 + 1 + 1 by omega) (.slice A l.length c) (.int .i64 (p : Int)) (.int .i64 f.1) (.int .i64 f.2)).cell 1
             clear hy
             have r0 := HF3.out.kr.cell 0
             have r1 := HF3.out.kr.cell 1
             have r2 := HF3.out.kr.cell 2
             have r3 := HF3.out.kr.cell 3
             have s0 := HF3.out.kr.frozen 0
             have s1 := HF3.out.kr.frozen 1
             have s2 := HF3.out.kr.frozen 2
             have s3 := HF3.out.kr.frozen 3
             clear hb3)
          | (go_at_call 12; refine HSM.out.mono ?_; rintro e w4 ⟨rfl, rfl⟩)))
      go_wp2_with fail
      all_goals
        obtain ⟨hk, hrz, hcz⟩ := HF3.out.out4 (.slice A l.length c) (.int .i64 p) (.int .i64 f.1) (.int .i64 f.2)
        have e0 := hk.cell 0
        have e1 := hk.cell 1
        have e2 := hk.cell 2
        have e3 := hk.cell 3
        first
          | refine bodyPost_ret (v := .tuple #[.agg (rdV A l.length c p f), .bool true]) (by simp [results, Try.results40, go_sem, e0, e1, e2, e3]) rfl ⟨p, f, rfl, hrz, hcz⟩
          | refine bodyPost_ret (v := .tuple #[.agg (rdV A l.length c p f), .bool true]) (by simp [results, Try.results40, go_sem, e0, e1, e2, e3]) rfl ⟨p, f, rfl, rdDrew hrz, hcz.drew⟩

    case neg =>
      have dk0 : decide (0 ≤ m) = false := by simpa using h0
      clear hm
      go_wp2_with fail
      clear q0 q1 q2 q3 d0 d1 d2
      have v0 := HF.out.kc.cell 0
      have v1 := HF.out.kc.cell 1
      have v2 := HF.out.kc.cell 2
      have v3 := HF.out.kc.cell 3
      have v4 := HF.out.kdo.cell 1
      go_wp2_with fail
      go_region_held3 (fun w' => w'.cell? ⟨b0, 0, none⟩ = some (.slice A l.length c) ∧ w'.cell? ⟨b0, 1, none⟩ = some (.int .i64 (p : Int)) ∧ w'.cell? ⟨b0, 2, none⟩ = some (.int .i64 f.1) ∧ w'.cell? ⟨b0, 3, none⟩ = some (.int .i64 f.2) ∧ w'.cell? ⟨b0 + 1, 1, none⟩ = some (.int .i64 m)) (first | exact ⟨t0, t1, t2, t3, t4⟩ | exact ⟨u0, u1, u2, u3, u4⟩ | exact ⟨v0, v1, v2, v3, v4⟩)
        ((first
          | (go_at_call 39; refine (csince_at (rdDrew HF.out.r) m (by omega) (by omega) (by omega)).mono ?_; rintro e w3 ⟨A3, n3, c3, rfl, ho3, hb3'⟩
             have hb3 : Below w0.heap.size w0 w3 := ⟨hb3'.os, hb3'.tape, hb3'.output, hb3'.size, hb3'.block⟩
             rw [HIF.out] at ho3
             have HF3 := Lib.hid (HF.out.below hb3)
             have hsm := same_any _ _ _ _ _ _ _ _ _ _ _ (own_bytes ho3) (Rp.sl_nil rpU8 w3 (fun _ => False) none 0 (by decide))
             rw [beq_self_eq_true] at hsm
             have HSM := Lib.hid hsm
             clear hsm ho3 hb3'
             have t0 := HF3.out.kc.cell 0
             have t1 := HF3.out.kc.cell 1
             have t2 := HF3.out.kc.cell 2
             have t3 := HF3.out.kc.cell 3
             have t4 := HF3.out.kdo.cell 1
             have hy := far4 HF3.out.kc (show b0 ≠ b0 + 1 + 1 by omega) (.slice A l.length c) (.int .i64 (p : Int)) (.int .i64 f.1) (.int .i64 f.2)
             have u0 := hy.cell 0
             have u1 := hy.cell 1
             have u2 := hy.cell 2
             have u3 := hy.cell 3
             have u4 := (far4 HF3.out.kdo (show b0 + 1 ≠ b0 + 1 + 1 by omega) (.slice A l.length c) (.int .i64 (p : Int)) (.int .i64 f.1) (.int .i64 f.2)).cell 1
             clear hy
             have r0 := HF3.out.kr.cell 0
             have r1 := HF3.out.kr.cell 1
             have r2 := HF3.out.kr.cell 2
             have r3 := HF3.out.kr.cell 3
             have s0 := HF3.out.kr.frozen 0
             have s1 := HF3.out.kr.frozen 1
             have s2 := HF3.out.kr.frozen 2
             have s3 := HF3.out.kr.frozen 3
             clear hb3)
          | (go_at_call 12; refine HSM.out.mono ?_; rintro e w4 ⟨rfl, rfl⟩)))
      go_wp2_with fail
      all_goals
        obtain ⟨hk, hrz, hcz⟩ := HF3.out.out4 (.slice A l.length c) (.int .i64 p) (.int .i64 f.1) (.int .i64 f.2)
        have e0 := hk.cell 0
        have e1 := hk.cell 1
        have e2 := hk.cell 2
        have e3 := hk.cell 3
        first
          | refine bodyPost_ret (v := .tuple #[.agg (rdV A l.length c p f), .bool true]) (by simp [results, Try.results40, go_sem, e0, e1, e2, e3]) rfl ⟨p, f, rfl, hrz, hcz⟩
          | refine bodyPost_ret (v := .tuple #[.agg (rdV A l.length c p f), .bool true]) (by simp [results, Try.results40, go_sem, e0, e1, e2, e3]) rfl ⟨p, f, rfl, rdDrew hrz, hcz.drew⟩
set_option maxRecDepth 100000 in
set_option maxHeartbeats 4000000 in
theorem cstep_6 (hr : Rd w D g l p f) (hs : Sl rpU8 w D A l.length c l) (hn : l.length ≤ 300) (m0 : -9223372036854775808 ≤ m) (m1 : m ≤ 9223372036854775807) (x0 : -9223372036854775808 ≤ x) (x1 : x ≤ 9223372036854775807) :
    Calls Try.prog 40 #[.pointer (some ⟨g, 0, none⟩), .agg (rdV A l.length c p f), .agg #[.int .i64 6, .int .i64 m, .int .i64 x]] w (StepIs w D A c g l) := by
  have H : Hid ((Try.prog.info? 68).map (·.size) = some 4) := by unfold Hid; kernel_rfl
  have HF := Lib.hid (StF.start (kd := 6) (m := m) (x := x) hr hs)
  have hp := hr.le
  clear hr hs
  go_enter Try.func40, Try.ntmps40
  go_upto_region 1 with (fail)
  generalize hb0 : w.heap.size = b0 at *
  generalize World.alloc (World.alloc (World.alloc w _) _) _ = w0 at *
  clear hb0
  have q0 := HF.out.kc.cell 0
  have q1 := HF.out.kc.cell 1
  have q2 := HF.out.kc.cell 2
  have q3 := HF.out.kc.cell 3
  have d0 := HF.out.kdo.cell 0
  have d1 := HF.out.kdo.cell 1
  have d2 := HF.out.kdo.cell 2
  obtain ⟨E, hE⟩ : ∃ E, E = partE l.length p x := ⟨_, rfl⟩
  obtain ⟨l', hl'⟩ : ∃ l', l' = l.take E := ⟨_, rfl⟩
  have hEl := (partE_le (n := x) hp).1
  have hpE := (partE_le (n := x) hp).2
  rw [← hE] at hEl hpE
  have hlen : l'.length = E := by rw [hl', List.length_take]; omega
  rcases hsk : skipF E p (0, 0) m with ⟨p2, f2, k2⟩
  have hp2 : p2 ≤ E := by have := skipF_le (f := (0, 0)) (n := m) hpE; rw [hsk] at this; exact this
  have HSK := Lib.hid hsk
  have HE := Lib.hid hE
  have HL' := Lib.hid hl'
  have HLEN := Lib.hid hlen
  clear hE hl' hlen hsk
  go_wp2_with fail
  refine (cpart_at HF.out.r x x0 x1).mono ?_; rintro e w1 ⟨g', rfl, hg', hr', hb1⟩
  rw [← HE.out, ← HL'.out] at hr'
  have hg2 : b0 + 1 + 1 < g' := by have := HF.out.kr.lt; omega
  have hg1 : g' < w1.heap.size := hr'.lt
  have HF1 := Lib.hid (HF.out.below hb1)
  have HR1 := Lib.hid hr'
  clear hr' hb1 hg' q0 q1 q2 q3 d0 d1 d2
  have v := HF1.out.c6
  obtain ⟨v0, v1, v2, v3, v4, v5⟩ := v
  go_upto_region 25 with (fail)
  go_cut [17, 18] (fun s17 s18 wx => ∃ (gx : Nat) (A2 : Option Addr) (c2 : Nat) (A3 : Option Addr) (n3 c3 : Nat), s17 = .pointer (some ⟨gx, 0, none⟩) ∧ s18 = .slice A3 n3 c3 ∧ Hid (Q0 w wx D A c g b0 l p f 6 m x g' E l' A2 c2 A3 n3 c3 (takeB l' p (0, 0) m)) ∧ Hid (Blk wx gx 68 (rdV A2 E c2 p2 f2)) ∧ Hid (gx ≠ g' ∧ b0 + 1 + 1 < gx))
  case first =>
    go_region_held3 (fun w' => w'.cell? ⟨b0, 0, none⟩ = some (.slice A l.length c) ∧ w'.cell? ⟨b0, 1, none⟩ = some (.int .i64 (p : Int)) ∧ w'.cell? ⟨b0, 2, none⟩ = some (.int .i64 f.1) ∧ w'.cell? ⟨b0, 3, none⟩ = some (.int .i64 f.2) ∧ w'.cell? ⟨b0 + 1, 1, none⟩ = some (.int .i64 m) ∧ w'.cell? ⟨b0 + 1, 2, none⟩ = some (.int .i64 x)) (first | with_reducible exact HF1.out.c6 | with_reducible exact (HF1.out.below ((Below.refl _ w1).drew)).c6 | with_reducible exact (HF1.out.below ((below1 w1 _).drew)).c6 | with_reducible exact (HF1.out.below (below1 w1 _)).c6 | with_reducible exact HF2.out.c6 | with_reducible exact (HF2.out.below (below1 w2 _)).c6 | with_reducible exact HF3.out.c6 | with_reducible exact (HF3.out.below (below1 w3 _)).c6 | with_reducible exact HF5.out.c6)
      ((first
        | (go_at_call 47; refine (rpart_any (w := World.drew w1) (keepS HF1.out.sl ((Below.refl _ w1).drew)).1 (fun k hk => Nat.lt_of_lt_of_le (HF1.out.dlt k hk) (Nat.le_of_lt (Nat.lt_trans (Nat.lt_succ_self _) HF1.out.kdo.lt))) hp (by omega) x x0 x1).mono ?_; rintro e w2 ⟨A2, c2, rfl, hs2, hb2'⟩
           have hb2 : Below w1.heap.size w1 w2 := ⟨hb2'.os, hb2'.tape, hb2'.output, hb2'.size, hb2'.block⟩
           rw [← HE.out] at hs2 ⊢
           rw [← HL'.out] at hs2
           have HF2 := Lib.hid (HF1.out.below hb2)
           have HR2 := Lib.hid (keepR HR1.out hb2)
           have HS2 := Lib.hid (show Sl rpU8 w2 D A2 E c2 l' from ⟨hs2, HF2.out.sl.2⟩)
           clear hs2 hb2 hb2')
        | (go_at_call 47; refine (rpart_any (w := (World.alloc w1 (.cells rdZ 68)).drew) (keepS HF1.out.sl ((below1 w1 _).drew)).1 (fun k hk => (keepS HF1.out.sl ((below1 w1 (.cells rdZ 68)).drew)).2 k hk) hp (by omega) x x0 x1).mono ?_; rintro e w2 ⟨A2, c2, rfl, hs2, hb2'⟩
           have HXZ2 := Lib.hid (keepB (show Blk (World.drew (World.alloc w1 (.cells rdZ 68))) w1.heap.size 68 rdZ from Blk.new w1 68 rdZ) hb2')
           have hb2 : Below w1.heap.size w1 w2 := stepB ((below1 w1 (.cells rdZ 68)).drew) hb2'
           rw [← HE.out] at hs2 ⊢
           rw [← HL'.out] at hs2
           have HF2 := Lib.hid (HF1.out.below hb2)
           have HR2 := Lib.hid (keepR HR1.out hb2)
           have HS2 := Lib.hid (show Sl rpU8 w2 D A2 E c2 l' from ⟨hs2, HF2.out.sl.2⟩)
           clear hs2 hb2 hb2')
        | (go_at_call 44; refine (rtake_any HS2.out.1 HS2.out.2 hpE (by omega) m m0 m1).mono ?_; rintro e w3 ⟨A3, n3, c3, rfl, ho3, hb3⟩
           have HXZ3 := Lib.hid (keepB (show Blk w2 w1.heap.size 68 rdZ from HXZ2.out) hb3)
           rw [HSK.out]
           have HF3 := Lib.hid (HF2.out.below hb3)
           have HQ3 := Lib.hid (show Q0 w w3 D A c g b0 l p f 6 m x g' E l' A2 c2 A3 n3 c3 (takeB l' p (0, 0) m) from ⟨HF3.out, keepR HR2.out hb3, keepS HS2.out hb3, ⟨_, (by first | exact HR2.out.lt | (have := HR2.out.lt; simp; omega)), ho3⟩, hg2⟩)
           have HR3 := Lib.hid (keepR HR2.out hb3)
           clear hb3
           have HGX : Hid (w1.heap.size ≠ g' ∧ b0 + 1 + 1 < w1.heap.size) := ⟨by omega, by omega⟩
           have HF5 := Lib.hid (HF3.out.chgNew (ch4 w3 _ A2 E c2 p2 f2) HGX.out.2)
           have hxz := (show Blk w3 _ 68 rdZ from HXZ3.out)
           have z0 := hxz.cell 0
           have z1 := hxz.cell 1
           have z2 := hxz.cell 2
           have z3 := hxz.cell 3
           have y0 := hxz.frozen 0
           have y1 := hxz.frozen 1
           have y2 := hxz.frozen 2
           have y3 := hxz.frozen 3
           clear hxz)
        | (go_at_call 44; refine (rtake_any HS2.out.1 HS2.out.2 hpE (by omega) m m0 m1).mono ?_; rintro e w3 ⟨A3, n3, c3, rfl, ho3, hb3⟩
           rw [HSK.out]
           have HF3 := Lib.hid (HF2.out.below hb3)
           have HQ3 := Lib.hid (show Q0 w w3 D A c g b0 l p f 6 m x g' E l' A2 c2 A3 n3 c3 (takeB l' p (0, 0) m) from ⟨HF3.out, keepR HR2.out hb3, keepS HS2.out hb3, ⟨_, (by first | exact HR2.out.lt | (have := HR2.out.lt; simp; omega)), ho3⟩, hg2⟩)
           have HR3 := Lib.hid (keepR HR2.out hb3)
           clear hb3
           have hz3 := HR3.out.lt
           have HGX : Hid (w3.heap.size ≠ g' ∧ b0 + 1 + 1 < w3.heap.size) := ⟨by omega, by omega⟩)
        | (go_at_call 44; refine (rtake_any (w := World.alloc w2 (.cells rdZ 68)) (keepS HS2.out (below1 _ _)).1 (keepS HS2.out (below1 _ _)).2 hpE (by omega) m m0 m1).mono ?_; rintro e w3 ⟨A3, n3, c3, rfl, ho3, hb3'⟩
           have HXZ3 := Lib.hid (keepB (Blk.new w2 68 rdZ) hb3')
           have hb3 : Below w2.heap.size w2 w3 := stepB (below1 w2 (.cells rdZ 68)) hb3'
           rw [HSK.out]
           have HF3 := Lib.hid (HF2.out.below hb3)
           have HQ3 := Lib.hid (show Q0 w w3 D A c g b0 l p f 6 m x g' E l' A2 c2 A3 n3 c3 (takeB l' p (0, 0) m) from ⟨HF3.out, keepR HR2.out hb3, keepS HS2.out hb3, ⟨_, (by first | exact HR2.out.lt | (have := HR2.out.lt; simp; omega)), ho3⟩, hg2⟩)
           have HR3 := Lib.hid (keepR HR2.out hb3)
           clear hb3
           have hz2 := HR2.out.lt
           have HGX : Hid (w2.heap.size ≠ g' ∧ b0 + 1 + 1 < w2.heap.size) := ⟨by omega, by omega⟩
           have HF5 := Lib.hid (HF3.out.chgNew (ch4 w3 _ A2 E c2 p2 f2) HGX.out.2)
           have hxz := (show Blk w3 _ 68 rdZ from HXZ3.out)
           have z0 := hxz.cell 0
           have z1 := hxz.cell 1
           have z2 := hxz.cell 2
           have z3 := hxz.cell 3
           have y0 := hxz.frozen 0
           have y1 := hxz.frozen 1
           have y2 := hxz.frozen 2
           have y3 := hxz.frozen 3
           clear hxz)))
    · go_wp2_with fail
      go_meet
      exact ⟨w3.heap.size, A2, c2, A3, n3, c3, rfl, rfl, HQ3.out.below (below1 w3 _), Blk.new w3 68 (rdV A2 E c2 p2 f2), HGX⟩
    · go_wp2_with fail
      go_meet
      exact ⟨_, A2, c2, A3, n3, c3, rfl, rfl, HQ3.out.chg (ch4 w3 _ A2 E c2 p2 f2) HGX.out.2 HGX.out.1 HXZ3.out (by decide), (((Blk.put (show Blk w3 w2.heap.size 68 rdZ from HXZ3.out) 0 _).put 1 _).put 2 _).put 3 _, HGX⟩
    · go_wp2_with fail
      go_meet
      exact ⟨_, A2, c2, A3, n3, c3, rfl, rfl, HQ3.out.chg (ch4 w3 _ A2 E c2 p2 f2) HGX.out.2 HGX.out.1 HXZ3.out (by decide), (((Blk.put (show Blk w3 w1.heap.size 68 rdZ from HXZ3.out) 0 _).put 1 _).put 2 _).put 3 _, HGX⟩
  case rest =>
    clear v0 v1 v2 v3 v4 v5
    obtain ⟨gx, A2, c2, A3, n3, c3, rfl, rfl, hq, hx, hgx⟩ := hcut
    have hl3 : l'.length ≤ 1000000000 := by have := HLEN.out; omega
    have hwE : IntKind.i64.wrap ((E : Int) - (p2 : Int)) = (E : Int) - (p2 : Int) := IntWalk.i64_in _ (by omega)
    have hp2E : (p2 : Int) ≤ (E : Int) := by omega
    go_wp2_with fail
    go_region_held3 (fun w' => w'.cell? ⟨b0, 0, none⟩ = some (.slice A l.length c) ∧ w'.cell? ⟨b0, 1, none⟩ = some (.int .i64 (p : Int)) ∧ w'.cell? ⟨b0, 2, none⟩ = some (.int .i64 f.1) ∧ w'.cell? ⟨b0, 3, none⟩ = some (.int .i64 f.2) ∧ w'.cell? ⟨b0 + 1, 1, none⟩ = some (.int .i64 m) ∧ w'.cell? ⟨gx, 0, none⟩ = some (.slice A2 E c2) ∧ w'.cell? ⟨gx, 1, none⟩ = some (.int .i64 (p2 : Int)) ∧ w'.cell? ⟨gx, 2, none⟩ = some (.int .i64 f2.1) ∧ w'.cell? ⟨gx, 3, none⟩ = some (.int .i64 f2.2)) (first | with_reducible exact hq.out.f.c9 hx.out | with_reducible exact (hq.out.f.below ((Below.refl _ wc).drew)).c9 (keepB (show Blk wc gx 68 (rdV A2 E c2 p2 f2) from hx.out) ((Below.refl _ wc).drew)) | with_reducible exact HF5.out.c9 HX5.out | with_reducible exact HF6.out.c9 HX6.out | with_reducible exact HF7.out.c9 HX7.out | with_reducible exact HF7.out.c9p HX7.out hgx.out.2 _ _ _ _)
      ((first
        | (go_at_call 34; refine (ctake_at (rdDrew hq.out.r) m m0 m1 hl3).mono ?_; rintro e w5 ⟨A5, n5, c5, rfl, ho5, hr5, hc5'⟩
           have hc5 : Chg (one g') wc w5 := ⟨hc5'.os, hc5'.tape, hc5'.output, hc5'.size, hc5'.block⟩
           rw [HLEN.out, HSK.out] at hr5
           obtain ⟨hf5, hs5, ht5⟩ := hq.out.chgR hr5 hc5
           have hsm := same_any _ _ _ _ _ _ _ _ _ _ _ (own_bytes ho5) ht5.1
           rw [beq_self_eq_true] at hsm
           have HSM := Lib.hid hsm
           have HF5 := Lib.hid hf5
           have HR5 := Lib.hid hr5
           have HX5 := Lib.hid (chB (show Blk wc gx 68 (rdV A2 E c2 p2 f2) from hx.out) hc5 (fun e => hgx.out.1 e))
           clear ho5 hr5 hc5 hc5' hf5 hs5 ht5 hsm)
        | (go_at_call 12; refine HSM.out.mono ?_; rintro e w9 ⟨rfl, rfl⟩)
        | (go_at_call 31; refine (cat_at HR5.out).mono ?_; rintro e w9 ⟨rfl, rfl⟩)
        | (go_at_call 37; refine (cleft_at HR5.out).mono ?_; rintro e w6 ⟨rfl, hb6⟩
           rw [HLEN.out]
           have HF6 := Lib.hid (HF5.out.below hb6)
           have HR6 := Lib.hid (keepR HR5.out hb6)
           have HX6 := Lib.hid (keepB (show Blk w5 gx 68 (rdV A2 E c2 p2 f2) from HX5.out) hb6)
           clear hb6)
        | (go_at_call 36; refine (cfault_at HR6.out).mono ?_; rintro e w7 ⟨rfl, hb7⟩
           have HF7 := Lib.hid (HF6.out.below hb7)
           have HX7 := Lib.hid (keepB (show Blk w6 gx 68 (rdV A2 E c2 p2 f2) from HX6.out) hb7)
           clear hb7
           have r0 := HF7.out.kr.cell 0
           have r1 := HF7.out.kr.cell 1
           have r2 := HF7.out.kr.cell 2
           have r3 := HF7.out.kr.cell 3
           have s0 := HF7.out.kr.frozen 0
           have s1 := HF7.out.kr.frozen 1
           have s2 := HF7.out.kr.frozen 2
           have s3 := HF7.out.kr.frozen 3)))
    go_wp2_with fail
    all_goals
      obtain ⟨hk, hrz, hcz⟩ := HF7.out.out4 (.slice A l.length c) (.int .i64 p) (.int .i64 f.1) (.int .i64 f.2)
      have e0 := hk.cell 0
      have e1 := hk.cell 1
      have e2 := hk.cell 2
      have e3 := hk.cell 3
      first
        | refine bodyPost_ret (v := .tuple #[.agg (rdV A l.length c p f), .bool true]) (by simp [results, Try.results40, go_sem, e0, e1, e2, e3]) rfl ⟨p, f, rfl, hrz, hcz⟩
        | refine bodyPost_ret (v := .tuple #[.agg (rdV A l.length c p f), .bool true]) (by simp [results, Try.results40, go_sem, e0, e1, e2, e3]) rfl ⟨p, f, rfl, rdDrew hrz, hcz.drew⟩

end
end Go.Proofs.Ytjgcgedjpppfmaa
