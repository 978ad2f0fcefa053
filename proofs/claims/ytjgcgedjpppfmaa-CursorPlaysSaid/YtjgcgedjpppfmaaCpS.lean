/- A step of the law CursorPlays. -/
import Derived.Test.YtjgcgedjpppfmaaCpM
namespace Go.Proofs.Ytjgcgedjpppfmaa
open Go.ChangeShapes Go.WideShapes Go.ChangeAt Go.RowKit
set_option linter.unusedVariables false
theorem byte_take {l : List UInt8} {p : Nat} {f : Flt} (hp : p ≤ l.length) : (∃ y, takeB l p f 1 = [y] ∧ byteB l p f = y.toNat) ∨ (takeB l p f 1 = [] ∧ byteB l p f = 0) := by
  cases hq : (skipF l.length p f 1).2.2
  · right; unfold takeB byteB; rw [hq]; exact ⟨rfl, rfl⟩
  · left
    obtain ⟨_, _, h1, _⟩ := skipF_true hq
    have hlt : p < l.length := by omega
    refine ⟨l[p], ?_, ?_⟩
    · unfold takeB; rw [hq]; show cutB l p 1 = _; unfold cutB
      apply List.ext_getElem?
      intro i
      rw [List.getElem?_drop, List.getElem?_take]
      rcases i with _ | i
      · simp [List.getElem?_eq_getElem hlt]
      · simp
    · unfold byteB; rw [hq, List.getD_eq_getElem?_getD, List.getElem?_eq_getElem hlt]; rfl
section
variable {w : World} {D : Dom} {A : Option Addr} {c g : Nat} {l : List UInt8} {p : Nat} {f : Flt} {m x : Int}
set_option maxRecDepth 100000 in
set_option maxHeartbeats 4000000 in
theorem cstep_0 (hr : Rd w D g l p f) (hs : Sl rpU8 w D A l.length c l) (hn : l.length ≤ 300) (m0 : -9223372036854775808 ≤ m) (m1 : m ≤ 9223372036854775807) (x0 : -9223372036854775808 ≤ x) (x1 : x ≤ 9223372036854775807) :
    Calls Try.prog 40 #[.pointer (some ⟨g, 0, none⟩), .agg (rdV A l.length c p f), .agg #[.int .i64 0, .int .i64 m, .int .i64 x]] w (StepIs w D A c g l) := by
  have H : Hid ((Try.prog.info? 68).map (·.size) = some 4) := by unfold Hid; kernel_rfl
  have HF := Lib.hid (StF.start (kd := 0) (m := m) (x := x) hr hs)
  have hp := hr.le
  clear hr hs
  go_enter Try.func40, Try.ntmps40
  go_upto_region 1 with (fail)
  generalize hb0 : w.heap.size = b0 at *
  generalize World.alloc (World.alloc (World.alloc w _) _) _ = w0 at *
  clear hb0
  have q0 := HF.out.kc.cell 0
  have q1 := HF.out.kc.cell 1
  have q2 := HF.out.kc.cell 2
  have q3 := HF.out.kc.cell 3
  have d0 := HF.out.kdo.cell 0
  have d1 := HF.out.kdo.cell 1
  have d2 := HF.out.kdo.cell 2
  rcases hsk : skipF l.length p f 1 with ⟨p1, f1, k1⟩
  have HSK := Lib.hid hsk
  have HKC : Hid (k1 = (f1.1 == 0)) := by have h := @skip_code l.length p f 1; rw [hsk] at h; exact h
  clear hsk
  go_wp2_with fail
  refine (rtake_any HF.out.sl.1 HF.out.sl.2 hp (by omega) 1 (by first | decide | exact m0) (by first | decide | exact m1)).mono ?_; rintro e w1 ⟨A2, n2, c2, rfl, ho, hb⟩
  rw [HSK.out]
  have HF1 := Lib.hid (HF.out.below hb)
  have hz1 : b0 + 1 + 1 < w1.heap.size := HF1.out.kr.lt
  have GXNE : Hid (w1.heap.size ≠ b0 + 1 + 1) := fun e => by omega
  have HNX : Hid (∀ k, (fun k => some k = (Value.slice A2 n2 c2).ownBlock) k → b0 ≤ k) := fun k hk => by
    have := (ho.lt k hk.symm).1
    have := HF.out.ch.size; have := HF.out.eq; omega
  have HS1 := Lib.hid (ownS ho)
  have HN2 := Lib.hid (Rp.sl_len (ownS ho).1).1
  clear ho hb q0 q1 q2 q3
  go_wp2_with (refine wpList_put_row rfl 68 (.tmp 8) (.tmp 26) rfl w1.heap.size (rdV A l.length c p1 f1) rfl rfl 68 _ (Blk.new _ _ _) H.out rfl (by simp [Value.oneCell']) ?_; intro w2 hblk hgr
               have hb2 : Below w1.heap.size w1 w2 := (below1 w1 _).grown hgr (by simp) (fun k hk => by injection hk with hk; omega)
               have HF2 := Lib.hid (HF1.out.below hb2)
               have HS2 := Lib.hid (keepS HS1.out hb2)
               have HX2 := Lib.hid hblk
               clear hb2 hblk hgr)
  have hlt := HF2.out.lt
  refine (cbyte_at HF2.out.r (by omega)).mono ?_; rintro e w3 ⟨rfl, hr3, hc3⟩
  rw [HSK.out] at hr3
  have HF3 := Lib.hid (HF2.out.chg hr3 hc3)
  have HS3 := Lib.hid (chS HS2.out hc3 (fun k hk e => by have := HNX.out k hk; have e' : k = g := e; omega))
  have hx3 := chB (show Blk w2 w1.heap.size 68 (rdV A l.length c p1 f1) from HX2.out) hc3 (fun e => by have e' : w1.heap.size = g := e; omega)
  have v0 := hx3.cell 0
  have v1 := hx3.cell 1
  have v2 := hx3.cell 2
  have v3 := hx3.cell 3
  have HX3 := Lib.hid hx3
  clear hx3
  clear hr3 hc3
  have r0 := HF3.out.kr.cell 0
  have r1 := HF3.out.kr.cell 1
  have r2 := HF3.out.kr.cell 2
  have r3 := HF3.out.kr.cell 3
  have s0 := HF3.out.kr.frozen 0
  have s1 := HF3.out.kr.frozen 1
  have s2 := HF3.out.kr.frozen 2
  have s3 := HF3.out.kr.frozen 3
  rcases byte_take (f := f) hp with ⟨y, ht, hbt⟩ | ⟨ht, hbt⟩
  · rw [hbt]
    rw [ht] at HS3 HN2
    have hn2 : n2 = 1 := HN2.out.symm
    subst hn2
    obtain ⟨bb, off, y', rfl, hDb, hy, hcell⟩ := bytes_at (k := 0) HS3.out.1 (by omega)
    obtain rfl : y' = y := by injection hy with hy; exact hy.symm
    rw [Nat.add_zero] at hcell
    clear ht hbt hy
    go_wp2_with fail
    go_region
    all_goals go_wp2_with fail
    all_goals
      obtain ⟨hk, hrz, hcz⟩ := HF3.out.out4 (.slice A l.length c) (.int .i64 p1) (.int .i64 f1.1) (.int .i64 f1.2)
      have e0 := hk.cell 0
      have e1 := hk.cell 1
      have e2 := hk.cell 2
      have e3 := hk.cell 3
      first
        | refine bodyPost_ret (v := .tuple #[.agg (rdV A l.length c p1 f1), .bool true]) (by simp [results, Try.results40, go_sem, e0, e1, e2, e3]) rfl ⟨p1, f1, rfl, hrz, hcz⟩
        | refine bodyPost_ret (v := .tuple #[.agg (rdV A l.length c p1 f1), .bool true]) (by simp [results, Try.results40, go_sem, e0, e1, e2, e3]) rfl ⟨p1, f1, rfl, rdDrew hrz, hcz.drew⟩

  · rw [hbt]
    rw [ht] at HN2
    have hn2 : n2 = 0 := HN2.out.symm
    subst hn2
    clear ht hbt
    go_wp2_with fail
    go_region
    all_goals go_wp2_with fail
    all_goals
      obtain ⟨hk, hrz, hcz⟩ := HF3.out.out4 (.slice A l.length c) (.int .i64 p1) (.int .i64 f1.1) (.int .i64 f1.2)
      have e0 := hk.cell 0
      have e1 := hk.cell 1
      have e2 := hk.cell 2
      have e3 := hk.cell 3
      first
        | refine bodyPost_ret (v := .tuple #[.agg (rdV A l.length c p1 f1), .bool true]) (by simp [results, Try.results40, go_sem, e0, e1, e2, e3]) rfl ⟨p1, f1, rfl, hrz, hcz⟩
        | refine bodyPost_ret (v := .tuple #[.agg (rdV A l.length c p1 f1), .bool true]) (by simp [results, Try.results40, go_sem, e0, e1, e2, e3]) rfl ⟨p1, f1, rfl, rdDrew hrz, hcz.drew⟩
set_option maxRecDepth 100000 in
set_option maxHeartbeats 4000000 in
theorem cstep_1 (hr : Rd w D g l p f) (hs : Sl rpU8 w D A l.length c l) (hn : l.length ≤ 300) (m0 : -9223372036854775808 ≤ m) (m1 : m ≤ 9223372036854775807) (x0 : -9223372036854775808 ≤ x) (x1 : x ≤ 9223372036854775807) :
    Calls Try.prog 40 #[.pointer (some ⟨g, 0, none⟩), .agg (rdV A l.length c p f), .agg #[.int .i64 1, .int .i64 m, .int .i64 x]] w (StepIs w D A c g l) := by
  have H : Hid ((Try.prog.info? 68).map (·.size) = some 4) := by unfold Hid; kernel_rfl
  have HF := Lib.hid (StF.start (kd := 1) (m := m) (x := x) hr hs)
  have hp := hr.le
  clear hr hs
  go_enter Try.func40, Try.ntmps40
  go_upto_region 1 with (fail)
  generalize hb0 : w.heap.size = b0 at *
  generalize World.alloc (World.alloc (World.alloc w _) _) _ = w0 at *
  clear hb0
  have q0 := HF.out.kc.cell 0
  have q1 := HF.out.kc.cell 1
  have q2 := HF.out.kc.cell 2
  have q3 := HF.out.kc.cell 3
  have d0 := HF.out.kdo.cell 0
  have d1 := HF.out.kdo.cell 1
  have d2 := HF.out.kdo.cell 2
  rcases hsk : skipF l.length p f m with ⟨p1, f1, k1⟩
  have HSK := Lib.hid hsk
  have HKC : Hid (k1 = (f1.1 == 0)) := by have h := @skip_code l.length p f m; rw [hsk] at h; exact h
  clear hsk
  go_wp2_with fail
  refine (rtake_any HF.out.sl.1 HF.out.sl.2 hp (by omega) m (by first | decide | exact m0) (by first | decide | exact m1)).mono ?_; rintro e w1 ⟨A2, n2, c2, rfl, ho, hb⟩
  rw [HSK.out]
  have HF1 := Lib.hid (HF.out.below hb)
  have hz1 : b0 + 1 + 1 < w1.heap.size := HF1.out.kr.lt
  have GXNE : Hid (w1.heap.size ≠ b0 + 1 + 1) := fun e => by omega
  have HNX : Hid (∀ k, (fun k => some k = (Value.slice A2 n2 c2).ownBlock) k → b0 ≤ k) := fun k hk => by
    have := (ho.lt k hk.symm).1
    have := HF.out.ch.size; have := HF.out.eq; omega
  have HS1 := Lib.hid (ownS ho)
  have HN2 := Lib.hid (Rp.sl_len (ownS ho).1).1
  clear ho hb q0 q1 q2 q3
  go_wp2_with (refine wpList_put_row rfl 68 (.tmp 11) (.tmp 57) rfl w1.heap.size (rdV A l.length c p1 f1) rfl rfl 68 _ (Blk.new _ _ _) H.out rfl (by simp [Value.oneCell']) ?_; intro w2 hblk hgr
               have hb2 : Below w1.heap.size w1 w2 := (below1 w1 _).grown hgr (by simp) (fun k hk => by injection hk with hk; omega)
               have HF2 := Lib.hid (HF1.out.below hb2)
               have HS2 := Lib.hid (keepS HS1.out hb2)
               have HX2 := Lib.hid hblk
               clear hb2 hblk hgr)
  have hlt := HF2.out.lt
  have d1' := HF2.out.kdo.cell 1
  have hx2 := (show Blk w2 w1.heap.size 68 (rdV A l.length c p1 f1) from HX2.out)
  have v0 := hx2.cell 0
  have v1 := hx2.cell 1
  have v2 := hx2.cell 2
  have v3 := hx2.cell 3
  clear hx2 d0 d1 d2
  go_wp2_with fail
  go_region_held3 (fun w' => w'.cell? ⟨w1.heap.size, 0, none⟩ = some (.slice A l.length c) ∧ w'.cell? ⟨w1.heap.size, 1, none⟩ = some (.int .i64 (p1 : Int)) ∧ w'.cell? ⟨w1.heap.size, 2, none⟩ = some (.int .i64 f1.1) ∧ w'.cell? ⟨w1.heap.size, 3, none⟩ = some (.int .i64 f1.2) ∧ w'.cell? ⟨b0 + 1, 1, none⟩ = some (.int .i64 m)) (first | exact ⟨t0, t1, t2, t3, t4⟩ | exact ⟨u0, u1, u2, u3, u4⟩ | exact ⟨v0, v1, v2, v3, d1'⟩)
    ((first
      | (go_at_call 34; refine (ctake_at (rdDrew HF2.out.r) m m0 m1 (by omega)).mono ?_; rintro e w3 ⟨A3, n3, c3, rfl, ho3, hr3, hc3'⟩
         rw [HSK.out] at hr3
         have hc3 : Chg (one g) w2 w3 := ⟨hc3'.os, hc3'.tape, hc3'.output, hc3'.size, hc3'.block⟩
         have HF3 := Lib.hid (HF2.out.chg hr3 hc3)
         have hx3 := chB (show Blk w2 w1.heap.size 68 (rdV A l.length c p1 f1) from HX2.out) hc3 (fun e => by have e' : w1.heap.size = g := e; omega)
         have t0 := hx3.cell 0
         have t1 := hx3.cell 1
         have t2 := hx3.cell 2
         have t3 := hx3.cell 3
         have t4 := HF3.out.kdo.cell 1
         have hy3 := far4 hx3 (show w1.heap.size ≠ b0 + 1 + 1 from GXNE.out) (.slice A l.length c) (.int .i64 (p1 : Int)) (.int .i64 f1.1) (.int .i64 f1.2)
         have u0 := hy3.cell 0
         have u1 := hy3.cell 1
         have u2 := hy3.cell 2
         have u3 := hy3.cell 3
         have u4 := (far4 HF3.out.kdo (show b0 + 1 ≠ b0 + 1 + 1 by omega) (.slice A l.length c) (.int .i64 (p1 : Int)) (.int .i64 f1.1) (.int .i64 f1.2)).cell 1
         have r0 := HF3.out.kr.cell 0
         have r1 := HF3.out.kr.cell 1
         have r2 := HF3.out.kr.cell 2
         have r3 := HF3.out.kr.cell 3
         have s0 := HF3.out.kr.frozen 0
         have s1 := HF3.out.kr.frozen 1
         have s2 := HF3.out.kr.frozen 2
         have s3 := HF3.out.kr.frozen 3
         have hsm := same_any _ _ _ _ _ _ _ _ _ _ _ (own_bytes ho3) (chS HS2.out hc3 (fun k hk e => by have := HNX.out k hk; have e' : k = g := e; omega)).1
         rw [beq_self_eq_true] at hsm
         have HSM := Lib.hid hsm
         clear hsm ho3 hc3'
         clear hr3 hc3 hx3 hy3)
      | (go_at_call 12; refine HSM.out.mono ?_; rintro e w4 ⟨rfl, rfl⟩)))
  go_wp2_with fail
  all_goals
    obtain ⟨hk, hrz, hcz⟩ := HF3.out.out4 (.slice A l.length c) (.int .i64 p1) (.int .i64 f1.1) (.int .i64 f1.2)
    have e0 := hk.cell 0
    have e1 := hk.cell 1
    have e2 := hk.cell 2
    have e3 := hk.cell 3
    first
      | refine bodyPost_ret (v := .tuple #[.agg (rdV A l.length c p1 f1), .bool true]) (by simp [results, Try.results40, go_sem, e0, e1, e2, e3]) rfl ⟨p1, f1, rfl, hrz, hcz⟩
      | refine bodyPost_ret (v := .tuple #[.agg (rdV A l.length c p1 f1), .bool true]) (by simp [results, Try.results40, go_sem, e0, e1, e2, e3]) rfl ⟨p1, f1, rfl, rdDrew hrz, hcz.drew⟩
set_option maxRecDepth 100000 in
set_option maxHeartbeats 4000000 in
theorem cstep_2 (hr : Rd w D g l p f) (hs : Sl rpU8 w D A l.length c l) (hn : l.length ≤ 300) (m0 : -9223372036854775808 ≤ m) (m1 : m ≤ 9223372036854775807) (x0 : -9223372036854775808 ≤ x) (x1 : x ≤ 9223372036854775807) :
    Calls Try.prog 40 #[.pointer (some ⟨g, 0, none⟩), .agg (rdV A l.length c p f), .agg #[.int .i64 2, .int .i64 m, .int .i64 x]] w (StepIs w D A c g l) := by
  have H : Hid ((Try.prog.info? 68).map (·.size) = some 4) := by unfold Hid; kernel_rfl
  have HF := Lib.hid (StF.start (kd := 2) (m := m) (x := x) hr hs)
  have hp := hr.le
  clear hr hs
  go_enter Try.func40, Try.ntmps40
  go_upto_region 1 with (fail)
  generalize hb0 : w.heap.size = b0 at *
  generalize World.alloc (World.alloc (World.alloc w _) _) _ = w0 at *
  clear hb0
  have q0 := HF.out.kc.cell 0
  have q1 := HF.out.kc.cell 1
  have q2 := HF.out.kc.cell 2
  have q3 := HF.out.kc.cell 3
  have d0 := HF.out.kdo.cell 0
  have d1 := HF.out.kdo.cell 1
  have d2 := HF.out.kdo.cell 2
  rcases hsk : skipF l.length p f m with ⟨p1, f1, k1⟩
  have HSK := Lib.hid hsk
  have HKC : Hid (k1 = (f1.1 == 0)) := by have h := @skip_code l.length p f m; rw [hsk] at h; exact h
  clear hsk
  go_wp2_with fail
  refine (rtake_any HF.out.sl.1 HF.out.sl.2 hp (by omega) m (by first | decide | exact m0) (by first | decide | exact m1)).mono ?_; rintro e w1 ⟨A2, n2, c2, rfl, ho, hb⟩
  rw [HSK.out]
  have HF1 := Lib.hid (HF.out.below hb)
  have hz1 : b0 + 1 + 1 < w1.heap.size := HF1.out.kr.lt
  have GXNE : Hid (w1.heap.size ≠ b0 + 1 + 1) := fun e => by omega
  have HNX : Hid (∀ k, (fun k => some k = (Value.slice A2 n2 c2).ownBlock) k → b0 ≤ k) := fun k hk => by
    have := (ho.lt k hk.symm).1
    have := HF.out.ch.size; have := HF.out.eq; omega
  have HS1 := Lib.hid (ownS ho)
  have HN2 := Lib.hid (Rp.sl_len (ownS ho).1).1
  clear ho hb q0 q1 q2 q3
  go_wp2_with (refine wpList_put_row rfl 68 (.tmp 13) (.tmp 73) rfl w1.heap.size (rdV A l.length c p1 f1) rfl rfl 68 _ (Blk.new _ _ _) H.out rfl (by simp [Value.oneCell']) ?_; intro w2 hblk hgr
               have hb2 : Below w1.heap.size w1 w2 := (below1 w1 _).grown hgr (by simp) (fun k hk => by injection hk with hk; omega)
               have HF2 := Lib.hid (HF1.out.below hb2)
               have HS2 := Lib.hid (keepS HS1.out hb2)
               have HX2 := Lib.hid hblk
               clear hb2 hblk hgr)
  have hlt := HF2.out.lt
  have hkc := HKC.out
  subst hkc
  have d1' := HF2.out.kdo.cell 1
  have hx2 := (show Blk w2 w1.heap.size 68 (rdV A l.length c p1 f1) from HX2.out)
  have v0 := hx2.cell 0
  have v1 := hx2.cell 1
  have v2 := hx2.cell 2
  have v3 := hx2.cell 3
  clear hx2 d0 d1 d2
  go_wp2_with fail
  go_region_held3 (fun w' => w'.cell? ⟨w1.heap.size, 0, none⟩ = some (.slice A l.length c) ∧ w'.cell? ⟨w1.heap.size, 1, none⟩ = some (.int .i64 (p1 : Int)) ∧ w'.cell? ⟨w1.heap.size, 2, none⟩ = some (.int .i64 f1.1) ∧ w'.cell? ⟨w1.heap.size, 3, none⟩ = some (.int .i64 f1.2) ∧ w'.cell? ⟨b0 + 1, 1, none⟩ = some (.int .i64 m)) (first | exact ⟨t0, t1, t2, t3, t4⟩ | exact ⟨u0, u1, u2, u3, u4⟩ | exact ⟨v0, v1, v2, v3, d1'⟩)
    ((first
      | (go_at_call 30; refine (cskip_at (rdDrew HF2.out.r) m m0 m1).mono ?_; rintro e w3 ⟨rfl, hr3, hc3'⟩
         rw [HSK.out] at hr3 ⊢
         have hc3 : Chg (one g) w2 w3 := ⟨hc3'.os, hc3'.tape, hc3'.output, hc3'.size, hc3'.block⟩
         have HF3 := Lib.hid (HF2.out.chg hr3 hc3)
         have hx3 := chB (show Blk w2 w1.heap.size 68 (rdV A l.length c p1 f1) from HX2.out) hc3 (fun e => by have e' : w1.heap.size = g := e; omega)
         have t0 := hx3.cell 0
         have t1 := hx3.cell 1
         have t2 := hx3.cell 2
         have t3 := hx3.cell 3
         have t4 := HF3.out.kdo.cell 1
         have hy3 := far4 hx3 (show w1.heap.size ≠ b0 + 1 + 1 from GXNE.out) (.slice A l.length c) (.int .i64 (p1 : Int)) (.int .i64 f1.1) (.int .i64 f1.2)
         have u0 := hy3.cell 0
         have u1 := hy3.cell 1
         have u2 := hy3.cell 2
         have u3 := hy3.cell 3
         have u4 := (far4 HF3.out.kdo (show b0 + 1 ≠ b0 + 1 + 1 by omega) (.slice A l.length c) (.int .i64 (p1 : Int)) (.int .i64 f1.1) (.int .i64 f1.2)).cell 1
         have r0 := HF3.out.kr.cell 0
         have r1 := HF3.out.kr.cell 1
         have r2 := HF3.out.kr.cell 2
         have r3 := HF3.out.kr.cell 3
         have s0 := HF3.out.kr.frozen 0
         have s1 := HF3.out.kr.frozen 1
         have s2 := HF3.out.kr.frozen 2
         have s3 := HF3.out.kr.frozen 3
         clear hc3'
         clear hr3 hc3 hx3 hy3)))
  go_wp2_with fail
  all_goals
    obtain ⟨hk, hrz, hcz⟩ := HF3.out.out4 (.slice A l.length c) (.int .i64 p1) (.int .i64 f1.1) (.int .i64 f1.2)
    have e0 := hk.cell 0
    have e1 := hk.cell 1
    have e2 := hk.cell 2
    have e3 := hk.cell 3
    first
      | refine bodyPost_ret (v := .tuple #[.agg (rdV A l.length c p1 f1), .bool true]) (by simp [results, Try.results40, go_sem, e0, e1, e2, e3]) rfl ⟨p1, f1, rfl, hrz, hcz⟩
      | refine bodyPost_ret (v := .tuple #[.agg (rdV A l.length c p1 f1), .bool true]) (by simp [results, Try.results40, go_sem, e0, e1, e2, e3]) rfl ⟨p1, f1, rfl, rdDrew hrz, hcz.drew⟩
set_option maxRecDepth 100000 in
set_option maxHeartbeats 4000000 in
theorem cstep_3 (hr : Rd w D g l p f) (hs : Sl rpU8 w D A l.length c l) (hn : l.length ≤ 300) (m0 : -9223372036854775808 ≤ m) (m1 : m ≤ 9223372036854775807) (x0 : -9223372036854775808 ≤ x) (x1 : x ≤ 9223372036854775807) :
    Calls Try.prog 40 #[.pointer (some ⟨g, 0, none⟩), .agg (rdV A l.length c p f), .agg #[.int .i64 3, .int .i64 m, .int .i64 x]] w (StepIs w D A c g l) := by
  have H : Hid ((Try.prog.info? 68).map (·.size) = some 4) := by unfold Hid; kernel_rfl
  have HF := Lib.hid (StF.start (kd := 3) (m := m) (x := x) hr hs)
  have hp := hr.le
  clear hr hs
  go_enter Try.func40, Try.ntmps40
  go_upto_region 1 with (fail)
  generalize hb0 : w.heap.size = b0 at *
  generalize World.alloc (World.alloc (World.alloc w _) _) _ = w0 at *
  clear hb0
  have q0 := HF.out.kc.cell 0
  have q1 := HF.out.kc.cell 1
  have q2 := HF.out.kc.cell 2
  have q3 := HF.out.kc.cell 3
  have d0 := HF.out.kdo.cell 0
  have d1 := HF.out.kdo.cell 1
  have d2 := HF.out.kdo.cell 2
  obtain ⟨f1, hf1⟩ : ∃ f1, f1 = failF f m x := ⟨_, rfl⟩
  have HF1 := Lib.hid hf1
  clear hf1
  go_wp2_with fail
  refine (cfail_at HF.out.r m x).mono ?_; rintro e w1 ⟨rfl, hr1, hc1⟩
  rw [← HF1.out] at hr1
  have HG1 := Lib.hid (HF.out.chg hr1 hc1)
  clear hr1 hc1 q0 q1 q2 q3 d0 d1 d2
  have q0 := HG1.out.kc.cell 0
  have q1 := HG1.out.kc.cell 1
  have q2 := HG1.out.kc.cell 2
  have q3 := HG1.out.kc.cell 3
  have d1 := HG1.out.kdo.cell 1
  have d2 := HG1.out.kdo.cell 2
  go_wp2_with fail
  refine (rfail_any A l.length c p f m x _).mono ?_; rintro e w2 ⟨rfl, hb2⟩
  rw [← HF1.out]
  have HG2 := Lib.hid (HG1.out.below hb2)
  clear hb2
  go_wp2_with (refine wpList_put_row rfl 68 (.tmp 6) (.tmp 98) rfl (b0 + 1 + 1) (rdV A l.length c p f1) rfl rfl 68 _ HG2.out.kr H.out rfl (by simp [Value.oneCell']) ?_; intro w3 hblk hgr)
  obtain ⟨hrz, hcz⟩ := HG2.out.fin ((Chg.of_grown hgr).more (fun k _ hk => by injection hk))
  have e0 := hblk.cell 0
  have e1 := hblk.cell 1
  have e2 := hblk.cell 2
  have e3 := hblk.cell 3
  refine bodyPost_ret (v := .tuple #[.agg (rdV A l.length c p f1), .bool true]) (by simp [results, Try.results40, go_sem, e0, e1, e2, e3]) rfl ⟨p, f1, rfl, hrz, hcz⟩
set_option maxRecDepth 100000 in
set_option maxHeartbeats 4000000 in
theorem cstep_4 (hr : Rd w D g l p f) (hs : Sl rpU8 w D A l.length c l) (hn : l.length ≤ 300) (m0 : -9223372036854775808 ≤ m) (m1 : m ≤ 9223372036854775807) (x0 : -9223372036854775808 ≤ x) (x1 : x ≤ 9223372036854775807) :
    Calls Try.prog 40 #[.pointer (some ⟨g, 0, none⟩), .agg (rdV A l.length c p f), .agg #[.int .i64 4, .int .i64 m, .int .i64 x]] w (StepIs w D A c g l) := by
  have H : Hid ((Try.prog.info? 68).map (·.size) = some 4) := by unfold Hid; kernel_rfl
  have HF := Lib.hid (StF.start (kd := 4) (m := m) (x := x) hr hs)
  have hp := hr.le
  clear hr hs
  go_enter Try.func40, Try.ntmps40
  go_upto_region 1 with (fail)
  generalize hb0 : w.heap.size = b0 at *
  generalize World.alloc (World.alloc (World.alloc w _) _) _ = w0 at *
  clear hb0
  have q0 := HF.out.kc.cell 0
  have q1 := HF.out.kc.cell 1
  have q2 := HF.out.kc.cell 2
  have q3 := HF.out.kc.cell 3
  have d0 := HF.out.kdo.cell 0
  have d1 := HF.out.kdo.cell 1
  have d2 := HF.out.kdo.cell 2
  obtain ⟨f1, hf1⟩ : ∃ f1, f1 = endF l.length p f := ⟨_, rfl⟩
  have HF1 := Lib.hid hf1
  clear hf1
  go_wp2_with fail
  refine (cend_at HF.out.r).mono ?_; rintro e w1 ⟨rfl, hr1, hc1⟩
  rw [← HF1.out] at hr1
  have HG1 := Lib.hid (HF.out.chg hr1 hc1)
  clear hr1 hc1 q0 q1 q2 q3 d0 d1 d2
  have q0 := HG1.out.kc.cell 0
  have q1 := HG1.out.kc.cell 1
  have q2 := HG1.out.kc.cell 2
  have q3 := HG1.out.kc.cell 3
  have d1 := HG1.out.kdo.cell 1
  have d2 := HG1.out.kdo.cell 2
  go_wp2_with fail
  refine (rend_any A l.length c p f _ hp (by omega)).mono ?_; rintro e w2 ⟨rfl, hb2⟩
  rw [← HF1.out]
  have HG2 := Lib.hid (HG1.out.below hb2)
  clear hb2
  go_wp2_with (refine wpList_put_row rfl 68 (.tmp 6) (.tmp 104) rfl (b0 + 1 + 1) (rdV A l.length c p f1) rfl rfl 68 _ HG2.out.kr H.out rfl (by simp [Value.oneCell']) ?_; intro w3 hblk hgr)
  obtain ⟨hrz, hcz⟩ := HG2.out.fin ((Chg.of_grown hgr).more (fun k _ hk => by injection hk))
  have e0 := hblk.cell 0
  have e1 := hblk.cell 1
  have e2 := hblk.cell 2
  have e3 := hblk.cell 3
  refine bodyPost_ret (v := .tuple #[.agg (rdV A l.length c p f1), .bool true]) (by simp [results, Try.results40, go_sem, e0, e1, e2, e3]) rfl ⟨p, f1, rfl, hrz, hcz⟩
set_option maxRecDepth 100000 in
set_option maxHeartbeats 4000000 in
theorem cstep_7 {kd : Int} (hr : Rd w D g l p f) (hs : Sl rpU8 w D A l.length c l) (hn : l.length ≤ 300) (h0 : kd ≠ 0) (h1 : kd ≠ 1) (h2 : kd ≠ 2) (h3 : kd ≠ 3) (h4 : kd ≠ 4) (h5 : kd ≠ 5) (h6 : kd ≠ 6) (m0 : -9223372036854775808 ≤ m) (m1 : m ≤ 9223372036854775807) (x0 : -9223372036854775808 ≤ x) (x1 : x ≤ 9223372036854775807) :
    Calls Try.prog 40 #[.pointer (some ⟨g, 0, none⟩), .agg (rdV A l.length c p f), .agg #[.int .i64 kd, .int .i64 m, .int .i64 x]] w (StepIs w D A c g l) := by
  have H : Hid ((Try.prog.info? 68).map (·.size) = some 4) := by unfold Hid; kernel_rfl
  have HF := Lib.hid (StF.start (kd := kd) (m := m) (x := x) hr hs)
  have hp := hr.le
  clear hr hs
  go_enter Try.func40, Try.ntmps40
  go_upto_region 1 with (fail)
  generalize hb0 : w.heap.size = b0 at *
  generalize World.alloc (World.alloc (World.alloc w _) _) _ = w0 at *
  clear hb0
  have q0 := HF.out.kc.cell 0
  have q1 := HF.out.kc.cell 1
  have q2 := HF.out.kc.cell 2
  have q3 := HF.out.kc.cell 3
  have d0 := HF.out.kdo.cell 0
  have d1 := HF.out.kdo.cell 1
  have d2 := HF.out.kdo.cell 2
  have n0 : (kd == 0) = false := by simpa using h0
  have n1 : (kd == 1) = false := by simpa using h1
  have n2 : (kd == 2) = false := by simpa using h2
  have n3 : (kd == 3) = false := by simpa using h3
  have n4 : (kd == 4) = false := by simpa using h4
  have n5 : (kd == 5) = false := by simpa using h5
  have n6 : (kd == 6) = false := by simpa using h6
  clear h0 h1 h2 h3 h4 h5 h6
  have r0 := HF.out.kr.cell 0
  have r1 := HF.out.kr.cell 1
  have r2 := HF.out.kr.cell 2
  have r3 := HF.out.kr.cell 3
  have s0 := HF.out.kr.frozen 0
  have s1 := HF.out.kr.frozen 1
  have s2 := HF.out.kr.frozen 2
  have s3 := HF.out.kr.frozen 3
  go_wp2_with fail
  obtain ⟨hk, hrz, hcz⟩ := HF.out.out4 (.slice A l.length c) (.int .i64 p) (.int .i64 f.1) (.int .i64 f.2)
  have e0 := hk.cell 0
  have e1 := hk.cell 1
  have e2 := hk.cell 2
  have e3 := hk.cell 3
  first
    | refine bodyPost_ret (v := .tuple #[.agg (rdV A l.length c p f), .bool true]) (by simp [results, Try.results40, go_sem, e0, e1, e2, e3]) rfl ⟨p, f, rfl, hrz, hcz⟩
    | refine bodyPost_ret (v := .tuple #[.agg (rdV A l.length c p f), .bool true]) (by simp [results, Try.results40, go_sem, e0, e1, e2, e3]) rfl ⟨p, f, rfl, rdDrew hrz, hcz.drew⟩
end
end Go.Proofs.Ytjgcgedjpppfmaa
