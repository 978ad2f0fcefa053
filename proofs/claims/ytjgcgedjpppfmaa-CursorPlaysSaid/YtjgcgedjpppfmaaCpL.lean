/- The walk of the law CursorPlays. -/
import Derived.Test.YtjgcgedjpppfmaaCpS
import Derived.Test.YtjgcgedjpppfmaaCpT
import Derived.Test.YtjgcgedjpppfmaaFirst
namespace Go.Proofs.Ytjgcgedjpppfmaa
open Go.ChangeShapes Go.WideShapes Go.ChangeAt Go.RowKit
set_option linter.unusedVariables false
theorem cstep_any {w : World} {D : Dom} {A : Option Addr} {c g : Nat} {l : List UInt8} {p : Nat} {f : Flt} {kd m x : Int} (hr : Rd w D g l p f) (hs : Sl rpU8 w D A l.length c l) (hn : l.length ≤ 300) (m0 : -9223372036854775808 ≤ m) (m1 : m ≤ 9223372036854775807) (x0 : -9223372036854775808 ≤ x) (x1 : x ≤ 9223372036854775807) :
    Calls Try.prog 40 #[.pointer (some ⟨g, 0, none⟩), .agg (rdV A l.length c p f), .agg #[.int .i64 kd, .int .i64 m, .int .i64 x]] w (StepIs w D A c g l) := by
  by_cases h0 : kd = 0
  · subst h0; exact cstep_0 hr hs hn m0 m1 x0 x1
  by_cases h1 : kd = 1
  · subst h1; exact cstep_1 hr hs hn m0 m1 x0 x1
  by_cases h2 : kd = 2
  · subst h2; exact cstep_2 hr hs hn m0 m1 x0 x1
  by_cases h3 : kd = 3
  · subst h3; exact cstep_3 hr hs hn m0 m1 x0 x1
  by_cases h4 : kd = 4
  · subst h4; exact cstep_4 hr hs hn m0 m1 x0 x1
  by_cases h5 : kd = 5
  · subst h5; exact cstep_5 hr hs hn m0 m1 x0 x1
  by_cases h6 : kd = 6
  · subst h6; exact cstep_6 hr hs hn m0 m1 x0 x1
  exact cstep_7 hr hs hn h0 h1 h2 h3 h4 h5 h6 m0 m1 x0 x1
/-- What stands between two steps. -/
structure LF (w0 w : World) (A : Option Addr) (c g gc : Nat) (l : List UInt8) (p : Nat) (f : Flt) (p0 : Nat) (f0 : Flt) : Prop where
  r : Rd w (lt w0.heap.size) g l p f
  kc : Blk w gc 68 (rdV A l.length c p0 f0)
  sl : Sl rpU8 w (lt w0.heap.size) A l.length c l
  be : Below w0.heap.size w0 w
  hg : w0.heap.size ≤ g
  hgc : g < gc
section
variable {w0 w w' : World} {A : Option Addr} {c g gc : Nat} {l : List UInt8} {p p' : Nat} {f f' : Flt} {p0 : Nat} {f0 : Flt} {bb o : Nat} {kd m x : Int}
theorem LF.below (h : LF w0 w A c g gc l p f p0 f0) (hb : Below w.heap.size w w') : LF w0 w' A c g gc l p f p0 f0 := ⟨keepR h.r hb, keepB h.kc hb, keepS h.sl hb, stepB h.be hb, h.hg, h.hgc⟩
theorem LF.chg (h : LF w0 w A c g gc l p f p0 f0) (hr : Rd w' (lt w0.heap.size) g l p' f') (hc : Chg (one g) w w') : LF w0 w' A c g gc l p' f' p0 f0 :=
  ⟨hr, chB h.kc hc (fun e => by have e' : gc = g := e; have := h.hgc; omega), chS h.sl hc (fun k hk e => by have e' : k = g := e; have hk' : k < w0.heap.size := hk; have := h.hg; omega), chBase h.be hc (fun k e => by have e' : k = g := e; have := h.hg; omega), h.hg, h.hgc⟩
theorem LF.new {q : Nat} (h : LF w0 w A c g gc l p f p0 f0) (hc : Chg (one q) w w') (hq : gc < q) : LF w0 w' A c g gc l p f p0 f0 := by
  have h1 := h.hg
  have h2 := h.hgc
  refine ⟨h.r.keep (fun k hk => hc.block k (by
    rcases hk with rfl | hk
    · exact h.r.lt
    · exact h.r.dom k hk) (fun e => by
    have e' : k = q := e
    rcases hk with rfl | hk
    · omega
    · have hk' : k < w0.heap.size := hk; omega)) hc.size, chB h.kc hc (fun e => by have e' : gc = q := e; omega), chS h.sl hc (fun k hk e => by have e' : k = q := e; have hk' : k < w0.heap.size := hk; omega), chBase h.be hc (fun k e => by have e' : k = q := e; omega), h1, h2⟩
theorem LF.put (h : LF w0 w A c g gc l p f p0 f0) (hg : w.grownBy w' (some gc)) (hk : Blk w' gc 68 (rdV A l.length c p f)) : LF w0 w' A c g gc l p f p f := by
  have h1 := h.hg
  have h2 := h.hgc
  have hc : Chg (one gc) w w' := (Chg.of_grown hg).more (fun k _ hk => by injection hk)
  exact ⟨h.r.keep (fun k hk => hc.block k (by
    rcases hk with rfl | hk
    · exact h.r.lt
    · exact h.r.dom k hk) (fun e => by
    have e' : k = gc := e
    rcases hk with rfl | hk
    · omega
    · have hk' : k < w0.heap.size := hk; omega)) hc.size, hk, chS h.sl hc (fun k hk e => by have e' : k = gc := e; have hk' : k < w0.heap.size := hk; omega), chBase h.be hc (fun k e => by have e' : k = gc := e; omega), h1, h2⟩
theorem LF.c7 (h : LF w0 w A c g gc l p f p0 f0) (hb : bb < w0.heap.size) (q0 : w0.cell? ⟨bb, o, none⟩ = some (.int .i64 kd)) (q1 : w0.cell? ⟨bb, o + 1, none⟩ = some (.int .i64 m)) (q2 : w0.cell? ⟨bb, o + 2, none⟩ = some (.int .i64 x)) :
    w.cell? ⟨gc, 0, none⟩ = some (.slice A l.length c) ∧ w.cell? ⟨gc, 1, none⟩ = some (.int .i64 (p0 : Int)) ∧ w.cell? ⟨gc, 2, none⟩ = some (.int .i64 f0.1) ∧ w.cell? ⟨gc, 3, none⟩ = some (.int .i64 f0.2) ∧ w.cell? ⟨bb, o, none⟩ = some (.int .i64 kd) ∧ w.cell? ⟨bb, o + 1, none⟩ = some (.int .i64 m) ∧ w.cell? ⟨bb, o + 2, none⟩ = some (.int .i64 x) :=
  ⟨h.kc.cell 0, h.kc.cell 1, h.kc.cell 2, h.kc.cell 3, (h.be.cell (p := ⟨bb, o, none⟩) hb).trans q0, (h.be.cell (p := ⟨bb, o + 1, none⟩) hb).trans q1, (h.be.cell (p := ⟨bb, o + 2, none⟩) hb).trans q2⟩
end
set_option maxRecDepth 100000 in
set_option maxHeartbeats 4000000 in
theorem cursorPlays_any (A0 : Option Addr) (n0 c0 : Nat) (b : List UInt8) (A : Option Addr) (n c : Nat) (l : List Do3) (w : World) (hb : rpU8.sl w (lt w.heap.size) A0 n0 c0 b) (hl : rpDo3.sl w (lt w.heap.size) A n c l) :
    Calls Try.prog 9 #[.slice A0 n0 c0, .slice A n c] w fun e w' => e = .returned (.bool true) ∧ Below w.heap.size w w' := by
  obtain ⟨hlen, hnc, hcm⟩ := Rp.sl_len hl
  obtain ⟨hlen0, hnc0, hcm0⟩ := Rp.sl_len hb
  unfold maxLen at hcm hcm0
  subst hlen0
  have HL := Lib.hid hl
  have HN := Lib.hid hlen
  have HB := Lib.hid hb
  have H : Hid ((Try.prog.info? 68).map (·.size) = some 4) := by unfold Hid; kernel_rfl
  have hlive := fun w' => clive_any w'
  have HLIVE := Lib.hid hlive
  clear hl hlen hb hlive
  by_cases hbig : 300 < b.length
  · have hd : decide ((300 : Int) < (b.length : Int)) = true := by simp; omega
    go_enter Try.func9, Try.ntmps9
    go_wp2_with fail
    refine (HLIVE.out _).mono ?_; rintro e w1 ⟨rfl, hb1⟩
    go_wp2_with fail
    go_ret
    exact ⟨rfl, hb1⟩
  have hd : decide ((300 : Int) < (b.length : Int)) = false := by simp; omega
  by_cases hmany : 100 < n
  · have hd2 : decide ((100 : Int) < (n : Int)) = true := by simp; omega
    go_enter Try.func9, Try.ntmps9
    go_wp2_with fail
    refine (HLIVE.out _).mono ?_; rintro e w1 ⟨rfl, hb1⟩
    go_wp2_with fail
    go_ret
    exact ⟨rfl, hb1⟩
  have hd2 : decide ((100 : Int) < (n : Int)) = false := by simp; omega
  go_enter Try.func9, Try.ntmps9
  go_wp2_with fail
  refine (cnew_any HB.out (fun k hk => hk)).mono ?_; rintro e w1 ⟨rfl, hr1, hb1⟩
  have HR1 := Lib.hid hr1
  have HB1 := Lib.hid hb1
  clear hr1 hb1
  go_upto_block 0 with (fail)
  have hlf : LF w (w1.alloc (.cells (rdV A0 b.length c0 0 (0, 0)) 68)) A0 c0 w.heap.size w1.heap.size b 0 (0, 0) 0 (0, 0) :=
    ⟨keepR HR1.out (below1 _ _), Blk.new w1 68 (rdV A0 b.length c0 0 (0, 0)), keepS (keepS (show Sl rpU8 w (lt w.heap.size) A0 b.length c0 b from ⟨HB.out, fun k hk => hk⟩) HB1.out) (below1 _ _), stepB HB1.out (below1 _ _), Nat.le_refl _, HR1.out.lt⟩
  obtain ⟨gc, hgc⟩ : ∃ gc, gc = w1.heap.size := ⟨_, rfl⟩
  obtain ⟨g, hg⟩ : ∃ g, g = w.heap.size := ⟨_, rfl⟩
  rw [← hgc, ← hg] at hlf
  rw [← hgc, ← hg]
  have HLF := Lib.hid hlf
  clear hlf hgc hg
  generalize World.alloc w1 _ = w2 at *
  go_wp2_with fail
  go_loopw [7] (fun i wr => ∃ (j p : Nat) (f : Flt), j ≤ n ∧ i = .int .i64 j ∧ Hid (LF w wr A0 c0 g gc b p f p f)) (fun i _ => n - (intOf i).toNat)
  case atStart => exact ⟨0, 0, (0, 0), by omega, rfl, HLF⟩
  case round =>
    obtain ⟨j, p, f, hj, rfl, hlf⟩ := hrel
    by_cases hjn : j < n
    case neg =>
      obtain rfl : j = n := by omega
      have hdj : decide ((j : Int) < (j : Int)) = false := by simp
      go_wp2_with fail
      refine (HLIVE.out _).mono ?_; rintro e w3 ⟨rfl, hb3⟩
      go_wp2_with fail
      go_ret
      exact ⟨rfl, stepB hlf.out.be hb3⟩
    case pos =>
      have hdj : decide ((j : Int) < (n : Int)) = true := by simp; omega
      obtain ⟨bb, off, kd, m, x, rfl, hDb, hx, q0, q1, q2, _, ⟨hm0, hm1⟩, ⟨hx0, hx1⟩⟩ := do3_at HL.out hjn
      have hDb' : bb < w.heap.size := hDb
      have HQ0 := Lib.hid q0
      have HQ1 := Lib.hid q1
      have HQ2 := Lib.hid q2
      have hjI : (j : Int) < n := by omega
      have c7 := hlf.out.c7 hDb' q0 q1 q2
      obtain ⟨v0, v1, v2, v3, v4, v5, v6⟩ := c7
      clear hx q0 q1 q2 hDb
      go_upto_region 7 with (fail)
      go_cut [8, 9] from 23 to 74 (fun s8 s9 wx => ∃ (gx p' : Nat) (f' : Flt), s8 = .pointer (some ⟨gx, 0, none⟩) ∧ s9 = .bool true ∧ Hid (LF w wx A0 c0 g gc b p' f' p f) ∧ Hid (Blk wx gx 68 (rdV A0 b.length c0 p' f')) ∧ Hid (gc < gx))
      case first =>
        go_region_held3 (fun w' => w'.cell? ⟨gc, 0, none⟩ = some (.slice A0 b.length c0) ∧ w'.cell? ⟨gc, 1, none⟩ = some (.int .i64 (p : Int)) ∧ w'.cell? ⟨gc, 2, none⟩ = some (.int .i64 f.1) ∧ w'.cell? ⟨gc, 3, none⟩ = some (.int .i64 f.2) ∧ w'.cell? ⟨bb, off + j * 3, none⟩ = some (.int .i64 kd) ∧ w'.cell? ⟨bb, off + j * 3 + 1, none⟩ = some (.int .i64 m) ∧ w'.cell? ⟨bb, off + j * 3 + 2, none⟩ = some (.int .i64 x))
          (first | with_reducible exact hlf.out.c7 hDb' HQ0.out HQ1.out HQ2.out | with_reducible exact (hlf.out.below ((Below.refl _ wr).drew)).c7 hDb' HQ0.out HQ1.out HQ2.out | with_reducible exact (hlf.out.below ((below1 wr _).drew)).c7 hDb' HQ0.out HQ1.out HQ2.out | with_reducible exact (hlf.out.below (below1 wr _)).c7 hDb' HQ0.out HQ1.out HQ2.out | with_reducible exact HL2.out.c7 hDb' HQ0.out HQ1.out HQ2.out | with_reducible exact (HL2.out.below (below1 w3 _)).c7 hDb' HQ0.out HQ1.out HQ2.out | with_reducible exact HL5.out.c7 hDb' HQ0.out HQ1.out HQ2.out)
          ((first
            | (go_at_call 40; refine (cstep_any (w := World.drew wr) (rdDrew hlf.out.r) (keepS hlf.out.sl ((Below.refl _ wr).drew)) (by omega) hm0 hm1 hx0 hx1).mono ?_; rintro e w3 ⟨p', f', rfl, hr3, hc3'⟩
               have hc3 : Chg (one g) wr w3 := ⟨hc3'.os, hc3'.tape, hc3'.output, hc3'.size, hc3'.block⟩
               have HL2 := Lib.hid (hlf.out.chg hr3 hc3)
               have HGX : Hid (gc < w3.heap.size) := HL2.out.kc.lt
               clear hr3 hc3 hc3')
            | (go_at_call 40; refine (cstep_any (w := (World.alloc wr (.cells rdZ 68)).drew) (keepR hlf.out.r ((below1 wr _).drew)) (keepS hlf.out.sl ((below1 wr _).drew)) (by omega) hm0 hm1 hx0 hx1).mono ?_; rintro e w3 ⟨p', f', rfl, hr3, hc3⟩
               have HL2 := Lib.hid ((hlf.out.below ((below1 wr (.cells rdZ 68)).drew)).chg hr3 hc3)
               have HGX : Hid (gc < wr.heap.size) := hlf.out.kc.lt
               have hgl := hlf.out.hgc
               have hxz := chB (show Blk (World.drew (World.alloc wr (.cells rdZ 68))) wr.heap.size 68 rdZ from Blk.new wr 68 rdZ) hc3 (fun e => by have e' : wr.heap.size = g := e; have := HGX.out; omega)
               have HXZ := Lib.hid hxz
               have HL5 := Lib.hid (HL2.out.new (ch4 w3 _ A0 b.length c0 p' f') HGX.out)
               have z0 := hxz.cell 0
               have z1 := hxz.cell 1
               have z2 := hxz.cell 2
               have z3 := hxz.cell 3
               have y0 := hxz.frozen 0
               have y1 := hxz.frozen 1
               have y2 := hxz.frozen 2
               have y3 := hxz.frozen 3
               clear hxz hr3 hc3 hgl)))
        · go_wp2_with fail
          go_meet
          exact ⟨w3.heap.size, p', f', rfl, rfl, HL2.out.below (below1 w3 _), Blk.new w3 68 (rdV A0 b.length c0 p' f'), HGX⟩
        · go_wp2_with fail
          go_meet
          exact ⟨_, p', f', rfl, rfl, HL2.out.new (ch4 w3 _ A0 b.length c0 p' f') HGX.out, (((Blk.put (show Blk w3 wr.heap.size 68 rdZ from HXZ.out) 0 _).put 1 _).put 2 _).put 3 _, HGX⟩
      case rest =>
        clear v0 v1 v2 v3 v4 v5 v6
        obtain ⟨gx, p', f', rfl, rfl, hlc, hx, hgx⟩ := hcut
        have hp' := hlc.out.r.le
        have x0 := (show Blk wc gx 68 _ from hx.out).cell 0
        have x1 := (show Blk wc gx 68 _ from hx.out).cell 1
        have x2 := (show Blk wc gx 68 _ from hx.out).cell 2
        have x3 := (show Blk wc gx 68 _ from hx.out).cell 3
        go_wp2_with (refine wpList_put_row rfl 68 (.tmp 6) (.tmp 39) rfl gc (rdV A0 b.length c0 p' f') rfl rfl 68 _ hlc.out.kc H.out rfl (by simp [Value.oneCell']) ?_; intro w4 hblk hgr
                     have HLD := Lib.hid (hlc.out.put hgr hblk)
                     clear hblk hgr)
        clear x0 x1 x2 x3
        have hkq : ∀ q : Gr w4.heap.size w4, LF w q.val A0 c0 g gc b p' f' p' f' := fun q => HLD.out.below q.is
        have HLQ := Lib.hid hkq
        have k1 : ∀ q : Gr w4.heap.size w4, q.val.cell? ⟨gc, 1, none⟩ = some (.int .i64 (p' : Int)) := fun q => (hkq q).kc.cell 1
        have k2 : ∀ q : Gr w4.heap.size w4, q.val.cell? ⟨gc, 2, none⟩ = some (.int .i64 f'.1) := fun q => (hkq q).kc.cell 2
        have k3 : ∀ q : Gr w4.heap.size w4, q.val.cell? ⟨gc, 3, none⟩ = some (.int .i64 f'.2) := fun q => (hkq q).kc.cell 3
        have hpI : (p' : Int) ≤ (b.length : Int) := by omega
        have hw1 : IntKind.i64.wrap ((b.length : Int) - (p' : Int)) = (b.length : Int) - (p' : Int) := IntWalk.i64_in _ (by omega)
        clear hkq
        refine wp_region_grow (by kernel_rfl) (by kernel_rfl) w4.heap.size ?_
        repeat (quiet_step ((first
          | (go_at_call 31; exact Gr.same _ (cat_at (HLQ.out _).r))
          | (go_at_call 37; exact Gr.call _ (Nat.le_refl _) (cleft_at (HLQ.out _).r))
          | (go_at_call 36; exact Gr.call _ (Nat.le_refl _) (cfault_at (HLQ.out _).r))
          | (go_at_call 38; exact Gr.call _ (Nat.le_refl _) (cgood_at (HLQ.out _).r)))))
        refine wpQuiet_nil ?_
        rintro w6 ⟨⟨_, hb6⟩, rfl⟩
        have HL6 := Lib.hid (HLD.out.below hb6)
        clear k1 k2 k3 hw1 hb6
        go_wp2_with fail
        go_roundw
        case rel => exact ⟨j + 1, p', f', by omega, by go_num, HL6⟩
        case measure => simp [intOf]; omega
end Go.Proofs.Ytjgcgedjpppfmaa
