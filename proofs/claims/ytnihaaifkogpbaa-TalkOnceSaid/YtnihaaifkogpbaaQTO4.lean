/-
  'tholepinlaw30.TalkOnce' returns true for every input, and each argument reads behind the call as it read before. No condition.
-/
import Derived.Test.YtnihaaifkogpbaaTkR
import Derived.BigQuiet
import Derived.Deep.DeepCutAuto
import Derived.Deep.CutBlock
import Derived.Test.YtnihaaifkogpbaaTuN
import Derived.Test.YtnihaaifkogpbaaOpenF
import Derived.Test.YtnihaaifkogpbaaRows
import Derived.Test.YtnihaaifkogpbaaQTO3
/- A unit's answer to any message. -/
namespace Go.Proofs.Ytnihaaifkogpbaa
open Go.ChangeShapes Go.WideShapes Go.ChangeAt Go.RowKit
set_option linter.unusedVariables false
theorem t8_below {w w' : World} {A : Option Addr} {n c : Nat} {l : List UInt8} (h : rpU8.sl w (Tn T8 w) A n c l) (hb : Below w.heap.size w w') : rpU8.sl w' (Tn T8 w') A n c l :=
  Rp.sl_more (Rp.sl_below h hb (fun k hk => hk.1)) (fun k hk => Tb.keep (fun k hk => hb.block k hk.1) hb.size hk)
theorem t8_chg {F : Dom} {w w' : World} {A : Option Addr} {n c : Nat} {l : List UInt8} (h : rpU8.sl w (Tn T8 w) A n c l) (hs : Safe F w) (hc : Chg F w w') : rpU8.sl w' (Tn T8 w') A n c l := by
  have hkk := hs.keep (TS := T8) hc (by unfold T8; decide) (by unfold T8; decide)
  exact Rp.sl_more (Rp.sl_keep h hkk) (fun k hk => Tb.keep hkk hc.size hk)
theorem UI.chg {w w' : World} {F : Dom} {gu gm tb nd M ep : Nat} {se : Bool} {f : Nat → Option Value} (h : UI w gu gm tb nd M ep se f) (hs : Safe F w) (hc : Chg F w w') (h1 : ¬ F gu) (h2 : ¬ F gm) : UI w' gu gm tb nd M ep se f := by
  obtain ⟨a, tl, pj, nx, At, nt, ct, T, hu, hr⟩ := h
  exact ⟨a, tl, pj, nx, At, nt, ct, T, chB hu hc h1, hr.chg hs hc h2⟩
/-- What follows for the slots, for an answer. -/
structure AR (w' : World) (q : Ms) (ep : Nat) (se : Bool) (f : Nat → Option Value) (d : List UInt8) (m : Ms) (h : Hd) (code : Int) (f' : Nat → Option Value) : Prop where
  keep : ∀ p st A n c, f p = some (slV st A n c) → st = 1 ∨ st = 3 → (q.kd = 4 ∧ q.ps = p ∧ m.kd = 10 ∧ f' p = some (slV 3 none 0 0)) ∨ (f' p = some (slV st A n c) ∧ ¬ (q.kd = 4 ∧ q.ps = p ∧ m.kd = 10))
  two : q.kd = 2 → ∀ st A n c, f q.ps = some (slV st A n c) → st = 1 ∨ st = 3 → m.kd ≠ 10
  wr : MOk q → q.kd = 2 → q.ep = ep → se = false → f q.ps = none → code = 0 ∧ m.kd = 10 ∧ ∃ A n c, f' q.ps = some (slV 1 A n c) ∧ rpU8.sl w' (Tn T8 w') A n c q.dt
  rd : MOk q → q.kd = 1 → q.ep = ep → (se = true → m.kd = 14 ∧ m.st = 18) ∧ (se = false → ∀ st A n c, f q.ps = some (slV st A n c) → st = 1 ∨ st = 3 → m.st = st ∧ (st = 1 → m.dt = d ∧ rpU8.sl w' (Lt w') h.A3 h.n3 h.c3 d))
/-- What Answer gives. -/
def AnsIs (w : World) (gu gm tb nd M ep : Nat) (se : Bool) (f : Nat → Option Value) (q : Ms) (d : List UInt8) (e : Ending) (w' : World) : Prop :=
  ∃ (m : Ms) (h : Hd) (code : Int), e = .returned (.tuple #[.agg (msV m h), .int .i64 code]) ∧ (∃ ep' se' f', UI w' gu gm tb nd (M + 1) ep' se' f' ∧ AR w' q ep se f d m h code f') ∧ Chg (fun k => k = gu ∨ k = gm) w w'
section
variable {w w' w6 : World} {q am mm : Ms} {ep : Nat} {se : Bool} {f f' : Nat → Option Value} {d : List UInt8} {h : Hd} {code code' : Int}
theorem AR.good (hdr : DR w6 q ep se f d 0 am f') (hx : ∀ A n c, rpU8.sl w6 (Tn T8 w6) A n c q.dt → rpU8.sl w' (Tn T8 w') A n c q.dt) (hrow : rpU8.sl w' (Lt w') h.A3 h.n3 h.c3 am.dt) : AR w' q ep se f d am h 0 f' := by
  refine ⟨fun p st A n c hp hst => ?_, fun hk st A n c hp hst => absurd rfl (hdr.two hk st A n c hp hst), fun _ hk he hse hf => ?_, fun _ hk he => ⟨fun hse => ?_, fun hse st A n c hp hst => ?_⟩⟩
  · rcases hdr.keep p st A n c hp hst with ⟨h1, h2, h3, h4⟩ | ⟨h1, h2⟩
    · exact .inl ⟨h1, h2, hdr.dn (.inr h1) rfl, h4⟩
    · exact .inr ⟨h1, fun h => h2 ⟨h.1, h.2.1, rfl⟩⟩
  · obtain ⟨h1, A, n, c, h2, h3⟩ := hdr.wr hk he hse hf
    exact ⟨rfl, hdr.dn (.inl hk) rfl, A, n, c, h2, hx A n c h3⟩
  · exact absurd ((hdr.rd hk he).1 hse) (by decide)
  · obtain ⟨_, h1, h2, h3⟩ := (hdr.rd hk he).2 hse st A n c hp hst
    exact ⟨h2, fun e => ⟨h3 e, by rw [← h3 e]; exact hrow⟩⟩
theorem mok_fail (hok : MOk q) : MOk (failM q.ep q.sq 18) := by
  refine ⟨⟨(by show Kd.right 14 = true; decide +kernel), ?_, ?_, ?_, ?_, ?_, ?_, ?_, .inl rfl⟩, hok.2⟩
  all_goals
    unfold part
    first
      | (rw [if_neg (by show ¬ Kd.has 14 _ = true; decide +kernel)]; first | rfl | exact ⟨rfl, rfl⟩)
      | (rw [if_pos (by show Kd.has 14 _ = true; decide +kernel)]; show (1 : Int) ≤ 18 ∧ (18 : Int) ≤ mostS 14; decide +kernel)
theorem fits_read (hok : MOk q) (hk : q.kd = 1) : fitsC q (failM q.ep q.sq 18) = 0 := by
  unfold fitsC
  rw [if_neg (fun h => h ⟨hok, mok_fail hok⟩), if_neg (by show ¬ Kd.ans q.kd 14 = false; rw [hk]; decide +kernel), if_neg (fun h => h rfl), if_neg (fun h => h.1 rfl), if_neg (fun h => absurd h.1 (by show ¬ (14 : Int) = 12; decide))]
theorem AR.bad (hok : MOk q) (hdr : DR w6 q ep se f d code am f') (hc : code ≠ 0) (hm : mm.kd ≠ 10) (hf : fitsC q (failM q.ep q.sq code) = 0 → mm = failM q.ep q.sq code) : AR w' q ep se f d mm h code' f' := by
  refine ⟨fun p st A n c hp hst => ?_, fun _ _ _ _ _ _ _ => hm, fun _ hk he hse hn => absurd (hdr.wr hk he hse hn).1 hc, fun _ hk he => ⟨fun hse => ?_, fun hse st A n c hp hst => absurd ((hdr.rd hk he).2 hse st A n c hp hst).1 hc⟩⟩
  · rcases hdr.keep p st A n c hp hst with ⟨_, _, h3, _⟩ | ⟨h1, _⟩
    · exact absurd h3 hc
    · exact .inr ⟨h1, fun h => hm h.2.2⟩
  · have h1 := (hdr.rd hk he).1 hse
    subst h1
    have h2 := hf (fits_read hok hk)
    rw [h2]
    exact ⟨rfl, rfl⟩
theorem AR.none (hn : ¬ (MOk q ∧ (Kd.an q.kd != 0) = true)) : AR w' q ep se f d zeroM h code' f := by
  have h0 : zeroM.kd ≠ 10 := by show ¬ (0 : Int) = 10; decide
  exact ⟨fun p st A n c hp hst => .inr ⟨hp, fun h => h0 h.2.2⟩, fun _ _ _ _ _ _ _ => h0, fun hok hk _ _ _ => absurd ⟨hok, by rw [hk]; decide +kernel⟩ hn, fun hok hk _ => absurd ⟨hok, by rw [hk]; decide +kernel⟩ hn⟩
end
/-- A unit and a request. -/
structure DU (w : World) (gu gm tb nd M ep : Nat) (se : Bool) (f : Nat → Option Value) (tl : Nat) (pj : Value) (nx : Nat) (At : Option Addr) (nt ct : Nat) (T : List Lnk) (D : Dom) (q : Ms) (h : Hd) (d : List UInt8) : Prop where
  u : Blk w gu 60 (unV nd ep se (.map (some gm)) tl pj nx At nt ct)
  r : UR w gm tb M f tl pj nx At nt ct T
  m : MsIn w D q h
  dg : ∀ k, D k → ¬ (k = gu ∨ k = gm)
  dt : ∀ A n c, f q.ps = some (slV 1 A n c) → rpU8.sl w (Tn T8 w) A n c d ∧ n ≤ 1048576
section
variable {w w' : World} {gu gm tb nd M ep tl nx nt ct : Nat} {se : Bool} {f : Nat → Option Value} {pj : Value} {At : Option Addr} {T : List Lnk} {D : Dom} {q : Ms} {h : Hd} {d : List UInt8}
theorem DU.below (s : DU w gu gm tb nd M ep se f tl pj nx At nt ct T D q h d) (hb : Below w.heap.size w w') : DU w' gu gm tb nd M ep se f tl pj nx At nt ct T D q h d :=
  ⟨keepB s.u hb, s.r.below hb, s.m.below hb, s.dg, fun A n c hh => ⟨t8_below (s.dt A n c hh).1 hb, (s.dt A n c hh).2⟩⟩
theorem DU.ui (s : DU w gu gm tb nd M ep se f tl pj nx At nt ct T D q h d) (he : EOk ep) : UI w gu gm tb nd (M + 1) ep se f :=
  (show UI w gu gm tb nd M ep se f from ⟨he, tl, pj, nx, At, nt, ct, T, s.u, s.r⟩).mono (Nat.le_succ _)
theorem kd_req {k : Int} (h : (Kd.an k != 0) = true) : k = 1 ∨ k = 2 ∨ k = 3 ∨ k = 4 ∨ k = 5 ∨ k = 6 ∨ k = 7 ∨ k = 8 := by
  by_cases hr : 1 ≤ k ∧ k ≤ 14
  · obtain ⟨n, rfl⟩ := Int.eq_ofNat_of_zero_le (show 0 ≤ k by omega)
    have hn : n < 15 := by omega
    have hall : ∀ i : Fin 15, 1 ≤ i.val → (Kd.an (i.val : Int) != 0) = true → i.val ≤ 8 := by decide +kernel
    have := hall ⟨n, hn⟩ (by show 1 ≤ n; omega) h
    have h8 : n ≤ 8 := this
    omega
  · exfalso
    have h0 : Kd.idx k = 0 := by unfold Kd.idx; rw [if_neg hr]
    unfold Kd.an at h
    rw [h0] at h
    revert h
    decide +kernel
theorem does_any {ga : Nat} (hs : DS w gu gm ga tb nd M ep se f tl pj nx At nt ct T D q h (ansY q) hdZb d) (he : EOk ep) (hM : M ≤ 1000) (hok : MOk q) (hr : (Kd.an q.kd != 0) = true) :
    Calls Try.prog 18 #[.pointer (some ⟨gu, 0, none⟩), .agg (msV q h), .pointer (some ⟨ga, 0, none⟩)] w (DoesIs w gu gm ga tb nd M ep se f q d) := by
  rcases kd_req hr with hk | hk | hk | hk | hk | hk | hk | hk
  · exact does1_any hs he hM hok hk
  · exact does2_any hs he hM hok hk
  · exact does3_any hs he hM hok hk
  · exact does4_any hs he hM hok hk
  · exact does5_any hs he hM hok hk
  · exact does6_any hs he hM hok hk
  · exact does7_any hs he hM hok hk
  · exact does8_any hs he hM hok hk
set_option maxRecDepth 100000 in
set_option maxHeartbeats 8000000 in
theorem answer_any (he : EOk ep) (hs : DU w gu gm tb nd M ep se f tl pj nx At nt ct T D q h d) (hM : M ≤ 1000) :
    Calls Try.prog 7 #[.pointer (some ⟨gu, 0, none⟩), .agg (msV q h)] w (AnsIs w gu gm tb nd M ep se f q d) := by
  have hb2 := below2 w (.cells (msV q h) 40) (.cells msZ 40)
  have HB2 := Lib.hid hb2
  have K1 := Lib.hid (blk21 w 40 40 (msV q h) msZ)
  have K2 := Lib.hid (blk22 w 40 40 (msV q h) msZ)
  have S2 := Lib.hid (hs.below hb2)
  have HUL := Lib.hid hs.u.lt
  have HML := Lib.hid hs.r.mp.lt
  have HQD := Lib.hid hs.m.dom
  have HEP := Lib.hid he
  have HSZ : Hid ((Try.prog.info? 40).map (·.size) = some 14) := by show _ = _; kernel_rfl
  have hep := hs.m.ep1
  have hsq := hs.m.sq1
  clear hs hb2 he
  go_enter Try.func7, Try.ntmps7
  go_upto_region 1 with (fail)
  obtain ⟨gz, hgz⟩ : ∃ gz, gz = w.heap.size := ⟨_, rfl⟩
  rw [← hgz] at K1 K2 ⊢
  have HGZ := Lib.hid hgz
  clear hgz
  generalize World.alloc (World.alloc w _) _ = w2 at *
  have q0 := (show Blk w2 gz 40 (msV q h) from K1.out).cell 0
  have q1 := (show Blk w2 gz 40 (msV q h) from K1.out).cell 1
  have q2 := (show Blk w2 gz 40 (msV q h) from K1.out).cell 2
  have q3 := (show Blk w2 gz 40 (msV q h) from K1.out).cell 3
  have q4 := (show Blk w2 gz 40 (msV q h) from K1.out).cell 4
  have q5 := (show Blk w2 gz 40 (msV q h) from K1.out).cell 5
  have q6 := (show Blk w2 gz 40 (msV q h) from K1.out).cell 6
  have q7 := (show Blk w2 gz 40 (msV q h) from K1.out).cell 7
  have q8 := (show Blk w2 gz 40 (msV q h) from K1.out).cell 8
  have q9 := (show Blk w2 gz 40 (msV q h) from K1.out).cell 9
  have q10 := (show Blk w2 gz 40 (msV q h) from K1.out).cell 10
  have q11 := (show Blk w2 gz 40 (msV q h) from K1.out).cell 11
  have q12 := (show Blk w2 gz 40 (msV q h) from K1.out).cell 12
  have q13 := (show Blk w2 gz 40 (msV q h) from K1.out).cell 13
  obtain ⟨b, hb⟩ : ∃ b, b = dec (MOk q) := ⟨_, rfl⟩
  have HBQ : Hid (b = dec (MOk q)) := hb
  have hmr := mright_any S2.out.m
  rw [← hb] at hmr
  have HMR := Lib.hid hmr
  clear hmr hb
  go_upto_region 3 with (fail)
  cases b
  case false =>
    have HN : Hid (¬ MOk q) := fun hk => by have h1 := HBQ.out; rw [dec_true hk] at h1; cases h1
    go_wp2_with
      (first
       | (go_at_call 16
          refine HMR.out.mono ?_
          rintro e w3 ⟨rfl, hb3⟩
          have HB3 := Lib.hid (stepB HB2.out hb3)
          have K23 := Lib.hid (keepB (show Blk w2 (gz + 1) 40 msZ from K2.out) hb3)
          have S3 := Lib.hid (S2.out.below hb3)
          clear hb3 q0 q1 q2 q3 q4 q5 q6 q7 q8 q9 q10 q11 q12 q13)
       | (refine wpList_put_row rfl 40 (.tmp 4) (.tmp 16) rfl (gz + 1) msZ rfl rfl 40 _ K23.out HSZ.out rfl (by simp [Value.oneCell']) ?_; intro w9 hblk hgr))
    try rw [Exit.noGoto_ret]
    have x0 := (show Blk w9 (gz + 1) 40 msZ from hblk).cell 0
    have x1 := (show Blk w9 (gz + 1) 40 msZ from hblk).cell 1
    have x2 := (show Blk w9 (gz + 1) 40 msZ from hblk).cell 2
    have x3 := (show Blk w9 (gz + 1) 40 msZ from hblk).cell 3
    have x4 := (show Blk w9 (gz + 1) 40 msZ from hblk).cell 4
    have x5 := (show Blk w9 (gz + 1) 40 msZ from hblk).cell 5
    have x6 := (show Blk w9 (gz + 1) 40 msZ from hblk).cell 6
    have x7 := (show Blk w9 (gz + 1) 40 msZ from hblk).cell 7
    have x8 := (show Blk w9 (gz + 1) 40 msZ from hblk).cell 8
    have x9 := (show Blk w9 (gz + 1) 40 msZ from hblk).cell 9
    have x10 := (show Blk w9 (gz + 1) 40 msZ from hblk).cell 10
    have x11 := (show Blk w9 (gz + 1) 40 msZ from hblk).cell 11
    have x12 := (show Blk w9 (gz + 1) 40 msZ from hblk).cell 12
    have x13 := (show Blk w9 (gz + 1) 40 msZ from hblk).cell 13
    have hsf : Safe (fun k => k = gz + 1) w3 := fun k hk _ cs t ht => by
      subst hk
      exact .inr (blk_type (show Blk w3 (gz + 1) 40 _ from K23.out) ht)
    have c79 : Chg (fun k => k = gz + 1) w3 w9 := (Chg.of_grown hgr).more (fun k _ hk => Option.some.inj hk)
    have hui9 := (S3.out.ui HEP.out).chg hsf c79 (by have h1 := HGZ.out; have h2 := HUL.out; show ¬ gu = gz + 1; omega) (by have h1 := HGZ.out; have h2 := HML.out; show ¬ gm = gz + 1; omega)
    have c9 := chGrown (Chg.of_pure HB3.out (fun k => k = gu ∨ k = gm)) hgr (fun k hk => by have e' : gz + 1 = k := Option.some.inj hk; have := HGZ.out; omega)
    exact bodyPost_ret (v := .tuple #[.agg msZ, .int .i64 3]) (by simp [results, Try.results7, go_sem, x0, x1, x2, x3, x4, x5, x6, x7, x8, x9, x10, x11, x12, x13]) rfl ⟨zeroM, hdZ, 3, rfl, ⟨ep, se, f, hui9, AR.none (fun h => HN.out h.1)⟩, c9⟩
  case true =>
  have HOK : Hid (MOk q) := by
    show MOk q
    exact Classical.byContradiction (fun hk => by have h1 := HBQ.out; rw [dec_false hk] at h1; cases h1)
  go_wp2_with fail
  refine HMR.out.mono ?_; rintro e w3 ⟨rfl, hb3⟩
  have HB3 := Lib.hid (stepB HB2.out hb3)
  have K13 := Lib.hid (keepB (show Blk w2 gz 40 (msV q h) from K1.out) hb3)
  have K23 := Lib.hid (keepB (show Blk w2 (gz + 1) 40 msZ from K2.out) hb3)
  have S3 := Lib.hid (S2.out.below hb3)
  clear hb3 K1 K2 S2 HB2 q0 q1 q2 q3 q4 q5 q6 q7 q8 q9 q10 q11 q12 q13
  have r0 := (show Blk w3 gz 40 (msV q h) from K13.out).cell 0
  obtain ⟨b, hb⟩ : ∃ b, b = (Kd.an q.kd != 0) := ⟨_, rfl⟩
  have HBR : Hid (b = (Kd.an q.kd != 0)) := hb
  have hrq := krequest_any q.kd w3
  rw [← hb] at hrq
  have HRQ := Lib.hid hrq
  clear hrq hb
  go_upto_region 5 with (fail)
  cases b
  case false =>
    have HN : Hid (¬ (Kd.an q.kd != 0) = true) := by show ¬ _; rw [← HBR.out]; decide
    go_wp2_with
      (first
       | (go_at_call 17
          refine HRQ.out.mono ?_
          rintro e w4 ⟨rfl, hb4⟩
          have HB4 := Lib.hid (stepB HB3.out hb4)
          have K24 := Lib.hid (keepB (show Blk w3 (gz + 1) 40 msZ from K23.out) hb4)
          have S4 := Lib.hid (S3.out.below hb4)
          clear hb4 r0)
       | (refine wpList_put_row rfl 40 (.tmp 4) (.tmp 22) rfl (gz + 1) msZ rfl rfl 40 _ K24.out HSZ.out rfl (by simp [Value.oneCell']) ?_; intro w9 hblk hgr))
    try rw [Exit.noGoto_ret]
    have x0 := (show Blk w9 (gz + 1) 40 msZ from hblk).cell 0
    have x1 := (show Blk w9 (gz + 1) 40 msZ from hblk).cell 1
    have x2 := (show Blk w9 (gz + 1) 40 msZ from hblk).cell 2
    have x3 := (show Blk w9 (gz + 1) 40 msZ from hblk).cell 3
    have x4 := (show Blk w9 (gz + 1) 40 msZ from hblk).cell 4
    have x5 := (show Blk w9 (gz + 1) 40 msZ from hblk).cell 5
    have x6 := (show Blk w9 (gz + 1) 40 msZ from hblk).cell 6
    have x7 := (show Blk w9 (gz + 1) 40 msZ from hblk).cell 7
    have x8 := (show Blk w9 (gz + 1) 40 msZ from hblk).cell 8
    have x9 := (show Blk w9 (gz + 1) 40 msZ from hblk).cell 9
    have x10 := (show Blk w9 (gz + 1) 40 msZ from hblk).cell 10
    have x11 := (show Blk w9 (gz + 1) 40 msZ from hblk).cell 11
    have x12 := (show Blk w9 (gz + 1) 40 msZ from hblk).cell 12
    have x13 := (show Blk w9 (gz + 1) 40 msZ from hblk).cell 13
    have hsf : Safe (fun k => k = gz + 1) w4 := fun k hk _ cs t ht => by
      subst hk
      exact .inr (blk_type (show Blk w4 (gz + 1) 40 _ from K24.out) ht)
    have c79 : Chg (fun k => k = gz + 1) w4 w9 := (Chg.of_grown hgr).more (fun k _ hk => Option.some.inj hk)
    have hui9 := (S4.out.ui HEP.out).chg hsf c79 (by have h1 := HGZ.out; have h2 := HUL.out; show ¬ gu = gz + 1; omega) (by have h1 := HGZ.out; have h2 := HML.out; show ¬ gm = gz + 1; omega)
    have c9 := chGrown (Chg.of_pure HB4.out (fun k => k = gu ∨ k = gm)) hgr (fun k hk => by have e' : gz + 1 = k := Option.some.inj hk; have := HGZ.out; omega)
    exact bodyPost_ret (v := .tuple #[.agg msZ, .int .i64 7]) (by simp [results, Try.results7, go_sem, x0, x1, x2, x3, x4, x5, x6, x7, x8, x9, x10, x11, x12, x13]) rfl ⟨zeroM, hdZ, 7, rfl, ⟨ep, se, f, hui9, AR.none (fun h => HN.out h.2)⟩, c9⟩
  case true =>
  have HRQT : Hid ((Kd.an q.kd != 0) = true) := HBR.out.symm
  go_wp2_with fail
  refine HRQ.out.mono ?_; rintro e w4 ⟨rfl, hb4⟩
  have HB4 := Lib.hid (stepB HB3.out hb4)
  have K14 := Lib.hid (keepB (show Blk w3 gz 40 (msV q h) from K13.out) hb4)
  have K24 := Lib.hid (keepB (show Blk w3 (gz + 1) 40 msZ from K23.out) hb4)
  have S4 := Lib.hid (S3.out.below hb4)
  clear hb4 K13 K23 S3 HB3 r0
  have q1 := (show Blk w4 gz 40 (msV q h) from K14.out).cell 1
  have q2 := (show Blk w4 gz 40 (msV q h) from K14.out).cell 2
  have hb5 := below1 w4 (.cells (msV (ansY q) hdZb) 40)
  have HB5 := Lib.hid (stepB HB4.out hb5)
  have KA5 := Lib.hid (blk11 w4 40 (msV (ansY q) hdZb))
  have K15 := Lib.hid (keepB (show Blk w4 gz 40 (msV q h) from K14.out) hb5)
  have K25 := Lib.hid (keepB (show Blk w4 (gz + 1) 40 msZ from K24.out) hb5)
  have S5 := Lib.hid (S4.out.below hb5)
  have HZ4 := Lib.hid (show Blk w4 (gz + 1) 40 _ from K24.out).lt
  clear hb5
  go_upto_region 8 with (fail)
  obtain ⟨ga, hga⟩ : ∃ ga, ga = w4.heap.size := ⟨_, rfl⟩
  rw [← hga] at KA5 HZ4 ⊢
  have HGA := Lib.hid hga
  have HZW := Lib.hid HB4.out.size
  clear hga q1 q2 K14 K24 S4
  generalize World.alloc w4 _ = w5 at *
  have HGAW : Hid (w.heap.size ≤ ga) := by show _ ≤ ga; rw [HGA.out]; exact HZW.out
  have SD5 := Lib.hid (show DS w5 gu gm ga tb nd M ep se f tl pj nx At nt ct T D q h (ansY q) hdZb d from ⟨S5.out.u, S5.out.r, KA5.out, S5.out.m, (fun k hk e => by
    rcases e with e | e | e
    · exact S5.out.dg k hk (.inl e)
    · exact S5.out.dg k hk (.inr e)
    · have h1 := HQD.out k hk; have := HGAW.out; omega), S5.out.dt⟩)
  have HDO := Lib.hid (does_any SD5.out HEP.out hM HOK.out HRQT.out)
  have q0 := (show Blk w5 gz 40 (msV q h) from K15.out).cell 0
  have q1 := (show Blk w5 gz 40 (msV q h) from K15.out).cell 1
  have q2 := (show Blk w5 gz 40 (msV q h) from K15.out).cell 2
  have q3 := (show Blk w5 gz 40 (msV q h) from K15.out).cell 3
  have q4 := (show Blk w5 gz 40 (msV q h) from K15.out).cell 4
  have q5 := (show Blk w5 gz 40 (msV q h) from K15.out).cell 5
  have q6 := (show Blk w5 gz 40 (msV q h) from K15.out).cell 6
  have q7 := (show Blk w5 gz 40 (msV q h) from K15.out).cell 7
  have q8 := (show Blk w5 gz 40 (msV q h) from K15.out).cell 8
  have q9 := (show Blk w5 gz 40 (msV q h) from K15.out).cell 9
  have q10 := (show Blk w5 gz 40 (msV q h) from K15.out).cell 10
  have q11 := (show Blk w5 gz 40 (msV q h) from K15.out).cell 11
  have q12 := (show Blk w5 gz 40 (msV q h) from K15.out).cell 12
  have q13 := (show Blk w5 gz 40 (msV q h) from K15.out).cell 13
  go_wp2_with fail
  refine HDO.out.mono ?_; rintro e w6 ⟨code, am, ah, ep', se', f', rfl, hbd, ha, hui, hchg, hdr⟩
  have HBD := Lib.hid hbd
  have HA := Lib.hid ha
  have HUI := Lib.hid hui
  have HDR := Lib.hid hdr
  have HC6 := Lib.hid ((Chg.of_pure HB5.out (fun k => k = gu ∨ k = gm ∨ k = ga)).trans hchg)
  have HGM : Hid (gm < w.heap.size) := HML.out
  have K26 := Lib.hid (chB (show Blk w5 (gz + 1) 40 msZ from K25.out) hchg (fun e => by have h1 := HGZ.out; have h2 := HUL.out; have h3 := HML.out; have h4 := HZ4.out; rcases e with e | e | e <;> omega))
  have K16 := Lib.hid (chB (show Blk w5 gz 40 (msV q h) from K15.out) hchg (fun e => by have h1 := HGZ.out; have h2 := HUL.out; have h3 := HML.out; have h4 := HZ4.out; rcases e with e | e | e <;> omega))
  have Q6 := Lib.hid (SD5.out.m.chg hchg SD5.out.dg)
  clear hbd ha hui hchg hdr q0 q1 q2 q3 q4 q5 q6 q7 q8 q9 q10 q11 q12 q13 K15 K25 KA5 SD5 S5
  by_cases hc0 : code = 0
  case pos =>
    subst hc0
    obtain ⟨ha, hcp⟩ := HA.out rfl
    have KA6 := Lib.hid ha
    have HMC := Lib.hid (mcopy2_any (D := Lt w6) (m := am) (h := ah) (w := w6) hcp.s1 hcp.s2 hcp.s3 (fun k hk => hk) hcp.s4 hcp.b4 hcp.l4 hcp.b1 hcp.b2 hcp.b3 hcp.l2)
    clear ha hcp
    have a0 := (show Blk w6 ga 40 (msV am ah) from KA6.out).cell 0
    have a1 := (show Blk w6 ga 40 (msV am ah) from KA6.out).cell 1
    have a2 := (show Blk w6 ga 40 (msV am ah) from KA6.out).cell 2
    have a3 := (show Blk w6 ga 40 (msV am ah) from KA6.out).cell 3
    have a4 := (show Blk w6 ga 40 (msV am ah) from KA6.out).cell 4
    have a5 := (show Blk w6 ga 40 (msV am ah) from KA6.out).cell 5
    have a6 := (show Blk w6 ga 40 (msV am ah) from KA6.out).cell 6
    have a7 := (show Blk w6 ga 40 (msV am ah) from KA6.out).cell 7
    have a8 := (show Blk w6 ga 40 (msV am ah) from KA6.out).cell 8
    have a9 := (show Blk w6 ga 40 (msV am ah) from KA6.out).cell 9
    have a10 := (show Blk w6 ga 40 (msV am ah) from KA6.out).cell 10
    have a11 := (show Blk w6 ga 40 (msV am ah) from KA6.out).cell 11
    have a12 := (show Blk w6 ga 40 (msV am ah) from KA6.out).cell 12
    have a13 := (show Blk w6 ga 40 (msV am ah) from KA6.out).cell 13
    go_wp2_with
      (first
       | (go_at_call 20
          refine HMC.out.mono ?_
          rintro e w7 hmc
          obtain ⟨h', rfl, _, h7r, hb7⟩ := hmc
          have HR7 := Lib.hid h7r
          have HB7 := Lib.hid hb7
          have K27 := Lib.hid (keepB (show Blk w6 (gz + 1) 40 msZ from K26.out) hb7)
          clear h7r hb7)
       | (refine wpList_put_row rfl 40 (.tmp 4) (.tmp 41) rfl (gz + 1) (msV am h') rfl rfl 40 _ K27.out HSZ.out rfl (by simp [Value.oneCell']) ?_; intro w9 hblk hgr))
    try rw [Exit.noGoto_ret]
    have x0 := (show Blk w9 (gz + 1) 40 (msV am h') from hblk).cell 0
    have x1 := (show Blk w9 (gz + 1) 40 (msV am h') from hblk).cell 1
    have x2 := (show Blk w9 (gz + 1) 40 (msV am h') from hblk).cell 2
    have x3 := (show Blk w9 (gz + 1) 40 (msV am h') from hblk).cell 3
    have x4 := (show Blk w9 (gz + 1) 40 (msV am h') from hblk).cell 4
    have x5 := (show Blk w9 (gz + 1) 40 (msV am h') from hblk).cell 5
    have x6 := (show Blk w9 (gz + 1) 40 (msV am h') from hblk).cell 6
    have x7 := (show Blk w9 (gz + 1) 40 (msV am h') from hblk).cell 7
    have x8 := (show Blk w9 (gz + 1) 40 (msV am h') from hblk).cell 8
    have x9 := (show Blk w9 (gz + 1) 40 (msV am h') from hblk).cell 9
    have x10 := (show Blk w9 (gz + 1) 40 (msV am h') from hblk).cell 10
    have x11 := (show Blk w9 (gz + 1) 40 (msV am h') from hblk).cell 11
    have x12 := (show Blk w9 (gz + 1) 40 (msV am h') from hblk).cell 12
    have x13 := (show Blk w9 (gz + 1) 40 (msV am h') from hblk).cell 13
    have hsf : Safe (fun k => k = gz + 1) w7 := fun k hk _ cs t ht => by
      subst hk
      exact .inr (blk_type (show Blk w7 (gz + 1) 40 _ from K27.out) ht)
    have c79 : Chg (fun k => k = gz + 1) w7 w9 := (Chg.of_grown hgr).more (fun k _ hk => Option.some.inj hk)
    have hui9 := (HUI.out.below HB7.out).chg hsf c79 (by have h1 := HGZ.out; have h2 := HUL.out; show ¬ gu = gz + 1; omega) (by have h1 := HGZ.out; have h2 := HML.out; show ¬ gm = gz + 1; omega)
    have hr9 := own_t8 (chO HR7.out c79 (fun k hk e => by have h1 := (HR7.out.lt k hk).1; have h2 := (show Blk w6 (gz + 1) 40 msZ from K26.out).lt; omega))
    have c9 := chGrown (HC6.out.trans (Chg.of_pure HB7.out _)) hgr (fun k hk => by have e' : gz + 1 = k := Option.some.inj hk; have := HGZ.out; omega)
    exact bodyPost_ret (v := .tuple #[.agg (msV am h'), .int .i64 0]) (by simp [results, Try.results7, go_sem, x0, x1, x2, x3, x4, x5, x6, x7, x8, x9, x10, x11, x12, x13]) rfl ⟨am, h', 0, rfl, ⟨ep', se', f', hui9, AR.good HDR.out (fun A n c hh => t8_chg (t8_below hh HB7.out) hsf c79) (Rp.sl_more hr9 (fun k hk => hk.1))⟩, c9.more (fun k hk0 hk => by rcases hk with hk | hk | hk; exact .inl hk; exact .inr hk; have := HGAW.out; omega)⟩
  case neg =>
    have hc1 : (code != 0) = true := by simpa using hc0
    have HC0 := Lib.hid hc0
    have hfl := fail_any Q6.out hep (code := code) (by have := HBD.out; omega) (by have := HBD.out; omega)
    have HFL : Hid (Calls Try.prog 19 #[.agg (msV q h), .int .u64 (q.ep : Int), .int .i64 code] w6 fun e w' => Below w6.heap.size w6 w' ∧ ∃ (mm : Ms) (r : Int), e = .returned (.tuple #[.agg (msV mm hdZ), .int .i64 r]) ∧ mm.kd ≠ 10 ∧ (fitsC q (failM q.ep q.sq code) = 0 → mm = failM q.ep q.sq code)) := hfl.mono (by
      rintro e w' ⟨hb, ⟨hf, rfl⟩ | ⟨r, hr0, hf, rfl⟩⟩
      · exact ⟨hb, failM q.ep q.sq code, 0, rfl, (by show ¬ (14 : Int) = 10; decide), fun _ => rfl⟩
      · exact ⟨hb, zeroM, r, rfl, (by show ¬ (0 : Int) = 10; decide), fun h0 => absurd (hf.symm.trans h0) hr0⟩)
    clear hfl hc0
    have q0 := (show Blk w6 gz 40 (msV q h) from K16.out).cell 0
    have q1 := (show Blk w6 gz 40 (msV q h) from K16.out).cell 1
    have q2 := (show Blk w6 gz 40 (msV q h) from K16.out).cell 2
    have q3 := (show Blk w6 gz 40 (msV q h) from K16.out).cell 3
    have q4 := (show Blk w6 gz 40 (msV q h) from K16.out).cell 4
    have q5 := (show Blk w6 gz 40 (msV q h) from K16.out).cell 5
    have q6 := (show Blk w6 gz 40 (msV q h) from K16.out).cell 6
    have q7 := (show Blk w6 gz 40 (msV q h) from K16.out).cell 7
    have q8 := (show Blk w6 gz 40 (msV q h) from K16.out).cell 8
    have q9 := (show Blk w6 gz 40 (msV q h) from K16.out).cell 9
    have q10 := (show Blk w6 gz 40 (msV q h) from K16.out).cell 10
    have q11 := (show Blk w6 gz 40 (msV q h) from K16.out).cell 11
    have q12 := (show Blk w6 gz 40 (msV q h) from K16.out).cell 12
    have q13 := (show Blk w6 gz 40 (msV q h) from K16.out).cell 13
    go_wp2_with
      (first
       | (go_at_call 19
          refine HFL.out.mono ?_
          rintro e w7 ⟨hb7, mm, r, rfl, hm10, hmf⟩
          have HB7 := Lib.hid hb7
          have K27 := Lib.hid (keepB (show Blk w6 (gz + 1) 40 msZ from K26.out) hb7)
          have HM10 := Lib.hid hm10
          have HMF := Lib.hid hmf
          clear hb7 hm10 hmf)
       | (refine wpList_put_row rfl 40 (.tmp 4) (.tmp 38) rfl (gz + 1) (msV mm hdZ) rfl rfl 40 _ K27.out HSZ.out rfl (by simp [Value.oneCell']) ?_; intro w9 hblk hgr))
    try rw [Exit.noGoto_ret]
    have x0 := (show Blk w9 (gz + 1) 40 (msV mm hdZ) from hblk).cell 0
    have x1 := (show Blk w9 (gz + 1) 40 (msV mm hdZ) from hblk).cell 1
    have x2 := (show Blk w9 (gz + 1) 40 (msV mm hdZ) from hblk).cell 2
    have x3 := (show Blk w9 (gz + 1) 40 (msV mm hdZ) from hblk).cell 3
    have x4 := (show Blk w9 (gz + 1) 40 (msV mm hdZ) from hblk).cell 4
    have x5 := (show Blk w9 (gz + 1) 40 (msV mm hdZ) from hblk).cell 5
    have x6 := (show Blk w9 (gz + 1) 40 (msV mm hdZ) from hblk).cell 6
    have x7 := (show Blk w9 (gz + 1) 40 (msV mm hdZ) from hblk).cell 7
    have x8 := (show Blk w9 (gz + 1) 40 (msV mm hdZ) from hblk).cell 8
    have x9 := (show Blk w9 (gz + 1) 40 (msV mm hdZ) from hblk).cell 9
    have x10 := (show Blk w9 (gz + 1) 40 (msV mm hdZ) from hblk).cell 10
    have x11 := (show Blk w9 (gz + 1) 40 (msV mm hdZ) from hblk).cell 11
    have x12 := (show Blk w9 (gz + 1) 40 (msV mm hdZ) from hblk).cell 12
    have x13 := (show Blk w9 (gz + 1) 40 (msV mm hdZ) from hblk).cell 13
    have hsf : Safe (fun k => k = gz + 1) w7 := fun k hk _ cs t ht => by
      subst hk
      exact .inr (blk_type (show Blk w7 (gz + 1) 40 _ from K27.out) ht)
    have c79 : Chg (fun k => k = gz + 1) w7 w9 := (Chg.of_grown hgr).more (fun k _ hk => Option.some.inj hk)
    have hui9 := (HUI.out.below HB7.out).chg hsf c79 (by have h1 := HGZ.out; have h2 := HUL.out; show ¬ gu = gz + 1; omega) (by have h1 := HGZ.out; have h2 := HML.out; show ¬ gm = gz + 1; omega)
    have c9 := chGrown (HC6.out.trans (Chg.of_pure HB7.out _)) hgr (fun k hk => by have e' : gz + 1 = k := Option.some.inj hk; have := HGZ.out; omega)
    exact bodyPost_ret (v := .tuple #[.agg (msV mm hdZ), .int .i64 r]) (by simp [results, Try.results7, go_sem, x0, x1, x2, x3, x4, x5, x6, x7, x8, x9, x10, x11, x12, x13]) rfl ⟨mm, hdZ, r, rfl, ⟨ep', se', f', hui9, AR.bad HOK.out HDR.out HC0.out HM10.out HMF.out⟩, c9.more (fun k hk0 hk => by rcases hk with hk | hk | hk; exact .inl hk; exact .inr hk; have := HGAW.out; omega)⟩
end
end Go.Proofs.Ytnihaaifkogpbaa
/- Whether messages are more than is gone through. -/
namespace Go.Proofs.Ytnihaaifkogpbaa
open Go.ChangeShapes Go.WideShapes Go.ChangeAt Go.RowKit
set_option linter.unusedVariables false
section
variable {D : Dom} {A : Option Addr} {n c : Nat} {w : World}
set_option maxRecDepth 100000 in
set_option maxHeartbeats 2000000 in
theorem llong_any {l : List Lnk} (hs : rpLnk.sl w D A n c l) (hD : ∀ k, D k → k < w.heap.size) :
    Calls Try.prog 59 #[.slice A n c] w (AnyBool w) := by
  obtain ⟨hlen, hnc, hcm⟩ := Rp.sl_len hs
  unfold maxLen at hcm
  have HS := Lib.hid (show Sl rpLnk w D A n c l from ⟨hs, hD⟩)
  clear hs hD
  go_enter Try.func59, Try.ntmps59
  go_wp2_with fail
  go_loopw [3] (fun v3 wr => ∃ k : Nat, k ≤ n ∧ k ≤ 50 ∧ v3 = .int .i64 (k : Int) ∧ Hid (Below w.heap.size w wr)) (fun v3 _ => n - (intOf v3).toNat)
  case atStart => exact ⟨0, by omega, by omega, rfl, Below.refl _ _⟩
  case round =>
    obtain ⟨k, hk, hk50, rfl, hbr⟩ := hrel
    by_cases hin : k < n ∧ k < 50
    · obtain ⟨h1, h2⟩ := hin
      obtain ⟨b, off, x, A2, c2, rfl, _, hx, g0, g1, hrow, _⟩ := lnk_at (keepS HS.out hbr.out).1 h1
      have hkI : (0 : Int) ≤ (k : Int) := by omega
      have hkI2 : (k : Int) < (n : Int) := by omega
      have hd1 : decide ((k : Int) < (n : Int)) = true := by simp; omega
      have hd2 : decide ((k : Int) < 50) = true := by simp; omega
      obtain ⟨q, hq⟩ : ∃ q, decide ((50 : Int) < (x.2.length : Int)) = q := ⟨_, rfl⟩
      clear hrow hx
      cases q
      case false =>
        go_wp2_with fail
        go_roundw
        case rel => exact ⟨k + 1, by omega, by omega, by go_num, hbr⟩
        case measure => simp [intOf]; omega
      case true =>
        go_wp2_with fail
        go_ret
        exact ⟨true, rfl, hbr.out⟩
    · have hc : k = n ∨ (k < n ∧ k = 50) := by omega
      clear hin
      rcases hc with rfl | ⟨h1, rfl⟩
      · have hd1 : decide ((k : Int) < (k : Int)) = false := by simp
        go_wp2_with fail
        go_ret
        exact ⟨_, rfl, hbr.out⟩
      · have hd1 : decide ((50 : Int) < (n : Int)) = true := by simp; omega
        go_wp2_with fail
        go_ret
        exact ⟨_, rfl, hbr.out⟩
end
section
variable {D : Dom} {m : Ms} {h : Hd} {w : World}
set_option maxRecDepth 100000 in
set_option maxHeartbeats 2000000 in
theorem mlong_any (hm : MsIn w D m h) : Calls Try.prog 37 #[.agg (msV m h)] w (AnyBool w) := by
  have hb0 := below1 w (.cells (msV m h) 40)
  have HB := Lib.hid hb0
  have HK := Lib.hid (blk11 w 40 (msV m h))
  have HM := Lib.hid (hm.below hb0)
  clear hm hb0
  go_enter Try.func37, Try.ntmps37
  go_upto_region 1 with (fail)
  generalize World.alloc w _ = w0 at *
  have z0 : w0.cell? ⟨w.heap.size, 0, none⟩ = some (.int .i64 m.kd) := (show Blk w0 (w.heap.size) 40 (msV m h) from HK.out).cell 0
  have z1 : w0.cell? ⟨w.heap.size, 1, none⟩ = some (.int .u64 (m.ep : Int)) := (show Blk w0 (w.heap.size) 40 (msV m h) from HK.out).cell 1
  have z2 : w0.cell? ⟨w.heap.size, 2, none⟩ = some (.int .u64 (m.sq : Int)) := (show Blk w0 (w.heap.size) 40 (msV m h) from HK.out).cell 2
  have z3 : w0.cell? ⟨w.heap.size, 3, none⟩ = some (.int .u64 (m.ps : Int)) := (show Blk w0 (w.heap.size) 40 (msV m h) from HK.out).cell 3
  have z4 : w0.cell? ⟨w.heap.size, 4, none⟩ = some (.int .i64 m.ct) := (show Blk w0 (w.heap.size) 40 (msV m h) from HK.out).cell 4
  have z5 : w0.cell? ⟨w.heap.size, 5, none⟩ = some (.int .i64 m.st) := (show Blk w0 (w.heap.size) 40 (msV m h) from HK.out).cell 5
  have z6 : w0.cell? ⟨w.heap.size, 6, none⟩ = some (.slice h.A1 h.n1 h.c1) := (show Blk w0 (w.heap.size) 40 (msV m h) from HK.out).cell 6
  have z7 : w0.cell? ⟨w.heap.size, 7, none⟩ = some (.slice h.A2 h.n2 h.c2) := (show Blk w0 (w.heap.size) 40 (msV m h) from HK.out).cell 7
  have z8 : w0.cell? ⟨w.heap.size, 8, none⟩ = some (.slice h.A3 h.n3 h.c3) := (show Blk w0 (w.heap.size) 40 (msV m h) from HK.out).cell 8
  have z9 : w0.cell? ⟨w.heap.size, 9, none⟩ = some (.int .u64 (m.se.1 : Int)) := (show Blk w0 (w.heap.size) 40 (msV m h) from HK.out).cell 9
  have z10 : w0.cell? ⟨w.heap.size, 10, none⟩ = some (.int .u64 (m.se.2.1 : Int)) := (show Blk w0 (w.heap.size) 40 (msV m h) from HK.out).cell 10
  have z11 : w0.cell? ⟨w.heap.size, 11, none⟩ = some (.int .u64 (m.se.2.2 : Int)) := (show Blk w0 (w.heap.size) 40 (msV m h) from HK.out).cell 11
  have z12 : w0.cell? ⟨w.heap.size, 12, none⟩ = some (.int .u64 (m.pr.1 : Int)) := (show Blk w0 (w.heap.size) 40 (msV m h) from HK.out).cell 12
  have z13 : w0.cell? ⟨w.heap.size, 13, none⟩ = some (.slice h.A4 h.n4 h.c4) := (show Blk w0 (w.heap.size) 40 (msV m h) from HK.out).cell 13
  have HLL := Lib.hid (llong_any HM.out.ls HM.out.dom)
  obtain ⟨q1, hq1⟩ : ∃ q, decide ((50 : Int) < (h.n1 : Int)) = q := ⟨_, rfl⟩
  cases q1
  case true =>
    go_wp2_with fail
    go_ret
    exact ⟨true, rfl, HB.out⟩
  case false =>
  go_wp2_with fail
  refine HLL.out.mono ?_; rintro e w1 ⟨q2, rfl, hb1⟩
  have HB1 := Lib.hid (stepB HB.out hb1)
  have HM1 := Lib.hid (HM.out.below hb1)
  have HK1 : Hid (Blk w1 w.heap.size 40 (msV m h)) := Lib.hid (keepB (show Blk w0 w.heap.size 40 (msV m h) from HK.out) hb1)
  clear hb1 z0 z1 z2 z3 z4 z5 z6 z7 z8 z9 z10 z11 z12 z13
  have z0 : w1.cell? ⟨w.heap.size, 0, none⟩ = some (.int .i64 m.kd) := (show Blk w1 (w.heap.size) 40 (msV m h) from HK1.out).cell 0
  have z1 : w1.cell? ⟨w.heap.size, 1, none⟩ = some (.int .u64 (m.ep : Int)) := (show Blk w1 (w.heap.size) 40 (msV m h) from HK1.out).cell 1
  have z2 : w1.cell? ⟨w.heap.size, 2, none⟩ = some (.int .u64 (m.sq : Int)) := (show Blk w1 (w.heap.size) 40 (msV m h) from HK1.out).cell 2
  have z3 : w1.cell? ⟨w.heap.size, 3, none⟩ = some (.int .u64 (m.ps : Int)) := (show Blk w1 (w.heap.size) 40 (msV m h) from HK1.out).cell 3
  have z4 : w1.cell? ⟨w.heap.size, 4, none⟩ = some (.int .i64 m.ct) := (show Blk w1 (w.heap.size) 40 (msV m h) from HK1.out).cell 4
  have z5 : w1.cell? ⟨w.heap.size, 5, none⟩ = some (.int .i64 m.st) := (show Blk w1 (w.heap.size) 40 (msV m h) from HK1.out).cell 5
  have z6 : w1.cell? ⟨w.heap.size, 6, none⟩ = some (.slice h.A1 h.n1 h.c1) := (show Blk w1 (w.heap.size) 40 (msV m h) from HK1.out).cell 6
  have z7 : w1.cell? ⟨w.heap.size, 7, none⟩ = some (.slice h.A2 h.n2 h.c2) := (show Blk w1 (w.heap.size) 40 (msV m h) from HK1.out).cell 7
  have z8 : w1.cell? ⟨w.heap.size, 8, none⟩ = some (.slice h.A3 h.n3 h.c3) := (show Blk w1 (w.heap.size) 40 (msV m h) from HK1.out).cell 8
  have z9 : w1.cell? ⟨w.heap.size, 9, none⟩ = some (.int .u64 (m.se.1 : Int)) := (show Blk w1 (w.heap.size) 40 (msV m h) from HK1.out).cell 9
  have z10 : w1.cell? ⟨w.heap.size, 10, none⟩ = some (.int .u64 (m.se.2.1 : Int)) := (show Blk w1 (w.heap.size) 40 (msV m h) from HK1.out).cell 10
  have z11 : w1.cell? ⟨w.heap.size, 11, none⟩ = some (.int .u64 (m.se.2.2 : Int)) := (show Blk w1 (w.heap.size) 40 (msV m h) from HK1.out).cell 11
  have z12 : w1.cell? ⟨w.heap.size, 12, none⟩ = some (.int .u64 (m.pr.1 : Int)) := (show Blk w1 (w.heap.size) 40 (msV m h) from HK1.out).cell 12
  have z13 : w1.cell? ⟨w.heap.size, 13, none⟩ = some (.slice h.A4 h.n4 h.c4) := (show Blk w1 (w.heap.size) 40 (msV m h) from HK1.out).cell 13
  have HPL := Lib.hid (plong_any (e := m.pr.1) HM1.out.pr HM1.out.dom)
  cases q2
  case true =>
    go_wp2_with fail
    go_ret
    exact ⟨true, rfl, HB1.out⟩
  case false =>
  obtain ⟨q3, hq3⟩ : ∃ q, decide ((300 : Int) < (h.n3 : Int)) = q := ⟨_, rfl⟩
  cases q3
  case true =>
    go_wp2_with fail
    go_ret
    exact ⟨true, rfl, HB1.out⟩
  case false =>
  go_wp2_with fail
  refine HPL.out.mono ?_; rintro e w2 ⟨q4, rfl, hb2⟩
  have HB2 := Lib.hid (stepB HB1.out hb2)
  clear hb2 z0 z1 z2 z3 z4 z5 z6 z7 z8 z9 z10 z11 z12 z13
  go_wp2_with fail
  go_ret
  exact ⟨q4, rfl, HB2.out⟩
end
section
variable {D : Dom} {A : Option Addr} {n c : Nat} {l : List Ms} {w : World}
set_option maxRecDepth 100000 in
set_option maxHeartbeats 2000000 in
theorem many_any (hs : rpMs.sl w D A n c l) (hD : ∀ k, D k → k < w.heap.size) :
    Calls Try.prog 22 #[.slice A n c] w fun e w' => ∃ q : Bool, e = .returned (.bool q) ∧ (q = false → n ≤ 12) ∧ Below w.heap.size w w' := by
  obtain ⟨hlen, hnc, hcm⟩ := Rp.sl_len hs
  unfold maxLen at hcm
  have HS := Lib.hid (show Sl rpMs w D A n c l from ⟨hs, hD⟩)
  clear hs hD hlen
  go_enter Try.func22, Try.ntmps22
  go_wp2_with fail
  go_loopw [3] (fun v3 wr => ∃ k : Nat, k ≤ n ∧ k ≤ 12 ∧ v3 = .int .i64 (k : Int) ∧ Hid (Below w.heap.size w wr)) (fun v3 _ => n - (intOf v3).toNat)
  case atStart => exact ⟨0, by omega, by omega, rfl, Below.refl _ _⟩
  case round =>
    obtain ⟨k, hk, hk12, rfl, hbr⟩ := hrel
    by_cases hin : k < n ∧ k < 12
    · obtain ⟨h1, h2⟩ := hin
      have hsr := keepS HS.out hbr.out
      obtain ⟨bo, off, m, hd', hA, hDb, hm, hmi, hc⟩ := ms_at hsr.1 hsr.2 h1
      subst hA
      have e0 : wr.cell? ⟨bo, off + k * 14, none⟩ = some (.int .i64 m.kd) := hc 0 _ rfl
      have e1 : wr.cell? ⟨bo, off + k * 14 + 1, none⟩ = some (.int .u64 (m.ep : Int)) := hc 1 _ rfl
      have e2 : wr.cell? ⟨bo, off + k * 14 + 2, none⟩ = some (.int .u64 (m.sq : Int)) := hc 2 _ rfl
      have e3 : wr.cell? ⟨bo, off + k * 14 + 3, none⟩ = some (.int .u64 (m.ps : Int)) := hc 3 _ rfl
      have e4 : wr.cell? ⟨bo, off + k * 14 + 4, none⟩ = some (.int .i64 m.ct) := hc 4 _ rfl
      have e5 : wr.cell? ⟨bo, off + k * 14 + 5, none⟩ = some (.int .i64 m.st) := hc 5 _ rfl
      have e6 : wr.cell? ⟨bo, off + k * 14 + 6, none⟩ = some (.slice hd'.A1 hd'.n1 hd'.c1) := hc 6 _ rfl
      have e7 : wr.cell? ⟨bo, off + k * 14 + 7, none⟩ = some (.slice hd'.A2 hd'.n2 hd'.c2) := hc 7 _ rfl
      have e8 : wr.cell? ⟨bo, off + k * 14 + 8, none⟩ = some (.slice hd'.A3 hd'.n3 hd'.c3) := hc 8 _ rfl
      have e9 : wr.cell? ⟨bo, off + k * 14 + 9, none⟩ = some (.int .u64 (m.se.1 : Int)) := hc 9 _ rfl
      have e10 : wr.cell? ⟨bo, off + k * 14 + 10, none⟩ = some (.int .u64 (m.se.2.1 : Int)) := hc 10 _ rfl
      have e11 : wr.cell? ⟨bo, off + k * 14 + 11, none⟩ = some (.int .u64 (m.se.2.2 : Int)) := hc 11 _ rfl
      have e12 : wr.cell? ⟨bo, off + k * 14 + 12, none⟩ = some (.int .u64 (m.pr.1 : Int)) := hc 12 _ rfl
      have e13 : wr.cell? ⟨bo, off + k * 14 + 13, none⟩ = some (.slice hd'.A4 hd'.n4 hd'.c4) := hc 13 _ rfl
      have hkI : (0 : Int) ≤ (k : Int) := by omega
      have hkI2 : (k : Int) < (n : Int) := by omega
      have hd1 : decide ((k : Int) < (n : Int)) = true := by simp; omega
      have hd2 : decide ((k : Int) < 12) = true := by simp; omega
      have HML := Lib.hid (mlong_any hmi)
      clear hc hm hmi hsr hDb
      go_wp2_with fail
      refine HML.out.mono ?_; rintro e w1 ⟨q, rfl, hb1⟩
      have HB1 := Lib.hid (stepB hbr.out hb1)
      clear hb1 e0 e1 e2 e3 e4 e5 e6 e7 e8 e9 e10 e11 e12 e13
      cases q
      case false =>
        go_wp2_with fail
        go_roundw
        case rel => exact ⟨k + 1, by omega, by omega, by go_num, HB1⟩
        case measure => simp [intOf]; omega
      case true =>
        go_wp2_with fail
        go_ret
        exact ⟨true, rfl, fun h => (by cases h), HB1.out⟩
    · have hc : k = n ∨ (k < n ∧ k = 12) := by omega
      clear hin
      rcases hc with rfl | ⟨h1, rfl⟩
      · have hd1 : decide ((k : Int) < (k : Int)) = false := by simp
        obtain ⟨q, hq⟩ : ∃ q, decide ((12 : Int) < (k : Int)) = q := ⟨_, rfl⟩
        go_wp2_with fail
        go_ret
        exact ⟨q, rfl, fun _ => hk12, hbr.out⟩
      · have hd1 : decide ((12 : Int) < (n : Int)) = true := by simp; omega
        go_wp2_with fail
        go_ret
        exact ⟨true, rfl, fun h => (by cases h), hbr.out⟩
end
end Go.Proofs.Ytnihaaifkogpbaa
/- The law's many. -/
namespace Go.Proofs.Ytnihaaifkogpbaa
open Go.ChangeShapes Go.WideShapes Go.ChangeAt Go.RowKit
set_option linter.unusedVariables false
section
variable {D : Dom} {A : Option Addr} {n c : Nat} {l : List Ms} {w : World}
/-- What many gives. -/
def Many30Is (w : World) (n : Nat) (e : Ending) (w' : World) : Prop := ∃ q : Bool, e = .returned (.bool q) ∧ (q = false → n ≤ 12) ∧ Below w.heap.size w w'
set_option maxRecDepth 100000 in
set_option maxHeartbeats 4000000 in
theorem many30_any (hs : rpMs.sl w D A n c l) (hD : ∀ k, D k → k < w.heap.size) :
    Calls Try.prog 9 #[.slice A n c] w (Many30Is w n) := by
  obtain ⟨hlen, hnc, hcm⟩ := Rp.sl_len hs
  unfold maxLen at hcm
  have HS := Lib.hid (show Sl rpMs w D A n c l from ⟨hs, hD⟩)
  have HMN := Lib.hid (many_any hs hD)
  clear hs hD hlen
  go_enter Try.func9, Try.ntmps9
  go_wp2_with fail
  go_loopw [3, 4] (fun v3 v4 wr => ∃ (s : Int) (k : Nat), k ≤ n ∧ k ≤ 20 ∧ v3 = .int .i64 s ∧ v4 = .int .i64 (k : Int) ∧ 0 ≤ s ∧ s ≤ 70000 * k ∧ wr = w) (fun _ v4 _ => n - (intOf v4).toNat)
  case atStart => exact ⟨0, 0, by omega, by omega, rfl, rfl, by omega, by omega, rfl⟩
  case round =>
    obtain ⟨s, k, hk, hk20, rfl, rfl, hs0, hs1, rfl⟩ := hrel
    by_cases hin : k < n ∧ k < 20
    · obtain ⟨h1, h2⟩ := hin
      obtain ⟨bo, off, m, hd', hA, hDb, hm, hmi, hc⟩ := ms_at HS.out.1 HS.out.2 h1
      subst hA
      have e4 : wr.cell? ⟨bo, off + k * 14 + 4, none⟩ = some (.int .i64 m.ct) := hc 4 _ rfl
      have hkI : (0 : Int) ≤ (k : Int) := by omega
      have hkI2 : (k : Int) < (n : Int) := by omega
      have hd1 : decide ((k : Int) < (n : Int)) = true := by simp; omega
      have hd2 : decide ((k : Int) < 20) = true := by simp; omega
      have hct0 := hmi.ct0
      have hct1 := hmi.ct1
      clear hc hm hmi hDb
      go_wp2_with fail
      go_roundw
      case rel => exact ⟨s + min (max m.ct 0) 70000, k + 1, by omega, by omega, by go_num, by go_num, by omega, by omega, by first | rfl | trivial⟩
      case measure => simp [intOf]; omega
    · have hc : k = n ∨ (k < n ∧ k = 20) := by omega
      clear hin
      by_cases hsb : s > 100000
      · have hd3 : decide (s > 100000) = true := by simp; omega
        have hd3b : decide ((100000 : Int) < s) = true := by simp; omega
        rcases hc with rfl | ⟨h1, rfl⟩
        · have hd1 : decide ((k : Int) < (k : Int)) = false := by simp
          go_wp2_with fail
          go_ret
          exact ⟨true, rfl, fun h => (by cases h), Below.refl _ _⟩
        · have hd1 : decide (((20 : Nat) : Int) < (n : Int)) = true := by simp; omega
          have hd1b : decide ((20 : Int) < (n : Int)) = true := by simp; omega
          go_wp2_with fail
          go_ret
          exact ⟨true, rfl, fun h => (by cases h), Below.refl _ _⟩
      · have hd3 : decide (s > 100000) = false := by simp; omega
        have hd3b : decide ((100000 : Int) < s) = false := by simp; omega
        rcases hc with rfl | ⟨h1, rfl⟩
        · have hd1 : decide ((k : Int) < (k : Int)) = false := by simp
          by_cases h12 : k > 12
          · have hd4 : decide ((k : Int) > 12) = true := by simp; omega
            have hd4b : decide ((12 : Int) < (k : Int)) = true := by simp; omega
            go_wp2_with fail
            go_ret
            exact ⟨true, rfl, fun h => (by cases h), Below.refl _ _⟩
          · have hd4 : decide ((k : Int) > 12) = false := by simp; omega
            have hd4b : decide ((12 : Int) < (k : Int)) = false := by simp; omega
            go_wp2_with fail
            refine HMN.out.mono ?_; rintro e w1 ⟨q, rfl, hq, hb1⟩
            have HQ := Lib.hid hq
            have HB1 := Lib.hid hb1
            clear hq hb1
            go_wp2_with fail
            go_ret
            exact ⟨q, rfl, HQ.out, HB1.out⟩
        · have hd1 : decide (((20 : Nat) : Int) < (n : Int)) = true := by simp; omega
          have hd1b : decide ((20 : Int) < (n : Int)) = true := by simp; omega
          have hd4 : decide ((n : Int) > 12) = true := by simp; omega
          have hd4b : decide ((12 : Int) < (n : Int)) = true := by simp; omega
          go_wp2_with fail
          go_ret
          exact ⟨true, rfl, fun h => (by cases h), Below.refl _ _⟩
end
end Go.Proofs.Ytnihaaifkogpbaa
/- TalkOnce: its requests, what is at the position. No walk but Same's. -/
namespace Go.Proofs.Ytnihaaifkogpbaa
open Go.ChangeShapes Go.WideShapes Go.ChangeAt Go.RowKit
set_option linter.unusedVariables false
abbrev qW (pos : Nat) (dt : List UInt8) : Ms := ⟨2, 1, 0, pos, 0, 0, [], [], dt, (0, 0, 0), (0, [])⟩
abbrev qR (ep pos : Nat) : Ms := ⟨1, ep, 0, pos, 0, 0, [], [], [], (0, 0, 0), (0, [])⟩
abbrev hdW (A : Option Addr) (n c : Nat) : Hd := ⟨none, 0, 0, none, 0, 0, A, n, c, none, 0, 0⟩
theorem qW_ok {pos : Nat} {dt : List UInt8} (h : pos < 4611686018427387904) (hd : dt.length ≤ 1048576) : MOk (qW pos dt) := by
  refine ⟨⟨(by show Kd.right 2 = true; decide +kernel), ?_, ?_, ?_, ?_, ?_, ?_, ?_, .inr ⟨.inl rfl, hd⟩⟩, (by show EOk 1; unfold EOk; decide)⟩
  all_goals
    unfold part
    first
      | (rw [if_neg (by show ¬ Kd.has 2 _ = true; decide +kernel)]; try first | rfl | exact ⟨rfl, rfl⟩)
      | (rw [if_pos (by show Kd.has 2 _ = true; decide +kernel)]; exact h)
theorem qR_ok {ep pos : Nat} (he : EOk ep) (h : pos < 4611686018427387904) : MOk (qR ep pos) := by
  refine ⟨⟨(by show Kd.right 1 = true; decide +kernel), ?_, ?_, ?_, ?_, ?_, ?_, ?_, .inl rfl⟩, he⟩
  all_goals
    unfold part
    first
      | (rw [if_neg (by show ¬ Kd.has 1 _ = true; decide +kernel)]; try first | rfl | exact ⟨rfl, rfl⟩)
      | (rw [if_pos (by show Kd.has 1 _ = true; decide +kernel)]; exact h)
theorem qW_in {w : World} {D : Dom} {pos n c : Nat} {A : Option Addr} {dt : List UInt8} (hs : rpU8.sl w D A n c dt) (hD : ∀ k, D k → k < w.heap.size) (h : pos < 4611686018427387904) : MsIn w D (qW pos dt) (hdW A n c) :=
  ⟨Rp.sl_nil _ _ _ _ _ (Nat.zero_le _), Rp.sl_nil _ _ _ _ _ (Nat.zero_le _), hs, Rp.sl_nil _ _ _ _ _ (Nat.zero_le _), hD, (by decide : (-9223372036854775808 : Int) ≤ 2), (by decide : (2 : Int) ≤ 9223372036854775807), (by decide : (-9223372036854775808 : Int) ≤ 0), (by decide : (0 : Int) ≤ 9223372036854775807), (by decide : (-9223372036854775808 : Int) ≤ 0), (by decide : (0 : Int) ≤ 9223372036854775807), (by decide : 1 ≤ 18446744073709551615), (by decide : 0 ≤ 18446744073709551615), (by show pos ≤ 18446744073709551615; omega), (by decide : 0 ≤ 18446744073709551615), (by decide : 0 ≤ 18446744073709551615), (by decide : 0 ≤ 18446744073709551615), (by decide : 0 ≤ 18446744073709551615)⟩
theorem qR_in (w : World) {ep pos : Nat} (he : EOk ep) (h : pos < 4611686018427387904) : MsIn w (fun _ => False) (qR ep pos) hdZb :=
  ⟨Rp.sl_nil _ _ _ _ _ (by decide), Rp.sl_nil _ _ _ _ _ (by decide), Rp.sl_nil _ _ _ _ _ (by decide), Rp.sl_nil _ _ _ _ _ (by decide), fun k h => h.elim, (by decide : (-9223372036854775808 : Int) ≤ 1), (by decide : (1 : Int) ≤ 9223372036854775807), (by decide : (-9223372036854775808 : Int) ≤ 0), (by decide : (0 : Int) ≤ 9223372036854775807), (by decide : (-9223372036854775808 : Int) ≤ 0), (by decide : (0 : Int) ≤ 9223372036854775807), (by have := he.2; show ep ≤ 18446744073709551615; omega), (by decide : 0 ≤ 18446744073709551615), (by show pos ≤ 18446744073709551615; omega), (by decide : 0 ≤ 18446744073709551615), (by decide : 0 ≤ 18446744073709551615), (by decide : 0 ≤ 18446744073709551615), (by decide : 0 ≤ 18446744073709551615)⟩
theorem same02_any {A A' : Option Addr} {n c n' c' : Nat} {l l' : List UInt8} {D D' : Dom} {w : World} (hl : rpU8.sl w D A n c l) (hl' : rpU8.sl w D' A' n' c' l') :
    Calls Try.prog 11 #[.slice A n c, .slice A' n' c'] w fun e w' => e = .returned (.bool (l == l')) ∧ w = w' := by
  have h1 := run_bytes_string (P := Try.prog) hl 33 9 5 Try.underlying33 Try.underlying5 Try.underlying9
  have h2 := run_bytes_string (P := Try.prog) hl' 33 9 5 Try.underlying33 Try.underlying5 Try.underlying9
  go_enter Try.func11, Try.ntmps11
  go_wp2
  go_ret
  exact ⟨rfl, rfl⟩
theorem once_chg {F : Dom} {B : Nat} {a w w' : World} (h : Below B a w) (hc : Chg F w w') (hB : B ≤ w.heap.size) (hF : ∀ k, F k → B ≤ k) : Below B a w' := h.trans (hc.below hB hF)
theorem ui_new (w : World) : UI ((w.alloc (.map #[] 0)).alloc (.cells (unV 7 1 false (.map (some w.heap.size)) 0 (.pointer none) 0 none 0 0) 60)) (w.heap.size + 1) w.heap.size ((w.alloc (.map #[] 0)).alloc (.cells (unV 7 1 false (.map (some w.heap.size)) 0 (.pointer none) 0 none 0 0) 60)).heap.size 7 0 1 false (fun _ => none) := by
  refine ⟨by unfold EOk; decide, 0, .pointer none, 0, none, 0, 0, [], ?_, ⟨OL.nil _ _ _ _ _ _, ⟨Nat.zero_le _, fun x hx => by cases hx⟩, (sMap_made w).below (below1 _ _) (by simp), (fun x v h => by cases h), .inl rfl, Nat.le_refl _, Nat.zero_le _, Nat.zero_le _⟩⟩
  have h := Blk.new (w.alloc (.map #[] 0)) 60 (unV 7 1 false (.map (some w.heap.size)) 0 (.pointer none) 0 none 0 0)
  have e : (w.alloc (.map #[] 0)).heap.size = w.heap.size + 1 := by simp
  rw [e] at h
  exact h
theorem SlotsOk.dat {w : World} {f : Nat → Option Value} (h : SlotsOk w f) (x : Nat) : ∃ d : List UInt8, ∀ A n c, f x = some (slV 1 A n c) → rpU8.sl w (Tn T8 w) A n c d ∧ n ≤ 1048576 := by
  cases hf : f x with
  | none => exact ⟨[], fun A n c e => by cases e⟩
  | some v =>
    obtain ⟨st, A, n, c, d, rfl, _, _, h3, h4⟩ := h x v hf
    refine ⟨d, fun A' n' c' e => ?_⟩
    injection e with e
    injection e with e
    have e2 : Value.slice A n c = .slice A' n' c' := by have := congrArg (fun a : Array Value => a[1]?) e; simpa using this
    injection e2 with e3 e4 e5
    subst e3; subst e4; subst e5
    exact ⟨h4, h3⟩
/-- What is at the position: what was written, or a trimmed one. -/
def PS (w : World) (f : Nat → Option Value) (pos : Nat) (dt : List UInt8) (tr : Bool) : Prop :=
  ∃ A n c, (tr = false → f pos = some (slV 1 A n c) ∧ rpU8.sl w (Tn T8 w) A n c dt ∧ n ≤ 1048576) ∧ (tr = true → f pos = some (slV 3 A n c))
section
variable {w w' : World} {f f' : Nat → Option Value} {pos : Nat} {dt d : List UInt8} {tr : Bool} {F : Dom} {q m : Ms} {h : Hd} {ep : Nat} {se : Bool} {code : Int}
theorem PS.dat (ps : PS w f pos dt tr) : ∀ A n c, f pos = some (slV 1 A n c) → rpU8.sl w (Tn T8 w) A n c dt ∧ n ≤ 1048576 := by
  intro A n c hf
  obtain ⟨A', n', c', h1, h2⟩ := ps
  cases tr with
  | false =>
    obtain ⟨e, h3, h4⟩ := h1 rfl
    rw [hf] at e
    injection e with e
    injection e with e
    have e2 : Value.slice A n c = .slice A' n' c' := by have := congrArg (fun a : Array Value => a[1]?) e; simpa using this
    injection e2 with e3 e4 e5
    subst e3; subst e4; subst e5
    exact ⟨h3, h4⟩
  | true =>
    have e := h2 rfl
    rw [hf] at e
    injection e with e
    have := slV_st e
    exact absurd this (by decide)
theorem PS.below (ps : PS w f pos dt tr) (hb : Below w.heap.size w w') : PS w' f pos dt tr := by
  obtain ⟨A, n, c, h1, h2⟩ := ps
  exact ⟨A, n, c, fun e => ⟨(h1 e).1, t8_below (h1 e).2.1 hb, (h1 e).2.2⟩, h2⟩
theorem PS.step (ps : PS w f pos dt tr) (ar : AR w' q ep se f d m h code f') (hs : Safe F w) (hc : Chg F w w') : PS w' f' pos dt (tr || (decide (q.kd = 4) && decide (q.ps = pos) && decide (m.kd = 10))) := by
  obtain ⟨A, n, c, h1, h2⟩ := ps
  cases tr with
  | false =>
    obtain ⟨e, h3, h4⟩ := h1 rfl
    rcases ar.keep pos 1 A n c e (.inl rfl) with ⟨a1, a2, a3, a4⟩ | ⟨a1, a2⟩
    · refine ⟨none, 0, 0, fun hh => ?_, fun _ => a4⟩
      simp [a1, a2, a3] at hh
    · refine ⟨A, n, c, fun _ => ⟨a1, t8_chg h3 hs hc, h4⟩, fun hh => ?_⟩
      exfalso
      simp at hh
      exact a2 ⟨hh.1.1, hh.1.2, hh.2⟩
  | true =>
    rcases ar.keep pos 3 A n c (h2 rfl) (.inr rfl) with ⟨_, _, _, a4⟩ | ⟨a1, _⟩
    · exact ⟨none, 0, 0, fun hh => (by simp at hh), fun _ => a4⟩
    · exact ⟨A, n, c, fun hh => (by simp at hh), fun _ => a1⟩
theorem PS.two (ps : PS w f pos dt tr) (ar : AR w' q ep se f d m h code f') (hk : q.kd = 2) (hp : q.ps = pos) : m.kd ≠ 10 := by
  obtain ⟨A, n, c, h1, h2⟩ := ps
  subst hp
  cases tr with
  | false => exact ar.two hk 1 A n c (h1 rfl).1 (.inl rfl)
  | true => exact ar.two hk 3 A n c (h2 rfl) (.inr rfl)
theorem PS.read (ps : PS w f pos dt tr) (ar : AR w' (qR ep pos) ep se f dt m h code f') (he : EOk ep) (hp : pos < 4611686018427387904) :
    (se = true → m.kd = 14 ∧ m.st = 18) ∧ (se = false → (tr = false → m.st = 1 ∧ rpU8.sl w' (Lt w') h.A3 h.n3 h.c3 dt) ∧ (tr = true → m.st = 3)) := by
  obtain ⟨A, n, c, h1, h2⟩ := ps
  have hr := ar.rd (qR_ok he hp) rfl rfl
  refine ⟨hr.1, fun hse => ⟨fun ht => ?_, fun ht => ?_⟩⟩
  · obtain ⟨a1, a2⟩ := hr.2 hse 1 A n c (h1 ht).1 (.inl rfl)
    exact ⟨a1, (a2 rfl).2⟩
  · exact (hr.2 hse 3 A n c (h2 ht) (.inr rfl)).1
theorem PS.stat (ps : PS w f pos dt tr) : St f pos (if tr then 3 else 1) := by
  obtain ⟨A, n, c, h1, h2⟩ := ps
  cases tr with
  | false => exact .inr ⟨A, n, c, (h1 rfl).1⟩
  | true => exact .inr ⟨A, n, c, h2 rfl⟩
end
theorem UI.safe {w : World} {gu gm tb nd M ep : Nat} {se : Bool} {f : Nat → Option Value} (h : UI w gu gm tb nd M ep se f) : Safe (fun k => k = gu ∨ k = gm) w := by
  obtain ⟨_, tl, pj, nx, At, nt, ct, T, hu, hr⟩ := h
  intro k hk _ cs' t ht
  rcases hk with rfl | rfl
  · exact .inl (blk_type hu ht)
  · exact absurd ht hr.mp.no
theorem UI.so {w : World} {gu gm tb nd M ep : Nat} {se : Bool} {f : Nat → Option Value} (h : UI w gu gm tb nd M ep se f) : SlotsOk w f := by
  obtain ⟨_, tl, pj, nx, At, nt, ct, T, hu, hr⟩ := h
  exact hr.so
theorem UI.eok {w : World} {gu gm tb nd M ep : Nat} {se : Bool} {f : Nat → Option Value} (h : UI w gu gm tb nd M ep se f) : EOk ep := h.1
theorem UI.ult {w : World} {gu gm tb nd M ep : Nat} {se : Bool} {f : Nat → Option Value} (h : UI w gu gm tb nd M ep se f) : gu < w.heap.size := by
  obtain ⟨_, tl, pj, nx, At, nt, ct, T, hu, hr⟩ := h
  exact hu.lt
/-- Answer, Epoch, State at a unit's invariant. -/
theorem ans_ui {w : World} {gu gm tb nd M ep : Nat} {se : Bool} {f : Nat → Option Value} {D : Dom} {q : Ms} {h : Hd} {d : List UInt8} (hu : UI w gu gm tb nd M ep se f) (hM : M ≤ 1000) (hq : MsIn w D q h) (hdg : ∀ k, D k → ¬ (k = gu ∨ k = gm)) (hdt : ∀ A n c, f q.ps = some (slV 1 A n c) → rpU8.sl w (Tn T8 w) A n c d ∧ n ≤ 1048576) :
    Calls Try.prog 7 #[.pointer (some ⟨gu, 0, none⟩), .agg (msV q h)] w (AnsIs w gu gm tb nd M ep se f q d) := by
  obtain ⟨he, tl, pj, nx, At, nt, ct, T, hu, hr⟩ := hu
  exact answer_any he ⟨hu, hr, hq, hdg, hdt⟩ hM
theorem ep_ui {w : World} {gu gm tb nd M ep : Nat} {se : Bool} {f : Nat → Option Value} (hu : UI w gu gm tb nd M ep se f) :
    Calls Try.prog 10 #[.pointer (some ⟨gu, 0, none⟩)] w fun e w' => e = .returned (.tuple #[.int .u64 (ep : Int), .bool se]) ∧ Below w.heap.size w w' := by
  obtain ⟨he, tl, pj, nx, At, nt, ct, T, hu, hr⟩ := hu
  exact epoch_any hu
theorem st_ui {w : World} {gu gm tb nd M ep x : Nat} {se : Bool} {f : Nat → Option Value} {st : Int} (hu : UI w gu gm tb nd M ep se f) (hx : x ≤ 18446744073709551615) (hs : St f x st) :
    Calls Try.prog 12 #[.pointer (some ⟨gu, 0, none⟩), .int .u64 (x : Int)] w fun e w' => e = .returned (.int .i64 st) ∧ Below w.heap.size w w' := by
  obtain ⟨he, tl, pj, nx, At, nt, ct, T, hu, hr⟩ := hu
  exact state_any hu hr.mp hx hs
end Go.Proofs.Ytnihaaifkogpbaa
/- Rows of messages: in a row of the call's own, in a literal's block. -/
namespace Go.Proofs.Ytnihaaifkogpbaa
open Go.ChangeShapes Go.WideShapes Go.ChangeAt Go.RowKit
set_option linter.unusedVariables false
abbrev MH := Ms × Hd
def mc (p : MH) : List Value := (msV p.1 p.2).toList
theorem mc_len (p : MH) : (mc p).length = 14 := rfl
theorem mc_one (p : MH) : ∀ u ∈ mc p, u.oneCell' = true := by
  intro u hu
  simp only [mc, List.mem_cons, List.not_mem_nil, or_false] at hu
  rcases hu with rfl | rfl | rfl | rfl | rfl | rfl | rfl | rfl | rfl | rfl | rfl | rfl | rfl | rfl <;> rfl
theorem elemMs : Elem Try.prog 47 40 14 176 := Elem.of (z := .agg zV) Try.underlying47 (by kernel_rfl) rfl (by decide)
theorem flat14_len (l : List MH) : (l.flatMap mc).length = l.length * 14 := by
  induction l with
  | nil => rfl
  | cons s l ih => rw [List.flatMap_cons, List.length_append, ih, List.length_cons, mc_len]; omega
theorem flat14_get (l : List MH) : ∀ (i j : Nat), j < 14 → (l.flatMap mc)[i * 14 + j]? = (l[i]?).bind (fun s => (mc s)[j]?) := by
  induction l with
  | nil => intro i j hj; simp
  | cons s l ih =>
    intro i j hj
    rw [List.flatMap_cons]
    cases i with
    | zero =>
      rw [List.getElem?_append_left (by rw [mc_len]; omega)]
      simp
    | succ i =>
      rw [List.getElem?_append_right (by rw [mc_len]; omega), show (i + 1) * 14 + j - (mc s).length = i * 14 + j by rw [mc_len]; omega, ih i j hj]
      simp
section
variable {w : World} {D : Dom} {m : Ms} {hd : Hd} {A : Option Addr} {n c : Nat} {l : List Ms} {lp : List MH}
theorem ms_ok (h : MsIn w D m hd) : rpMs.ok w D m (mc (m, hd)) := by
  have e1 := (Rp.sl_len h.ss).1
  have i64 : ∀ x : Int, x ≤ 9223372036854775807 → x < 9223372036854775808 := fun x h => by omega
  have u64 : ∀ x : Nat, x ≤ 18446744073709551615 → x < 18446744073709551616 := fun x h => by omega
  exact ⟨[_], _, rfl, ⟨rfl, h.kd0, i64 _ h.kd1⟩, [_], _, rfl, ⟨rfl, u64 _ h.ep1⟩, [_], _, rfl, ⟨rfl, u64 _ h.sq1⟩, [_], _, rfl, ⟨rfl, u64 _ h.ps1⟩, [_], _, rfl, ⟨rfl, h.ct0, i64 _ h.ct1⟩, [_], _, rfl, ⟨rfl, h.st0, i64 _ h.st1⟩,
    [_], _, rfl, h.ss, [_], _, rfl, h.ls, [_], _, rfl, h.dt, [_, _, _], _, rfl, ⟨[_], _, rfl, ⟨rfl, u64 _ h.s11⟩, [_], _, rfl, ⟨rfl, u64 _ h.s21⟩, ⟨rfl, u64 _ h.s31⟩⟩, [_], _, rfl, ⟨rfl, u64 _ h.pe1⟩, h.pr⟩
theorem MsIn.more {D' : Dom} (h : MsIn w D m hd) (hD : ∀ k, D k → D' k) (hD' : ∀ k, D' k → k < w.heap.size) : MsIn w D' m hd :=
  ⟨Rp.sl_more h.ss hD, Rp.sl_more h.ls hD, Rp.sl_more h.dt hD, Rp.sl_more h.pr hD, hD', h.kd0, h.kd1, h.ct0, h.ct1, h.st0, h.st1, h.ep1, h.sq1, h.ps1, h.s11, h.s21, h.s31, h.pe1⟩
/-- The cells of messages that read, to be appended. -/
theorem Src.ms (h : rpMs.sl w D A n c l) (hD : ∀ k, D k → k < w.heap.size) : ∃ lp : List MH, lp.map (·.1) = l ∧ (∀ p ∈ lp, MsIn w D p.1 p.2) ∧ Src w A n 14 (lp.flatMap mc) := by
  obtain ⟨hlen, _, _⟩ := Rp.sl_len h
  have hch : ∀ k, k ≤ n → ∃ lp : List MH, lp.length = k ∧ ∀ (i : Nat) (p : MH), lp[i]? = some p → l[i]? = some p.1 ∧ MsIn w D p.1 p.2 ∧ ∃ b off, A = some ⟨b, off, none⟩ ∧ ∀ (j : Nat) u, (mc p)[j]? = some u → w.cell? ⟨b, off + i * 14 + j, none⟩ = some u := by
    intro k
    induction k with
    | zero => exact fun _ => ⟨[], rfl, fun i p h => by simp at h⟩
    | succ k ih =>
      intro hk
      obtain ⟨lp, hl, hg⟩ := ih (by omega)
      obtain ⟨b, off, m, hd, hA, _, hm, hmi, hc⟩ := ms_at h hD (k := k) (by omega)
      refine ⟨lp ++ [(m, hd)], by simp [hl], fun i p hp => ?_⟩
      rcases Nat.lt_or_ge i k with hik | hik
      · exact hg i p (by rwa [List.getElem?_append_left (by omega)] at hp)
      · rw [List.getElem?_append_right (by omega)] at hp
        have h0 : i - lp.length = 0 := by
          rcases Nat.eq_zero_or_pos (i - lp.length) with h0 | h0
          · exact h0
          · rw [List.getElem?_eq_none (by simp; omega)] at hp; cases hp
        rw [h0] at hp
        simp only [List.getElem?_cons_zero, Option.some.injEq] at hp
        subst hp
        obtain rfl : i = k := by omega
        exact ⟨hm, hmi, b, off, hA, hc⟩
  obtain ⟨lp, hl, hg⟩ := hch n (Nat.le_refl _)
  refine ⟨lp, ?_, fun p hp => ?_, by rw [flat14_len, hl], fun u hu => ?_, fun hp => ?_⟩
  · apply List.ext_getElem?
    intro i
    rw [List.getElem?_map]
    cases hq : lp[i]? with
    | none =>
      have := List.getElem?_eq_none_iff.1 hq
      rw [List.getElem?_eq_none (by omega)]; rfl
    | some p => rw [(hg i p hq).1]; rfl
  · obtain ⟨i, hi⟩ := List.getElem?_of_mem hp
    exact (hg i p hi).2.1
  · obtain ⟨x, _, hx⟩ := List.mem_flatMap.1 hu
    exact mc_one x u hx
  · rw [flat14_len] at hp
    obtain ⟨p0, hp0⟩ : ∃ p, lp[0]? = some p := ⟨_, List.getElem?_eq_getElem (by omega)⟩
    obtain ⟨_, _, b, off, hA, _⟩ := hg 0 p0 hp0
    refine ⟨⟨b, off, none⟩, hA, fun j u hu => ?_⟩
    have hj : j < lp.length * 14 := by rw [← flat14_len]; exact (List.getElem?_eq_some_iff.1 hu).1
    have hq : j / 14 < lp.length := by omega
    obtain ⟨_, _, b', off', hA', hc⟩ := hg (j / 14) lp[j / 14] (List.getElem?_eq_getElem hq)
    rw [hA] at hA'
    injection hA' with hA'
    injection hA' with h1 h2
    subst h1; subst h2
    rw [show j = (j / 14) * 14 + j % 14 by omega, flat14_get lp _ _ (by omega), List.getElem?_eq_getElem hq] at hu
    rw [add_plain, show off + j = off + j / 14 * 14 + j % 14 by omega]
    exact hc _ _ hu
/-- A row of cells that lie in a block from its start. -/
theorem ms_row {g : Nat} {cs : List Value} {cap : Nat} (hcell : ∀ i, w.cell? ⟨g, i, none⟩ = cs[i]?) (hcs : ∀ (i : Nat) u, (lp.flatMap mc)[i]? = some u → cs[i]? = some u) (hm : ∀ p ∈ lp, MsIn w D p.1 p.2) (h1 : lp.length ≤ cap) (h2 : cap ≤ maxLen) :
    rpMs.sl w (fun k => D k ∨ k = g) (some ⟨g, 0, none⟩) lp.length cap (lp.map (·.1)) := by
  refine ⟨_, _, by rw [List.length_map], by rw [List.length_map]; exact h1, h2, fun _ => ⟨g, 0, rfl, .inr rfl, fun i x hx => ?_⟩⟩
  rw [List.getElem?_map] at hx
  cases hp : lp[i]? with
  | none => rw [hp] at hx; cases hx
  | some p =>
    rw [hp] at hx
    obtain rfl : p.1 = x := by simpa using hx
    have hmi := hm p (List.mem_of_getElem? hp)
    refine ⟨mc p, rpMs.more (ms_ok hmi) (fun k hk => .inl hk), fun j u hu => ?_⟩
    have hj : j < 14 := by rw [← mc_len p]; exact (List.getElem?_eq_some_iff.1 hu).1
    rw [ms_size, hcell, Nat.zero_add]
    refine hcs _ _ ?_
    rw [flat14_get lp i j hj, hp]
    exact hu
theorem ms_block {g : Nat} {t : TypeId} {cs : Array Value} (hb : Blk w g t cs) (hcs : cs.toList = lp.flatMap mc) (hm : ∀ p ∈ lp, MsIn w D p.1 p.2) (h1 : lp.length ≤ maxLen) :
    rpMs.sl w (fun k => D k ∨ k = g) (some ⟨g, 0, none⟩) lp.length lp.length (lp.map (·.1)) :=
  ms_row (cs := cs.toList) (fun i => by rw [hb.cell]; simp) (fun i u hu => by rw [hcs]; exact hu) hm (Nat.le_refl _) h1
theorem own_ms {base : Nat} {e : TypeId} (h : w.ownsRow base e 14 (.slice A n c) n (lp.flatMap mc)) (hm : ∀ p ∈ lp, MsIn w D p.1 p.2) : rpMs.sl w (fun k => D k ∨ some k = (Value.slice A n c).ownBlock) A n c (lp.map (·.1)) := by
  have hlen : lp.length = n := by have := h.1; rw [flat14_len] at this; omega
  subst hlen
  rcases h.2 with ⟨hv, h0⟩ | ⟨g, cap, cur, hv, hg, hh, hnc, hcm, hcs, htake⟩
  · injection hv with h1 _ h3
    subst h1; subst h3
    rw [h0]
    obtain rfl := List.eq_nil_of_length_eq_zero h0
    exact Rp.sl_nil _ _ _ _ _ (by decide)
  · injection hv with h1 _ h3
    subst h1; subst h3
    refine Rp.sl_more (ms_row (cs := cur.toList) (fun i => by rw [cell_of_row w g i cur e (0, 0) hh]; simp) (fun i u hu => ?_) hm hnc hcm) (fun k hk => hk.imp id (fun h => by subst h; rfl))
    rw [← htake, List.getElem?_take] at hu
    split at hu
    · exact hu
    · cases hu
end
end Go.Proofs.Ytnihaaifkogpbaa
/- The example of chapter 30's laws. -/
namespace Go.Proofs.Ytnihaaifkogpbaa
open Go.ChangeShapes Go.WideShapes Go.ChangeAt Go.RowKit
set_option linter.unusedVariables false
def lvQ : Ms := ⟨1, 1, 5, 0, 0, 0, [], [], [], (0, 0, 0), (0, [])⟩
def lvA : Ms := ⟨9, 1, 5, 0, 0, 4, [], [], [], (0, 0, 0), (0, [])⟩
abbrev lvQV : Array Value := #[.int .i64 1, .int .u64 1, .int .u64 5, .int .u64 0, .int .i64 0, .int .i64 0, .slice none 0 0, .slice none 0 0, .slice none 0 0, .int .u64 0, .int .u64 0, .int .u64 0, .int .u64 0, .slice none 0 0]
abbrev lvAV : Array Value := #[.int .i64 9, .int .u64 1, .int .u64 5, .int .u64 0, .int .i64 0, .int .i64 4, .slice none 0 0, .slice none 0 0, .slice none 0 0, .int .u64 0, .int .u64 0, .int .u64 0, .int .u64 0, .slice none 0 0]
abbrev lvC3 : Array Value := #[.int .i64 1, .int .u64 1, .int .u64 5, .int .u64 0, .int .i64 0, .int .i64 0, .slice none 0 0, .slice none 0 0, .slice none 0 0, .int .u64 0, .int .u64 0, .int .u64 0, .int .u64 0, .slice none 0 0, .int .i64 9, .int .u64 1, .int .u64 5, .int .u64 0, .int .i64 0, .int .i64 4, .slice none 0 0, .slice none 0 0, .slice none 0 0, .int .u64 0, .int .u64 0, .int .u64 0, .int .u64 0, .slice none 0 0, .int .i64 9, .int .u64 1, .int .u64 5, .int .u64 0, .int .i64 0, .int .i64 4, .slice none 0 0, .slice none 0 0, .slice none 0 0, .int .u64 0, .int .u64 0, .int .u64 0, .int .u64 0, .slice none 0 0]
abbrev lvC2 : Array Value := #[.int .i64 1, .int .u64 1, .int .u64 5, .int .u64 0, .int .i64 0, .int .i64 0, .slice none 0 0, .slice none 0 0, .slice none 0 0, .int .u64 0, .int .u64 0, .int .u64 0, .int .u64 0, .slice none 0 0, .int .i64 9, .int .u64 1, .int .u64 5, .int .u64 0, .int .i64 0, .int .i64 4, .slice none 0 0, .slice none 0 0, .slice none 0 0, .int .u64 0, .int .u64 0, .int .u64 0, .int .u64 0, .slice none 0 0]
theorem part_yes {k p : Int} {a b : Prop} (h : Kd.has k p = true) (ha : a) : part k p a b := by unfold part; rw [if_pos h]; exact ha
theorem part_no {k p : Int} {a b : Prop} (h : Kd.has k p = false) (hb : b) : part k p a b := by unfold part; rw [if_neg (by rw [h]; decide)]; exact hb
theorem lv_mq : MOk lvQ := by
  refine ⟨⟨by decide +kernel, part_yes (by decide +kernel) (by show (0 : Nat) < 4611686018427387904; decide), part_no (by decide +kernel) rfl, part_no (by decide +kernel) rfl, part_no (by decide +kernel) rfl, part_no (by decide +kernel) rfl, part_no (by decide +kernel) rfl, part_no (by decide +kernel) ⟨rfl, rfl⟩, .inl rfl⟩, by show 1 ≤ 1; decide, by show 1 < 4611686018427387904; decide⟩
theorem lv_ma : MOk lvA := by
  refine ⟨⟨by decide +kernel, part_no (by decide +kernel) rfl, part_no (by decide +kernel) rfl, part_yes (by decide +kernel) ⟨by decide +kernel, by decide +kernel⟩, part_no (by decide +kernel) rfl, part_no (by decide +kernel) rfl, part_no (by decide +kernel) rfl, part_no (by decide +kernel) ⟨rfl, rfl⟩, .inl rfl⟩, by show 1 ≤ 1; decide, by show 1 < 4611686018427387904; decide⟩
theorem lv_fits : fitsC lvQ lvA = 0 := by
  unfold fitsC
  rw [if_neg (fun h => h ⟨lv_mq, lv_ma⟩), if_neg (by decide +kernel), if_neg (fun h => h rfl), if_neg (fun h => h.2 rfl), if_neg (fun h => absurd h.1 (by decide +kernel))]
theorem lv_good (r : List Ms) : Good (lvQ :: lvA :: r) 2 := by
  refine good_succ (good_succ (good_zero _) ?_) ?_
  · rw [atC_at (m := lvQ) rfl]
    unfold atM
    rw [if_neg (fun h => h lv_mq), if_pos (by decide +kernel), if_neg (fun h => by obtain ⟨k, m, hk, _⟩ := h; omega)]
  · rw [atC_at (m := lvA) rfl]
    unfold atM
    have h1 : askedTo (lvQ :: lvA :: r) lvA.sq 1 = some 0 := by kernel_rfl
    have h2 : answdTo (lvQ :: lvA :: r) lvA.sq 1 = none := by kernel_rfl
    rw [if_neg (fun h => h lv_ma), if_neg (by decide +kernel)]
    unfold ansC
    rw [h1, h2]
    exact lv_fits
theorem lv_res : res [lvQ, lvA, lvA] = (2, 18) := by
  refine res_bad (lv_good _) (by decide) ?_ (by decide)
  rw [atC_at (m := lvA) rfl]
  unfold atM
  have h1 : askedTo [lvQ, lvA, lvA] lvA.sq 2 = some 0 := by kernel_rfl
  have h2 : answdTo [lvQ, lvA, lvA] lvA.sq 2 = some 1 := by kernel_rfl
  rw [if_neg (fun h => h lv_ma), if_neg (by decide +kernel)]
  unfold ansC
  rw [h1, h2]
  rfl
theorem lv_open : opnL [lvQ, lvA] (prsOf [lvQ, lvA] 2 2) = [] := by kernel_rfl
theorem lv_in (w : World) {m : Ms} (h : m = lvQ ∨ m = lvA) : MsIn w (fun _ => False) m hdZ := by
  rcases h with rfl | rfl <;>
  exact ⟨Rp.sl_nil _ _ _ _ _ (by decide), Rp.sl_nil _ _ _ _ _ (by decide), Rp.sl_nil _ _ _ _ _ (by decide), Rp.sl_nil _ _ _ _ _ (by decide), fun k h => h.elim, by decide, by decide, by decide, by decide, by decide, by decide, by decide, by decide, by decide, by decide, by decide, by decide, by decide⟩
set_option maxRecDepth 100000 in
set_option maxHeartbeats 2000000 in
theorem live30_any (w : World) : Calls Try.prog 5 #[] w fun e w' => e = .returned (.bool true) ∧ Below w.heap.size w w' := by
  have HB := Lib.hid (below2 w (.cells lvQV 40) (.cells lvAV 40))
  have KQ := Lib.hid (blk21 w 40 40 lvQV lvAV)
  have KA := Lib.hid (blk22 w 40 40 lvQV lvAV)
  go_enter Try.func5, Try.ntmps5
  go_upto_region 3 with (fail)
  generalize World.alloc (World.alloc w _) _ = w2 at *
  have z0 : w2.cell? ⟨w.heap.size, 0, none⟩ = some (.int .i64 1) := (show Blk w2 (w.heap.size) 40 lvQV from KQ.out).cell 0
  have z1 : w2.cell? ⟨w.heap.size, 1, none⟩ = some (.int .u64 1) := (show Blk w2 (w.heap.size) 40 lvQV from KQ.out).cell 1
  have z2 : w2.cell? ⟨w.heap.size, 2, none⟩ = some (.int .u64 5) := (show Blk w2 (w.heap.size) 40 lvQV from KQ.out).cell 2
  have z3 : w2.cell? ⟨w.heap.size, 3, none⟩ = some (.int .u64 0) := (show Blk w2 (w.heap.size) 40 lvQV from KQ.out).cell 3
  have z4 : w2.cell? ⟨w.heap.size, 4, none⟩ = some (.int .i64 0) := (show Blk w2 (w.heap.size) 40 lvQV from KQ.out).cell 4
  have z5 : w2.cell? ⟨w.heap.size, 5, none⟩ = some (.int .i64 0) := (show Blk w2 (w.heap.size) 40 lvQV from KQ.out).cell 5
  have z6 : w2.cell? ⟨w.heap.size, 6, none⟩ = some (.slice none 0 0) := (show Blk w2 (w.heap.size) 40 lvQV from KQ.out).cell 6
  have z7 : w2.cell? ⟨w.heap.size, 7, none⟩ = some (.slice none 0 0) := (show Blk w2 (w.heap.size) 40 lvQV from KQ.out).cell 7
  have z8 : w2.cell? ⟨w.heap.size, 8, none⟩ = some (.slice none 0 0) := (show Blk w2 (w.heap.size) 40 lvQV from KQ.out).cell 8
  have z9 : w2.cell? ⟨w.heap.size, 9, none⟩ = some (.int .u64 0) := (show Blk w2 (w.heap.size) 40 lvQV from KQ.out).cell 9
  have z10 : w2.cell? ⟨w.heap.size, 10, none⟩ = some (.int .u64 0) := (show Blk w2 (w.heap.size) 40 lvQV from KQ.out).cell 10
  have z11 : w2.cell? ⟨w.heap.size, 11, none⟩ = some (.int .u64 0) := (show Blk w2 (w.heap.size) 40 lvQV from KQ.out).cell 11
  have z12 : w2.cell? ⟨w.heap.size, 12, none⟩ = some (.int .u64 0) := (show Blk w2 (w.heap.size) 40 lvQV from KQ.out).cell 12
  have z13 : w2.cell? ⟨w.heap.size, 13, none⟩ = some (.slice none 0 0) := (show Blk w2 (w.heap.size) 40 lvQV from KQ.out).cell 13
  have y0 : w2.cell? ⟨w.heap.size + 1, 0, none⟩ = some (.int .i64 9) := (show Blk w2 (w.heap.size + 1) 40 lvAV from KA.out).cell 0
  have y1 : w2.cell? ⟨w.heap.size + 1, 1, none⟩ = some (.int .u64 1) := (show Blk w2 (w.heap.size + 1) 40 lvAV from KA.out).cell 1
  have y2 : w2.cell? ⟨w.heap.size + 1, 2, none⟩ = some (.int .u64 5) := (show Blk w2 (w.heap.size + 1) 40 lvAV from KA.out).cell 2
  have y3 : w2.cell? ⟨w.heap.size + 1, 3, none⟩ = some (.int .u64 0) := (show Blk w2 (w.heap.size + 1) 40 lvAV from KA.out).cell 3
  have y4 : w2.cell? ⟨w.heap.size + 1, 4, none⟩ = some (.int .i64 0) := (show Blk w2 (w.heap.size + 1) 40 lvAV from KA.out).cell 4
  have y5 : w2.cell? ⟨w.heap.size + 1, 5, none⟩ = some (.int .i64 4) := (show Blk w2 (w.heap.size + 1) 40 lvAV from KA.out).cell 5
  have y6 : w2.cell? ⟨w.heap.size + 1, 6, none⟩ = some (.slice none 0 0) := (show Blk w2 (w.heap.size + 1) 40 lvAV from KA.out).cell 6
  have y7 : w2.cell? ⟨w.heap.size + 1, 7, none⟩ = some (.slice none 0 0) := (show Blk w2 (w.heap.size + 1) 40 lvAV from KA.out).cell 7
  have y8 : w2.cell? ⟨w.heap.size + 1, 8, none⟩ = some (.slice none 0 0) := (show Blk w2 (w.heap.size + 1) 40 lvAV from KA.out).cell 8
  have y9 : w2.cell? ⟨w.heap.size + 1, 9, none⟩ = some (.int .u64 0) := (show Blk w2 (w.heap.size + 1) 40 lvAV from KA.out).cell 9
  have y10 : w2.cell? ⟨w.heap.size + 1, 10, none⟩ = some (.int .u64 0) := (show Blk w2 (w.heap.size + 1) 40 lvAV from KA.out).cell 10
  have y11 : w2.cell? ⟨w.heap.size + 1, 11, none⟩ = some (.int .u64 0) := (show Blk w2 (w.heap.size + 1) 40 lvAV from KA.out).cell 11
  have y12 : w2.cell? ⟨w.heap.size + 1, 12, none⟩ = some (.int .u64 0) := (show Blk w2 (w.heap.size + 1) 40 lvAV from KA.out).cell 12
  have y13 : w2.cell? ⟨w.heap.size + 1, 13, none⟩ = some (.slice none 0 0) := (show Blk w2 (w.heap.size + 1) 40 lvAV from KA.out).cell 13
  have HC : Hid (Calls Try.prog 13 #[.slice (some ⟨w2.heap.size, 0, none⟩) 3 3] (w2.alloc (.cells lvC3 40)) fun e w' => e = .returned (.tuple #[.int .i64 2, .int .i64 18]) ∧ Below (w2.alloc (.cells lvC3 40)).heap.size (w2.alloc (.cells lvC3 40)) w') := by
    have h := check_any (ms_block (D := fun _ => False) (lp := [(lvQ, hdZ), (lvA, hdZ), (lvA, hdZ)]) (blk11 w2 40 lvC3) rfl (fun p hp => by
      simp only [List.mem_cons, List.not_mem_nil, or_false] at hp
      rcases hp with rfl | rfl | rfl
      · exact lv_in _ (.inl rfl)
      · exact lv_in _ (.inr rfl)
      · exact lv_in _ (.inr rfl)) (by decide)) (fun k hk => by
      rcases hk with hk | rfl
      · exact hk.elim
      · simp) (by decide)
    have e : List.map (·.1) [(lvQ, hdZ), (lvA, hdZ), (lvA, hdZ)] = [lvQ, lvA, lvA] := rfl
    rw [e, lv_res] at h
    exact h
  have HB1 := Lib.hid (stepB HB.out (below1 w2 (.cells lvC3 40)))
  go_wp2_with fail
  refine HC.out.mono ?_; rintro e w3 ⟨rfl, hb3⟩
  have HB3 := Lib.hid (stepB HB1.out hb3)
  have hb23 := stepB (below1 w2 (.cells lvC3 40)) hb3
  have KQ3 := Lib.hid (keepB (show Blk w2 w.heap.size 40 lvQV from KQ.out) hb23)
  have KA3 := Lib.hid (keepB (show Blk w2 (w.heap.size + 1) 40 lvAV from KA.out) hb23)
  clear hb23 hb3 z0 z1 z2 z3 z4 z5 z6 z7 z8 z9 z10 z11 z12 z13 y0 y1 y2 y3 y4 y5 y6 y7 y8 y9 y10 y11 y12 y13
  have z0 : w3.cell? ⟨w.heap.size, 0, none⟩ = some (.int .i64 1) := (show Blk w3 (w.heap.size) 40 lvQV from KQ3.out).cell 0
  have z1 : w3.cell? ⟨w.heap.size, 1, none⟩ = some (.int .u64 1) := (show Blk w3 (w.heap.size) 40 lvQV from KQ3.out).cell 1
  have z2 : w3.cell? ⟨w.heap.size, 2, none⟩ = some (.int .u64 5) := (show Blk w3 (w.heap.size) 40 lvQV from KQ3.out).cell 2
  have z3 : w3.cell? ⟨w.heap.size, 3, none⟩ = some (.int .u64 0) := (show Blk w3 (w.heap.size) 40 lvQV from KQ3.out).cell 3
  have z4 : w3.cell? ⟨w.heap.size, 4, none⟩ = some (.int .i64 0) := (show Blk w3 (w.heap.size) 40 lvQV from KQ3.out).cell 4
  have z5 : w3.cell? ⟨w.heap.size, 5, none⟩ = some (.int .i64 0) := (show Blk w3 (w.heap.size) 40 lvQV from KQ3.out).cell 5
  have z6 : w3.cell? ⟨w.heap.size, 6, none⟩ = some (.slice none 0 0) := (show Blk w3 (w.heap.size) 40 lvQV from KQ3.out).cell 6
  have z7 : w3.cell? ⟨w.heap.size, 7, none⟩ = some (.slice none 0 0) := (show Blk w3 (w.heap.size) 40 lvQV from KQ3.out).cell 7
  have z8 : w3.cell? ⟨w.heap.size, 8, none⟩ = some (.slice none 0 0) := (show Blk w3 (w.heap.size) 40 lvQV from KQ3.out).cell 8
  have z9 : w3.cell? ⟨w.heap.size, 9, none⟩ = some (.int .u64 0) := (show Blk w3 (w.heap.size) 40 lvQV from KQ3.out).cell 9
  have z10 : w3.cell? ⟨w.heap.size, 10, none⟩ = some (.int .u64 0) := (show Blk w3 (w.heap.size) 40 lvQV from KQ3.out).cell 10
  have z11 : w3.cell? ⟨w.heap.size, 11, none⟩ = some (.int .u64 0) := (show Blk w3 (w.heap.size) 40 lvQV from KQ3.out).cell 11
  have z12 : w3.cell? ⟨w.heap.size, 12, none⟩ = some (.int .u64 0) := (show Blk w3 (w.heap.size) 40 lvQV from KQ3.out).cell 12
  have z13 : w3.cell? ⟨w.heap.size, 13, none⟩ = some (.slice none 0 0) := (show Blk w3 (w.heap.size) 40 lvQV from KQ3.out).cell 13
  have y0 : w3.cell? ⟨w.heap.size + 1, 0, none⟩ = some (.int .i64 9) := (show Blk w3 (w.heap.size + 1) 40 lvAV from KA3.out).cell 0
  have y1 : w3.cell? ⟨w.heap.size + 1, 1, none⟩ = some (.int .u64 1) := (show Blk w3 (w.heap.size + 1) 40 lvAV from KA3.out).cell 1
  have y2 : w3.cell? ⟨w.heap.size + 1, 2, none⟩ = some (.int .u64 5) := (show Blk w3 (w.heap.size + 1) 40 lvAV from KA3.out).cell 2
  have y3 : w3.cell? ⟨w.heap.size + 1, 3, none⟩ = some (.int .u64 0) := (show Blk w3 (w.heap.size + 1) 40 lvAV from KA3.out).cell 3
  have y4 : w3.cell? ⟨w.heap.size + 1, 4, none⟩ = some (.int .i64 0) := (show Blk w3 (w.heap.size + 1) 40 lvAV from KA3.out).cell 4
  have y5 : w3.cell? ⟨w.heap.size + 1, 5, none⟩ = some (.int .i64 4) := (show Blk w3 (w.heap.size + 1) 40 lvAV from KA3.out).cell 5
  have y6 : w3.cell? ⟨w.heap.size + 1, 6, none⟩ = some (.slice none 0 0) := (show Blk w3 (w.heap.size + 1) 40 lvAV from KA3.out).cell 6
  have y7 : w3.cell? ⟨w.heap.size + 1, 7, none⟩ = some (.slice none 0 0) := (show Blk w3 (w.heap.size + 1) 40 lvAV from KA3.out).cell 7
  have y8 : w3.cell? ⟨w.heap.size + 1, 8, none⟩ = some (.slice none 0 0) := (show Blk w3 (w.heap.size + 1) 40 lvAV from KA3.out).cell 8
  have y9 : w3.cell? ⟨w.heap.size + 1, 9, none⟩ = some (.int .u64 0) := (show Blk w3 (w.heap.size + 1) 40 lvAV from KA3.out).cell 9
  have y10 : w3.cell? ⟨w.heap.size + 1, 10, none⟩ = some (.int .u64 0) := (show Blk w3 (w.heap.size + 1) 40 lvAV from KA3.out).cell 10
  have y11 : w3.cell? ⟨w.heap.size + 1, 11, none⟩ = some (.int .u64 0) := (show Blk w3 (w.heap.size + 1) 40 lvAV from KA3.out).cell 11
  have y12 : w3.cell? ⟨w.heap.size + 1, 12, none⟩ = some (.int .u64 0) := (show Blk w3 (w.heap.size + 1) 40 lvAV from KA3.out).cell 12
  have y13 : w3.cell? ⟨w.heap.size + 1, 13, none⟩ = some (.slice none 0 0) := (show Blk w3 (w.heap.size + 1) 40 lvAV from KA3.out).cell 13
  have HC2 : Hid (Calls Try.prog 14 #[.slice (some ⟨w3.heap.size, 0, none⟩) 2 2] (w3.alloc (.cells lvC2 40)) fun e w' => e = .returned (.bool true) ∧ Below (w3.alloc (.cells lvC2 40)).heap.size (w3.alloc (.cells lvC2 40)) w') := by
    have h := quiet_any (ms_block (D := fun _ => False) (lp := [(lvQ, hdZ), (lvA, hdZ)]) (blk11 w3 40 lvC2) rfl (fun p hp => by
      simp only [List.mem_cons, List.not_mem_nil, or_false] at hp
      rcases hp with rfl | rfl
      · exact lv_in _ (.inl rfl)
      · exact lv_in _ (.inr rfl)) (by decide)) (fun k hk => by
      rcases hk with hk | rfl
      · exact hk.elim
      · simp) (by decide)
    refine h.mono fun e w' hq => ?_
    obtain ⟨hb, ⟨q, rfl, h0, hg, hi⟩ | ⟨rfl, h0⟩⟩ := hq
    · exact ⟨by rw [hi.2 lv_open], hb⟩
    · exact absurd (by have h1 := res_good (lv_good []); show (res [lvQ, lvA]).2 = 0; rw [h1]) h0
  have HB4 := Lib.hid (stepB HB3.out (below1 w3 (.cells lvC2 40)))
  go_wp2_with fail
  refine HC2.out.mono ?_; rintro e w4 ⟨rfl, hb4⟩
  have HB5 := Lib.hid (stepB HB4.out hb4)
  clear hb4 z0 z1 z2 z3 z4 z5 z6 z7 z8 z9 z10 z11 z12 z13 y0 y1 y2 y3 y4 y5 y6 y7 y8 y9 y10 y11 y12 y13
  go_wp2_with fail
  go_ret
  exact ⟨rfl, HB5.out⟩
end Go.Proofs.Ytnihaaifkogpbaa
/- The walk of TalkOnce (printed by genonce.py). -/
namespace Go.Proofs.Ytnihaaifkogpbaa
open Go.ChangeShapes Go.WideShapes Go.ChangeAt Go.RowKit
set_option linter.unusedVariables false
section
variable {D D' : Dom} {A A2 : Option Addr} {n c m c2 pos : Nat} {l : List Ms} {dt : List UInt8} {w : World}
set_option maxRecDepth 100000 in
set_option maxHeartbeats 16000000 in
theorem talkOnce_any (hs : rpMs.sl w D A n c l) (hD : ∀ k, D k → k < w.heap.size) (hs2 : rpU8.sl w D' A2 m c2 dt) (hD2 : ∀ k, D' k → k < w.heap.size) (hpos : pos ≤ 18446744073709551615) :
    Calls Try.prog 4 #[.slice A n c, .int .u64 (pos : Int), .slice A2 m c2] w fun e w' => e = .returned (.bool true) ∧ Below w.heap.size w w' := by
  have HS := Lib.hid (show Sl rpMs w D A n c l from ⟨hs, hD⟩)
  have HS2 := Lib.hid (show Sl rpU8 w D' A2 m c2 dt from ⟨hs2, hD2⟩)
  have HMN := Lib.hid (many30_any hs hD)
  obtain ⟨hm1, hm2, hm3⟩ := Rp.sl_len hs2
  unfold maxLen at hm3
  have HM := Lib.hid hm1
  clear hs hD hs2 hD2 hm1
  obtain ⟨b3, hb3⟩ : ∃ b3, b3 = decide ((m : Int) > 300) := ⟨_, rfl⟩
  obtain ⟨b4, hb4⟩ : ∃ b4, b4 = decide (4611686018427387904 ≤ pos) := ⟨_, rfl⟩
  have HB3 := Lib.hid hb3
  have HB4 := Lib.hid hb4
  have hd3 : decide ((m : Int) > 300) = b3 := hb3.symm
  have hd3b : decide ((300 : Int) < (m : Int)) = b3 := hb3.symm
  have hd4 : decide ((pos : Int) ≥ 4611686018427387904) = b4 := by rw [hb4]; simp; omega
  have hd4b : decide ((4611686018427387904 : Int) ≤ (pos : Int)) = b4 := hd4
  clear hb3 hb4
  by_cases hlg : b3 = true ∨ b4 = true
  case pos =>
    cases b3
    case true =>
      go_enter Try.func4, Try.ntmps4
      go_wp2_with fail
      refine HMN.out.mono ?_; rintro e w1 ⟨q, rfl, hq, hb1⟩
      have HB1 := Lib.hid hb1
      have HLV := Lib.hid (live30_any w1)
      clear hq hb1 HMN
      cases q
      all_goals
        go_wp2_with fail
        refine HLV.out.mono ?_; rintro e w2 ⟨rfl, hb2⟩
        have HB2 := Lib.hid (stepB HB1.out hb2)
        clear hb2
        go_wp2_with fail
        go_ret
        exact ⟨rfl, HB2.out⟩
    case false =>
      have hb4 : b4 = true := by rcases hlg with h | h; cases h; exact h
      subst hb4
      clear hlg
      go_enter Try.func4, Try.ntmps4
      go_wp2_with fail
      refine HMN.out.mono ?_; rintro e w1 ⟨q, rfl, hq, hb1⟩
      have HB1 := Lib.hid hb1
      have HLV := Lib.hid (live30_any w1)
      clear hq hb1 HMN
      cases q
      all_goals
        go_wp2_with fail
        refine HLV.out.mono ?_; rintro e w2 ⟨rfl, hb2⟩
        have HB2 := Lib.hid (stepB HB1.out hb2)
        clear hb2
        go_wp2_with fail
        go_ret
        exact ⟨rfl, HB2.out⟩
  case neg =>
  have hb3 : b3 = false := by cases b3; rfl; exact absurd (.inl rfl) hlg
  have hb4 : b4 = false := by cases b4; rfl; exact absurd (.inr rfl) hlg
  subst hb3
  subst hb4
  have hm300 : m ≤ 300 := by have h := HB3.out.symm; simp at h; omega
  have hp62 : pos < 4611686018427387904 := by have h := HB4.out.symm; simp at h; omega
  clear hlg HB3 HB4
  go_enter Try.func4, Try.ntmps4
  go_wp2_with fail
  refine HMN.out.mono ?_; rintro e w1 ⟨q, rfl, hq, hb1⟩
  have HN12 := Lib.hid hq
  have HB1 := Lib.hid hb1
  clear hq hb1 HMN
  cases q
  case true =>
    have HLV := Lib.hid (live30_any w1)
    go_wp2_with fail
    refine HLV.out.mono ?_; rintro e w2 ⟨rfl, hb2⟩
    have HB2 := Lib.hid (stepB HB1.out hb2)
    clear hb2
    go_wp2_with fail
    go_ret
    exact ⟨rfl, HB2.out⟩
  case false =>
  have hn12 : n ≤ 12 := HN12.out rfl
  have HNU := Lib.hid (newUnit_any (nd := 7) (ep := 1) w1 (by decide) (by unfold EOk; decide))
  have hdl : dt.length ≤ 1048576 := by have := HM.out; omega
  have HDL := Lib.hid hdl
  clear hdl
  obtain ⟨gm, hgm⟩ : ∃ gm, gm = w1.heap.size := ⟨_, rfl⟩
  have HGM := Lib.hid hgm
  have HGMW : Hid (w.heap.size ≤ gm) := by show _ ≤ gm; rw [hgm]; exact HB1.out.size
  rw [← hgm] at HNU
  clear hgm
  go_upto_region 4 with
    (go_at_call 6
     refine HNU.out.mono ?_
     rintro e w2 ⟨rfl, hw2⟩
     have hb2 : Below w1.heap.size w1 w2 := by rw [hw2]; exact below2 w1 _ _
     have UI2 : Hid (UI w2 (gm + 1) gm w2.heap.size 7 0 1 false (fun _ => none)) := by
       show UI _ _ _ _ _ _ _ _ _
       rw [hw2, HGM.out]
       exact ui_new w1
     have HB2 := Lib.hid (stepB HB1.out hb2)
     clear hw2 hb2)
  obtain ⟨tb, htb⟩ : ∃ tb, tb = w2.heap.size := ⟨_, rfl⟩
  rw [← htb] at UI2
  clear htb
  clear hd3 hd3b hd4 hd4b HNU HB1
  obtain ⟨gu, hgu⟩ : ∃ gu, gu = gm + 1 := ⟨_, rfl⟩
  rw [← hgu] at UI2 ⊢
  have HGUW : Hid (w.heap.size ≤ gu) := by show _ ≤ gu; rw [hgu]; have := HGMW.out; omega
  clear hgu
  have HFW : Hid (∀ k, (k = gu ∨ k = gm) → w.heap.size ≤ k) := fun k hk => by rcases hk with rfl | rfl; exact HGUW.out; exact HGMW.out
  have hs22 := keepS HS2.out HB2.out
  have HAN : Hid (Calls Try.prog 7 #[.pointer (some ⟨gu, 0, none⟩), .agg #[.int .i64 2, .int .u64 1, .int .u64 0, .int .u64 (pos : Int), .int .i64 0, .int .i64 0, .slice none 0 0, .slice none 0 0, .slice A2 m c2, .int .u64 0, .int .u64 0, .int .u64 0, .int .u64 0, .slice none 0 0]] w2 (AnsIs w2 gu gm tb 7 0 1 false (fun _ => none) (qW pos dt) [])) :=
    ans_ui (q := qW pos dt) (h := hdW A2 m c2) UI2.out (by decide) (qW_in hs22.1 hs22.2 hp62) (fun k hk e => by have h1 := HS2.out.2 k hk; have h2 := HFW.out k e; omega) (fun A n c e => by cases e)
  clear hs22
  go_upto_region 5 with
    (go_at_call 7
     refine HAN.out.mono ?_
     rintro e w3 ⟨ma, ha, code, rfl, ⟨ep1, se1, f1, hui, har⟩, hch⟩
     have hw := har.wr (qW_ok hp62 HDL.out) rfl rfl rfl rfl
     have hcode := hw.1
     subst hcode
     have HKA : Hid (ma.kd = 10) := hw.2.1
     have HWR := Lib.hid hw.2.2
     have HB3 := Lib.hid (once_chg HB2.out hch HB2.out.size HFW.out)
     have hb4 := below1 w3 (.cells (msV ma ha) 40)
     have KA4 := Lib.hid (blk11 w3 40 (msV ma ha))
     have UI4 := Lib.hid (hui.below hb4)
     have HB4 := Lib.hid (stepB HB3.out hb4)
     have PS4 : Hid (PS (w3.alloc (.cells (msV ma ha) 40)) f1 pos dt false) := by
       obtain ⟨A', n', c', h1, h2⟩ := HWR.out
       have h3 := (Rp.sl_len h2).1
       have h4 : n' ≤ 1048576 := by have h5 := HDL.out; have h6 : dt.length = n' := h3; omega
       exact ⟨A', n', c', fun _ => ⟨h1, t8_below h2 hb4, h4⟩, fun e => by cases e⟩
     clear hw hui har hch hb4)
  obtain ⟨ga, hga⟩ : ∃ ga, ga = w3.heap.size := ⟨_, rfl⟩
  rw [← hga] at KA4 ⊢
  clear hga HWR HB3 HB2 UI2 HAN
  generalize World.alloc w3 _ = w4 at *
  have a0 : w4.cell? ⟨ga, 0, none⟩ = some (.int .i64 10) := by
    have hh := (show Blk w4 ga 40 (msV ma ha) from KA4.out).cell 0
    rw [← HKA.out]; exact hh
  go_wp2_with fail
  go_loopw [11, 12] (fun v11 v12 wr => ∃ (tr : Bool) (i ep : Nat) (se : Bool) (f : Nat → Option Value), v11 = .bool tr ∧ v12 = .int .i64 (i : Int) ∧ i ≤ n ∧ Hid (UI wr gu gm tb 7 (1 + 2 * i) ep se f) ∧ Hid (PS wr f pos dt tr) ∧ Hid (Below w.heap.size w wr)) (fun _ v12 _ => n - (intOf v12).toNat)
  case atStart => exact ⟨false, 0, ep1, se1, f1, rfl, rfl, by omega, UI4.out, PS4.out, HB4.out⟩
  case round =>
    clear UI4 PS4 HB4 a0 KA4 HKA
    obtain ⟨tr, i, ep, se, f, rfl, rfl, hi, hui, hps, hbr⟩ := hrel
    by_cases hin : i < n
    case neg =>
      obtain rfl : i = n := by omega
      have hd : decide ((i : Int) < (i : Int)) = false := by simp
      have hst := st_ui hui.out hpos hps.out.stat
      have HST := Lib.hid hst
      clear hst
      cases tr
      case false =>
        have HST2 : Hid (Calls Try.prog 12 #[.pointer (some ⟨gu, 0, none⟩), .int .u64 (pos : Int)] wr fun e w' => e = .returned (.int .i64 1) ∧ Below wr.heap.size wr w') := HST.out
        clear HST
        go_wp2_with fail
        refine HST2.out.mono ?_; rintro e wy ⟨rfl, hby⟩
        have HBY := Lib.hid (stepB hbr.out hby)
        have HLV := Lib.hid (live30_any wy)
        clear hby
        go_wp2_with fail
        refine HLV.out.mono ?_; rintro e wz ⟨rfl, hbz⟩
        have HBZ := Lib.hid (stepB HBY.out hbz)
        clear hbz
        go_wp2_with fail
        go_ret
        exact ⟨rfl, HBZ.out⟩
      case true =>
        have HST2 : Hid (Calls Try.prog 12 #[.pointer (some ⟨gu, 0, none⟩), .int .u64 (pos : Int)] wr fun e w' => e = .returned (.int .i64 3) ∧ Below wr.heap.size wr w') := HST.out
        clear HST
        go_wp2_with fail
        refine HST2.out.mono ?_; rintro e wy ⟨rfl, hby⟩
        have HBY := Lib.hid (stepB hbr.out hby)
        have HLV := Lib.hid (live30_any wy)
        clear hby
        go_wp2_with fail
        refine HLV.out.mono ?_; rintro e wz ⟨rfl, hbz⟩
        have HBZ := Lib.hid (stepB HBY.out hbz)
        clear hbz
        go_wp2_with fail
        go_ret
        exact ⟨rfl, HBZ.out⟩
    case pos =>
      have hd : decide ((i : Int) < (n : Int)) = true := by simp; omega
      have hdb : decide (i < n) = true := by simp; omega
      have hiI : (0 : Int) ≤ (i : Int) := by omega
      have hiI2 : (i : Int) < (n : Int) := by omega
      have hsr := keepS HS.out hbr.out
      obtain ⟨bo, off, q, hq, hA, hDb, hql, hqi, hc⟩ := ms_at hsr.1 hsr.2 hin
      subst hA
      have HCL := Lib.hid hc
      have HBO : Hid (bo < w.heap.size) := HS.out.2 _ hDb
      obtain ⟨d, hd8⟩ := hui.out.so.dat q.ps
      have HAN := Lib.hid (ans_ui (q := q) (h := hq) hui.out (show 1 + 2 * i ≤ 1000 by omega) hqi (fun k hk e => by have h1 := HS.out.2 k hk; have h2 := HFW.out k e; omega) hd8)
      have e0 : wr.cell? ⟨bo, off + i * 14, none⟩ = some (.int .i64 q.kd) := HCL.out 0 _ rfl
      have e1 : wr.cell? ⟨bo, off + i * 14 + 1, none⟩ = some (.int .u64 (q.ep : Int)) := HCL.out 1 _ rfl
      have e2 : wr.cell? ⟨bo, off + i * 14 + 2, none⟩ = some (.int .u64 (q.sq : Int)) := HCL.out 2 _ rfl
      have e3 : wr.cell? ⟨bo, off + i * 14 + 3, none⟩ = some (.int .u64 (q.ps : Int)) := HCL.out 3 _ rfl
      have e4 : wr.cell? ⟨bo, off + i * 14 + 4, none⟩ = some (.int .i64 q.ct) := HCL.out 4 _ rfl
      have e5 : wr.cell? ⟨bo, off + i * 14 + 5, none⟩ = some (.int .i64 q.st) := HCL.out 5 _ rfl
      have e6 : wr.cell? ⟨bo, off + i * 14 + 6, none⟩ = some (.slice hq.A1 hq.n1 hq.c1) := HCL.out 6 _ rfl
      have e7 : wr.cell? ⟨bo, off + i * 14 + 7, none⟩ = some (.slice hq.A2 hq.n2 hq.c2) := HCL.out 7 _ rfl
      have e8 : wr.cell? ⟨bo, off + i * 14 + 8, none⟩ = some (.slice hq.A3 hq.n3 hq.c3) := HCL.out 8 _ rfl
      have e9 : wr.cell? ⟨bo, off + i * 14 + 9, none⟩ = some (.int .u64 (q.se.1 : Int)) := HCL.out 9 _ rfl
      have e10 : wr.cell? ⟨bo, off + i * 14 + 10, none⟩ = some (.int .u64 (q.se.2.1 : Int)) := HCL.out 10 _ rfl
      have e11 : wr.cell? ⟨bo, off + i * 14 + 11, none⟩ = some (.int .u64 (q.se.2.2 : Int)) := HCL.out 11 _ rfl
      have e12 : wr.cell? ⟨bo, off + i * 14 + 12, none⟩ = some (.int .u64 (q.pr.1 : Int)) := HCL.out 12 _ rfl
      have e13 : wr.cell? ⟨bo, off + i * 14 + 13, none⟩ = some (.slice hq.A4 hq.n4 hq.c4) := HCL.out 13 _ rfl
      clear hc hql hqi hDb hsr hd8
      go_upto_region 12 with
        (go_at_call 7
         refine HAN.out.mono ?_
         rintro e w5 ⟨mb, hb, code, rfl, ⟨ep', se', f', hui', har⟩, hch⟩
         have hps' := hps.out.step har hui.out.safe hch
         have HTW : Hid (q.kd = 2 → q.ps = pos → mb.kd ≠ 10) := fun h1 h2 => hps.out.two har h1 h2
         have HB5 := Lib.hid (once_chg hbr.out hch hbr.out.size HFW.out)
         have hb6 := below1 w5 (.cells (msV mb hb) 40)
         have KB6 := Lib.hid (blk11 w5 40 (msV mb hb))
         have UI6 := Lib.hid (hui'.below hb6)
         have PS6 := Lib.hid (hps'.below hb6)
         have HB6 := Lib.hid (stepB HB5.out hb6)
         have HCK : Hid (∀ p : Addr, p.block < w.heap.size → (w5.alloc (.cells (msV mb hb) 40)).cell? p = w.cell? p) := fun p hp => HB6.out.cell hp
         have HCR : Hid (∀ p : Addr, p.block < w.heap.size → wr.cell? p = w.cell? p) := fun p hp => hbr.out.cell hp
         have t0 : (w5.alloc (.cells (msV mb hb) 40)).cell? ⟨bo, off + i * 14, none⟩ = some (.int .i64 q.kd) := (HCK.out _ HBO.out).trans ((HCR.out _ HBO.out).symm.trans e0)
         have t3 : (w5.alloc (.cells (msV mb hb) 40)).cell? ⟨bo, off + i * 14 + 3, none⟩ = some (.int .u64 (q.ps : Int)) := (HCK.out _ HBO.out).trans ((HCR.out _ HBO.out).symm.trans e3)
         clear hui' har hch hb6 hps' HCK HCR e0 e1 e2 e3 e4 e5 e6 e7 e8 e9 e10 e11 e12 e13)
      obtain ⟨gb, hgb⟩ : ∃ gb, gb = w5.heap.size := ⟨_, rfl⟩
      rw [← hgb] at KB6 ⊢
      clear hgb HB5 HAN HCL
      generalize World.alloc w5 _ = w6 at *
      have b0 := (show Blk w6 gb 40 (msV mb hb) from KB6.out).cell 0
      obtain ⟨k4, hk4⟩ : ∃ k4, k4 = decide (q.kd = 4) := ⟨_, rfl⟩
      obtain ⟨kp, hkp⟩ : ∃ kp, kp = decide (q.ps = pos) := ⟨_, rfl⟩
      obtain ⟨kt, hkt⟩ : ∃ kt, kt = decide (mb.kd = 10) := ⟨_, rfl⟩
      rw [← hk4, ← hkp, ← hkt] at PS6
      have g4 : (q.kd == 4) = k4 := by rw [hk4]; rfl
      have gp : ((q.ps : Int) == (pos : Int)) = kp := by
        rw [hkp]
        by_cases h : q.ps = pos
        · simp [h]
        · have h2 : ¬ (q.ps : Int) = (pos : Int) := by omega
          simp [h, h2]
      have gpb : (q.ps == pos) = kp := by rw [hkp]; rfl
      have gt : (mb.kd == 10) = kt := by rw [hkt]; rfl
      obtain ⟨k2, hk2⟩ : ∃ k2, k2 = decide (q.kd = 2) := ⟨_, rfl⟩
      have g2 : (q.kd == 2) = k2 := by rw [hk2]; rfl
      have HT2 : Hid ((k2 && kp && kt) = false) := by
        show _ = false
        rw [hk2, hkp, hkt]
        by_cases h1 : q.kd = 2
        · by_cases h2 : q.ps = pos
          · simp [h1, h2, HTW.out h1 h2]
          · simp [h2]
        · simp [h1]
      clear hk4 hkp hkt hk2
      obtain ⟨trn, htrn⟩ : ∃ trn, trn = (tr || (k4 && kp && kt)) := ⟨_, rfl⟩
      rw [← htrn] at PS6
      have HTRN := Lib.hid htrn
      clear htrn
      go_cut [11] (fun v11 wx => v11 = .bool trn ∧ wx = w6)
      case first =>
        cases tr
        case true =>
          have hz : trn = true := by rw [HTRN.out]; rfl
          subst hz
          go_wp2_with fail
          go_meet
          exact ⟨rfl, rfl⟩
        case false =>
          cases k4
          case false =>
            have hz : trn = false := by rw [HTRN.out]; rfl
            subst hz
            go_wp2_with fail
            go_meet
            exact ⟨rfl, rfl⟩
          case true =>
            cases kp
            case false =>
              have hz : trn = false := by rw [HTRN.out]; rfl
              subst hz
              go_wp2_with fail
              go_meet
              exact ⟨rfl, rfl⟩
            case true =>
              cases kt
              case false =>
                have hz : trn = false := by rw [HTRN.out]; rfl
                subst hz
                go_wp2_with fail
                go_meet
                exact ⟨rfl, rfl⟩
              case true =>
                have hz : trn = true := by rw [HTRN.out]; rfl
                subst hz
                go_wp2_with fail
                go_meet
                exact ⟨rfl, rfl⟩
      case rest =>
      obtain ⟨rfl, hwc⟩ := hcut
      subst hwc
      clear g4 HTRN
      obtain ⟨w6, hw6⟩ : ∃ w6, w6 = wc := ⟨_, rfl⟩
      subst hw6
      go_upto_region 13 with (fail)
      go_cut [111] (fun v111 wx => v111 = .bool false ∧ wx = w6)
      case first =>
        cases k2
        case false =>
          go_wp2_with fail
          go_meet
          exact ⟨rfl, rfl⟩
        case true =>
          cases kp
          case false =>
            go_wp2_with fail
            go_meet
            exact ⟨rfl, rfl⟩
          case true =>
            cases kt
            case false =>
              go_wp2_with fail
              go_meet
              exact ⟨rfl, rfl⟩
            case true => exact absurd HT2.out (by decide)
      case rest =>
      obtain ⟨rfl, hwc⟩ := hcut
      subst hwc
      obtain ⟨w6, hw6⟩ : ∃ w6, w6 = wc := ⟨_, rfl⟩
      subst hw6
      clear g2 gp gpb gt HT2 t0 t3 b0
      have HEP := Lib.hid (ep_ui UI6.out)
      go_upto_region 16 with
        (go_at_call 10
         refine HEP.out.mono ?_
         rintro e w7 ⟨rfl, hb7⟩
         have UI7 := Lib.hid (UI6.out.below hb7)
         have PS7 := Lib.hid (PS6.out.below hb7)
         have HB7 := Lib.hid (stepB HB6.out hb7)
         have HAR : Hid (Calls Try.prog 7 #[.pointer (some ⟨gu, 0, none⟩), .agg #[.int .i64 1, .int .u64 (ep' : Int), .int .u64 0, .int .u64 (pos : Int), .int .i64 0, .int .i64 0, .slice none 0 0, .slice none 0 0, .slice none 0 0, .int .u64 0, .int .u64 0, .int .u64 0, .int .u64 0, .slice none 0 0]] w7 (AnsIs w7 gu gm tb 7 (1 + 2 * i + 1) ep' se' f' (qR ep' pos) dt)) :=
           ans_ui (q := qR ep' pos) (h := hdZb) UI7.out (by omega) (qR_in w7 UI7.out.eok hp62) (fun k hk => hk.elim) (fun A n c e => PS7.out.dat A n c e)
         clear hb7)
      go_upto_region 17 with
        (go_at_call 7
         refine HAR.out.mono ?_
         rintro e w8 ⟨mc, hc, code2, rfl, ⟨ep2, se2, f2, hui2, har2⟩, hch2⟩
         have hrd := PS7.out.read har2 UI7.out.eok hp62
         have hps2 := PS7.out.step har2 UI7.out.safe hch2
         have htr2 : (trn || (decide ((qR ep' pos).kd = 4) && decide ((qR ep' pos).ps = pos) && decide (mc.kd = 10))) = trn := by
           have h1 : decide ((qR ep' pos).kd = 4) = false := rfl
           rw [h1]; simp
         rw [htr2] at hps2
         have HB8 := Lib.hid (once_chg HB7.out hch2 HB7.out.size HFW.out)
         have hb9 := below1 w8 (.cells (msV mc hc) 40)
         have KC9 := Lib.hid (blk11 w8 40 (msV mc hc))
         have UI9 := Lib.hid (hui2.below hb9)
         have PS9 := Lib.hid (hps2.below hb9)
         have HB9 := Lib.hid (stepB HB8.out hb9)
         have HRS : Hid (se' = true → mc.kd = 14 ∧ mc.st = 18) := hrd.1
         have HR3 : Hid (se' = false → trn = true → mc.st = 3) := fun h => (hrd.2 h).2
         have HR1 : Hid (se' = false → trn = false → mc.st = 1 ∧ rpU8.sl (w8.alloc (.cells (msV mc hc) 40)) (Lt w8) hc.A3 hc.n3 hc.c3 dt) := fun h h2 => ⟨((hrd.2 h).1 h2).1, Rp.sl_below ((hrd.2 h).1 h2).2 hb9 (fun k hk => hk)⟩
         clear hui2 har2 hch2 hb9 hrd hps2 htr2)
      obtain ⟨gc, hgc⟩ : ∃ gc, gc = w8.heap.size := ⟨_, rfl⟩
      rw [← hgc] at KC9 ⊢
      clear hgc HB8 HAR HEP UI7 PS7 HB7 UI6 PS6 HB6 KB6 HTW hui hps
      generalize World.alloc w8 _ = w9 at *
      cases se'
      case true =>
        have c0 : w9.cell? ⟨gc, 0, none⟩ = some (.int .i64 14) := by
          have hh := (show Blk w9 gc 40 (msV mc hc) from KC9.out).cell 0
          rw [← (HRS.out rfl).1]; exact hh
        have c5 : w9.cell? ⟨gc, 5, none⟩ = some (.int .i64 18) := by
          have hh := (show Blk w9 gc 40 (msV mc hc) from KC9.out).cell 5
          rw [← (HRS.out rfl).2]; exact hh
        clear HR1 HR3
        go_wp2_with fail
        go_roundw
        case rel => exact ⟨trn, i + 1, ep2, se2, f2, rfl, by go_num, by omega, UI9.out, PS9.out, HB9.out⟩
        case measure => simp [intOf]; omega
      case false =>
        cases trn
        case true =>
          have c5 : w9.cell? ⟨gc, 5, none⟩ = some (.int .i64 3) := by
            have hh := (show Blk w9 gc 40 (msV mc hc) from KC9.out).cell 5
            rw [← HR3.out rfl rfl]; exact hh
          clear HR1 HR3 HRS
          go_wp2_with fail
          go_roundw
          case rel => exact ⟨true, i + 1, ep2, se2, f2, rfl, by go_num, by omega, UI9.out, PS9.out, HB9.out⟩
          case measure => simp [intOf]; omega
        case false =>
          have c5 : w9.cell? ⟨gc, 5, none⟩ = some (.int .i64 1) := by
            have hh := (show Blk w9 gc 40 (msV mc hc) from KC9.out).cell 5
            rw [← (HR1.out rfl rfl).1]; exact hh
          have c8 := (show Blk w9 gc 40 (msV mc hc) from KC9.out).cell 8
          have HSM := Lib.hid (same02_any (HR1.out rfl rfl).2 (keepS HS2.out HB9.out).1)
          have hdd : (dt == dt) = true := by simp
          rw [hdd] at HSM
          clear HR1 HR3 HRS hdd
          go_wp2_with fail
          refine HSM.out.mono ?_; rintro e w10 ⟨rfl, hw10⟩
          subst hw10
          go_wp2_with fail
          go_roundw
          case rel => exact ⟨false, i + 1, ep2, se2, f2, rfl, by go_num, by omega, UI9.out, PS9.out, HB9.out⟩
          case measure => simp [intOf]; omega
end
end Go.Proofs.Ytnihaaifkogpbaa
/- Opening a struct of eleven fields; opening a message. -/
namespace Go.Proofs.Ytnihaaifkogpbaa
open Go.ChangeShapes Go.WideShapes Go.ChangeAt Go.RowKit
set_option linter.unusedVariables false
section
variable {P : Program} {T : TypeId} {α0 α1 α2 α3 α4 α5 α6 α7 α8 α9 α10 : Type}
theorem opens_struct11 {r0 : Rp α0} {r1 : Rp α1} {r2 : Rp α2} {r3 : Rp α3} {r4 : Rp α4} {r5 : Rp α5} {r6 : Rp α6} {r7 : Rp α7} {r8 : Rp α8} {r9 : Rp α9} {r10 : Rp α10} {f0 f1 f2 f3 f4 f5 f6 f7 f8 f9 f10 : Field} (ht : P.underlying T = some (.struct #[f0, f1, f2, f3, f4, f5, f6, f7, f8, f9, f10])) (h0 : Opens P f0.type r0) (h1 : Opens P f1.type r1) (h2 : Opens P f2.type r2) (h3 : Opens P f3.type r3) (h4 : Opens P f4.type r4) (h5 : Opens P f5.type r5) (h6 : Opens P f6.type r6) (h7 : Opens P f7.type r7) (h8 : Opens P f8.type r8) (h9 : Opens P f9.type r9) (h10 : Opens P f10.type r10)
    (hc : (f0.offset, P.cellsOf f0.type, f1.offset, P.cellsOf f1.type, f2.offset, P.cellsOf f2.type, f3.offset, P.cellsOf f3.type, f4.offset, P.cellsOf f4.type, f5.offset, P.cellsOf f5.type, f6.offset, P.cellsOf f6.type, f7.offset, P.cellsOf f7.type, f8.offset, P.cellsOf f8.type, f9.offset, P.cellsOf f9.type, f10.offset, P.cellsOf f10.type, P.cellsOf T) = (0, r0.size, r0.size, r1.size, r0.size + r1.size, r2.size, r0.size + r1.size + r2.size, r3.size, r0.size + r1.size + r2.size + r3.size, r4.size, r0.size + r1.size + r2.size + r3.size + r4.size, r5.size, r0.size + r1.size + r2.size + r3.size + r4.size + r5.size, r6.size, r0.size + r1.size + r2.size + r3.size + r4.size + r5.size + r6.size, r7.size, r0.size + r1.size + r2.size + r3.size + r4.size + r5.size + r6.size + r7.size, r8.size, r0.size + r1.size + r2.size + r3.size + r4.size + r5.size + r6.size + r7.size + r8.size, r9.size, r0.size + r1.size + r2.size + r3.size + r4.size + r5.size + r6.size + r7.size + r8.size + r9.size, r10.size, r0.size + r1.size + r2.size + r3.size + r4.size + r5.size + r6.size + r7.size + r8.size + r9.size + r10.size)) : Opens P T (rpPair r0 (rpPair r1 (rpPair r2 (rpPair r3 (rpPair r4 (rpPair r5 (rpPair r6 (rpPair r7 (rpPair r8 (rpPair r9 r10)))))))))) := fun H enc w held fuel cs x h => by
  obtain ⟨xs, n, _, _, hlen, hxl, hf⟩ := DataW.trod_struct ht h
  simp only [Prod.mk.injEq] at hc
  obtain ⟨c0, c1, c2, c3, c4, c5, c6, c7, c8, c9, c10, c11, c12, c13, c14, c15, c16, c17, c18, c19, c20, c21, c22⟩ := hc
  have g0 := hf 0 f0 rfl
  have g1 := hf 1 f1 rfl
  have g2 := hf 2 f2 rfl
  have g3 := hf 3 f3 rfl
  have g4 := hf 4 f4 rfl
  have g5 := hf 5 f5 rfl
  have g6 := hf 6 f6 rfl
  have g7 := hf 7 f7 rfl
  have g8 := hf 8 f8 rfl
  have g9 := hf 9 f9 rfl
  have g10 := hf 10 f10 rfl
  have hxl' : xs.length = 11 := by simpa using hxl
  rw [List.getElem?_eq_getElem (by omega)] at g0 g1 g2 g3 g4 g5 g6 g7 g8 g9 g10
  rw [c0, c1, List.drop_zero] at g0
  rw [c2, c3] at g1
  rw [c4, c5] at g2
  rw [c6, c7] at g3
  rw [c8, c9] at g4
  rw [c10, c11] at g5
  rw [c12, c13] at g6
  rw [c14, c15] at g7
  rw [c16, c17] at g8
  rw [c18, c19] at g9
  rw [c20, c21] at g10
  obtain ⟨x0, q0⟩ := h0 H enc w held n _ _ g0
  obtain ⟨x1, q1⟩ := h1 H enc w held n _ _ g1
  obtain ⟨x2, q2⟩ := h2 H enc w held n _ _ g2
  obtain ⟨x3, q3⟩ := h3 H enc w held n _ _ g3
  obtain ⟨x4, q4⟩ := h4 H enc w held n _ _ g4
  obtain ⟨x5, q5⟩ := h5 H enc w held n _ _ g5
  obtain ⟨x6, q6⟩ := h6 H enc w held n _ _ g6
  obtain ⟨x7, q7⟩ := h7 H enc w held n _ _ g7
  obtain ⟨x8, q8⟩ := h8 H enc w held n _ _ g8
  obtain ⟨x9, q9⟩ := h9 H enc w held n _ _ g9
  obtain ⟨x10, q10⟩ := h10 H enc w held n _ _ g10
  refine ⟨(x0, x1, x2, x3, x4, x5, x6, x7, x8, x9, x10), _, _, ?_, q0, _, _, rfl, q1, _, _, rfl, q2, _, _, rfl, q3, _, _, rfl, q4, _, _, rfl, q5, _, _, rfl, q6, _, _, rfl, q7, _, _, rfl, q8, _, _, rfl, q9, q10⟩
  rw [List.take_of_length_le (l := List.drop (r0.size + r1.size + r2.size + r3.size + r4.size + r5.size + r6.size + r7.size + r8.size + r9.size) cs) (by rw [List.length_drop]; omega)]
  simp only [← List.drop_drop, List.take_append_drop]
end
theorem opens_msg : Opens Try.prog 40 rpMs :=
  opens_via _ (opens_struct11 Try.underlying40 (opens_int Try.underlying3) (opens_u64 Try.underlying29) (opens_u64 Try.underlying29) (opens_u64 Try.underlying29) (opens_int Try.underlying3) (opens_int Try.underlying3)
    (opens_slice Try.underlying23 (opens_u64 Try.underlying29) (by kernel_rfl) (by decide))
    (opens_slice Try.underlying32 (opens_struct2 Try.underlying44 (opens_u64 Try.underlying29) (opens_slice Try.underlying23 (opens_u64 Try.underlying29) (by kernel_rfl) (by decide)) (by kernel_rfl)) (by kernel_rfl) (by decide))
    (opens_slice Try.underlying33 (opens_u8 Try.underlying5) (by kernel_rfl) (by decide))
    (opens_struct3 Try.underlying35 (opens_u64 Try.underlying29) (opens_u64 Try.underlying29) (opens_u64 Try.underlying29) (by kernel_rfl))
    (opens_struct2 Try.underlying38 (opens_u64 Try.underlying29) (opens_slice Try.underlying36 (opens_struct3 Try.underlying112 (opens_u64 Try.underlying29) (opens_u64 Try.underlying29) (opens_slice Try.underlying110 (opens_slice Try.underlying23 (opens_u64 Try.underlying29) (by kernel_rfl) (by decide)) (by kernel_rfl) (by decide)) (by kernel_rfl)) (by kernel_rfl) (by decide)) (by kernel_rfl))
    (by kernel_rfl)) (fun x => ⟨x.1, x.2.1, x.2.2.1, x.2.2.2.1, x.2.2.2.2.1, x.2.2.2.2.2.1, x.2.2.2.2.2.2.1, x.2.2.2.2.2.2.2.1, x.2.2.2.2.2.2.2.2.1, x.2.2.2.2.2.2.2.2.2.1, x.2.2.2.2.2.2.2.2.2.2⟩) (fun a => rfl)
theorem opens_msgs : Opens Try.prog 47 (rpSlice rpMs) := opens_slice Try.underlying47 opens_msg (by rw [ms_size]; kernel_rfl) (by rw [ms_size]; decide)
/-- A message that was handed over. -/
theorem msg_open {w : World} {D : Dom} {m : Ms} {cs : Array Value} (hD : ∀ k, D k → k < w.heap.size) (h : rpMs.ok w D m cs.toList) : ∃ hd : Hd, cs = msV m hd ∧ MsIn w D m hd := by
  obtain ⟨hd, h1, h2⟩ := ms_open hD h
  exact ⟨hd, Array.ext' h1, h2⟩
end Go.Proofs.Ytnihaaifkogpbaa
/- TalkOnce: the walk, at arguments as they are opened. -/
namespace Go.Proofs.Ytnihaaifkogpbaa
open Go.ChangeShapes Go.WideShapes Go.ChangeAt Go.RowKit
set_option linter.unusedVariables false
theorem talkOnce_law (A : Option Addr) (n c : Nat) (l : List Ms) (x : Int) (A2 : Option Addr) (n2 c2 : Nat) (l2 : List UInt8) (w : World) (h : rpMs.sl w (lt w.heap.size) A n c l) (hx0 : 0 ≤ x) (hx1 : x ≤ 18446744073709551615) (h2 : rpU8.sl w (lt w.heap.size) A2 n2 c2 l2) :
    Calls Try.prog 4 #[.slice A n c, .int .u64 x, .slice A2 n2 c2] w fun e w' => e = .returned (.bool true) ∧ Below w.heap.size w w' := by
  obtain ⟨pos, rfl⟩ := Int.eq_ofNat_of_zero_le hx0
  exact talkOnce_any h (fun _ h => h) h2 (fun _ h => h) (by omega)
end Go.Proofs.Ytnihaaifkogpbaa
/-
  'tholepinlaw30.TalkOnce' returns true for every input, and each argument reads behind the call as it read before. No condition.
-/
namespace Go.Proofs.Ytnihaaifkogpbaa.talkOnce
open Go.ChangeShapes Go.WideShapes Go.ChangeAt Go.RowKit
open Go.ChangeMaps (open_string shut_string)
set_option linter.unusedVariables false

theorem own : ownKnob Try.prog.godebug = none := by kernel_rfl
theorem laidOut : laidOutB Try.prog = true := by kernel_rfl

set_option maxRecDepth 100000 in
theorem lifted (os : Os) (started : os.Started) (H : Type) (enc : TypeId × Value → H) :
    ReturnsInHanded {} Try.checked os 4 .any (Rows.talkOnceSpec.pre6 enc Try.prog Try.f4 Rows.talkOnceRow.domain false) (Rows.talkOnceSpec.post enc Try.prog Try.f4 false true false false) := by
  refine returnsInHanded_of_change (C := Try.checked) own started (by kernel_rfl) Try.func4
    (ChangeSpec.witness6 (enc := enc) (C := Try.checked) false ⟨#[], #[.slice none 0 0, .int .u64 0, .slice none 0 0], []⟩ 8 (by kernel_rfl) (by kernel_rfl) (by kernel_rfl) (by kernel_rfl)) ?_
  intro W base args ds gs before hval0 hW hcnd _
  have hval : ∀ (j : Nat) t v, Try.f4.params[j]? = some t → args[j]? = some v → Value.okWide Try.prog W .any base t v := hval0
  have hW' := hW
  obtain ⟨p, q, hA0, hV, rfl, hfz, hnd⟩ := hW
  have hA : DataW.TrodAll enc Try.prog W 0 (fun _ => true) true Try.f4.params.toList args.toList ds p := hA0
  rw [Try.params4] at hA hval
  obtain ⟨v0, vs0, d0, ds0, p0, q0, hargs, rfl, rfl, h0, r0⟩ := trodAll_cons hA
  obtain ⟨v1, vs1, d1, ds1, p1, q1, rfl, rfl, rfl, h1, r1⟩ := trodAll_cons r0
  obtain ⟨v2, vs2, d2, ds2, p2, q2, rfl, rfl, rfl, h2, r2⟩ := trodAll_cons r1
  obtain ⟨rfl, rfl, rfl⟩ := trodAll_nil r2
  obtain rfl : args = #[v0, v1, v2] := by cases args; simp_all
  obtain ⟨rfl, rfl⟩ := trodVars_none hV
  have k0 := h0
  have lt0 : ∀ x ∈ p0, x.block < W.heap.size := by obtain ⟨m, hm⟩ := k0; exact DataW.trod_lt m _ _ _ hm
  obtain ⟨a0, len0, cap0, rfl⟩ := okWide_slice Try.underlying47 (hval 0 47 v0 rfl rfl)
  obtain ⟨l0, w0⟩ : ∃ l, (rpMs).sl W (lt W.heap.size) a0 len0 cap0 l := by
    obtain ⟨fuel, hf⟩ := h0
    obtain ⟨l, hl⟩ := opens_msgs H enc W _ fuel _ _ hf
    exact ⟨l, hl⟩
  have k1 := h1
  have lt1 : ∀ x ∈ p1, x.block < W.heap.size := by obtain ⟨m, hm⟩ := k1; exact DataW.trod_lt m _ _ _ hm
  obtain ⟨a1, rfl, rfl, rfl, w1⟩ := open_int Try.underlying29 (hval 1 29 v1 rfl rfl) h1
  have k2 := h2
  have lt2 : ∀ x ∈ p2, x.block < W.heap.size := by obtain ⟨m, hm⟩ := k2; exact DataW.trod_lt m _ _ _ hm
  obtain ⟨a2, len2, cap2, rfl⟩ := okWide_slice Try.underlying33 (hval 2 33 v2 rfl rfl)
  obtain ⟨l2, w2⟩ : ∃ l, (rpU8).sl W (lt W.heap.size) a2 len2 cap2 l := by
    obtain ⟨fuel, hf⟩ := h2
    obtain ⟨l, hl⟩ := (opens_slice Try.underlying33 (opens_u8 Try.underlying5) (by kernel_rfl) (by decide)) H enc W _ fuel _ _ hf
    exact ⟨l, hl⟩
  clear hA0 hval0
  refine (talkOnce_law a0 len0 cap0 l0 a1 a2 len2 cap2 l2 W w0 (bounds_u64 w1).1 (bounds_u64 w1).2 w2).mono fun e W' ⟨he, bel⟩ => ?_
  subst he
  exact ⟨_, rfl, _, _, _, [], _, [], hW', trodAll_mk1 (shut_bool Try.underlying4 _), (trodAll_cons_mk (Below.trod laidOut (by kernel_rfl) (of_decide_eq_true (by kernel_rfl)) k0 bel lt0) (trodAll_cons_mk (shut_int Try.underlying29 w1) (trodAll_cons_mk (Below.trod laidOut (by kernel_rfl) (of_decide_eq_true (by kernel_rfl)) k2 bel lt2) trodAll_mk0))), rfl, bel.frame _, fun h => by cases h⟩

theorem over : Rows.talkOnceRow.holds Try.pinned (OpenSpec.ofChange Rows.talkOnceSpec) :=
  OpenClaim.holds_of_wide 4 Try.f4 rfl rfl rfl rfl rfl rfl rfl ⟨rfl, rfl, rfl, rfl, rfl⟩ rfl rfl rfl rfl rfl (by kernel_rfl) Try.func4 (by kernel_rfl)
    (of_decide_eq_true (by kernel_rfl)) (by unfold Func.isWrapper; first | (rw [if_pos (by decide +kernel)]; kernel_rfl) | (rw [if_neg (by decide +kernel)]; exact ⟨rfl, rfl⟩))
    (fun os started H enc _ => lifted os started H enc)

theorem proved : Rows.TalkOnceSaid := over
#print axioms proved
end Go.Proofs.Ytnihaaifkogpbaa.talkOnce
