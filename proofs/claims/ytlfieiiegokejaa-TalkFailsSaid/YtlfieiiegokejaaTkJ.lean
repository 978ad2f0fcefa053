/- An answer goes into the log. -/
import Derived.Test.YtlfieiiegokejaaTkH
import Derived.Test.YtlfieiiegokejaaTkF
import Derived.StillTailTactics
namespace Go.Proofs.Ytlfieiiegokejaa
open Go.ChangeShapes Go.WideShapes Go.ChangeAt Go.RowKit
set_option linter.unusedVariables false
theorem blk_ne {w : World} {g g' : Nat} {t t' : TypeId} {cs cs' : Array Value} (h : Blk w g t cs) (h' : Blk w g' t' cs') (hne : t ≠ t') : g ≠ g' := fun e => by
  subst e
  have h1 : w.heap[g]? = some (.cells cs t) := h
  have h2 : w.heap[g]? = some (.cells cs' t') := h'
  rw [h1] at h2
  injection h2 with h2
  injection h2 with _ h2
  exact hne h2
/-- The messages, the one that comes, and the log. -/
structure AnsIn (w : World) (D : Dom) (A : Option Addr) (n c : Nat) (l : List Ms) (i : Nat) (m : Ms) (base b : Nat) (A' : Option Addr) (c' bm : Nat) (ps : List Pr2) (f : Nat → Option Nat) (last : Nat) (begun : Bool) : Prop where
  sl : rpMs.sl w D A n c l
  dom : ∀ k, D k → k < base
  lt : i < n
  at_ : l[i]? = some m
  log : LogIn w base b A' c' bm ps f last begun
  n0 : ps.length ≤ 1000
  ps0 : ∀ x ∈ ps, x.1 < n
section
variable {w : World} {D : Dom} {A A' : Option Addr} {n c c' i base b bm : Nat} {l : List Ms} {m : Ms} {ps : List Pr2} {f : Nat → Option Nat} {last : Nat} {begun : Bool}
theorem AnsIn.dom' (h : AnsIn w D A n c l i m base b A' c' bm ps f last begun) : ∀ k, D k → k < w.heap.size := fun k hk => Nat.lt_of_lt_of_le (h.dom k hk) h.log.size
theorem AnsIn.below {w' : World} (h : AnsIn w D A n c l i m base b A' c' bm ps f last begun) (hb : Below w.heap.size w w') : AnsIn w' D A n c l i m base b A' c' bm ps f last begun :=
  ⟨Rp.sl_below h.sl hb h.dom', h.dom, h.lt, h.at_, h.log.below hb, h.n0, h.ps0⟩
set_option maxRecDepth 100000 in
set_option maxHeartbeats 4000000 in
theorem answers_none (h : AnsIn w D A n c l i m base b A' c' bm ps f last begun) (hf : f m.sq = none) :
    Calls Try.prog 44 #[.pointer (some ⟨b, 0, none⟩), .slice A n c, .int .i64 (i : Int)] w fun e w' => ∃ r : Int, e = .returned (.int .i64 r) ∧ (AskIn l ps m.sq ps.length ∧ r = 18 ∨ ¬ AskIn l ps m.sq ps.length ∧ r = 16) ∧ Below w.heap.size w w' := by
  have HF0 := Lib.hid hf
  clear hf
  have hb0 := below1 w (.cells #[.slice A n c] 38)
  have HB := Lib.hid hb0
  have HK := Lib.hid (blk11 w 38 #[.slice A n c])
  have HI := Lib.hid (h.below hb0)
  have HZ := Lib.hid h.log.size
  clear hb0 h
  go_enter Try.func44, Try.ntmps44
  go_upto_region 1 with (fail)
  generalize World.alloc w _ = w0 at *
  have k0 := (show Blk w0 w.heap.size 38 _ from HK.out).cell 0
  have hz0 : w.heap.size < w0.heap.size := (show Blk w0 w.heap.size 38 _ from HK.out).lt
  have hlt := HI.out.lt
  have hkI : (0 : Int) ≤ (i : Int) := by omega
  have hkI2 : (i : Int) < (n : Int) := by omega
  have HIC := Lib.hid HI.out
  obtain ⟨bo, off, m', hd, hA, hD, hm, hin, hc⟩ := ms_at HI.out.sl HI.out.dom' HI.out.lt
  rw [HI.out.at_] at hm
  injection hm with hm
  subst hm
  have hbo : bo < base := HI.out.dom _ hD
  subst hA
  have HIN := Lib.hid hin
  have e0 : w0.cell? ⟨bo, off + i * 14, none⟩ = some (.int .i64 m.kd) := hc 0 _ rfl
  have e1 : w0.cell? ⟨bo, off + i * 14 + 1, none⟩ = some (.int .u64 (m.ep : Int)) := hc 1 _ rfl
  have e2 : w0.cell? ⟨bo, off + i * 14 + 2, none⟩ = some (.int .u64 (m.sq : Int)) := hc 2 _ rfl
  have e3 : w0.cell? ⟨bo, off + i * 14 + 3, none⟩ = some (.int .u64 (m.ps : Int)) := hc 3 _ rfl
  have e4 : w0.cell? ⟨bo, off + i * 14 + 4, none⟩ = some (.int .i64 m.ct) := hc 4 _ rfl
  have e5 : w0.cell? ⟨bo, off + i * 14 + 5, none⟩ = some (.int .i64 m.st) := hc 5 _ rfl
  have e6 : w0.cell? ⟨bo, off + i * 14 + 6, none⟩ = some (.slice hd.A1 hd.n1 hd.c1) := hc 6 _ rfl
  have e7 : w0.cell? ⟨bo, off + i * 14 + 7, none⟩ = some (.slice hd.A2 hd.n2 hd.c2) := hc 7 _ rfl
  have e8 : w0.cell? ⟨bo, off + i * 14 + 8, none⟩ = some (.slice hd.A3 hd.n3 hd.c3) := hc 8 _ rfl
  have e9 : w0.cell? ⟨bo, off + i * 14 + 9, none⟩ = some (.int .u64 (m.se.1 : Int)) := hc 9 _ rfl
  have e10 : w0.cell? ⟨bo, off + i * 14 + 10, none⟩ = some (.int .u64 (m.se.2.1 : Int)) := hc 10 _ rfl
  have e11 : w0.cell? ⟨bo, off + i * 14 + 11, none⟩ = some (.int .u64 (m.se.2.2 : Int)) := hc 11 _ rfl
  have e12 : w0.cell? ⟨bo, off + i * 14 + 12, none⟩ = some (.int .u64 (m.pr.1 : Int)) := hc 12 _ rfl
  have e13 : w0.cell? ⟨bo, off + i * 14 + 13, none⟩ = some (.slice hd.A4 hd.n4 hd.c4) := hc 13 _ rfl
  have hba := below1 w0 (.cells (msV m hd) 32)
  have HB1 := Lib.hid (stepB HB.out hba)
  have HK1 := Lib.hid (blk11 w0 32 (msV m hd))
  have HI1 := Lib.hid (HI.out.below hba)
  have HIN1 := Lib.hid (hin.below hba)
  have HBX : Hid (Blk (w0.alloc (.cells (msV m hd) 32)) w.heap.size 38 #[.slice (some ⟨bo, off, none⟩) n c]) := Lib.hid (keepB (show Blk w0 w.heap.size 38 _ from HK.out) hba)
  clear hin hc hba hD
  go_upto_region 2 with (fail)
  clear e0 e1 e2 e3 e4 e5 e6 e7 e8 e9 e10 e11 e12 e13
  generalize World.alloc w0 _ = w1 at *
  clear k0
  have HL := HI1.out.log
  have hlk := HL.map.look HIN1.out.sq1
  obtain ⟨cv, hcv, hlook⟩ := hlk
  have HCV := Lib.hid hcv
  obtain ⟨fo, hfo⟩ : ∃ q, (f m.sq).isSome = q := ⟨_, rfl⟩
  rw [hfo] at hlook
  have HFO := Lib.hid hfo
  have HLOG := Lib.hid HL
  have hle := fun u : Gr w1.heap.size w1 => hlook u.val (u.is.block bm HL.map.lt)
  have g1 : ∀ x : Gr w1.heap.size w1, x.val.cell? ⟨b, 1, none⟩ = some (.map (some bm)) := fun x => (x.is.cell (p := ⟨b, 1, none⟩) HL.blk.lt).trans ((show Blk w1 b 75 (logV A' ps.length c' bm last begun) from HLOG.out.blk).cell 1)
  have r2 : ∀ x : Gr w1.heap.size w1, x.val.cell? ⟨w0.heap.size, 2, none⟩ = some (.int .u64 (m.sq : Int)) := fun x => (x.is.cell (p := ⟨w0.heap.size, 2, none⟩) (show Blk w1 w0.heap.size 32 (msV m hd) from HK1.out).lt).trans ((show Blk w1 w0.heap.size 32 (msV m hd) from HK1.out).cell 2)
  clear hcv hfo hlook HL
  refine wp_region_grow (by kernel_rfl) (by kernel_rfl) w1.heap.size ?_
  repeat (first | go_big_quiet_step (fail) | quiet_step (fail))
  refine wpQuiet_nil ?_
  rintro w2 ⟨⟨_, hb2⟩, rfl⟩
  have HB2 := Lib.hid (stepB HB1.out hb2)
  have HI2 := Lib.hid (HI1.out.below hb2)
  have HIN2 := Lib.hid (HIN1.out.below hb2)
  have HK2 : Hid (Blk w2 w0.heap.size 32 (msV m hd)) := Lib.hid (keepB (show Blk w1 w0.heap.size 32 (msV m hd) from HK1.out) hb2)
  have HX2 : Hid (Blk w2 w.heap.size 38 #[.slice (some ⟨bo, off, none⟩) n c]) := Lib.hid (keepB (show Blk w1 w.heap.size 38 #[.slice (some ⟨bo, off, none⟩) n c] from HBX.out) hb2)
  clear hb2 hle g1 r2
  obtain rfl : fo = false := by rw [← HFO.out, HF0.out]; rfl
  have hg0 : w2.cell? ⟨b, 0, none⟩ = some (.slice A' ps.length c') := (show Blk w2 b 75 (logV A' ps.length c' bm last begun) from HI2.out.log.blk).cell 0
  have hgl := (show Blk w2 w.heap.size 38 #[.slice (some ⟨bo, off, none⟩) n c] from HX2.out)
  have hga := (show Blk w2 w0.heap.size 32 (msV m hd) from HK2.out)
  have HCN := Lib.hid (acont_any (c' := c') (s := m.sq) (gl := w.heap.size) (ga := w0.heap.size) (l := l) ⟨HI2.out.sl, HI2.out.dom', hgl.cell 0, hgl.lt, hga.cell 2, hga.lt⟩ (prIn_own HI2.out.log.own) HI2.out.ps0 HI2.out.n0)
  clear hgl hga
  obtain ⟨aq, haq⟩ : ∃ q, dec (AskIn l ps m.sq ps.length) = q := ⟨_, rfl⟩
  rw [haq] at HCN
  have HAQ := Lib.hid haq
  clear haq
  go_wp2_with fail
  refine HCN.out.mono ?_; rintro e w3 ⟨rfl, hb3⟩
  have HB3 := Lib.hid (stepB HB2.out hb3)
  clear hb3 hg0
  cases aq
  case true =>
    go_wp2_with fail
    go_ret
    exact ⟨18, rfl, .inl ⟨of_dec HAQ.out, rfl⟩, HB3.out⟩
  case false =>
    go_wp2_with fail
    go_ret
    exact ⟨16, rfl, .inr ⟨of_not_dec HAQ.out, rfl⟩, HB3.out⟩
set_option maxRecDepth 100000 in
set_option maxHeartbeats 4000000 in
theorem answers_bad (h : AnsIn w D A n c l i m base b A' c' bm ps f last begun) {p k : Nat} {q : Ms} (hf : f m.sq = some p) (hp : ps[p]? = some (k, -1)) (hq : l[k]? = some q) (h0 : fitsC q m ≠ 0) :
    Calls Try.prog 44 #[.pointer (some ⟨b, 0, none⟩), .slice A n c, .int .i64 (i : Int)] w fun e w' => e = .returned (.int .i64 (fitsC q m)) ∧ Below w.heap.size w w' := by
  have HF0 := Lib.hid hf
  have HPK := Lib.hid hp
  have HQ := Lib.hid hq
  have hd0 : (fitsC q m != 0) = true := by simpa using h0
  clear hf hp hq h0
  have hb0 := below1 w (.cells #[.slice A n c] 38)
  have HB := Lib.hid hb0
  have HK := Lib.hid (blk11 w 38 #[.slice A n c])
  have HI := Lib.hid (h.below hb0)
  have HZ := Lib.hid h.log.size
  clear hb0 h
  go_enter Try.func44, Try.ntmps44
  go_upto_region 1 with (fail)
  generalize World.alloc w _ = w0 at *
  have k0 := (show Blk w0 w.heap.size 38 _ from HK.out).cell 0
  have hz0 : w.heap.size < w0.heap.size := (show Blk w0 w.heap.size 38 _ from HK.out).lt
  have hlt := HI.out.lt
  have hkI : (0 : Int) ≤ (i : Int) := by omega
  have hkI2 : (i : Int) < (n : Int) := by omega
  have HIC := Lib.hid HI.out
  obtain ⟨bo, off, m', hd, hA, hD, hm, hin, hc⟩ := ms_at HI.out.sl HI.out.dom' HI.out.lt
  rw [HI.out.at_] at hm
  injection hm with hm
  subst hm
  have hbo : bo < base := HI.out.dom _ hD
  subst hA
  have HIN := Lib.hid hin
  have e0 : w0.cell? ⟨bo, off + i * 14, none⟩ = some (.int .i64 m.kd) := hc 0 _ rfl
  have e1 : w0.cell? ⟨bo, off + i * 14 + 1, none⟩ = some (.int .u64 (m.ep : Int)) := hc 1 _ rfl
  have e2 : w0.cell? ⟨bo, off + i * 14 + 2, none⟩ = some (.int .u64 (m.sq : Int)) := hc 2 _ rfl
  have e3 : w0.cell? ⟨bo, off + i * 14 + 3, none⟩ = some (.int .u64 (m.ps : Int)) := hc 3 _ rfl
  have e4 : w0.cell? ⟨bo, off + i * 14 + 4, none⟩ = some (.int .i64 m.ct) := hc 4 _ rfl
  have e5 : w0.cell? ⟨bo, off + i * 14 + 5, none⟩ = some (.int .i64 m.st) := hc 5 _ rfl
  have e6 : w0.cell? ⟨bo, off + i * 14 + 6, none⟩ = some (.slice hd.A1 hd.n1 hd.c1) := hc 6 _ rfl
  have e7 : w0.cell? ⟨bo, off + i * 14 + 7, none⟩ = some (.slice hd.A2 hd.n2 hd.c2) := hc 7 _ rfl
  have e8 : w0.cell? ⟨bo, off + i * 14 + 8, none⟩ = some (.slice hd.A3 hd.n3 hd.c3) := hc 8 _ rfl
  have e9 : w0.cell? ⟨bo, off + i * 14 + 9, none⟩ = some (.int .u64 (m.se.1 : Int)) := hc 9 _ rfl
  have e10 : w0.cell? ⟨bo, off + i * 14 + 10, none⟩ = some (.int .u64 (m.se.2.1 : Int)) := hc 10 _ rfl
  have e11 : w0.cell? ⟨bo, off + i * 14 + 11, none⟩ = some (.int .u64 (m.se.2.2 : Int)) := hc 11 _ rfl
  have e12 : w0.cell? ⟨bo, off + i * 14 + 12, none⟩ = some (.int .u64 (m.pr.1 : Int)) := hc 12 _ rfl
  have e13 : w0.cell? ⟨bo, off + i * 14 + 13, none⟩ = some (.slice hd.A4 hd.n4 hd.c4) := hc 13 _ rfl
  have hba := below1 w0 (.cells (msV m hd) 32)
  have HB1 := Lib.hid (stepB HB.out hba)
  have HK1 := Lib.hid (blk11 w0 32 (msV m hd))
  have HI1 := Lib.hid (HI.out.below hba)
  have HIN1 := Lib.hid (hin.below hba)
  have HBX : Hid (Blk (w0.alloc (.cells (msV m hd) 32)) w.heap.size 38 #[.slice (some ⟨bo, off, none⟩) n c]) := Lib.hid (keepB (show Blk w0 w.heap.size 38 _ from HK.out) hba)
  clear hin hc hba hD
  go_upto_region 2 with (fail)
  clear e0 e1 e2 e3 e4 e5 e6 e7 e8 e9 e10 e11 e12 e13
  generalize World.alloc w0 _ = w1 at *
  clear k0
  have HL := HI1.out.log
  have hlk := HL.map.look HIN1.out.sq1
  obtain ⟨cv, hcv, hlook⟩ := hlk
  have HCV := Lib.hid hcv
  obtain ⟨fo, hfo⟩ : ∃ q, (f m.sq).isSome = q := ⟨_, rfl⟩
  rw [hfo] at hlook
  have HFO := Lib.hid hfo
  have HLOG := Lib.hid HL
  have hle := fun u : Gr w1.heap.size w1 => hlook u.val (u.is.block bm HL.map.lt)
  have g1 : ∀ x : Gr w1.heap.size w1, x.val.cell? ⟨b, 1, none⟩ = some (.map (some bm)) := fun x => (x.is.cell (p := ⟨b, 1, none⟩) HL.blk.lt).trans ((show Blk w1 b 75 (logV A' ps.length c' bm last begun) from HLOG.out.blk).cell 1)
  have r2 : ∀ x : Gr w1.heap.size w1, x.val.cell? ⟨w0.heap.size, 2, none⟩ = some (.int .u64 (m.sq : Int)) := fun x => (x.is.cell (p := ⟨w0.heap.size, 2, none⟩) (show Blk w1 w0.heap.size 32 (msV m hd) from HK1.out).lt).trans ((show Blk w1 w0.heap.size 32 (msV m hd) from HK1.out).cell 2)
  clear hcv hfo hlook HL
  refine wp_region_grow (by kernel_rfl) (by kernel_rfl) w1.heap.size ?_
  repeat (first | go_big_quiet_step (fail) | quiet_step (fail))
  refine wpQuiet_nil ?_
  rintro w2 ⟨⟨_, hb2⟩, rfl⟩
  have HB2 := Lib.hid (stepB HB1.out hb2)
  have HI2 := Lib.hid (HI1.out.below hb2)
  have HIN2 := Lib.hid (HIN1.out.below hb2)
  have HK2 : Hid (Blk w2 w0.heap.size 32 (msV m hd)) := Lib.hid (keepB (show Blk w1 w0.heap.size 32 (msV m hd) from HK1.out) hb2)
  have HX2 : Hid (Blk w2 w.heap.size 38 #[.slice (some ⟨bo, off, none⟩) n c]) := Lib.hid (keepB (show Blk w1 w.heap.size 38 #[.slice (some ⟨bo, off, none⟩) n c] from HBX.out) hb2)
  clear hb2 hle g1 r2
  obtain rfl : fo = true := by rw [← HFO.out, HF0.out]; rfl
  obtain rfl : cv = (p : Int) := HCV.out p HF0.out
  have hpl : p < ps.length := (List.getElem?_eq_some_iff.1 HPK.out).1
  have hpI : (0 : Int) ≤ (p : Int) := by omega
  have hpI2 : (p : Int) < (ps.length : Int) := by omega
  obtain ⟨g, hg, hgl, gk0, gk1⟩ := (prIn_own HI2.out.log.own).2 p (k, -1) HPK.out
  have hkn : k < n := HI2.out.ps0 _ (List.mem_of_getElem? HPK.out)
  have hnI : (0 : Int) ≤ (k : Int) := by omega
  have hnI2 : (k : Int) < (n : Int) := by omega
  obtain ⟨bo2, off2, q', hdq, hA2, hD2, hm2, hin2, hc2⟩ := ms_at HI2.out.sl HI2.out.dom' hkn
  injection hA2 with hA2
  injection hA2 with e1 e2
  subst e1; subst e2
  rw [HQ.out] at hm2
  injection hm2 with hm2
  subst hm2
  have hbo2 : bo < w2.heap.size := HI2.out.dom' _ hD2
  have HFT := Lib.hid (fun u (hu : Below w2.heap.size w2 u) => kfits_any (hin2.below hu) (HIN2.out.below hu))
  subst hg
  clear hD2
  have a0 : ∀ x : Gr w2.heap.size w2, x.val.cell? ⟨w.heap.size, 0, none⟩ = some (.slice (some ⟨bo, off, none⟩) n c) := fun x => (x.is.cell (p := ⟨w.heap.size, 0, none⟩) (show Blk w2 w.heap.size 38 #[.slice (some ⟨bo, off, none⟩) n c] from HX2.out).lt).trans ((show Blk w2 w.heap.size 38 #[.slice (some ⟨bo, off, none⟩) n c] from HX2.out).cell 0)
  have a1 : ∀ x : Gr w2.heap.size w2, x.val.cell? ⟨b, 0, none⟩ = some (.slice (some ⟨g, 0, none⟩) ps.length c') := fun x => (x.is.cell (p := ⟨b, 0, none⟩) HI2.out.log.blk.lt).trans ((show Blk w2 b 75 (logV (some ⟨g, 0, none⟩) ps.length c' bm last begun) from HI2.out.log.blk).cell 0)
  have a2 : ∀ x : Gr w2.heap.size w2, x.val.cell? ⟨g, 0 + p * 2, none⟩ = some (.int .i64 (k : Int)) := fun x => by rw [Nat.zero_add]; exact (x.is.cell (p := ⟨g, p * 2, none⟩) hgl).trans gk0
  have a3 : ∀ x : Gr w2.heap.size w2, x.val.cell? ⟨g, p * 2, none⟩ = some (.int .i64 (k : Int)) := fun x => (x.is.cell (p := ⟨g, p * 2, none⟩) hgl).trans gk0
  have y0 : ∀ x : Gr w2.heap.size w2, x.val.cell? ⟨bo, off + k * 14, none⟩ = some (.int .i64 q.kd) := fun x => (x.is.cell (p := ⟨bo, off + k * 14, none⟩) hbo2).trans (hc2 0 _ rfl)
  have y1 : ∀ x : Gr w2.heap.size w2, x.val.cell? ⟨bo, off + k * 14 + 1, none⟩ = some (.int .u64 (q.ep : Int)) := fun x => (x.is.cell (p := ⟨bo, off + k * 14 + 1, none⟩) hbo2).trans (hc2 1 _ rfl)
  have y2 : ∀ x : Gr w2.heap.size w2, x.val.cell? ⟨bo, off + k * 14 + 2, none⟩ = some (.int .u64 (q.sq : Int)) := fun x => (x.is.cell (p := ⟨bo, off + k * 14 + 2, none⟩) hbo2).trans (hc2 2 _ rfl)
  have y3 : ∀ x : Gr w2.heap.size w2, x.val.cell? ⟨bo, off + k * 14 + 3, none⟩ = some (.int .u64 (q.ps : Int)) := fun x => (x.is.cell (p := ⟨bo, off + k * 14 + 3, none⟩) hbo2).trans (hc2 3 _ rfl)
  have y4 : ∀ x : Gr w2.heap.size w2, x.val.cell? ⟨bo, off + k * 14 + 4, none⟩ = some (.int .i64 q.ct) := fun x => (x.is.cell (p := ⟨bo, off + k * 14 + 4, none⟩) hbo2).trans (hc2 4 _ rfl)
  have y5 : ∀ x : Gr w2.heap.size w2, x.val.cell? ⟨bo, off + k * 14 + 5, none⟩ = some (.int .i64 q.st) := fun x => (x.is.cell (p := ⟨bo, off + k * 14 + 5, none⟩) hbo2).trans (hc2 5 _ rfl)
  have y6 : ∀ x : Gr w2.heap.size w2, x.val.cell? ⟨bo, off + k * 14 + 6, none⟩ = some (.slice hdq.A1 hdq.n1 hdq.c1) := fun x => (x.is.cell (p := ⟨bo, off + k * 14 + 6, none⟩) hbo2).trans (hc2 6 _ rfl)
  have y7 : ∀ x : Gr w2.heap.size w2, x.val.cell? ⟨bo, off + k * 14 + 7, none⟩ = some (.slice hdq.A2 hdq.n2 hdq.c2) := fun x => (x.is.cell (p := ⟨bo, off + k * 14 + 7, none⟩) hbo2).trans (hc2 7 _ rfl)
  have y8 : ∀ x : Gr w2.heap.size w2, x.val.cell? ⟨bo, off + k * 14 + 8, none⟩ = some (.slice hdq.A3 hdq.n3 hdq.c3) := fun x => (x.is.cell (p := ⟨bo, off + k * 14 + 8, none⟩) hbo2).trans (hc2 8 _ rfl)
  have y9 : ∀ x : Gr w2.heap.size w2, x.val.cell? ⟨bo, off + k * 14 + 9, none⟩ = some (.int .u64 (q.se.1 : Int)) := fun x => (x.is.cell (p := ⟨bo, off + k * 14 + 9, none⟩) hbo2).trans (hc2 9 _ rfl)
  have y10 : ∀ x : Gr w2.heap.size w2, x.val.cell? ⟨bo, off + k * 14 + 10, none⟩ = some (.int .u64 (q.se.2.1 : Int)) := fun x => (x.is.cell (p := ⟨bo, off + k * 14 + 10, none⟩) hbo2).trans (hc2 10 _ rfl)
  have y11 : ∀ x : Gr w2.heap.size w2, x.val.cell? ⟨bo, off + k * 14 + 11, none⟩ = some (.int .u64 (q.se.2.2 : Int)) := fun x => (x.is.cell (p := ⟨bo, off + k * 14 + 11, none⟩) hbo2).trans (hc2 11 _ rfl)
  have y12 : ∀ x : Gr w2.heap.size w2, x.val.cell? ⟨bo, off + k * 14 + 12, none⟩ = some (.int .u64 (q.pr.1 : Int)) := fun x => (x.is.cell (p := ⟨bo, off + k * 14 + 12, none⟩) hbo2).trans (hc2 12 _ rfl)
  have y13 : ∀ x : Gr w2.heap.size w2, x.val.cell? ⟨bo, off + k * 14 + 13, none⟩ = some (.slice hdq.A4 hdq.n4 hdq.c4) := fun x => (x.is.cell (p := ⟨bo, off + k * 14 + 13, none⟩) hbo2).trans (hc2 13 _ rfl)
  have z0 : ∀ x : Gr w2.heap.size w2, x.val.cell? ⟨w0.heap.size, 0, none⟩ = some (.int .i64 m.kd) := fun x => (x.is.cell (p := ⟨w0.heap.size, 0, none⟩) (show Blk w2 (w0.heap.size) 32 (msV m hd) from HK2.out).lt).trans ((show Blk w2 (w0.heap.size) 32 (msV m hd) from HK2.out).cell 0)
  have z1 : ∀ x : Gr w2.heap.size w2, x.val.cell? ⟨w0.heap.size, 1, none⟩ = some (.int .u64 (m.ep : Int)) := fun x => (x.is.cell (p := ⟨w0.heap.size, 1, none⟩) (show Blk w2 (w0.heap.size) 32 (msV m hd) from HK2.out).lt).trans ((show Blk w2 (w0.heap.size) 32 (msV m hd) from HK2.out).cell 1)
  have z2 : ∀ x : Gr w2.heap.size w2, x.val.cell? ⟨w0.heap.size, 2, none⟩ = some (.int .u64 (m.sq : Int)) := fun x => (x.is.cell (p := ⟨w0.heap.size, 2, none⟩) (show Blk w2 (w0.heap.size) 32 (msV m hd) from HK2.out).lt).trans ((show Blk w2 (w0.heap.size) 32 (msV m hd) from HK2.out).cell 2)
  have z3 : ∀ x : Gr w2.heap.size w2, x.val.cell? ⟨w0.heap.size, 3, none⟩ = some (.int .u64 (m.ps : Int)) := fun x => (x.is.cell (p := ⟨w0.heap.size, 3, none⟩) (show Blk w2 (w0.heap.size) 32 (msV m hd) from HK2.out).lt).trans ((show Blk w2 (w0.heap.size) 32 (msV m hd) from HK2.out).cell 3)
  have z4 : ∀ x : Gr w2.heap.size w2, x.val.cell? ⟨w0.heap.size, 4, none⟩ = some (.int .i64 m.ct) := fun x => (x.is.cell (p := ⟨w0.heap.size, 4, none⟩) (show Blk w2 (w0.heap.size) 32 (msV m hd) from HK2.out).lt).trans ((show Blk w2 (w0.heap.size) 32 (msV m hd) from HK2.out).cell 4)
  have z5 : ∀ x : Gr w2.heap.size w2, x.val.cell? ⟨w0.heap.size, 5, none⟩ = some (.int .i64 m.st) := fun x => (x.is.cell (p := ⟨w0.heap.size, 5, none⟩) (show Blk w2 (w0.heap.size) 32 (msV m hd) from HK2.out).lt).trans ((show Blk w2 (w0.heap.size) 32 (msV m hd) from HK2.out).cell 5)
  have z6 : ∀ x : Gr w2.heap.size w2, x.val.cell? ⟨w0.heap.size, 6, none⟩ = some (.slice hd.A1 hd.n1 hd.c1) := fun x => (x.is.cell (p := ⟨w0.heap.size, 6, none⟩) (show Blk w2 (w0.heap.size) 32 (msV m hd) from HK2.out).lt).trans ((show Blk w2 (w0.heap.size) 32 (msV m hd) from HK2.out).cell 6)
  have z7 : ∀ x : Gr w2.heap.size w2, x.val.cell? ⟨w0.heap.size, 7, none⟩ = some (.slice hd.A2 hd.n2 hd.c2) := fun x => (x.is.cell (p := ⟨w0.heap.size, 7, none⟩) (show Blk w2 (w0.heap.size) 32 (msV m hd) from HK2.out).lt).trans ((show Blk w2 (w0.heap.size) 32 (msV m hd) from HK2.out).cell 7)
  have z8 : ∀ x : Gr w2.heap.size w2, x.val.cell? ⟨w0.heap.size, 8, none⟩ = some (.slice hd.A3 hd.n3 hd.c3) := fun x => (x.is.cell (p := ⟨w0.heap.size, 8, none⟩) (show Blk w2 (w0.heap.size) 32 (msV m hd) from HK2.out).lt).trans ((show Blk w2 (w0.heap.size) 32 (msV m hd) from HK2.out).cell 8)
  have z9 : ∀ x : Gr w2.heap.size w2, x.val.cell? ⟨w0.heap.size, 9, none⟩ = some (.int .u64 (m.se.1 : Int)) := fun x => (x.is.cell (p := ⟨w0.heap.size, 9, none⟩) (show Blk w2 (w0.heap.size) 32 (msV m hd) from HK2.out).lt).trans ((show Blk w2 (w0.heap.size) 32 (msV m hd) from HK2.out).cell 9)
  have z10 : ∀ x : Gr w2.heap.size w2, x.val.cell? ⟨w0.heap.size, 10, none⟩ = some (.int .u64 (m.se.2.1 : Int)) := fun x => (x.is.cell (p := ⟨w0.heap.size, 10, none⟩) (show Blk w2 (w0.heap.size) 32 (msV m hd) from HK2.out).lt).trans ((show Blk w2 (w0.heap.size) 32 (msV m hd) from HK2.out).cell 10)
  have z11 : ∀ x : Gr w2.heap.size w2, x.val.cell? ⟨w0.heap.size, 11, none⟩ = some (.int .u64 (m.se.2.2 : Int)) := fun x => (x.is.cell (p := ⟨w0.heap.size, 11, none⟩) (show Blk w2 (w0.heap.size) 32 (msV m hd) from HK2.out).lt).trans ((show Blk w2 (w0.heap.size) 32 (msV m hd) from HK2.out).cell 11)
  have z12 : ∀ x : Gr w2.heap.size w2, x.val.cell? ⟨w0.heap.size, 12, none⟩ = some (.int .u64 (m.pr.1 : Int)) := fun x => (x.is.cell (p := ⟨w0.heap.size, 12, none⟩) (show Blk w2 (w0.heap.size) 32 (msV m hd) from HK2.out).lt).trans ((show Blk w2 (w0.heap.size) 32 (msV m hd) from HK2.out).cell 12)
  have z13 : ∀ x : Gr w2.heap.size w2, x.val.cell? ⟨w0.heap.size, 13, none⟩ = some (.slice hd.A4 hd.n4 hd.c4) := fun x => (x.is.cell (p := ⟨w0.heap.size, 13, none⟩) (show Blk w2 (w0.heap.size) 32 (msV m hd) from HK2.out).lt).trans ((show Blk w2 (w0.heap.size) 32 (msV m hd) from HK2.out).cell 13)
  clear hc2 gk0 gk1 hin2
  go_upto_region 8 with (fail)
  refine wp_region_grow (by kernel_rfl) (by kernel_rfl) w2.heap.size ?_
  repeat (first | go_big_quiet_step ((go_at_call 9; exact Gr.call _ (Nat.le_refl _) (HFT.out _ (Gr.is _)))) | quiet_step ((go_at_call 9; exact Gr.call _ (Nat.le_refl _) (HFT.out _ (Gr.is _)))))
  refine wpQuiet_nil ?_
  rintro w3 ⟨⟨_, hb3⟩, rfl⟩
  clear y0 y1 y2 y3 y4 y5 y6 y7 y8 y9 y10 y11 y12 y13
  clear z0 z1 z2 z3 z4 z5 z6 z7 z8 z9 z10 z11 z12 z13
  clear a0 a1 a2 a3
  have HB3 := Lib.hid (stepB HB2.out hb3)
  go_wp2_with fail
  go_ret
  exact ⟨rfl, HB3.out⟩
set_option maxRecDepth 100000 in
set_option maxHeartbeats 4000000 in
theorem answers_ok (h : AnsIn w D A n c l i m base b A' c' bm ps f last begun) {p k : Nat} {q : Ms} (hf : f m.sq = some p) (hp : ps[p]? = some (k, -1)) (hq : l[k]? = some q) (h0 : fitsC q m = 0) :
    Calls Try.prog 44 #[.pointer (some ⟨b, 0, none⟩), .slice A n c, .int .i64 (i : Int)] w fun e w' => e = .returned (.int .i64 0) ∧ LogIn w' base b A' c' bm (ps.set p (k, (i : Int))) (fdel f m.sq) last begun ∧ Below base w w' := by
  have HF0 := Lib.hid hf
  have HPK := Lib.hid hp
  have HQ := Lib.hid hq
  have H00 := Lib.hid h0
  clear hf hp hq h0
  have hb0 := below1 w (.cells #[.slice A n c] 38)
  have HB := Lib.hid hb0
  have HK := Lib.hid (blk11 w 38 #[.slice A n c])
  have HI := Lib.hid (h.below hb0)
  have HZ := Lib.hid h.log.size
  clear hb0 h
  go_enter Try.func44, Try.ntmps44
  go_upto_region 1 with (fail)
  generalize World.alloc w _ = w0 at *
  have k0 := (show Blk w0 w.heap.size 38 _ from HK.out).cell 0
  have hz0 : w.heap.size < w0.heap.size := (show Blk w0 w.heap.size 38 _ from HK.out).lt
  have hlt := HI.out.lt
  have hkI : (0 : Int) ≤ (i : Int) := by omega
  have hkI2 : (i : Int) < (n : Int) := by omega
  have HIC := Lib.hid HI.out
  obtain ⟨bo, off, m', hd, hA, hD, hm, hin, hc⟩ := ms_at HI.out.sl HI.out.dom' HI.out.lt
  rw [HI.out.at_] at hm
  injection hm with hm
  subst hm
  have hbo : bo < base := HI.out.dom _ hD
  subst hA
  have HIN := Lib.hid hin
  have e0 : w0.cell? ⟨bo, off + i * 14, none⟩ = some (.int .i64 m.kd) := hc 0 _ rfl
  have e1 : w0.cell? ⟨bo, off + i * 14 + 1, none⟩ = some (.int .u64 (m.ep : Int)) := hc 1 _ rfl
  have e2 : w0.cell? ⟨bo, off + i * 14 + 2, none⟩ = some (.int .u64 (m.sq : Int)) := hc 2 _ rfl
  have e3 : w0.cell? ⟨bo, off + i * 14 + 3, none⟩ = some (.int .u64 (m.ps : Int)) := hc 3 _ rfl
  have e4 : w0.cell? ⟨bo, off + i * 14 + 4, none⟩ = some (.int .i64 m.ct) := hc 4 _ rfl
  have e5 : w0.cell? ⟨bo, off + i * 14 + 5, none⟩ = some (.int .i64 m.st) := hc 5 _ rfl
  have e6 : w0.cell? ⟨bo, off + i * 14 + 6, none⟩ = some (.slice hd.A1 hd.n1 hd.c1) := hc 6 _ rfl
  have e7 : w0.cell? ⟨bo, off + i * 14 + 7, none⟩ = some (.slice hd.A2 hd.n2 hd.c2) := hc 7 _ rfl
  have e8 : w0.cell? ⟨bo, off + i * 14 + 8, none⟩ = some (.slice hd.A3 hd.n3 hd.c3) := hc 8 _ rfl
  have e9 : w0.cell? ⟨bo, off + i * 14 + 9, none⟩ = some (.int .u64 (m.se.1 : Int)) := hc 9 _ rfl
  have e10 : w0.cell? ⟨bo, off + i * 14 + 10, none⟩ = some (.int .u64 (m.se.2.1 : Int)) := hc 10 _ rfl
  have e11 : w0.cell? ⟨bo, off + i * 14 + 11, none⟩ = some (.int .u64 (m.se.2.2 : Int)) := hc 11 _ rfl
  have e12 : w0.cell? ⟨bo, off + i * 14 + 12, none⟩ = some (.int .u64 (m.pr.1 : Int)) := hc 12 _ rfl
  have e13 : w0.cell? ⟨bo, off + i * 14 + 13, none⟩ = some (.slice hd.A4 hd.n4 hd.c4) := hc 13 _ rfl
  have hba := below1 w0 (.cells (msV m hd) 32)
  have HB1 := Lib.hid (stepB HB.out hba)
  have HK1 := Lib.hid (blk11 w0 32 (msV m hd))
  have HI1 := Lib.hid (HI.out.below hba)
  have HIN1 := Lib.hid (hin.below hba)
  have HBX : Hid (Blk (w0.alloc (.cells (msV m hd) 32)) w.heap.size 38 #[.slice (some ⟨bo, off, none⟩) n c]) := Lib.hid (keepB (show Blk w0 w.heap.size 38 _ from HK.out) hba)
  clear hin hc hba hD
  go_upto_region 2 with (fail)
  clear e0 e1 e2 e3 e4 e5 e6 e7 e8 e9 e10 e11 e12 e13
  generalize World.alloc w0 _ = w1 at *
  clear k0
  have HL := HI1.out.log
  have hlk := HL.map.look HIN1.out.sq1
  obtain ⟨cv, hcv, hlook⟩ := hlk
  have HCV := Lib.hid hcv
  obtain ⟨fo, hfo⟩ : ∃ q, (f m.sq).isSome = q := ⟨_, rfl⟩
  rw [hfo] at hlook
  have HFO := Lib.hid hfo
  have HLOG := Lib.hid HL
  have hle := fun u : Gr w1.heap.size w1 => hlook u.val (u.is.block bm HL.map.lt)
  have g1 : ∀ x : Gr w1.heap.size w1, x.val.cell? ⟨b, 1, none⟩ = some (.map (some bm)) := fun x => (x.is.cell (p := ⟨b, 1, none⟩) HL.blk.lt).trans ((show Blk w1 b 75 (logV A' ps.length c' bm last begun) from HLOG.out.blk).cell 1)
  have r2 : ∀ x : Gr w1.heap.size w1, x.val.cell? ⟨w0.heap.size, 2, none⟩ = some (.int .u64 (m.sq : Int)) := fun x => (x.is.cell (p := ⟨w0.heap.size, 2, none⟩) (show Blk w1 w0.heap.size 32 (msV m hd) from HK1.out).lt).trans ((show Blk w1 w0.heap.size 32 (msV m hd) from HK1.out).cell 2)
  clear hcv hfo hlook HL
  refine wp_region_grow (by kernel_rfl) (by kernel_rfl) w1.heap.size ?_
  repeat (first | go_big_quiet_step (fail) | quiet_step (fail))
  refine wpQuiet_nil ?_
  rintro w2 ⟨⟨_, hb2⟩, rfl⟩
  have HB2 := Lib.hid (stepB HB1.out hb2)
  have HI2 := Lib.hid (HI1.out.below hb2)
  have HIN2 := Lib.hid (HIN1.out.below hb2)
  have HK2 : Hid (Blk w2 w0.heap.size 32 (msV m hd)) := Lib.hid (keepB (show Blk w1 w0.heap.size 32 (msV m hd) from HK1.out) hb2)
  have HX2 : Hid (Blk w2 w.heap.size 38 #[.slice (some ⟨bo, off, none⟩) n c]) := Lib.hid (keepB (show Blk w1 w.heap.size 38 #[.slice (some ⟨bo, off, none⟩) n c] from HBX.out) hb2)
  clear hb2 hle g1 r2
  obtain rfl : fo = true := by rw [← HFO.out, HF0.out]; rfl
  obtain rfl : cv = (p : Int) := HCV.out p HF0.out
  have hpl : p < ps.length := (List.getElem?_eq_some_iff.1 HPK.out).1
  have hpI : (0 : Int) ≤ (p : Int) := by omega
  have hpI2 : (p : Int) < (ps.length : Int) := by omega
  obtain ⟨g, hg, hgl, gk0, gk1⟩ := (prIn_own HI2.out.log.own).2 p (k, -1) HPK.out
  have hkn : k < n := HI2.out.ps0 _ (List.mem_of_getElem? HPK.out)
  have hnI : (0 : Int) ≤ (k : Int) := by omega
  have hnI2 : (k : Int) < (n : Int) := by omega
  obtain ⟨bo2, off2, q', hdq, hA2, hD2, hm2, hin2, hc2⟩ := ms_at HI2.out.sl HI2.out.dom' hkn
  injection hA2 with hA2
  injection hA2 with e1 e2
  subst e1; subst e2
  rw [HQ.out] at hm2
  injection hm2 with hm2
  subst hm2
  have hbo2 : bo < w2.heap.size := HI2.out.dom' _ hD2
  have HFT := Lib.hid (fun u (hu : Below w2.heap.size w2 u) => kfits_any (hin2.below hu) (HIN2.out.below hu))
  subst hg
  clear hD2
  have a0 : ∀ x : Gr w2.heap.size w2, x.val.cell? ⟨w.heap.size, 0, none⟩ = some (.slice (some ⟨bo, off, none⟩) n c) := fun x => (x.is.cell (p := ⟨w.heap.size, 0, none⟩) (show Blk w2 w.heap.size 38 #[.slice (some ⟨bo, off, none⟩) n c] from HX2.out).lt).trans ((show Blk w2 w.heap.size 38 #[.slice (some ⟨bo, off, none⟩) n c] from HX2.out).cell 0)
  have a1 : ∀ x : Gr w2.heap.size w2, x.val.cell? ⟨b, 0, none⟩ = some (.slice (some ⟨g, 0, none⟩) ps.length c') := fun x => (x.is.cell (p := ⟨b, 0, none⟩) HI2.out.log.blk.lt).trans ((show Blk w2 b 75 (logV (some ⟨g, 0, none⟩) ps.length c' bm last begun) from HI2.out.log.blk).cell 0)
  have a2 : ∀ x : Gr w2.heap.size w2, x.val.cell? ⟨g, 0 + p * 2, none⟩ = some (.int .i64 (k : Int)) := fun x => by rw [Nat.zero_add]; exact (x.is.cell (p := ⟨g, p * 2, none⟩) hgl).trans gk0
  have a3 : ∀ x : Gr w2.heap.size w2, x.val.cell? ⟨g, p * 2, none⟩ = some (.int .i64 (k : Int)) := fun x => (x.is.cell (p := ⟨g, p * 2, none⟩) hgl).trans gk0
  have y0 : ∀ x : Gr w2.heap.size w2, x.val.cell? ⟨bo, off + k * 14, none⟩ = some (.int .i64 q.kd) := fun x => (x.is.cell (p := ⟨bo, off + k * 14, none⟩) hbo2).trans (hc2 0 _ rfl)
  have y1 : ∀ x : Gr w2.heap.size w2, x.val.cell? ⟨bo, off + k * 14 + 1, none⟩ = some (.int .u64 (q.ep : Int)) := fun x => (x.is.cell (p := ⟨bo, off + k * 14 + 1, none⟩) hbo2).trans (hc2 1 _ rfl)
  have y2 : ∀ x : Gr w2.heap.size w2, x.val.cell? ⟨bo, off + k * 14 + 2, none⟩ = some (.int .u64 (q.sq : Int)) := fun x => (x.is.cell (p := ⟨bo, off + k * 14 + 2, none⟩) hbo2).trans (hc2 2 _ rfl)
  have y3 : ∀ x : Gr w2.heap.size w2, x.val.cell? ⟨bo, off + k * 14 + 3, none⟩ = some (.int .u64 (q.ps : Int)) := fun x => (x.is.cell (p := ⟨bo, off + k * 14 + 3, none⟩) hbo2).trans (hc2 3 _ rfl)
  have y4 : ∀ x : Gr w2.heap.size w2, x.val.cell? ⟨bo, off + k * 14 + 4, none⟩ = some (.int .i64 q.ct) := fun x => (x.is.cell (p := ⟨bo, off + k * 14 + 4, none⟩) hbo2).trans (hc2 4 _ rfl)
  have y5 : ∀ x : Gr w2.heap.size w2, x.val.cell? ⟨bo, off + k * 14 + 5, none⟩ = some (.int .i64 q.st) := fun x => (x.is.cell (p := ⟨bo, off + k * 14 + 5, none⟩) hbo2).trans (hc2 5 _ rfl)
  have y6 : ∀ x : Gr w2.heap.size w2, x.val.cell? ⟨bo, off + k * 14 + 6, none⟩ = some (.slice hdq.A1 hdq.n1 hdq.c1) := fun x => (x.is.cell (p := ⟨bo, off + k * 14 + 6, none⟩) hbo2).trans (hc2 6 _ rfl)
  have y7 : ∀ x : Gr w2.heap.size w2, x.val.cell? ⟨bo, off + k * 14 + 7, none⟩ = some (.slice hdq.A2 hdq.n2 hdq.c2) := fun x => (x.is.cell (p := ⟨bo, off + k * 14 + 7, none⟩) hbo2).trans (hc2 7 _ rfl)
  have y8 : ∀ x : Gr w2.heap.size w2, x.val.cell? ⟨bo, off + k * 14 + 8, none⟩ = some (.slice hdq.A3 hdq.n3 hdq.c3) := fun x => (x.is.cell (p := ⟨bo, off + k * 14 + 8, none⟩) hbo2).trans (hc2 8 _ rfl)
  have y9 : ∀ x : Gr w2.heap.size w2, x.val.cell? ⟨bo, off + k * 14 + 9, none⟩ = some (.int .u64 (q.se.1 : Int)) := fun x => (x.is.cell (p := ⟨bo, off + k * 14 + 9, none⟩) hbo2).trans (hc2 9 _ rfl)
  have y10 : ∀ x : Gr w2.heap.size w2, x.val.cell? ⟨bo, off + k * 14 + 10, none⟩ = some (.int .u64 (q.se.2.1 : Int)) := fun x => (x.is.cell (p := ⟨bo, off + k * 14 + 10, none⟩) hbo2).trans (hc2 10 _ rfl)
  have y11 : ∀ x : Gr w2.heap.size w2, x.val.cell? ⟨bo, off + k * 14 + 11, none⟩ = some (.int .u64 (q.se.2.2 : Int)) := fun x => (x.is.cell (p := ⟨bo, off + k * 14 + 11, none⟩) hbo2).trans (hc2 11 _ rfl)
  have y12 : ∀ x : Gr w2.heap.size w2, x.val.cell? ⟨bo, off + k * 14 + 12, none⟩ = some (.int .u64 (q.pr.1 : Int)) := fun x => (x.is.cell (p := ⟨bo, off + k * 14 + 12, none⟩) hbo2).trans (hc2 12 _ rfl)
  have y13 : ∀ x : Gr w2.heap.size w2, x.val.cell? ⟨bo, off + k * 14 + 13, none⟩ = some (.slice hdq.A4 hdq.n4 hdq.c4) := fun x => (x.is.cell (p := ⟨bo, off + k * 14 + 13, none⟩) hbo2).trans (hc2 13 _ rfl)
  have z0 : ∀ x : Gr w2.heap.size w2, x.val.cell? ⟨w0.heap.size, 0, none⟩ = some (.int .i64 m.kd) := fun x => (x.is.cell (p := ⟨w0.heap.size, 0, none⟩) (show Blk w2 (w0.heap.size) 32 (msV m hd) from HK2.out).lt).trans ((show Blk w2 (w0.heap.size) 32 (msV m hd) from HK2.out).cell 0)
  have z1 : ∀ x : Gr w2.heap.size w2, x.val.cell? ⟨w0.heap.size, 1, none⟩ = some (.int .u64 (m.ep : Int)) := fun x => (x.is.cell (p := ⟨w0.heap.size, 1, none⟩) (show Blk w2 (w0.heap.size) 32 (msV m hd) from HK2.out).lt).trans ((show Blk w2 (w0.heap.size) 32 (msV m hd) from HK2.out).cell 1)
  have z2 : ∀ x : Gr w2.heap.size w2, x.val.cell? ⟨w0.heap.size, 2, none⟩ = some (.int .u64 (m.sq : Int)) := fun x => (x.is.cell (p := ⟨w0.heap.size, 2, none⟩) (show Blk w2 (w0.heap.size) 32 (msV m hd) from HK2.out).lt).trans ((show Blk w2 (w0.heap.size) 32 (msV m hd) from HK2.out).cell 2)
  have z3 : ∀ x : Gr w2.heap.size w2, x.val.cell? ⟨w0.heap.size, 3, none⟩ = some (.int .u64 (m.ps : Int)) := fun x => (x.is.cell (p := ⟨w0.heap.size, 3, none⟩) (show Blk w2 (w0.heap.size) 32 (msV m hd) from HK2.out).lt).trans ((show Blk w2 (w0.heap.size) 32 (msV m hd) from HK2.out).cell 3)
  have z4 : ∀ x : Gr w2.heap.size w2, x.val.cell? ⟨w0.heap.size, 4, none⟩ = some (.int .i64 m.ct) := fun x => (x.is.cell (p := ⟨w0.heap.size, 4, none⟩) (show Blk w2 (w0.heap.size) 32 (msV m hd) from HK2.out).lt).trans ((show Blk w2 (w0.heap.size) 32 (msV m hd) from HK2.out).cell 4)
  have z5 : ∀ x : Gr w2.heap.size w2, x.val.cell? ⟨w0.heap.size, 5, none⟩ = some (.int .i64 m.st) := fun x => (x.is.cell (p := ⟨w0.heap.size, 5, none⟩) (show Blk w2 (w0.heap.size) 32 (msV m hd) from HK2.out).lt).trans ((show Blk w2 (w0.heap.size) 32 (msV m hd) from HK2.out).cell 5)
  have z6 : ∀ x : Gr w2.heap.size w2, x.val.cell? ⟨w0.heap.size, 6, none⟩ = some (.slice hd.A1 hd.n1 hd.c1) := fun x => (x.is.cell (p := ⟨w0.heap.size, 6, none⟩) (show Blk w2 (w0.heap.size) 32 (msV m hd) from HK2.out).lt).trans ((show Blk w2 (w0.heap.size) 32 (msV m hd) from HK2.out).cell 6)
  have z7 : ∀ x : Gr w2.heap.size w2, x.val.cell? ⟨w0.heap.size, 7, none⟩ = some (.slice hd.A2 hd.n2 hd.c2) := fun x => (x.is.cell (p := ⟨w0.heap.size, 7, none⟩) (show Blk w2 (w0.heap.size) 32 (msV m hd) from HK2.out).lt).trans ((show Blk w2 (w0.heap.size) 32 (msV m hd) from HK2.out).cell 7)
  have z8 : ∀ x : Gr w2.heap.size w2, x.val.cell? ⟨w0.heap.size, 8, none⟩ = some (.slice hd.A3 hd.n3 hd.c3) := fun x => (x.is.cell (p := ⟨w0.heap.size, 8, none⟩) (show Blk w2 (w0.heap.size) 32 (msV m hd) from HK2.out).lt).trans ((show Blk w2 (w0.heap.size) 32 (msV m hd) from HK2.out).cell 8)
  have z9 : ∀ x : Gr w2.heap.size w2, x.val.cell? ⟨w0.heap.size, 9, none⟩ = some (.int .u64 (m.se.1 : Int)) := fun x => (x.is.cell (p := ⟨w0.heap.size, 9, none⟩) (show Blk w2 (w0.heap.size) 32 (msV m hd) from HK2.out).lt).trans ((show Blk w2 (w0.heap.size) 32 (msV m hd) from HK2.out).cell 9)
  have z10 : ∀ x : Gr w2.heap.size w2, x.val.cell? ⟨w0.heap.size, 10, none⟩ = some (.int .u64 (m.se.2.1 : Int)) := fun x => (x.is.cell (p := ⟨w0.heap.size, 10, none⟩) (show Blk w2 (w0.heap.size) 32 (msV m hd) from HK2.out).lt).trans ((show Blk w2 (w0.heap.size) 32 (msV m hd) from HK2.out).cell 10)
  have z11 : ∀ x : Gr w2.heap.size w2, x.val.cell? ⟨w0.heap.size, 11, none⟩ = some (.int .u64 (m.se.2.2 : Int)) := fun x => (x.is.cell (p := ⟨w0.heap.size, 11, none⟩) (show Blk w2 (w0.heap.size) 32 (msV m hd) from HK2.out).lt).trans ((show Blk w2 (w0.heap.size) 32 (msV m hd) from HK2.out).cell 11)
  have z12 : ∀ x : Gr w2.heap.size w2, x.val.cell? ⟨w0.heap.size, 12, none⟩ = some (.int .u64 (m.pr.1 : Int)) := fun x => (x.is.cell (p := ⟨w0.heap.size, 12, none⟩) (show Blk w2 (w0.heap.size) 32 (msV m hd) from HK2.out).lt).trans ((show Blk w2 (w0.heap.size) 32 (msV m hd) from HK2.out).cell 12)
  have z13 : ∀ x : Gr w2.heap.size w2, x.val.cell? ⟨w0.heap.size, 13, none⟩ = some (.slice hd.A4 hd.n4 hd.c4) := fun x => (x.is.cell (p := ⟨w0.heap.size, 13, none⟩) (show Blk w2 (w0.heap.size) 32 (msV m hd) from HK2.out).lt).trans ((show Blk w2 (w0.heap.size) 32 (msV m hd) from HK2.out).cell 13)
  clear hc2 gk0 gk1 hin2
  go_upto_region 8 with (fail)
  refine wp_region_grow (by kernel_rfl) (by kernel_rfl) w2.heap.size ?_
  repeat (first | go_big_quiet_step ((go_at_call 9; exact Gr.call _ (Nat.le_refl _) (HFT.out _ (Gr.is _)))) | quiet_step ((go_at_call 9; exact Gr.call _ (Nat.le_refl _) (HFT.out _ (Gr.is _)))))
  refine wpQuiet_nil ?_
  rintro w3 ⟨⟨_, hb3⟩, rfl⟩
  clear y0 y1 y2 y3 y4 y5 y6 y7 y8 y9 y10 y11 y12 y13
  clear z0 z1 z2 z3 z4 z5 z6 z7 z8 z9 z10 z11 z12 z13
  clear a0 a1 a2 a3
  have HB3 := Lib.hid (stepB HB2.out hb3)
  have HI3 := Lib.hid (HI2.out.below hb3)
  have HK3 : Hid (Blk w3 w0.heap.size 32 (msV m hd)) := Lib.hid (keepB (show Blk w2 w0.heap.size 32 (msV m hd) from HK2.out) hb3)
  have hgl3 : g < w3.heap.size := Nat.lt_of_lt_of_le hgl hb3.size
  have HFT0 := Lib.hid H00.out
  clear hb3 HFT
  have g0 : w3.cell? ⟨b, 0, none⟩ = some (.slice (some ⟨g, 0, none⟩) ps.length c') := (show Blk w3 b 75 (logV (some ⟨g, 0, none⟩) ps.length c' bm last begun) from HI3.out.log.blk).cell 0
  obtain ⟨gg, cur, hg1, hg2, hg3, hg4, hg5⟩ := row_cell HI3.out.log.own (show (ps.flatMap pr2)[p * 2 + 1]? = some (.int .i64 (-1)) from by rw [flat2_get ps p 1 (by omega), HPK.out]; rfl)
  injection hg1 with hg1
  injection hg1 with hg1
  subst hg1
  have HG3 := Lib.hid hg3
  have hgb : base ≤ g := hg2
  have z4 : w3.cell? ⟨g, 0 + p * 2 + 1, none⟩ = some (.int .i64 (-1)) := by rw [Nat.zero_add]; exact hg4
  have z5 : w3.frozen? ⟨g, 0 + p * 2 + 1, none⟩ = false := by rw [Nat.zero_add]; exact hg3.frozen _
  have z6 : w3.frozen? ⟨g, p * 2 + 1, none⟩ = false := hg3.frozen _
  rw [H00.out]
  have hbg : b ≠ g := blk_ne HI3.out.log.blk hg3 (by decide)
  have hmg : bm ≠ g := fun e => map_ne hg3 HI3.out.log.map e.symm
  have hag : w0.heap.size ≠ g := blk_ne (show Blk w3 w0.heap.size 32 (msV m hd) from HK3.out) hg3 (by decide)
  have hb0 := HI3.out.log.b0
  have hbm0 := HI3.out.log.bm0
  have HHG := Lib.hid (And.intro hbg (And.intro hmg hag))
  clear hg3 hg5 hg2 hbg hmg hag
  go_upto_region 12 with (fail)
  have HL4 : Hid (Blk (w3.setCell ⟨g, p * 2 + 1, none⟩ (.int .i64 (i : Int))) b 75 (logV (some ⟨g, 0, none⟩) ps.length c' bm last begun)) := Lib.hid ((show Blk w3 b 75 (logV (some ⟨g, 0, none⟩) ps.length c' bm last begun) from HI3.out.log.blk).far (p := ⟨g, p * 2 + 1, none⟩) HHG.out.1 _)
  have HK4 : Hid (Blk (w3.setCell ⟨g, p * 2 + 1, none⟩ (.int .i64 (i : Int))) w0.heap.size 32 (msV m hd)) := Lib.hid ((show Blk w3 w0.heap.size 32 (msV m hd) from HK3.out).far (p := ⟨g, p * 2 + 1, none⟩) HHG.out.2.2 _)
  have HM4 := Lib.hid (HI3.out.log.map.same (Below.heap_setCell w3 ⟨g, p * 2 + 1, none⟩ (.int .i64 (i : Int)) bm HHG.out.2.1))
  have HO4 : Hid ((w3.setCell ⟨g, p * 2 + 1, none⟩ (.int .i64 (i : Int))).ownsRow base 54 2 (.slice (some ⟨g, 0, none⟩) ps.length c') ps.length ((ps.set p (k, (i : Int))).flatMap pr2)) := by
    show World.ownsRow _ _ _ _ _ _ _
    rw [← flat2_set ps p k (-1) i HPK.out]
    exact row_put HI3.out.log.own _ _
  have HB4 := Lib.hid ((HB3.out.mono HZ.out).setCell (p := ⟨g, p * 2 + 1, none⟩) hgb (.int .i64 (i : Int)))
  generalize World.setCell w3 _ _ = w4 at *
  clear g0 z4 z5 z6 hg4
  have g1 : w4.cell? ⟨b, 1, none⟩ = some (.map (some bm)) := (show Blk w4 b 75 (logV (some ⟨g, 0, none⟩) ps.length c' bm last begun) from HL4.out).cell 1
  have k2 : w4.cell? ⟨w0.heap.size, 2, none⟩ = some (.int .u64 (m.sq : Int)) := (show Blk w4 w0.heap.size 32 (msV m hd) from HK4.out).cell 2
  go_still_tail 6, (by kernel_rfl)
  change wpList _ _ _ _ _ w4.drew
  have hdr : Below w4.heap.size w4 w4.drew := (Below.refl _ _).drew
  have hmd := HM4.out.below hdr HM4.out.lt
  have HL5 : Hid (Blk w4.drew b 75 (logV (some ⟨g, 0, none⟩) ps.length c' bm last begun)) := Lib.hid (keepB (show Blk w4 b 75 (logV (some ⟨g, 0, none⟩) ps.length c' bm last begun) from HL4.out) hdr)
  have HO5 : Hid (w4.drew.ownsRow base 54 2 (.slice (some ⟨g, 0, none⟩) ps.length c') ps.length ((ps.set p (k, (i : Int))).flatMap pr2)) := Lib.hid (keepO HO4.out hdr)
  have HM5 := Lib.hid hmd
  have HB5 : Hid (Below base w w4.drew) := ⟨HB4.out.os, HB4.out.tape, HB4.out.output, HB4.out.size, HB4.out.block⟩
  clear hmd hdr g1 k2
  refine wpList_map_del rfl (.tmp 62) (.tmp 64) rfl HM5.out HIN2.out.sq1 rfl rfl ?_
  intro w6 hm6 hg6
  have HM6 := Lib.hid hm6
  have HL6 : Hid (Blk w6 b 75 (logV (some ⟨g, 0, none⟩) ps.length c' bm last begun)) := Lib.hid ((show Blk w4.drew b 75 (logV (some ⟨g, 0, none⟩) ps.length c' bm last begun) from HL5.out).grown hg6 (fun e => by injection e with e; exact map_ne HL5.out HM5.out e))
  have HO6 := Lib.hid (HO5.out.kept hg6 (.inr (fun e => map_ne_row HM5.out HO5.out e.symm)))
  have HB6 : Hid (Below base w w6) := Lib.hid (HB5.out.grown hg6 (Nat.le_trans HZ.out HB5.out.size) (fun q hq => by injection hq with hq; omega))
  have H64 := Lib.hid HI3.out.log.l64
  clear hm6 hg6
  go_wp2_with fail
  go_ret
  refine ⟨rfl, ⟨hb0, hbm0, ?_, ?_, ?_, H64.out⟩, HB6.out⟩
  · rw [List.length_set]; exact HL6.out
  · rw [List.length_set]; exact HO6.out
  · rw [List.length_set]; exact HM6.out
end
end Go.Proofs.Ytlfieiiegokejaa
