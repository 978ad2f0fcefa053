/- The example of chapter 26's laws. -/
import Derived.Test.YtcbmnfjbmkpfiaaPkP
namespace Go.Proofs.Ytcbmnfjbmkpfiaa
open Go.ChangeShapes Go.WideShapes Go.ChangeAt Go.RowKit
set_option linter.unusedVariables false
def es0 : List Ent := [([(5, [])], []), ([(5, [])], [])]
def r0 : List Ent := [([(5, [])], []), ([(5, [10])], [])]
def t0 : List Lnk := [(5, [11, 10])]
theorem th0 : thE 10 (bareL es0) [] es0.length = (r0, t0) := by decide +kernel
theorem lok1 {p s : Nat} {l : List Nat} (h1 : l.length ≤ 4) (h2 : Fall p l) : LOk p [(s, l)] :=
  ⟨by show 1 ≤ 16; decide, upTo_one _ (Nat.le_refl _), fun i x hi hx => by
    obtain rfl : i = 0 := by have : i < 1 := hi; omega
    injection hx with hx
    subst hx
    exact ⟨h1, h2⟩⟩
theorem bat0 (a b : List Nat) (h1 : a.length ≤ 4) (h2 : Fall 10 a) (h3 : b.length ≤ 4) (h4 : Fall 11 b) : BatOk 1 10 [([(5, a)], []), ([(5, b)], [])] := by
  refine ⟨⟨by decide, by decide⟩, ⟨by show 1 ≤ 2; decide, by show 2 ≤ 16; decide, by unfold PosOk; decide, by show 10 + 2 ≤ _; decide⟩, fun i x hx => ?_⟩
  match i, hx with
  | 0, hx => injection hx with hx; subst hx; exact lok1 h1 h2
  | 1, hx => injection hx with hx; subst hx; exact lok1 h3 h4
theorem fall_nil (p : Nat) : Fall p [] := fun i a hi => absurd hi (Nat.not_lt_zero _)
theorem fall_one {p q : Nat} (h : q < p) : Fall p [q] := fun i a hi ha => by
  obtain rfl : i = 0 := by have : i < 1 := hi; omega
  injection ha with ha
  subst ha
  exact h
theorem ebd0 : EBd es0 := by
  unfold EBd es0
  refine ⟨by decide, ?_⟩
  decide
theorem ok0 : ThOk 1 10 es0 [] := by
  refine ⟨bat0 [] [] (by decide) (fall_nil _) (by decide) (fall_nil _), upTo_one _ (Nat.zero_le _), ?_⟩
  rw [th0]
  exact bat0 [] [10] (by decide) (fall_nil _) (by decide) (fall_one (by decide))
abbrev fiveV : Array Value := #[.int .u64 5, .slice none 0 0]
abbrev ents0 (g : Nat) : Array Value := #[.slice (some ⟨g, 0, none⟩) 1 1, .slice none 0 0, .slice (some ⟨g, 0, none⟩) 1 1, .slice none 0 0]
theorem five_at {w : World} {g : Nat} (h : Blk w g 57 fiveV) : rpLnk.sl w (fun k => k < w.heap.size) (some ⟨g, 0, none⟩) 1 1 [(5, [])] := by
  refine ⟨_, _, rfl, Nat.le_refl _, by decide, fun _ => ⟨g, 0, rfl, h.lt, fun i x hx => ?_⟩⟩
  match i, hx with
  | 0, hx =>
    injection hx with hx; subst hx
    refine ⟨[.int .u64 5, .slice none 0 0], ⟨[.int .u64 5], [.slice none 0 0], rfl, ⟨rfl, by decide⟩, Rp.sl_nil _ _ _ _ _ (by decide)⟩, fun j u hu => ?_⟩
    match j, hu with
    | 0, hu => injection hu with hu; subst hu; exact h.cell 0
    | 1, hu => injection hu with hu; subst hu; exact h.cell 1
theorem ents_at {w : World} {g k : Nat} (h : Blk w g 57 fiveV) (h2 : Blk w k 45 (ents0 g)) : rpEnt.sl w (fun k => k < w.heap.size) (some ⟨k, 0, none⟩) 2 2 es0 := by
  refine ⟨_, _, rfl, Nat.le_refl _, by decide, fun _ => ⟨k, 0, rfl, h2.lt, fun i x hx => ?_⟩⟩
  have hok : rpEnt.ok w (fun k => k < w.heap.size) ([(5, [])], []) [.slice (some ⟨g, 0, none⟩) 1 1, .slice none 0 0] := ⟨[.slice (some ⟨g, 0, none⟩) 1 1], [.slice none 0 0], rfl, five_at h, Rp.sl_nil _ _ _ _ _ (by decide)⟩
  match i, hx with
  | 0, hx =>
    injection hx with hx; subst hx
    refine ⟨_, hok, fun j u hu => ?_⟩
    match j, hu with
    | 0, hu => injection hu with hu; subst hu; exact h2.cell 0
    | 1, hu => injection hu with hu; subst hu; exact h2.cell 1
  | 1, hx =>
    injection hx with hx; subst hx
    refine ⟨_, hok, fun j u hu => ?_⟩
    match j, hu with
    | 0, hu => injection hu with hu; subst hu; exact h2.cell 2
    | 1, hu => injection hu with hu; subst hu; exact h2.cell 3
theorem one64 (w : World) (x : Nat) (hx : x < 18446744073709551616) : rpU64.sl (w.alloc (.cells #[.int .u64 (x : Int)] 22)) (fun k => k < (w.alloc (.cells #[.int .u64 (x : Int)] 22)).heap.size) (some ⟨w.heap.size, 0, none⟩) 1 1 [x] := by
  refine ⟨_, _, rfl, Nat.le_refl _, by show 1 ≤ maxLen; decide, fun _ => ⟨w.heap.size, 0, rfl, (Blk.new w 22 #[.int .u64 (x : Int)]).lt, fun i y hy => ?_⟩⟩
  match i, hy with
  | 0, hy =>
    injection hy with hy; subst hy
    refine ⟨[.int .u64 (x : Int)], ⟨rfl, hx⟩, fun j u hu => ?_⟩
    match j, hu with
    | 0, hu => injection hu with hu; subst hu; exact (Blk.new w 22 #[.int .u64 (x : Int)]).cell 0
theorem two64 (w : World) (x y : Nat) (hx : x < 18446744073709551616) (hy : y < 18446744073709551616) : rpU64.sl (w.alloc (.cells #[.int .u64 (x : Int), .int .u64 (y : Int)] 22)) (fun k => k < (w.alloc (.cells #[.int .u64 (x : Int), .int .u64 (y : Int)] 22)).heap.size) (some ⟨w.heap.size, 0, none⟩) 2 2 [x, y] := by
  refine ⟨_, _, rfl, Nat.le_refl _, by show 2 ≤ maxLen; decide, fun _ => ⟨w.heap.size, 0, rfl, (Blk.new w 22 #[.int .u64 (x : Int), .int .u64 (y : Int)]).lt, fun i z hz => ?_⟩⟩
  match i, hz with
  | 0, hz =>
    injection hz with hz; subst hz
    refine ⟨[.int .u64 (x : Int)], ⟨rfl, hx⟩, fun j u hu => ?_⟩
    match j, hu with
    | 0, hu => injection hu with hu; subst hu; exact (Blk.new w 22 #[.int .u64 (x : Int), .int .u64 (y : Int)]).cell 0
  | 1, hz =>
    injection hz with hz; subst hz
    refine ⟨[.int .u64 (y : Int)], ⟨rfl, hy⟩, fun j u hu => ?_⟩
    match j, hu with
    | 0, hu => injection hu with hu; subst hu; exact (Blk.new w 22 #[.int .u64 (x : Int), .int .u64 (y : Int)]).cell 1
set_option maxRecDepth 100000 in
set_option maxHeartbeats 4000000 in
theorem live26_any (w : World) : Calls Try.prog 8 #[] w fun e w' => e = .returned (.bool true) ∧ Below w.heap.size w w' := by
  have hb1 := below2 w (.cells fiveV 57) (.cells (ents0 w.heap.size) 45)
  have HB2 := Lib.hid hb1
  have hse := ents_at (blk21 w 57 45 fiveV (ents0 w.heap.size)) (blk22 w 57 45 fiveV (ents0 w.heap.size))
  have HT : Hid (Calls Try.prog 14 #[.agg (batV 1 10 (some ⟨w.heap.size + 1, 0, none⟩) 2 2), .slice none 0 0] ((w.alloc (.cells fiveV 57)).alloc (.cells (ents0 w.heap.size) 45)) fun e w' => ∃ A' c' At ct, e = .returned (.tuple #[.agg (batV 1 10 A' 2 c'), .slice At 1 ct, .int .i64 0]) ∧ rpEnt.sl w' (fun k => k < w'.heap.size) A' 2 c' r0 ∧ rpLnk.sl w' (fun k => k < w'.heap.size) At 1 ct t0 ∧ Below ((w.alloc (.cells fiveV 57)).alloc (.cells (ents0 w.heap.size) 45)).heap.size ((w.alloc (.cells fiveV 57)).alloc (.cells (ents0 w.heap.size) 45)) w') :=
    (thread_any (ep := 1) (b := 10) hse (fun k hk => hk) ebd0 (by decide) (by decide) (by decide) (Rp.sl_nil rpLnk _ (fun _ => False) none 0 (by decide)) (fun k hk => hk.elim) ⟨Nat.zero_le _, fun x hx => by cases hx⟩).mono (fun e w' h => by
      obtain ⟨hb, h | ⟨hno, _⟩⟩ := h
      · obtain ⟨_, A', c', At, nt, ct, he, h1, h2⟩ := h
        rw [th0] at h1 h2
        have hl : 1 = nt := (Rp.sl_len h2).1
        subst hl
        exact ⟨A', c', At, ct, he, h1, h2, hb⟩
      · exact absurd ok0 hno)
  clear hb1 hse
  go_enter Try.func8, Try.ntmps8
  go_upto_region 3 with
    (go_at_call 14
     refine HT.out.mono ?_
     rintro e w3 ⟨A', c', At, ct, rfl, hs3, hl3, hb3⟩
     have hba := below1 w3 (.cells (batV 1 10 A' 2 c') 25)
     have HB4 := Lib.hid (stepB HB2.out (stepB hb3 hba))
     have HS4 := Lib.hid (keepS (show Sl rpEnt w3 _ A' 2 c' r0 from ⟨hs3, fun k hk => hk⟩) hba)
     have HL4 := Lib.hid (keepS (show Sl rpLnk w3 _ At 1 ct t0 from ⟨hl3, fun k hk => hk⟩) hba)
     have KB4 := Lib.hid (blk11 w3 25 (batV 1 10 A' 2 c'))
     clear hs3 hl3 hb3 hba)
  generalize World.alloc w3 _ = w4 at *
  have z2 := (show Blk w4 _ 25 (batV 1 10 A' 2 c') from KB4.out).cell 2
  obtain ⟨b, off, x0, A0, c0, B0, d0, rfl, hD0, hx0, g0, g0', hr0, _⟩ := ent_at HS4.out.1 (k := 0) (by decide)
  obtain ⟨b', off', x1, A1, c1, B1, d1, hA, hD1, hx1, g1, g1', hr1, _⟩ := ent_at HS4.out.1 (k := 1) (by decide)
  injection hA with hA
  injection hA with hA1 hA2
  subst hA1; subst hA2
  injection hx0 with hx0
  injection hx1 with hx1
  subst hx0; subst hx1
  obtain ⟨bl, ol, y0, A2, c2, rfl, hD2, hy0, k0, k0', _, _⟩ := lnk_at hr0 (k := 0) (by decide)
  obtain ⟨bm, om, y1, A3, c3, rfl, hD3, hy1, k1, k1', hq1, _⟩ := lnk_at hr1 (k := 0) (by decide)
  obtain ⟨bt, ot, y2, A4, c4, rfl, hD4, hy2, k2, k2', hq2, _⟩ := lnk_at HL4.out.1 (k := 0) (by decide)
  injection hy0 with hy0
  injection hy1 with hy1
  injection hy2 with hy2
  subst hy0; subst hy1; subst hy2
  have f0 : w4.cell? ⟨b, off, none⟩ = some (.slice (some ⟨bl, ol, none⟩) 1 c0) := by simpa using g0
  have f1 : w4.cell? ⟨b, off + 2, none⟩ = some (.slice (some ⟨bm, om, none⟩) 1 c1) := by simpa using g1
  have f2 : w4.cell? ⟨bl, ol + 1, none⟩ = some (.slice A2 0 c2) := by simpa using k0'
  have f3 : w4.cell? ⟨bm, om + 1, none⟩ = some (.slice A3 1 c3) := by simpa using k1'
  have f4 : w4.cell? ⟨bt, ot + 1, none⟩ = some (.slice A4 2 c4) := by simpa using k2'
  have HD4 := Lib.hid (HL4.out.2 _ hD4)
  have HQ1 := Lib.hid (show Sl rpU64 w4 _ A3 1 c3 [10] from ⟨hq1, HS4.out.2⟩)
  have HQ2 := Lib.hid (show Sl rpU64 w4 _ A4 2 c4 [11, 10] from ⟨hq2, HL4.out.2⟩)
  clear g0 g1 g0' g1' k0 k0' k1 k1' k2 k2' hq1 hq2 hr0 hr1 hD0 hD1 hD2 hD3 hD4
  have hb5 := below1 w4 (.cells #[.int .u64 10] 22)
  have HB5 := Lib.hid (stepB HB4.out hb5)
  have h5 := keepS HQ1.out hb5
  have hl5 := one64 w4 10 (by decide)
  have hc1 := same5_any h5.1 hl5 h5.2 (fun k hk => hk)
  rw [dec_true rfl] at hc1
  have HC1 := Lib.hid hc1
  have HQ5 := Lib.hid (keepS HQ2.out hb5)
  have HF5 := Lib.hid ((hb5.cell (p := ⟨bt, ot + 1, none⟩) HD4.out).trans f4)
  have HD5 := Lib.hid (Nat.lt_of_lt_of_le HD4.out hb5.size)
  clear hb5 h5 hl5 hc1
  go_wp2_with fail
  refine HC1.out.mono ?_; rintro e w6 ⟨rfl, hb6⟩
  have HB6 := Lib.hid (stepB HB5.out hb6)
  have f6 : w6.cell? ⟨bt, ot + 1, none⟩ = some (.slice A4 2 c4) := (hb6.cell (p := ⟨bt, ot + 1, none⟩) HD5.out).trans HF5.out
  have HQ6 := Lib.hid (keepS HQ5.out hb6)
  have hb7 := below1 w6 (.cells #[.int .u64 11, .int .u64 10] 22)
  have HB7 := Lib.hid (stepB HB6.out hb7)
  have h7 := keepS HQ6.out hb7
  have hc2 := same5_any h7.1 (two64 w6 11 10 (by decide) (by decide)) h7.2 (fun k hk => hk)
  rw [dec_true rfl] at hc2
  have HC2 := Lib.hid hc2
  clear hb6 hb7 h7 hc2 f0 f1 f2 f3 f4 z2
  go_wp2_with fail
  refine HC2.out.mono ?_; rintro e w8 ⟨rfl, hb8⟩
  have HB8 := Lib.hid (stepB HB7.out hb8)
  clear hb8 f6
  go_wp2_with fail
  go_ret
  exact ⟨rfl, HB8.out⟩
end Go.Proofs.Ytcbmnfjbmkpfiaa
