/- What is told of a talk: talk.Check, Pairs, Next, Open, Quiet. -/
import Derived.Test.YtlfieiiegokejaaTkU
namespace Go.Proofs.Ytlfieiiegokejaa
open Go.ChangeShapes Go.WideShapes Go.ChangeAt Go.RowKit
set_option linter.unusedVariables false
def opnL (l : List Ms) (ps : List Pr2) : List Nat := ps.filterMap fun x => if x.2 < 0 then (l[x.1]?).map (·.sq) else none
theorem opn_succ {l : List Ms} {ps : List Pr2} {k j : Nat} {a : Int} {m : Ms} (hx : ps[k]? = some (j, a)) (hm : l[j]? = some m) : opnL l (ps.take (k + 1)) = opnL l (ps.take k) ++ (if a < 0 then [m.sq] else []) := by
  have e : ps.take (k + 1) = ps.take k ++ [(j, a)] := by rw [List.take_add_one, hx]; rfl
  unfold opnL
  rw [e, List.filterMap_append]
  congr 1
  by_cases h : a < 0
  · simp [h, hm]
  · simp [h]
theorem own_less {w : World} {base base' size n : Nat} {e : TypeId} {v : Value} {xs : List Value} (h : w.ownsRow base e size v n xs) (hb : base' ≤ base) : w.ownsRow base' e size v n xs := by
  refine ⟨h.1, ?_⟩
  rcases h.2 with h0 | ⟨g, cap, cur, hv, hg, hh, hr⟩
  · exact .inl h0
  · exact .inr ⟨g, cap, cur, hv, Nat.le_trans hb hg, hh, hr⟩
theorem opn_len (l : List Ms) (ps : List Pr2) : (opnL l ps).length ≤ ps.length := List.length_filterMap_le ..
section
variable {w : World} {D : Dom} {A : Option Addr} {n c : Nat} {l : List Ms}
set_option maxRecDepth 100000 in
set_option maxHeartbeats 1000000 in
theorem check_any (hs : rpMs.sl w D A n c l) (hD : ∀ k, D k → k < w.heap.size) (hn : n ≤ 1000) :
    Calls Try.prog 12 #[.slice A n c] w fun e w' => e = .returned (.tuple #[.int .i64 ((res l).1 : Int), .int .i64 (res l).2]) ∧ Below w.heap.size w w' := by
  have HG := Lib.hid (goes_any hs hD hn)
  obtain ⟨r, hr⟩ : ∃ r, res l = r := ⟨_, rfl⟩
  rw [hr]
  have HR := Lib.hid hr
  clear hs hD hr
  obtain ⟨r1, r2⟩ := r
  dsimp only
  go_enter Try.func12, Try.ntmps12
  go_wp2_with fail
  refine HG.out.mono ?_; rintro e w1 ⟨hb, ⟨b, rfl, hg, hl⟩ | ⟨i, k, rfl, hk, hbad⟩⟩
  · have h := res_good hg
    rw [HR.out] at h
    injection h with h1 h2
    subst h1; subst h2
    have HB := Lib.hid hb
    clear hb hl hg
    go_wp2_with fail
    go_ret2
    exact ⟨rfl, HB.out⟩
  · rw [HR.out] at hbad
    injection hbad with h1 h2
    subst h1; subst h2
    have HB := Lib.hid hb
    clear hb hk
    go_wp2_with fail
    go_ret2
    exact ⟨rfl, HB.out⟩
/-- What talk.Pairs tells. -/
def PairsIs (w : World) (l : List Ms) (e : Ending) (w' : World) : Prop :=
  Below w.heap.size w w' ∧ ((∃ A c, e = .returned (.tuple #[.slice A (prsOf l l.length l.length).length c, .bool true]) ∧ (res l).2 = 0 ∧ Good l l.length ∧ w'.ownsRow w.heap.size 54 2 (.slice A (prsOf l l.length l.length).length c) (prsOf l l.length l.length).length ((prsOf l l.length l.length).flatMap pr2)) ∨
    e = .returned (.tuple #[.slice none 0 0, .bool false]) ∧ (res l).2 ≠ 0)
set_option maxRecDepth 100000 in
set_option maxHeartbeats 1000000 in
theorem pairs_any (hs : rpMs.sl w D A n c l) (hD : ∀ k, D k → k < w.heap.size) (hn : n ≤ 1000) :
    Calls Try.prog 19 #[.slice A n c] w (PairsIs w l) := by
  have HG := Lib.hid (goes_any hs hD hn)
  clear hs hD
  go_enter Try.func19, Try.ntmps19
  go_wp2_with fail
  refine HG.out.mono ?_; rintro e w1 ⟨hb, ⟨b, rfl, hg, hl⟩ | ⟨i, k, rfl, hk, hbad⟩⟩
  · obtain ⟨A', c', bm, ps, f, last, begun, hl1, hl2⟩ := hl
    have HL := Lib.hid hl1
    have HS := Lib.hid hl2
    have HGG := Lib.hid hg
    have HB := Lib.hid hb
    have g0 := (show Blk w1 b 75 (logV A' ps.length c' bm last begun) from HL.out.blk).cell 0
    clear hb hl1 hl2 hg
    go_wp2_with fail
    go_ret2
    refine ⟨HB.out, .inl ⟨A', c', ?_, by rw [res_good HGG.out], HGG.out, ?_⟩⟩
    · rw [← HS.out.eqn]; rfl
    · rw [← HS.out.eqn]; exact HL.out.own
  · have HB := Lib.hid hb
    have HBAD := Lib.hid hbad
    have HK := Lib.hid hk
    have hk0 : (k != 0) = true := by simpa using hk
    clear hb hk hbad
    go_wp2_with fail
    go_ret2
    exact ⟨HB.out, .inr ⟨rfl, by rw [HBAD.out]; exact HK.out⟩⟩
/-- What talk.Next tells. -/
def NextIs (w : World) (l : List Ms) (e : Ending) (w' : World) : Prop :=
  Below w.heap.size w w' ∧ ((e = .returned (.tuple #[.int .u64 0, .bool false]) ∧ (res l).2 ≠ 0) ∨ (e = .returned (.tuple #[.int .u64 0, .bool true]) ∧ Good l l.length ∧ lastTo l l.length = none) ∨
    ∃ x y : Nat, e = .returned (.tuple #[.int .u64 (y : Int), .bool (y != 0)]) ∧ Good l l.length ∧ lastTo l l.length = some x ∧ y = (x + 1) % 18446744073709551616)
set_option maxRecDepth 100000 in
set_option maxHeartbeats 1000000 in
theorem next_any (hs : rpMs.sl w D A n c l) (hD : ∀ k, D k → k < w.heap.size) (hn : n ≤ 1000) :
    Calls Try.prog 20 #[.slice A n c] w (NextIs w l) := by
  have HG := Lib.hid (goes_any hs hD hn)
  clear hs hD
  go_enter Try.func20, Try.ntmps20
  go_wp2_with fail
  refine HG.out.mono ?_; rintro e w1 ⟨hb, ⟨b, rfl, hg, hl⟩ | ⟨i, k, rfl, hk, hbad⟩⟩
  · obtain ⟨A', c', bm, ps, f, last, begun, hl1, hl2⟩ := hl
    have HL := Lib.hid hl1
    have HS := Lib.hid hl2
    have HGG := Lib.hid hg
    have HB := Lib.hid hb
    have g2 := (show Blk w1 b 75 (logV A' ps.length c' bm last begun) from HL.out.blk).cell 2
    have g3 := (show Blk w1 b 75 (logV A' ps.length c' bm last begun) from HL.out.blk).cell 3
    clear hb hl1 hl2 hg
    cases begun
    case false =>
      go_wp2_with fail
      go_ret2
      exact ⟨HB.out, .inr (.inl ⟨rfl, HGG.out, HS.out.lst⟩)⟩
    case true =>
      obtain ⟨y, hy⟩ : ∃ y : Nat, y = (last + 1) % 18446744073709551616 := ⟨_, rfl⟩
      have s1 : IntKind.u64.wrap ((last : Int) + 1) = (y : Int) := by
        rw [hy]
        have h0 := HL.out.l64
        rcases Nat.lt_or_ge (last + 1) 18446744073709551616 with h1 | h1
        · rw [IntWalk.u64_in _ (by omega), Nat.mod_eq_of_lt h1]; omega
        · have e : last = 18446744073709551615 := by omega
          subst e; decide
      have hdy : ((y : Int) != 0) = (y != 0) := by
        by_cases e : y = 0
        · subst e; rfl
        · have h1 : ((y : Int) != 0) = true := by simp; omega
          have h2 : (y != 0) = true := by simpa using e
          rw [h1, h2]
      have HY := Lib.hid hy
      have HDY := Lib.hid hdy
      clear hy hdy
      go_upto_region 6 with (fail)
      go_quiet (fail)
      go_wp2_with fail
      go_ret2
      have HBN : Below w.heap.size w (w1.drewN nq) := ⟨HB.out.os, HB.out.tape, HB.out.output, HB.out.size, HB.out.block⟩
      exact ⟨HBN, .inr (.inr ⟨last, y, by first | rfl | (rw [← HDY.out]; rfl), HGG.out, HS.out.lst, HY.out⟩)⟩
  · have HB := Lib.hid hb
    have HBAD := Lib.hid hbad
    have HK := Lib.hid hk
    have hk0 : (k != 0) = true := by simpa using hk
    clear hb hk hbad
    go_wp2_with fail
    go_ret2
    exact ⟨HB.out, .inl ⟨rfl, by rw [HBAD.out]; exact HK.out⟩⟩
/-- What talk.Open tells. -/
def OpenIs (w : World) (l : List Ms) (e : Ending) (w' : World) : Prop :=
  Below w.heap.size w w' ∧ ((∃ A c, e = .returned (.tuple #[.slice A (opnL l (prsOf l l.length l.length)).length c, .bool true]) ∧ (res l).2 = 0 ∧ Good l l.length ∧ w'.ownsRow w.heap.size 22 1 (.slice A (opnL l (prsOf l l.length l.length)).length c) (opnL l (prsOf l l.length l.length)).length ((opnL l (prsOf l l.length l.length)).map uv)) ∨
    e = .returned (.tuple #[.slice none 0 0, .bool false]) ∧ (res l).2 ≠ 0)
set_option maxRecDepth 100000 in
set_option maxHeartbeats 4000000 in
theorem open_any (hs : rpMs.sl w D A n c l) (hD : ∀ k, D k → k < w.heap.size) (hn : n ≤ 1000) :
    Calls Try.prog 18 #[.slice A n c] w (OpenIs w l) := by
  have HG := Lib.hid (goes_any hs hD hn)
  have HN := Lib.hid (Rp.sl_len hs).1
  have HSL := Lib.hid (show Sl rpMs w D A n c l from ⟨hs, hD⟩)
  clear hs hD
  go_enter Try.func18, Try.ntmps18
  go_wp2_with fail
  refine HG.out.mono ?_; rintro e w1 ⟨hb, ⟨b, rfl, hg, hl⟩ | ⟨i, k, rfl, hk, hbad⟩⟩
  · obtain ⟨A', c', bm, ps, f, last, begun, hl1, hl2⟩ := hl
    have HL := Lib.hid hl1
    have HS := Lib.hid hl2
    have HGG := Lib.hid hg
    have HB := Lib.hid hb
    have HP := Lib.hid (prIn_own hl1.own)
    have g0 := (show Blk w1 b 75 (logV A' ps.length c' bm last begun) from HL.out.blk).cell 0
    have HPN : Hid (ps.length ≤ 1000) := by
      show _ ≤ _
      have h1 := HS.out.len
      have h2 := HN.out
      omega
    have hpn := HPN.out
    clear hb hl1 hl2 hg
    go_wp2_with fail
    go_loopw [7, 23] (fun v7 v23 wr => ∃ (k : Nat) (As : Option Addr) (cs on : Nat), k ≤ ps.length ∧ v23 = .int .i64 (k : Int) ∧ v7 = .slice As on cs ∧ on ≤ k ∧ Hid (on = (opnL l (ps.take k)).length) ∧ Hid (wr.ownsRow w1.heap.size 22 1 (.slice As on cs) on ((opnL l (ps.take k)).map uv)) ∧ Hid (Below w1.heap.size w1 wr)) (fun _ v23 _ => ps.length - (intOf v23).toNat)
    case atStart => exact ⟨0, none, 0, 0, by omega, rfl, rfl, Nat.le_refl _, rfl, World.ownsRow_nil _ _ _ _, Below.refl _ _⟩
    case round =>
      obtain ⟨k, As, cs, on, hk, rfl, rfl, hok, HON, HOW, hbel⟩ := hrel
      have hzr : w1.heap.size ≤ wr.heap.size := hbel.out.size
      by_cases hkn : k < ps.length
      case neg =>
        obtain rfl : k = ps.length := by omega
        have hd : decide ((ps.length : Int) < (ps.length : Int)) = false := by simp
        have HT : Hid (ps.take ps.length = ps) := List.take_of_length_le (Nat.le_refl _)
        go_wp2_with fail
        go_ret2
        have hon := HON.out
        have how := HOW.out
        rw [HT.out] at hon how
        rw [HS.out.eqn] at hon how
        have hln := HN.out
        refine ⟨stepB HB.out hbel.out, .inl ⟨As, cs, ?_, by rw [res_good HGG.out], HGG.out, ?_⟩⟩
        · rw [← hon]; rfl
        · rw [← hon]; exact own_less how HB.out.size
      case pos =>
        have hd : decide ((k : Int) < (ps.length : Int)) = true := by simp; omega
        have hkI : (0 : Int) ≤ (k : Int) := by omega
        have hkI2 : (k : Int) < (ps.length : Int) := by omega
        have hpr := HP.out.below hbel.out
        obtain ⟨x, hx⟩ : ∃ x, ps[k]? = some x := ⟨_, List.getElem?_eq_getElem (by omega)⟩
        obtain ⟨g, hA', _, z0, z1⟩ := hpr.2 k x hx
        subst hA'
        obtain ⟨j, a⟩ := x
        have hjl := (HS.out.ps_lt hx).1
        have hjn : j < n := by have := HN.out; omega
        have hsr := keepS (keepS HSL.out HB.out) hbel.out
        obtain ⟨bo, off, m, hd', hA, hDb, hm, hmi, hc⟩ := ms_at hsr.1 hsr.2 hjn
        subst hA
        have m2 : wr.cell? ⟨bo, off + j * 14 + 2, none⟩ = some (.int .u64 (m.sq : Int)) := hc 2 _ rfl
        have hbl : bo < wr.heap.size := hsr.2 _ hDb
        have z0' : wr.cell? ⟨g, 0 + k * 2, none⟩ = some (.int .i64 (j : Int)) := by rw [Nat.zero_add]; exact z0
        have z1' : wr.cell? ⟨g, 0 + k * 2 + 1, none⟩ = some (.int .i64 a) := by rw [Nat.zero_add]; exact z1
        simp only at z0 z1
        have HOS := Lib.hid (opn_succ hx hm)
        have hjI : (0 : Int) ≤ (j : Int) := by omega
        have hjI2 : (j : Int) < (n : Int) := by omega
        have hsq := hmi.sq1
        have hba := below1 wr (.cells #[.int .i64 (j : Int), .int .i64 a] 54)
        have HBA := Lib.hid (stepB hbel.out hba)
        have HKA := Lib.hid (blk11 wr 54 #[.int .i64 (j : Int), .int .i64 a])
        have HOA := Lib.hid (keepO HOW.out hba)
        have m2' := (hba.cell (p := ⟨bo, off + j * 14 + 2, none⟩) hbl).trans m2
        clear hc hx hm hmi hsr hDb hpr hba
        go_upto_region 8 with (fail)
        clear z0 z1 z0' z1' m2
        generalize World.alloc wr _ = w4 at *
        have y0 := (show Blk w4 wr.heap.size 54 #[.int .i64 (j : Int), .int .i64 a] from HKA.out).cell 0
        have y1 := (show Blk w4 wr.heap.size 54 #[.int .i64 (j : Int), .int .i64 a] from HKA.out).cell 1
        by_cases ha : a < 0
        case neg =>
          have hda : decide (a < 0) = false := by simpa using ha
          have HON2 : Hid (on = (opnL l (ps.take (k + 1))).length) := by
            show _ = _
            rw [HOS.out, if_neg ha, List.append_nil]; exact HON.out
          have HOW2 : Hid (w4.ownsRow w1.heap.size 22 1 (.slice As on cs) on ((opnL l (ps.take (k + 1))).map uv)) := by
            show World.ownsRow _ _ _ _ _ _ _
            rw [HOS.out, if_neg ha, List.append_nil]; exact HOA.out
          clear ha
          go_wp2_with fail
          go_roundw
          case rel => exact ⟨k + 1, As, cs, on, by omega, by go_num, rfl, by omega, HON2, HOW2, HBA⟩
          case measure => simp [intOf]; omega
        case pos =>
          have hda : decide (a < 0) = true := by simpa using ha
          have HAN := Lib.hid ha
          have hm63 : on + 1 ≤ maxLen := by unfold maxLen; omega
          have hz4 : w1.heap.size ≤ w4.heap.size := HBA.out.size
          have HBB := Lib.hid (stepB HBA.out (below1 w4 (.cells #[.int .u64 (m.sq : Int)] 22)))
          have hz1 := HB.out.size
          clear ha
          go_wp2_with (at_builtin; refine wpList_app rfl (.tmp 30) (.tmp 37) _ rfl elem64 rfl (HOA.out.alloc _) rfl (Src.new w4 (.int .u64 (m.sq : Int)) _ rfl) hm63 (by omega) (by simp; omega) ?_; intro A6 c6 w6 ho6 hg6 hat6
                       have HO6 := Lib.hid ho6
                       have HB6 := Lib.hid (HBB.out.grown hg6 HBB.out.size (fun q hq => ((HOA.out.alloc (.cells #[.int .u64 (m.sq : Int)] 22)).lt q hq).1))
                       clear ho6 hg6 hat6)
          have HON2 : Hid (on + 1 = (opnL l (ps.take (k + 1))).length) := by
            show _ = _
            rw [HOS.out, if_pos HAN.out, List.length_append, ← HON.out]; rfl
          have HOW2 : Hid (w6.ownsRow w1.heap.size 22 1 (.slice A6 (on + 1) c6) (on + 1) ((opnL l (ps.take (k + 1))).map uv)) := by
            show World.ownsRow _ _ _ _ _ _ _
            rw [HOS.out, if_pos HAN.out, List.map_append]; exact HO6.out
          go_roundw
          case rel => exact ⟨k + 1, A6, c6, on + 1, by omega, by go_num, rfl, by omega, HON2, HOW2, HB6⟩
          case measure => simp [intOf]; omega
  · have HB := Lib.hid hb
    have HBAD := Lib.hid hbad
    have HK := Lib.hid hk
    have hk0 : (k != 0) = true := by simpa using hk
    clear hb hk hbad
    go_wp2_with fail
    go_ret2
    exact ⟨HB.out, .inr ⟨rfl, by rw [HBAD.out]; exact HK.out⟩⟩
end
end Go.Proofs.Ytlfieiiegokejaa
