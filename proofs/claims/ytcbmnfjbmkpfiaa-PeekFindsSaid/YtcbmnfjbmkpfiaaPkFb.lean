/- The literals of peek.Of and peek.Streams. -/
import Derived.Test.YtcbmnfjbmkpfiaaPkEc
import Derived.Test.YtcbmnfjbmkpfiaaPkF
namespace Go.Proofs.Ytcbmnfjbmkpfiaa
open Go.ChangeShapes Go.WideShapes Go.ChangeAt Go.RowKit
set_option linter.unusedVariables false
theorem KeepT.refl (w : World) : KeepT w w := fun _ _ _ h _ => h
theorem KeepT.trans {a b c : World} (h : KeepT a b) (k : KeepT b c) : KeepT a c := fun g t cs hb ht => k g t cs (h g t cs hb ht) ht
theorem KeepT.below {w w' : World} (h : Below w.heap.size w w') : KeepT w w' := fun _ _ _ hb _ => keepB hb h
theorem KeepT.grown {w w' : World} {base n c : Nat} {A : Option Addr} {xs : List Value} (ho : w.ownsRow base 22 1 (.slice A n c) n xs) (h : w.grownBy w' (Value.slice A n c).ownBlock) : KeepT w w' := fun g t cs hb ht =>
  hb.grown h (fun e => by
    obtain ⟨cs', hcs⟩ := own_type ho e.symm
    have := (blk_type hb hcs).symm
    subst this
    rcases ht with h | h | h <;> exact absurd h (by decide))
theorem KeepT.set {w : World} {g0 : Nat} {cs0 : Array Value} (hb0 : Blk w g0 48 cs0) (i : Nat) (v : Value) : KeepT w (w.setCell ⟨g0, i, none⟩ v) := fun g t cs hb ht =>
  hb.far (p := ⟨g0, i, none⟩) (fun e => by
    have e' : g = g0 := e
    subst e'
    have := blk_type hb hb0
    subst this
    rcases ht with h | h | h <;> exact absurd h (by decide)) v
/-- A row of numbers that a variable holds. -/
def OutIs (base go : Nat) (l : List Nat) (u : World) : Prop := ∃ (Ao : Option Addr) (no co : Nat), Blk u go 48 #[.slice Ao no co] ∧ u.ownsRow base 22 1 (.slice Ao no co) no (l.map uv)
theorem OutIs.below {base go : Nat} {l : List Nat} {u u' : World} (h : OutIs base go l u) (hb : Below u.heap.size u u') : OutIs base go l u' := by
  obtain ⟨Ao, no, co, h1, h2⟩ := h
  exact ⟨Ao, no, co, keepB h1 hb, keepO h2 hb⟩
section
variable {D : Dom} {A : Option Addr} {n c p s xs gs go base : Nat} {l : List Nat} {w : World}
set_option maxRecDepth 100000 in
set_option maxHeartbeats 4000000 in
theorem of1_any (hgs : Blk w gs 22 #[.int .u64 (s : Int)]) (hsb : gs < base) (hbz : base ≤ w.heap.size) (hgo : base ≤ go) (ho : OutIs base go l w) (hl : l.length ≤ 100000) (hp : p ≤ 18446744073709551615) :
    Calls Try.prog 53 #[.int .u64 (p : Int), .agg (lkV xs A n c), .pointer (some ⟨gs, 0, none⟩), .pointer (some ⟨go, 0, none⟩)] w fun e w' => e = .returned (.tuple #[]) ∧ OutIs base go (l ++ if xs = s then [p] else []) w' ∧ Below base w w' ∧ KeepT w w' := by
  obtain ⟨Ao, no, co, hg, hrow⟩ := ho
  have hb1 := below1 w (.cells (lkV xs A n c) 57)
  have HB1 := Lib.hid hb1
  have K1 := Lib.hid (blk11 w 57 (lkV xs A n c))
  have S1 := Lib.hid (keepB hgs hb1)
  have G1 := Lib.hid (keepB hg hb1)
  have O1 := Lib.hid (keepO hrow hb1)
  have hlen : l.length = no := by have := hrow.1; simpa using this
  have HLEN := Lib.hid hlen
  have hno : no ≤ 100000 := by omega
  have HBZ := Lib.hid hbz
  have HGO := Lib.hid hgo
  have HZ1 := Lib.hid (Nat.le_trans hbz hb1.size)
  clear hgs hg hrow hb1 hlen hl hbz
  go_enter Try.func53, Try.ntmps53
  go_upto_region 1 with (fail)
  obtain ⟨gx, hgx⟩ : ∃ gx, gx = w.heap.size := ⟨_, rfl⟩
  rw [← hgx] at K1 ⊢
  clear hgx
  generalize World.alloc w _ = w1 at *
  have k0 := (show Blk w1 gx 57 (lkV xs A n c) from K1.out).cell 0
  have s0 := (show Blk w1 gs 22 #[.int .u64 (s : Int)] from S1.out).cell 0
  by_cases h : xs = s
  case neg =>
    have hd : ((xs : Int) == (s : Int)) = false := by rw [Bool.eq_false_iff]; intro h'; exact h (by have := beq_iff_eq.1 h'; omega)
    go_wp2_with fail
    go_end0
    refine ⟨rfl, ⟨Ao, no, co, G1.out, ?_⟩, HB1.out.mono HBZ.out, KeepT.below HB1.out⟩
    exact O1.out
  case pos =>
    subst h
    have g0 := (show Blk w1 go 48 #[.slice Ao no co] from G1.out).cell 0
    have hba := below1 w1 (.cells #[.int .u64 (p : Int)] 22)
    have G2 := Lib.hid (keepB (show Blk w1 go 48 #[.slice Ao no co] from G1.out) hba)
    have O2 := Lib.hid (keepO O1.out hba)
    have HB2 := Lib.hid (stepB HB1.out hba)
    have HSRC := Lib.hid (Src.new w1 (.int .u64 (p : Int)) 22 rfl)
    have HZ2 := Lib.hid (Nat.le_trans HZ1.out hba.size)
    have HNO : Hid (some go ≠ (Value.slice Ao no co).ownBlock) := fun e => by
      obtain ⟨cs', hcs⟩ := own_type O1.out e.symm
      exact absurd (blk_type (show Blk w1 go 48 #[.slice Ao no co] from G1.out) hcs) (by decide)
    clear hba
    go_wp2_with
      (at_builtin; refine wpList_app rfl (.tmp 10) (.tmp 12) _ rfl elem64 rfl O2.out rfl HSRC.out (by unfold maxLen; omega) (by omega) HZ2.out ?_; intro A6 c6 w6 ho6 hg6 hat6
       have O6 := Lib.hid ho6
       have G6 := Lib.hid ((show Blk _ go 48 #[.slice Ao no co] from G2.out).grown hg6 HNO.out)
       have T6 := Lib.hid (KeepT.grown O2.out hg6)
       have HB6 := Lib.hid ((HB2.out.mono HBZ.out).grown hg6 HZ2.out (fun q hq => (O2.out.lt q hq).1))
       have y0 := (show Blk w6 go 48 #[.slice Ao no co] from G6.out).cell 0
       have yf := (show Blk w6 go 48 #[.slice Ao no co] from G6.out).frozen 0
       clear ho6 hg6 hat6)
    go_end0
    have G7 : Blk (w6.setCell ⟨go, 0, none⟩ (.slice A6 (no + 1) c6)) go 48 #[.slice A6 (no + 1) c6] := (show Blk w6 go 48 #[.slice Ao no co] from G6.out).put 0 _
    refine ⟨rfl, ⟨A6, no + 1, c6, G7, ?_⟩, HB6.out.setCell (p := ⟨go, 0, none⟩) HGO.out _, (KeepT.below HB2.out).trans (T6.out.trans (KeepT.set (show Blk w6 go 48 #[.slice Ao no co] from G6.out) 0 _))⟩
    rw [List.map_append]
    exact own_sameT O6.out (fun k cs hk _ _ => Below.heap_setCell w6 ⟨go, 0, none⟩ _ k (fun e => by
      have e' : k = go := e
      subst e'
      exact absurd (blk_type (show Blk w6 k 48 _ from G6.out) hk) (by decide)))
set_option maxRecDepth 100000 in
set_option maxHeartbeats 4000000 in
theorem streams1_any (hbz : base ≤ w.heap.size) (hgo : base ≤ go) (ho : OutIs base go l w) (hl : l.length ≤ 100000) (hxs : xs ≤ 18446744073709551615) :
    Calls Try.prog 55 #[.int .u64 (p : Int), .agg (lkV xs A n c), .pointer (some ⟨go, 0, none⟩)] w fun e w' => e = .returned (.tuple #[]) ∧ OutIs base go (l ++ [xs]) w' ∧ Below base w w' ∧ KeepT w w' := by
  obtain ⟨Ao, no, co, hg, hrow⟩ := ho
  have hb1 := below1 w (.cells (lkV xs A n c) 57)
  have HB1 := Lib.hid hb1
  have K1 := Lib.hid (blk11 w 57 (lkV xs A n c))
  have G1 := Lib.hid (keepB hg hb1)
  have O1 := Lib.hid (keepO hrow hb1)
  have hlen : l.length = no := by have := hrow.1; simpa using this
  have HLEN := Lib.hid hlen
  have hno : no ≤ 100000 := by omega
  have HBZ := Lib.hid hbz
  have HGO := Lib.hid hgo
  have HZ1 := Lib.hid (Nat.le_trans hbz hb1.size)
  clear hg hrow hb1 hlen hl hbz
  go_enter Try.func55, Try.ntmps55
  go_upto_region 1 with (fail)
  obtain ⟨gx, hgx⟩ : ∃ gx, gx = w.heap.size := ⟨_, rfl⟩
  rw [← hgx] at K1 ⊢
  clear hgx
  generalize World.alloc w _ = w1 at *
  have k0 := (show Blk w1 gx 57 (lkV xs A n c) from K1.out).cell 0
  have g0 := (show Blk w1 go 48 #[.slice Ao no co] from G1.out).cell 0
  have hba := below1 w1 (.cells #[.int .u64 (xs : Int)] 22)
  have G2 := Lib.hid (keepB (show Blk w1 go 48 #[.slice Ao no co] from G1.out) hba)
  have O2 := Lib.hid (keepO O1.out hba)
  have HB2 := Lib.hid (stepB HB1.out hba)
  have HSRC := Lib.hid (Src.new w1 (.int .u64 (xs : Int)) 22 rfl)
  have HZ2 := Lib.hid (Nat.le_trans HZ1.out hba.size)
  have HNO : Hid (some go ≠ (Value.slice Ao no co).ownBlock) := fun e => by
    obtain ⟨cs', hcs⟩ := own_type O1.out e.symm
    exact absurd (blk_type (show Blk w1 go 48 #[.slice Ao no co] from G1.out) hcs) (by decide)
  clear hba
  go_wp2_with
    (at_builtin; refine wpList_app rfl (.tmp 5) (.tmp 8) _ rfl elem64 rfl O2.out rfl HSRC.out (by unfold maxLen; omega) (by omega) HZ2.out ?_; intro A6 c6 w6 ho6 hg6 hat6
     have O6 := Lib.hid ho6
     have G6 := Lib.hid ((show Blk _ go 48 #[.slice Ao no co] from G2.out).grown hg6 HNO.out)
     have T6 := Lib.hid (KeepT.grown O2.out hg6)
     have HB6 := Lib.hid ((HB2.out.mono HBZ.out).grown hg6 HZ2.out (fun q hq => (O2.out.lt q hq).1))
     have y0 := (show Blk w6 go 48 #[.slice Ao no co] from G6.out).cell 0
     have yf := (show Blk w6 go 48 #[.slice Ao no co] from G6.out).frozen 0
     clear ho6 hg6 hat6)
  go_end0
  have G7 : Blk (w6.setCell ⟨go, 0, none⟩ (.slice A6 (no + 1) c6)) go 48 #[.slice A6 (no + 1) c6] := (show Blk w6 go 48 #[.slice Ao no co] from G6.out).put 0 _
  refine ⟨rfl, ⟨A6, no + 1, c6, G7, ?_⟩, HB6.out.setCell (p := ⟨go, 0, none⟩) HGO.out _, (KeepT.below HB2.out).trans (T6.out.trans (KeepT.set (show Blk w6 go 48 #[.slice Ao no co] from G6.out) 0 _))⟩
  rw [List.map_append]
  exact own_sameT O6.out (fun k cs hk _ _ => Below.heap_setCell w6 ⟨go, 0, none⟩ _ k (fun e => by
    have e' : k = go := e
    subst e'
    exact absurd (blk_type (show Blk w6 k 48 _ from G6.out) hk) (by decide)))
end
end Go.Proofs.Ytcbmnfjbmkpfiaa
