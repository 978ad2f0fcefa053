/- (*Chain).Places: the iterator. -/
import Derived.RangeFuncNested
import Derived.RangeFuncBound
import Derived.RangeFuncCalls
import Derived.RangeFuncLeaves
import Derived.RangeFuncBox
import Derived.Shelf.Abstract
import Derived.Shelf.RegionOpen
import Derived.WalkKit
import Derived.OwnWalkIn
import Derived.TacticsInMore
import Derived.LoopNIn
import Derived.LoopIn
import Derived.Maps.OwnIn
import Derived.Test.YtkffgmpkpafkmaaChT
namespace Go.Proofs.Ytkffgmpkpafkmaa
open Go.ChangeShapes Go.WideShapes Go.ChangeAt Go.RowKit Go.Maps Go.Shelf
set_option linter.unusedVariables false
attribute [local go_sem] Oper.semAt_some
/-- The blocks of S lie as they lay. -/
def KeepS (S : Dom) (a b : World) : Prop := a.heap.size ≤ b.heap.size ∧ ∀ k, S k → b.heap[k]? = a.heap[k]?
theorem KeepS.refl (S : Dom) (a : World) : KeepS S a a := ⟨Nat.le_refl _, fun _ _ => rfl⟩
theorem KeepS.trans {S : Dom} {a b c : World} (h : KeepS S a b) (k : KeepS S b c) : KeepS S a c := ⟨Nat.le_trans h.1 k.1, fun j hj => (k.2 j hj).trans (h.2 j hj)⟩
/-- Places below n with the key x, falling. -/
def pls (l : List UInt8) (n x : Nat) : List (Fin 65536) := (down l n x).map (fun p => Fin.ofNat 65536 p)
abbrev encF (x : Fin 65536) : Array Value := #[.int .i64 (x.val : Int)]
theorem pls_zero {l : List UInt8} {t x q : Nat} (h : lastOf l t x = 0) : pls l (min q t) x = [] := by
  rcases down_last l x t with ⟨_, h2⟩ | ⟨p, h1, _⟩
  · unfold pls
    rw [← down_ahead, h2]
    rfl
  · omega
theorem pls_step {l : List UInt8} {t x q p : Nat} (h : lastOf l t x = p + 1) : p < t ∧ p + 4 ≤ l.length ∧ prevOf l p = lastOf l p x ∧ pls l (min q t) x = (if p < q then [Fin.ofNat 65536 p] else []) ++ pls l (min q p) x := by
  rcases down_last l x t with ⟨h1, _⟩ | ⟨p', h1, h2, h3, h4⟩
  · omega
  · obtain rfl : p' = p := by omega
    obtain ⟨a1, a2⟩ := hit_iff.1 h3
    refine ⟨h2, a1, by unfold prevOf; rw [if_pos a1, a2], ?_⟩
    unfold pls
    rw [← down_ahead, h4, List.filter_cons]
    split
    · rename_i hq
      have hq' : p' < q := by simpa using hq
      rw [if_pos hq', List.map_cons, ← down_ahead]; rfl
    · rename_i hq
      have hq' : ¬ p' < q := by simpa using hq
      rw [if_neg hq', ← down_ahead]; rfl
section
variable {U : Dom} {n yl Bc Ba B g m : Nat} {l : List UInt8} {S : Dom} {J Jx : List (Fin 65536) → World → Prop} {W : World}
set_option maxRecDepth 100000 in
set_option maxHeartbeats 4000000 in
theorem places1_in (q : Nat) (hq : q + 4 ≤ l.length) (hl : l.length ≤ 60000)
    (hY : ∀ pre x W, J pre W → pre.length < (pls l (min q m) (keyAt l q)).length → YieldAt Fence.wide (n - 1) Try.prog yl (encF x) W fun e W' =>
      (e = .returned (.bool true) ∧ J (pre ++ [x]) W' ∧ KeepS S W W') ∨ (e = .returned (.bool false) ∧ Jx (pre ++ [x]) W'))
    {w0 : World} (hch : Chn U w0 B g l m) (hW : Below w0.heap.size w0 W) (hSU : ∀ k, U k → B ≤ k → k < w0.heap.size → S k) (hSW : ∀ k, S k → k < W.heap.size) (hSc : S Bc) (hSa : S Ba)
    (hc0 : W.cell? ⟨Bc, 0, none⟩ = some (.pointer (some ⟨g, 0, none⟩))) (hc1 : W.cell? ⟨Ba, 0, none⟩ = some (.int .i64 (q : Int)))
    (hJB : ∀ pre a b, J pre a → W.heap.size ≤ a.heap.size → Below a.heap.size a b → J pre b) (h0 : J [] W) :
    CallsIn Fence.wide n Try.prog 31 #[.func (.yield yl) #[] #[], .pointer (some ⟨Bc, 0, none⟩), .pointer (some ⟨Ba, 0, none⟩)] W fun e W' => (∃ v, e = .returned v) ∧
      ((∃ xs, xs = pls l (min q m) (keyAt l q) ∧ J xs W') ∨ (∃ pre, pre <+: pls l (min q m) (keyAt l q) ∧ Jx pre W')) := by
  obtain ⟨Ab, cb, mb, Ap, cp, Db, Dm, h1, h2, h3, hu, h4, h6, h7, h8, h9, h10, h11, h12, hml⟩ := hch
  have hgS := Lib.hid (hSU g hu.2.1 h8 h1.lt)
  have hpS : Hid (∀ k, (Value.slice Ap m cp).ownBlock = some k → S k) := fun k hk => hSU k (hu.2.2.2 k hk) (h7.lt k hk).1 (h7.lt k hk).2
  replace h7 := ownsRow_same (w' := W) h7 (fun k hk => hW.block k (h7.lt k hk).2)
  replace h4 : W.ownsMap Try.prog 24 El mb m Dm := by obtain ⟨es, clock, a1, a2⟩ := h4; exact ⟨es, clock, (hW.block mb (Array.getElem?_eq_some_iff.1 a1).1).trans a1, a2⟩
  replace h2 := Rp.sl_below h2 hW (fun k hk => (h3 k hk).2.1)
  have h3' : ∀ k, Db k → k < W.heap.size := fun k hk => Nat.lt_of_lt_of_le (h3 k hk).2.1 hW.size
  replace h1 := Blk.below h1 hW h1.lt
  have e0 : ∀ qq : Gr W.heap.size W, qq.val.cell? ⟨Bc, 0, none⟩ = some (.pointer (some ⟨g, 0, none⟩)) := fun qq => (qq.is.cell (p := ⟨Bc, 0, none⟩) (hSW _ hSc)).trans hc0
  have e1 : ∀ qq : Gr W.heap.size W, qq.val.cell? ⟨Ba, 0, none⟩ = some (.int .i64 (q : Int)) := fun qq => (qq.is.cell (p := ⟨Ba, 0, none⟩) (hSW _ hSa)).trans hc1
  have e2 : ∀ qq : Gr W.heap.size W, qq.val.cell? ⟨g, 0, none⟩ = some (.slice Ab l.length cb) := fun qq => (Blk.below h1 qq.is h1.lt).cell 0
  have HKEY := Lib.hid (fun qq : Gr W.heap.size W => key_ok q (Rp.sl_below h2 qq.is h3') hq)
  obtain ⟨x, hx⟩ : ∃ x, x = keyAt l q := ⟨_, rfl⟩
  have hxl : Hid (x < 4294967296) := by show x < 4294967296; rw [hx]; exact keyAt_lt l q
  have hlook : Hid (Dm.atKey (.int .u32 (x : Int)) (.lit (.int .i64 0)) = .lit (.int .i64 (lastOf l m x : Int))) := h6.look x hxl.out
  obtain ⟨v0, hv0⟩ : ∃ v0, v0 = lastOf l m x := ⟨_, rfl⟩
  rw [← hx] at HKEY hY ⊢
  rw [← hv0] at hlook
  have HX := Lib.hid (u32_key x hxl.out)
  have HY := Lib.hid hY
  have HV := Lib.hid hv0
  have H1 := Lib.hid h1
  have H4 := Lib.hid h4
  have H7 := Lib.hid h7
  have HC0 := Lib.hid hc0
  have HC1 := Lib.hid hc1
  have HJB := Lib.hid hJB
  have HJ0 := Lib.hid h0
  have HSW := Lib.hid hSW
  have HS2 := Lib.hid hSc
  have HS3 := Lib.hid hSa
  have k0 : W.cell? ⟨Bc, 0, none⟩ = some (.pointer (some ⟨g, 0, none⟩)) := hc0
  clear h1 h2 h3 hu h4 h6 h7 h8 h9 h10 h11 h12 hx hv0 hY hc0 hc1 hJB h0 hSW hSU hSc hSa h3' hW
  refine callsIn_of_wp Try.func31 rfl trivial ?_ rfl
  simp only [Try.ntmps31, List.size_toArray, List.length_cons, List.length_nil, Nat.reduceAdd, Nat.reduceSub, Array.replicate_succ, Array.replicate_zero, List.push_toArray, List.append_toArray, List.nil_append, List.cons_append]
  gi_wp2
  refine wpIn_wide.2 ?_
  refine wp_region_grow (by kernel_rfl) (by kernel_rfl) W.heap.size ?_
  repeat (first | go_big_quiet_step ((go_at_call 11; exact Gr.same _ (HKEY.out _))) | quiet_step ((go_at_call 11; exact Gr.same _ (HKEY.out _))))
  refine wpQuiet_nil ?_
  rintro w3 ⟨⟨_, hb3⟩, rfl⟩
  clear e0 e1 e2 k0
  have f0 : w3.cell? ⟨Bc, 0, none⟩ = some (.pointer (some ⟨g, 0, none⟩)) := (hb3.cell (p := ⟨Bc, 0, none⟩) (HSW.out _ HS2.out)).trans HC0.out
  have f1 : w3.cell? ⟨g, 1, none⟩ = some (.map (some mb)) := (Blk.below (show Blk _ _ _ _ from H1.out) hb3 (show Blk _ _ _ _ from H1.out).lt).cell 1
  have HM3 := Lib.hid (show w3.ownsMap Try.prog 24 El mb m Dm by obtain ⟨es, clock, a1, a2⟩ := H4.out; exact ⟨es, clock, (hb3.block mb (Array.getElem?_eq_some_iff.1 a1).1).trans a1, a2⟩)
  have HJ3 := Lib.hid (HJB.out [] W w3 HJ0.out (Nat.le_refl _) hb3)
  have HK3 : Hid (KeepS S W w3) := ⟨hb3.size, fun k hk => hb3.block k (HSW.out k hk)⟩
  clear hb3
  gi_wp2_with (gi_at_lookup; refine wpListIn_lookup_own_int w3 rfl (.tmp 24) (.tmp 25) 52 rfl 24 3 .i64 keyedU Try.underlying52 Try.underlying3 (Try.zeroValue3 _) mb m Dm rfl HM3.out (.int .u32 (x : Int)) _ rfl HX.out ?_; intro cc hat hwc; have hcc : cc = (v0 : Int) := (by rw [hlook.out] at hat; injection hat with hat; injection hat with _ hat; exact hat.symm); subst hcc; clear hat hwc)
  gi_loopw [6] (fun k wr => ∃ (t v : Nat) (pre : List (Fin 65536)), k = .int .i64 (v : Int) ∧ Hid (v = lastOf l t x) ∧ v ≤ t ∧ t ≤ m ∧ Hid (pre ++ pls l (min q t) x = pls l (min q m) x) ∧ Hid (J pre wr) ∧ Hid (KeepS S W wr)) (fun k _ => (intOf k).toNat)
  case atStart => exact ⟨m, v0, [], rfl, HV.out, by have := HV.out; have := lastOf_le l x m; omega, Nat.le_refl _, rfl, HJ3.out, HK3.out⟩
  case round =>
    obtain ⟨t, v, pre, rfl, hv, hvt, htm, hpre, hJ, hK⟩ := hrel
    clear f0 f1
    rcases Nat.eq_zero_or_pos v with hv0 | hv0
    · subst hv0
      gi_wp2
      go_end0
      exact ⟨⟨_, rfl⟩, .inl ⟨pre, by have := hpre.out; rw [pls_zero hv.out.symm, List.append_nil] at this; exact this, hJ.out⟩⟩
    · obtain ⟨p, rfl⟩ : ∃ p, v = p + 1 := ⟨v - 1, by omega⟩
      obtain ⟨hpt, hp4, hprev, hpl⟩ := pls_step (q := q) hv.out.symm
      have HPL := Lib.hid hpl
      have HPR := Lib.hid hprev
      have hpm : p < m := by omega
      have hpq : p ≤ 60000 := by omega
      obtain ⟨pb, hAp, hpB, hpbl, hpfz, hpc, _⟩ := own_block H7.out (by omega)
      subst hAp
      have hpcell : Hid (W.cell? ⟨pb, p, none⟩ = some (.int .i64 (prevOf l p : Int))) := hpc p _ (by rw [List.getElem?_map, prevs_at hpm]; rfl)
      have hpbS : Hid (S pb) := hpS.out pb rfl
      have hpn := prevOf_le l p
      obtain ⟨y, hy⟩ : ∃ y, y = prevOf l p := ⟨_, rfl⟩
      rw [← hy] at hpcell hpn
      have HY2 := Lib.hid hy
      have hcell : Hid (∀ w', KeepS S W w' → w'.cell? ⟨Bc, 0, none⟩ = some (.pointer (some ⟨g, 0, none⟩)) ∧ w'.cell? ⟨Ba, 0, none⟩ = some (.int .i64 (q : Int)) ∧ w'.cell? ⟨g, 2, none⟩ = some (.slice (some ⟨pb, 0, none⟩) m cp) ∧ w'.cell? ⟨pb, p, none⟩ = some (.int .i64 (y : Int))) := fun w' hk =>
        ⟨(World.cell?_of_block (a := ⟨Bc, 0, none⟩) (hk.2 Bc HS2.out)).trans HC0.out, (World.cell?_of_block (a := ⟨Ba, 0, none⟩) (hk.2 Ba HS3.out)).trans HC1.out, (World.cell?_of_block (a := ⟨g, 2, none⟩) (hk.2 g hgS.out)).trans ((show Blk _ _ _ _ from H1.out).cell 2), (World.cell?_of_block (a := ⟨pb, p, none⟩) (hk.2 pb hpbS.out)).trans hpcell.out⟩
      obtain ⟨f0, f1, f2, f3⟩ := hcell.out wr hK.out
      clear hpl hprev hpc hpfz hy hpB hpbl
      have hgt : decide ((65536 : Int) < (q : Int) - (p : Int)) = false := by simp; omega
      by_cases hlt : p < q
      · have hd : decide ((p : Int) < (q : Int)) = true := by simp; omega
        have hpl2 : Hid (pls l (min q t) x = Fin.ofNat 65536 p :: pls l (min q p) x) := by have := HPL.out; rw [if_pos hlt] at this; exact this
        obtain ⟨fx, hfx⟩ : ∃ fx, fx = Fin.ofNat 65536 p := ⟨_, rfl⟩
        have hfv : fx.val = p := by rw [hfx]; exact Nat.mod_eq_of_lt (by omega)
        rw [← hfx] at hpl2
        obtain ⟨fn, tmps, assign, body, hyy, hR⟩ := HY.out pre fx wr hJ.out (by have := hpre.out; rw [hpl2.out] at this; rw [← this]; simp)
        simp only [encF, hfv] at hyy
        have HR := Lib.hid hR
        clear hR hfx hfv
        gi_wp2
        refine ⟨fun h => (by cases h), ?_⟩
        refine HR.out.mono ?_
        rintro e w4 (⟨rfl, hJ4, hk4⟩ | ⟨rfl, hJx4⟩)
        · have HJ4 := Lib.hid hJ4
          have HK4 := Lib.hid (hK.out.trans hk4)
          clear hJ4 hk4 f0 f1 f2 f3
          obtain ⟨f0, f1, f2, f3⟩ := hcell.out w4 HK4.out
          gi_wp2
          go_roundw
          case rel => exact ⟨p, y, pre ++ [fx], rfl, by show y = lastOf l p x; rw [HY2.out, HPR.out], hpn, by omega, by show _ = _; have := hpre.out; rw [hpl2.out] at this; rw [List.append_assoc]; exact this, HJ4.out, HK4.out⟩
          case measure => simp [intOf] <;> omega
        · have HJx := Lib.hid hJx4
          clear hJx4
          gi_wp2
          refine bodyPost_ret (results_none rfl _ _ _) rfl ?_
          exact ⟨⟨_, rfl⟩, .inr ⟨pre ++ [fx], ⟨pls l (min q p) x, by have := hpre.out; rw [hpl2.out] at this; rw [List.append_assoc]; exact this⟩, HJx.out⟩⟩
      · have hd : decide ((p : Int) < (q : Int)) = false := by simp; omega
        have hpl2 : Hid (pls l (min q t) x = pls l (min q p) x) := by have := HPL.out; rw [if_neg hlt] at this; exact this
        gi_wp2
        refine ⟨fun _ h => (by cases h), ?_⟩
        gi_wp2
        go_roundw
        case rel => exact ⟨p, y, pre, rfl, by show y = lastOf l p x; rw [HY2.out, HPR.out], hpn, by omega, by show _ = _; have := hpre.out; rw [hpl2.out] at this; exact this, hJ.out, hK.out⟩
        case measure => simp [intOf] <;> omega
end
end Go.Proofs.Ytkffgmpkpafkmaa
