/- The iterator's contract; Near. -/
import Derived.Test.YtkffgmpkpafkmaaChP
import Derived.Maps.AppendAt
namespace Go.Proofs.Ytkffgmpkpafkmaa
open Go.ChangeShapes Go.WideShapes Go.ChangeAt Go.RowKit Go.Maps Go.Shelf
set_option linter.unusedVariables false
attribute [local go_sem] Oper.semAt_some
/-- What Places tells. -/
def placesL (l : List UInt8) (m : Nat) (a : Int) : List (Fin 65536) := if 0 ≤ a ∧ a + 4 ≤ l.length then pls l (min a.toNat m) (keyAt l a.toNat) else []
/-- A pointer to a chain, or nil; L: what it tells of place a. -/
def ChP (U : Dom) (w : World) (B : Nat) (pv : Option Addr) (l : List UInt8) (m : Nat) (a : Int) (L : List (Fin 65536)) : Prop :=
  (pv = none ∧ L = []) ∨ ∃ g, pv = some ⟨g, 0, none⟩ ∧ Chn U w B g l m ∧ L = placesL l m a ∧ l.length ≤ 60000
theorem below_grown {w w' : World} (h : Below w.heap.size w w') : w.grownBy w' none := ⟨h.os, h.tape, h.output, h.size, fun k hk _ => h.block k hk⟩
section
variable {U : Dom} {n yl Bc Ba B g m : Nat} {l : List UInt8} {S : Dom} {J Jx : List (Fin 65536) → World → Prop} {W : World}
set_option maxRecDepth 100000 in
set_option maxHeartbeats 4000000 in
theorem places_nil_in (hc0 : W.cell? ⟨Bc, 0, none⟩ = some (.pointer none)) :
    CallsIn Fence.wide n Try.prog 31 #[.func (.yield yl) #[] #[], .pointer (some ⟨Bc, 0, none⟩), .pointer (some ⟨Ba, 0, none⟩)] W fun e W' => (∃ v, e = .returned v) ∧ Below W.heap.size W W' := by
  refine callsIn_of_wp Try.func31 rfl trivial ?_ rfl
  simp only [Try.ntmps31, List.size_toArray, List.length_cons, List.length_nil, Nat.reduceAdd, Nat.reduceSub, Array.replicate_succ, Array.replicate_zero, List.push_toArray, List.append_toArray, List.nil_append, List.cons_append]
  gi_wp2
  refine bodyPost_ret (results_none rfl _ _ _) rfl ?_
  exact ⟨⟨_, rfl⟩, Below.refl _ _⟩
set_option maxRecDepth 100000 in
set_option maxHeartbeats 4000000 in
theorem places_bad_in (a : Int) (a0 : -9223372036854775808 ≤ a) (a1 : a ≤ 9223372036854775807) (ha : a < 0 ∨ (l.length : Int) < a + 4) (hch : Chn U W B g l m) (hcb : Bc < W.heap.size) (hca : Ba < W.heap.size)
    (hc0 : W.cell? ⟨Bc, 0, none⟩ = some (.pointer (some ⟨g, 0, none⟩))) (hc1 : W.cell? ⟨Ba, 0, none⟩ = some (.int .i64 a)) :
    CallsIn Fence.wide n Try.prog 31 #[.func (.yield yl) #[] #[], .pointer (some ⟨Bc, 0, none⟩), .pointer (some ⟨Ba, 0, none⟩)] W fun e W' => (∃ v, e = .returned v) ∧ Below W.heap.size W W' := by
  obtain ⟨Ab, cb, mb, Ap, cp, Db, Dm, h1, h2, h3, hu, h4, h6, h7, h8, h9, h10, h11, h12, hml⟩ := hch
  have e0 : ∀ qq : Gr W.heap.size W, qq.val.cell? ⟨Bc, 0, none⟩ = some (.pointer (some ⟨g, 0, none⟩)) := fun qq => (qq.is.cell (p := ⟨Bc, 0, none⟩) hcb).trans hc0
  have e1 : ∀ qq : Gr W.heap.size W, qq.val.cell? ⟨Ba, 0, none⟩ = some (.int .i64 a) := fun qq => (qq.is.cell (p := ⟨Ba, 0, none⟩) hca).trans hc1
  have e2 : ∀ qq : Gr W.heap.size W, qq.val.cell? ⟨g, 0, none⟩ = some (.slice Ab l.length cb) := fun qq => (Blk.below h1 qq.is h1.lt).cell 0
  have HKEY := Lib.hid (fun qq : Gr W.heap.size W => key_bad a (Rp.sl_below h2 qq.is (fun k hk => (h3 k hk).2.1)) a0 a1 ha)
  clear h1 h2 h3 hu h4 h6 h7 h8 h9 h10 h11 h12 hc1 ha
  refine callsIn_of_wp Try.func31 rfl trivial ?_ rfl
  simp only [Try.ntmps31, List.size_toArray, List.length_cons, List.length_nil, Nat.reduceAdd, Nat.reduceSub, Array.replicate_succ, Array.replicate_zero, List.push_toArray, List.append_toArray, List.nil_append, List.cons_append]
  gi_wp2
  refine wpIn_wide.2 ?_
  refine wp_region_grow (by kernel_rfl) (by kernel_rfl) W.heap.size ?_
  repeat (first | go_big_quiet_step ((go_at_call 11; exact Gr.same _ (HKEY.out _))) | quiet_step ((go_at_call 11; exact Gr.same _ (HKEY.out _))))
  refine wpQuiet_nil ?_
  rintro w3 ⟨⟨_, hb3⟩, rfl⟩
  clear e0 e1 e2
  have HB3 := Lib.hid hb3
  clear hb3
  gi_wp2
  refine bodyPost_ret (results_none rfl _ _ _) rfl ?_
  exact ⟨⟨_, rfl⟩, HB3.out⟩
theorem places_stops {w wc : World} {pv : Option Addr} {L : List (Fin 65536)} (a : Int) (a0 : -9223372036854775808 ≤ a) (a1 : a ≤ 9223372036854775807) (hp : ChP U wc B pv l m a L) (hwc : Below wc.heap.size wc w) (hSU : ∀ k, U k → B ≤ k → k < wc.heap.size → S k) (hSW : ∀ k, S k → k < w.heap.size) (hSc : S Bc) (hSa : S Ba)
    (hc0 : w.cell? ⟨Bc, 0, none⟩ = some (.pointer pv)) (hc1 : w.cell? ⟨Ba, 0, none⟩ = some (.int .i64 a)) :
    SeqStopsK Fence.wide n Try.prog 31 #[.pointer (some ⟨Bc, 0, none⟩), .pointer (some ⟨Ba, 0, none⟩)] encF (KeepS S) (fun xs => xs = L) (fun pre => pre <+: L) L.length w := fun yl J Jx W hW hJ hJx hY h0 => by
  have g0 := (hW.cell (p := ⟨Bc, 0, none⟩) (hSW _ hSc)).trans hc0
  have g1 := (hW.cell (p := ⟨Ba, 0, none⟩) (hSW _ hSa)).trans hc1
  have hz := hW.size
  have hJB : ∀ pre (a b : World), J pre a → W.heap.size ≤ a.heap.size → Below a.heap.size a b → J pre b := fun pre a b ha _ hab => hJ pre a b none ha (below_grown hab) (fun r e => by cases e)
  rcases hp with ⟨rfl, rfl⟩ | ⟨g, rfl, hch, rfl, hl⟩
  · exact (places_nil_in (n := n) g0).mono fun e W' ⟨he, hb⟩ => ⟨he, .inl ⟨[], rfl, hJB _ _ _ h0 (Nat.le_refl _) hb⟩⟩
  · unfold placesL at *
    by_cases ha : 0 ≤ a ∧ a + 4 ≤ l.length
    · rw [if_pos ha] at *
      obtain ⟨q, rfl⟩ : ∃ q : Nat, a = q := ⟨a.toNat, by omega⟩
      rw [Int.toNat_natCast] at *
      exact places1_in q (by omega) hl hY hch (hwc.trans (hW.mono hwc.size)) hSU (fun k hk => Nat.lt_of_lt_of_le (hSW k hk) hz) hSc hSa g0 g1 hJB h0
    · rw [if_neg ha]
      exact (places_bad_in (n := n) a a0 a1 (by omega) (hch.below (hwc.trans (hW.mono hwc.size))) (Nat.lt_of_lt_of_le (hSW _ hSc) hz) (Nat.lt_of_lt_of_le (hSW _ hSa) hz) g0 g1).mono fun e W' ⟨he, hb⟩ => ⟨he, .inl ⟨[], rfl, hJB _ _ _ h0 (Nat.le_refl _) hb⟩⟩
end
/-- **c.Places(at)**: the two are boxed. -/
theorem places_call (pv : Option Addr) (a : Int) (w : World) : Calls Try.prog 21 #[.pointer pv, .int .i64 a] w fun e w' => e = .returned (.func (.func 31) #[] #[.pointer (some ⟨w.heap.size, 0, none⟩), .pointer (some ⟨w.heap.size + 1, 0, none⟩)]) ∧ w' = (w.alloc (.cells #[.pointer pv] 29)).alloc (.cells #[.int .i64 a] 3) := by
  go_enter Try.func21, Try.ntmps21
  go_wp2_with fail
  go_ret
  exact ⟨by simp, rfl⟩
end Go.Proofs.Ytkffgmpkpafkmaa
