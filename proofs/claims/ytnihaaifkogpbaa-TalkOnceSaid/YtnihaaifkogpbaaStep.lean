/- A cut of a slice under one name; an append as a step of a region that draws its order. -/
import Derived.Test.YtnihaaifkogpbaaCore
namespace Go.Proofs.Ytnihaaifkogpbaa
open Go.RowKit
set_option linter.unusedVariables false

theorem Elem.elem {P : Program} {t e : TypeId} {size bytes : Nat} (E : Elem P t e size bytes) : P.elem t = e := by
  simp [Program.elem, E.ht]
theorem Elem.sizeOf {P : Program} {t e : TypeId} {size bytes : Nat} (E : Elem P t e size bytes) (w : World) : (sizeOf e).run P w = .ok size w := by
  obtain ⟨_, ⟨i, z, hi, _, hs, _⟩, _⟩ := E
  simp [Go.sizeOf, typeInfo, hi, hs]

section
variable {P : Program} {T e : TypeId} {size bytes : Nat} {α : Type} {r : Rp α} {w : World} {D : Dom} {A : Option Addr} {n c : Nat} {l : List α}
/-- A cut 's[lo:hi]' of a slice; m is where its room ends. -/
theorem Rp.cut (h : r.sl w D A n c l) {lo hi m : Nat} (h1 : lo ≤ hi) (h2 : hi ≤ n) (h3 : hi ≤ m) (h4 : m ≤ c) :
    r.sl w D (if m = lo then A else A.map (·.add (lo * r.size))) (hi - lo) (m - lo) ((l.take hi).drop lo) := by
  obtain ⟨hlen, hnc, hcm⟩ := Rp.sl_len h
  have hc' : m - lo ≤ maxLen := by unfold maxLen at *; omega
  have hlen2 : ((l.take hi).drop lo).length = hi - lo := by rw [List.length_drop, List.length_take]; omega
  by_cases h0 : hi = lo
  · have e0 : (l.take hi).drop lo = [] := List.eq_nil_of_length_eq_zero (by omega)
    rw [e0, show hi - lo = 0 by omega]
    exact Rp.sl_nil _ _ _ _ _ hc'
  · rw [if_neg (by omega)]
    obtain ⟨b, off, x, cs, rfl, hb, hx, hc, hg⟩ := Rp.sl_at h (k := 0) (by omega)
    have := Rp.sl_cut h h1 h2 (c' := m - lo) (by omega) hc'
    have ea : (Option.map (fun x : Addr => x.add (lo * r.size)) (some ⟨b, off, none⟩)) = some ⟨b, off + lo * r.size, none⟩ := by
      show some ((⟨b, off, none⟩ : Addr).add (lo * r.size)) = _
      rw [add_plain]
    rw [ea]
    exact this
theorem run_cut_lh (E : Elem P T e size bytes) (h : r.sl w D A n c l) (hs : r.size = size) (lo hi : Int) (h0 : 0 ≤ lo) (h1 : lo ≤ hi) (h2 : hi ≤ n) :
    ∃ A', (∀ w', (Instr.slice T (.slice A n c) (some (.int .i64 lo)) (some (.int .i64 hi)) none).run P w' = .ok (.slice A' (hi.toNat - lo.toNat) (c - lo.toNat)) w') ∧ r.sl w D A' (hi.toNat - lo.toNat) (c - lo.toNat) ((l.take hi.toNat).drop lo.toNat) := by
  obtain ⟨hlen, hnc, hcm⟩ := Rp.sl_len h
  refine ⟨_, fun w' => ?_, Rp.cut h (by omega) (by omega) (by omega) (Nat.le_refl c)⟩
  rw [run_slice_lh w' T A n c (by rw [E.elem]; exact E.ht) .i64 .i64 lo hi h0 h1 (by omega), E.elem, E.sizeOf, hs]
  rfl
theorem run_cut_hm (E : Elem P T e size bytes) (h : r.sl w D A n c l) (hs : r.size = size) (hi m : Int) (h1 : 0 ≤ hi) (h2 : hi ≤ n) (h3 : hi ≤ m) (h4 : m ≤ c) :
    ∃ A', (∀ w', (Instr.slice T (.slice A n c) none (some (.int .i64 hi)) (some (.int .i64 m))).run P w' = .ok (.slice A' hi.toNat m.toNat) w') ∧ r.sl w D A' hi.toNat m.toNat (l.take hi.toNat) := by
  obtain ⟨hlen, hnc, hcm⟩ := Rp.sl_len h
  have := Rp.cut h (lo := 0) (hi := hi.toNat) (m := m.toNat) (by omega) (by omega) (by omega) (by omega)
  simp only [Nat.sub_zero, List.drop_zero] at this
  refine ⟨_, fun w' => ?_, this⟩
  rw [run_slice_hm w' T A n c (by rw [E.elem]; exact E.ht) .i64 .i64 hi m h1 h3 (by omega), E.elem, E.sizeOf, hs]
  rfl
theorem run_cut_h (E : Elem P T e size bytes) (h : r.sl w D A n c l) (hs : r.size = size) (hi : Int) (h1 : 0 ≤ hi) (h2 : hi ≤ n) :
    ∃ A', (∀ w', (Instr.slice T (.slice A n c) none (some (.int .i64 hi)) none).run P w' = .ok (.slice A' hi.toNat c) w') ∧ r.sl w D A' hi.toNat c (l.take hi.toNat) := by
  obtain ⟨hlen, hnc, hcm⟩ := Rp.sl_len h
  have := Rp.cut h (lo := 0) (hi := hi.toNat) (m := c) (by omega) (by omega) (by omega) (by omega)
  simp only [Nat.sub_zero, List.drop_zero] at this
  refine ⟨_, fun w' => ?_, this⟩
  rw [run_slice_h w' T A n c (by rw [E.elem]; exact E.ht) .i64 hi h1 (by omega), E.elem, E.sizeOf, hs]
  rfl
theorem run_cut_l (E : Elem P T e size bytes) (h : r.sl w D A n c l) (hs : r.size = size) (lo : Int) (h1 : 0 ≤ lo) (h2 : lo ≤ n) :
    ∃ A', (∀ w', (Instr.slice T (.slice A n c) (some (.int .i64 lo)) none none).run P w' = .ok (.slice A' (n - lo.toNat) (c - lo.toNat)) w') ∧ r.sl w D A' (n - lo.toNat) (c - lo.toNat) (l.drop lo.toNat) := by
  obtain ⟨hlen, hnc, hcm⟩ := Rp.sl_len h
  have := Rp.cut h (lo := lo.toNat) (hi := n) (m := c) (by omega) (by omega) (by omega) (by omega)
  rw [List.take_of_length_le (by omega)] at this
  refine ⟨_, fun w' => ?_, this⟩
  rw [run_slice_l w' T A n c (by rw [E.elem]; exact E.ht) .i64 lo h1 (by omega), E.elem, E.sizeOf, hs]
  rfl
end

/-- An append as a step of a region that draws its order; the world as it stands. -/
theorem step_app {P : Program} {ops : Array Oper} {o : Oper} {a : Act} {w : World} {K : Act → World → Prop} {Q : Exit → Act → World → Prop} {F : Prop} (hgd : o.guard = none) (s x : Operand) (t : TypeId)
    (ho : o.op = .call { callee := .builtin .append, args := #[s, x], argTypes := #[t, t] }) {e : TypeId} {size bytes : Nat} (E : Elem P t e size bytes)
    {base : Nat} {v : Value} {n : Nat} {xs : List Value} (hs : a.eval s = v) (hown : w.ownsRow base e size v n xs)
    {A : Option Addr} {m c : Nat} {news : List Value} (hx : a.eval x = .slice A m c) (hsrc : Src w A m size news) (h63 : n + m ≤ maxLen) (hbytes : (n + m) * bytes ≤ 140737488355328) (hbase : base ≤ w.heap.size)
    (h : ∀ A' c' w', w'.ownsRow base e size (.slice A' (n + m) c') (n + m) (xs ++ news) → w.grownBy w' v.ownBlock → ((Value.slice A' (n + m) c').ownBlock = v.ownBlock ∨ (Value.slice A' (n + m) c').ownBlock = some w.heap.size) →
      K (a.put o.dst (.slice A' (n + m) c')) w') : if Region.wanted o (yielded ops a.tmps) = true then Oper.wp P o a w K Q else F := by
  have hw : Region.wanted o (yielded ops a.tmps) = true := by simp [Region.wanted, hgd]
  rw [if_pos hw]
  obtain ⟨A', c', w', hr, h2, h3, h4⟩ := run_app (P := P) E w o.type hown hsrc h63 hbytes hbase (c := c)
  unfold Oper.wp execOp
  simp only [ho, resolve, invoke, builtin, Sem.run_bind, Sem.run_pure, Result.andThen_ok, List.map_toArray, List.map_cons, List.map_nil, hs, hx, hr]
  exact h A' c' w' h2 h3 h4
end Go.Proofs.Ytnihaaifkogpbaa
