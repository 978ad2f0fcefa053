/- Rows of messages: in a row of the call's own, in a literal's block. -/
import Derived.Test.YtlfieiiegokejaaTkY
namespace Go.Proofs.Ytlfieiiegokejaa
open Go.ChangeShapes Go.WideShapes Go.ChangeAt Go.RowKit
set_option linter.unusedVariables false
abbrev MH := Ms × Hd
def mc (p : MH) : List Value := (msV p.1 p.2).toList
theorem mc_len (p : MH) : (mc p).length = 14 := rfl
theorem mc_one (p : MH) : ∀ u ∈ mc p, u.oneCell' = true := by
  intro u hu
  simp only [mc, List.mem_cons, List.not_mem_nil, or_false] at hu
  rcases hu with rfl | rfl | rfl | rfl | rfl | rfl | rfl | rfl | rfl | rfl | rfl | rfl | rfl | rfl <;> rfl
theorem elemMs : Elem Try.prog 38 32 14 176 := Elem.of (z := .agg zV) Try.underlying38 (by kernel_rfl) rfl (by decide)
theorem flat14_len (l : List MH) : (l.flatMap mc).length = l.length * 14 := by
  induction l with
  | nil => rfl
  | cons s l ih => rw [List.flatMap_cons, List.length_append, ih, List.length_cons, mc_len]; omega
theorem flat14_get (l : List MH) : ∀ (i j : Nat), j < 14 → (l.flatMap mc)[i * 14 + j]? = (l[i]?).bind (fun s => (mc s)[j]?) := by
  induction l with
  | nil => intro i j hj; simp
  | cons s l ih =>
    intro i j hj
    rw [List.flatMap_cons]
    cases i with
    | zero =>
      rw [List.getElem?_append_left (by rw [mc_len]; omega)]
      simp
    | succ i =>
      rw [List.getElem?_append_right (by rw [mc_len]; omega), show (i + 1) * 14 + j - (mc s).length = i * 14 + j by rw [mc_len]; omega, ih i j hj]
      simp
section
variable {w : World} {D : Dom} {m : Ms} {hd : Hd} {A : Option Addr} {n c : Nat} {l : List Ms} {lp : List MH}
theorem ms_ok (h : MsIn w D m hd) : rpMs.ok w D m (mc (m, hd)) := by
  have e1 := (Rp.sl_len h.ss).1
  have i64 : ∀ x : Int, x ≤ 9223372036854775807 → x < 9223372036854775808 := fun x h => by omega
  have u64 : ∀ x : Nat, x ≤ 18446744073709551615 → x < 18446744073709551616 := fun x h => by omega
  exact ⟨[_], _, rfl, ⟨rfl, h.kd0, i64 _ h.kd1⟩, [_], _, rfl, ⟨rfl, u64 _ h.ep1⟩, [_], _, rfl, ⟨rfl, u64 _ h.sq1⟩, [_], _, rfl, ⟨rfl, u64 _ h.ps1⟩, [_], _, rfl, ⟨rfl, h.ct0, i64 _ h.ct1⟩, [_], _, rfl, ⟨rfl, h.st0, i64 _ h.st1⟩,
    [_], _, rfl, h.ss, [_], _, rfl, h.ls, [_], _, rfl, h.dt, [_, _, _], _, rfl, ⟨[_], _, rfl, ⟨rfl, u64 _ h.s11⟩, [_], _, rfl, ⟨rfl, u64 _ h.s21⟩, ⟨rfl, u64 _ h.s31⟩⟩, [_], _, rfl, ⟨rfl, u64 _ h.pe1⟩, h.pr⟩
theorem MsIn.more {D' : Dom} (h : MsIn w D m hd) (hD : ∀ k, D k → D' k) (hD' : ∀ k, D' k → k < w.heap.size) : MsIn w D' m hd :=
  ⟨Rp.sl_more h.ss hD, Rp.sl_more h.ls hD, Rp.sl_more h.dt hD, Rp.sl_more h.pr hD, hD', h.kd0, h.kd1, h.ct0, h.ct1, h.st0, h.st1, h.ep1, h.sq1, h.ps1, h.s11, h.s21, h.s31, h.pe1⟩
/-- The cells of messages that read, to be appended. -/
theorem Src.ms (h : rpMs.sl w D A n c l) (hD : ∀ k, D k → k < w.heap.size) : ∃ lp : List MH, lp.map (·.1) = l ∧ (∀ p ∈ lp, MsIn w D p.1 p.2) ∧ Src w A n 14 (lp.flatMap mc) := by
  obtain ⟨hlen, _, _⟩ := Rp.sl_len h
  have hch : ∀ k, k ≤ n → ∃ lp : List MH, lp.length = k ∧ ∀ (i : Nat) (p : MH), lp[i]? = some p → l[i]? = some p.1 ∧ MsIn w D p.1 p.2 ∧ ∃ b off, A = some ⟨b, off, none⟩ ∧ ∀ (j : Nat) u, (mc p)[j]? = some u → w.cell? ⟨b, off + i * 14 + j, none⟩ = some u := by
    intro k
    induction k with
    | zero => exact fun _ => ⟨[], rfl, fun i p h => by simp at h⟩
    | succ k ih =>
      intro hk
      obtain ⟨lp, hl, hg⟩ := ih (by omega)
      obtain ⟨b, off, m, hd, hA, _, hm, hmi, hc⟩ := ms_at h hD (k := k) (by omega)
      refine ⟨lp ++ [(m, hd)], by simp [hl], fun i p hp => ?_⟩
      rcases Nat.lt_or_ge i k with hik | hik
      · exact hg i p (by rwa [List.getElem?_append_left (by omega)] at hp)
      · rw [List.getElem?_append_right (by omega)] at hp
        have h0 : i - lp.length = 0 := by
          rcases Nat.eq_zero_or_pos (i - lp.length) with h0 | h0
          · exact h0
          · rw [List.getElem?_eq_none (by simp; omega)] at hp; cases hp
        rw [h0] at hp
        simp only [List.getElem?_cons_zero, Option.some.injEq] at hp
        subst hp
        obtain rfl : i = k := by omega
        exact ⟨hm, hmi, b, off, hA, hc⟩
  obtain ⟨lp, hl, hg⟩ := hch n (Nat.le_refl _)
  refine ⟨lp, ?_, fun p hp => ?_, by rw [flat14_len, hl], fun u hu => ?_, fun hp => ?_⟩
  · apply List.ext_getElem?
    intro i
    rw [List.getElem?_map]
    cases hq : lp[i]? with
    | none =>
      have := List.getElem?_eq_none_iff.1 hq
      rw [List.getElem?_eq_none (by omega)]; rfl
    | some p => rw [(hg i p hq).1]; rfl
  · obtain ⟨i, hi⟩ := List.getElem?_of_mem hp
    exact (hg i p hi).2.1
  · obtain ⟨x, _, hx⟩ := List.mem_flatMap.1 hu
    exact mc_one x u hx
  · rw [flat14_len] at hp
    obtain ⟨p0, hp0⟩ : ∃ p, lp[0]? = some p := ⟨_, List.getElem?_eq_getElem (by omega)⟩
    obtain ⟨_, _, b, off, hA, _⟩ := hg 0 p0 hp0
    refine ⟨⟨b, off, none⟩, hA, fun j u hu => ?_⟩
    have hj : j < lp.length * 14 := by rw [← flat14_len]; exact (List.getElem?_eq_some_iff.1 hu).1
    have hq : j / 14 < lp.length := by omega
    obtain ⟨_, _, b', off', hA', hc⟩ := hg (j / 14) lp[j / 14] (List.getElem?_eq_getElem hq)
    rw [hA] at hA'
    injection hA' with hA'
    injection hA' with h1 h2
    subst h1; subst h2
    rw [show j = (j / 14) * 14 + j % 14 by omega, flat14_get lp _ _ (by omega), List.getElem?_eq_getElem hq] at hu
    rw [add_plain, show off + j = off + j / 14 * 14 + j % 14 by omega]
    exact hc _ _ hu
/-- A row of cells that lie in a block from its start. -/
theorem ms_row {g : Nat} {cs : List Value} {cap : Nat} (hcell : ∀ i, w.cell? ⟨g, i, none⟩ = cs[i]?) (hcs : ∀ (i : Nat) u, (lp.flatMap mc)[i]? = some u → cs[i]? = some u) (hm : ∀ p ∈ lp, MsIn w D p.1 p.2) (h1 : lp.length ≤ cap) (h2 : cap ≤ maxLen) :
    rpMs.sl w (fun k => D k ∨ k = g) (some ⟨g, 0, none⟩) lp.length cap (lp.map (·.1)) := by
  refine ⟨_, _, by rw [List.length_map], by rw [List.length_map]; exact h1, h2, fun _ => ⟨g, 0, rfl, .inr rfl, fun i x hx => ?_⟩⟩
  rw [List.getElem?_map] at hx
  cases hp : lp[i]? with
  | none => rw [hp] at hx; cases hx
  | some p =>
    rw [hp] at hx
    obtain rfl : p.1 = x := by simpa using hx
    have hmi := hm p (List.mem_of_getElem? hp)
    refine ⟨mc p, rpMs.more (ms_ok hmi) (fun k hk => .inl hk), fun j u hu => ?_⟩
    have hj : j < 14 := by rw [← mc_len p]; exact (List.getElem?_eq_some_iff.1 hu).1
    rw [ms_size, hcell, Nat.zero_add]
    refine hcs _ _ ?_
    rw [flat14_get lp i j hj, hp]
    exact hu
theorem ms_block {g : Nat} {t : TypeId} {cs : Array Value} (hb : Blk w g t cs) (hcs : cs.toList = lp.flatMap mc) (hm : ∀ p ∈ lp, MsIn w D p.1 p.2) (h1 : lp.length ≤ maxLen) :
    rpMs.sl w (fun k => D k ∨ k = g) (some ⟨g, 0, none⟩) lp.length lp.length (lp.map (·.1)) :=
  ms_row (cs := cs.toList) (fun i => by rw [hb.cell]; simp) (fun i u hu => by rw [hcs]; exact hu) hm (Nat.le_refl _) h1
theorem own_ms {base : Nat} {e : TypeId} (h : w.ownsRow base e 14 (.slice A n c) n (lp.flatMap mc)) (hm : ∀ p ∈ lp, MsIn w D p.1 p.2) : rpMs.sl w (fun k => D k ∨ some k = (Value.slice A n c).ownBlock) A n c (lp.map (·.1)) := by
  have hlen : lp.length = n := by have := h.1; rw [flat14_len] at this; omega
  subst hlen
  rcases h.2 with ⟨hv, h0⟩ | ⟨g, cap, cur, hv, hg, hh, hnc, hcm, hcs, htake⟩
  · injection hv with h1 _ h3
    subst h1; subst h3
    rw [h0]
    obtain rfl := List.eq_nil_of_length_eq_zero h0
    exact Rp.sl_nil _ _ _ _ _ (by decide)
  · injection hv with h1 _ h3
    subst h1; subst h3
    refine Rp.sl_more (ms_row (cs := cur.toList) (fun i => by rw [cell_of_row w g i cur e (0, 0) hh]; simp) (fun i u hu => ?_) hm hnc hcm) (fun k hk => hk.imp id (fun h => by subst h; rfl))
    rw [← htake, List.getElem?_take] at hu
    split at hu
    · exact hu
    · cases hu
end
end Go.Proofs.Ytlfieiiegokejaa
