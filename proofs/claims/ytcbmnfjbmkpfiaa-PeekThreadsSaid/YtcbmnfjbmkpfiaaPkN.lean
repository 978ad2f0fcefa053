/- Entries of one's own, appended to entries of one's own. -/
import Derived.Test.YtcbmnfjbmkpfiaaPkO
namespace Go.Proofs.Ytcbmnfjbmkpfiaa
open Go.ChangeShapes Go.WideShapes Go.ChangeAt Go.RowKit
set_option linter.unusedVariables false
section
variable {w : World} {base n c : Nat} {A : Option Addr} {es : List Ent} {vals : List Value} {rv : Nat → List Value} {D0 : Dom}
theorem Src.tb (h : TBv vals rv D0 w base A n c es) : Src w A n 2 vals := by
  obtain ⟨ho, hn, hes, ha⟩ := h
  have hl : vals.length = n * 2 := ho.1
  refine ⟨hl, fun u hu => ?_, fun hp => ?_⟩
  · obtain ⟨j, hj⟩ := List.getElem?_of_mem hu
    have hjl := (List.getElem?_eq_some_iff.1 hj).1
    obtain ⟨A', c', B, d, h1, h2, _⟩ := hes (j / 2) es[j / 2] (List.getElem?_eq_getElem (by omega))
    rcases Nat.mod_two_eq_zero_or_one j with h | h
    · rw [show j / 2 * 2 = j by omega, hj] at h1
      injection h1 with h1; subst h1; rfl
    · rw [show j / 2 * 2 + 1 = j by omega, hj] at h2
      injection h2 with h2; subst h2; rfl
  · rcases ho.2 with ⟨hv, h0⟩ | ⟨g, cap, cur, hv, hg, hh, hnc, hcm, hcs, htake⟩
    · exfalso; rw [h0] at hl; omega
    · injection hv with h1 h2 h3
      subst h1; subst h3
      refine ⟨⟨g, 0, none⟩, rfl, fun j u hu => ?_⟩
      have hb : Blk w g 45 cur := hh
      rw [add_plain, hb.cell, Nat.zero_add]
      rw [← htake, List.getElem?_take] at hu
      split at hu
      · simpa using hu
      · cases hu
theorem TBv.app {w0 w3 : World} {A2 A3 : Option Addr} {c2 c3 m : Nat} {es2 : List Ent} {vals2 : List Value} {rv2 : Nat → List Value} (h : TBv vals rv (fun _ => False) w0 base A n c es) (hb : Below w0.heap.size w0 w) (hbz : base ≤ w0.heap.size)
    (h2 : TBv vals2 rv2 (fun _ => False) w w0.heap.size A2 m c2 es2) (ho3 : w3.ownsRow base 45 2 (.slice A3 (n + m) c3) (n + m) (vals ++ vals2)) (hg : w.grownBy w3 (Value.slice A n c).ownBlock) : TB (fun _ => False) w3 base A3 (n + m) c3 (es ++ es2) := by
  have hw := h.below hb
  obtain ⟨ho, hn, hi, ha⟩ := h
  obtain ⟨how, _, hiw, _⟩ := hw
  obtain ⟨ho2, hn2, hi2, ha2⟩ := h2
  have hvl : vals.length = n * 2 := ho.1
  have hT := tb_grown (TS := TD) (D0 := fun _ => False) ⟨_, _, _, _, rfl, how⟩ td_ent (fun k hk => hk.elim) hg
  have hlk : ∀ {b m : Nat} {v : Value} {xs : List Value}, w.ownsRow b 57 2 v m xs → w3.ownsRow b 57 2 v m xs := fun hr =>
    own_sameT hr fun k cs hk _ _ => hg.block k (Array.getElem?_eq_some_iff.1 hk).1 (fun e => by
      obtain ⟨cs', hk'⟩ := own_type how e.symm
      rw [hk] at hk'
      injection hk' with hk'
      injection hk' with _ e2
      exact absurd e2 (by decide))
  refine ⟨_, fun i => if i < n then rv i else rv2 (i - n), ho3, by rw [List.length_append, hn, hn2], fun i y hy => ?_, fun i j u v g hin hjn hu hv hgu hgv => ?_⟩
  · by_cases hin : i < n
    · rw [List.getElem?_append_left (by omega)] at hy
      obtain ⟨A4, c4, B4, d4, h1, h2, h3, h4, h5⟩ := hiw i y hy
      refine ⟨A4, c4, B4, d4, by rw [List.getElem?_append_left (by omega)]; exact h1, by rw [List.getElem?_append_left (by omega)]; exact h2, ?_, Rp.sl_more (Rp.sl_keep h4 (fun k hk => hT k hk)) (fun k hk => Tb.keep hT hg.size hk), fun k x hx => ?_⟩
      · simp only [if_pos hin]; exact hlk h3
      · obtain ⟨cs, hok, hc⟩ := h5 k x hx
        simp only [if_pos hin]
        exact ⟨cs, ok_same hok hT hg.size, hc⟩
    · rw [List.getElem?_append_right (by omega), hn] at hy
      obtain ⟨A4, c4, B4, d4, h1, h2, h3, h4, h5⟩ := hi2 (i - n) y hy
      refine ⟨A4, c4, B4, d4, by rw [List.getElem?_append_right (by omega), hvl, ← Nat.sub_mul]; exact h1, by rw [List.getElem?_append_right (by omega), hvl, show i * 2 + 1 - n * 2 = (i - n) * 2 + 1 by omega]; exact h2, ?_, Rp.sl_more (Rp.sl_keep h4 (fun k hk => hT k hk)) (fun k hk => Tb.keep hT hg.size hk), fun k x hx => ?_⟩
      · simp only [if_neg hin]; exact own_less2 (hlk h3) hbz
      · obtain ⟨cs, hok, hc⟩ := h5 k x hx
        simp only [if_neg hin]
        exact ⟨cs, ok_same hok hT hg.size, hc⟩
  · have old : ∀ (q : Nat) u, q < n → vals[q * 2]? = some u → u.ownBlock = some g → g < w0.heap.size := fun q u hq hqu hqg => by
      obtain ⟨A4, c4, B4, d4, h1, h2, h3, _⟩ := hi q es[q] (List.getElem?_eq_getElem (by omega))
      rw [hqu] at h1
      injection h1 with h1
      subst h1
      exact (h3.lt g hqg).2
    have new : ∀ (q : Nat) u, n ≤ q → q < n + m → (vals ++ vals2)[q * 2]? = some u → u.ownBlock = some g → vals2[(q - n) * 2]? = some u ∧ w0.heap.size ≤ g := fun q u hq hq2 hqu hqg => by
      rw [List.getElem?_append_right (by omega), hvl, ← Nat.sub_mul] at hqu
      refine ⟨hqu, ?_⟩
      obtain ⟨A4, c4, B4, d4, h1, h2, h3, _⟩ := hi2 (q - n) es2[q - n] (List.getElem?_eq_getElem (by omega))
      rw [hqu] at h1
      injection h1 with h1
      subst h1
      exact (h3.lt g hqg).1
    rcases Nat.lt_or_ge i n with h1 | h1
    · rcases Nat.lt_or_ge j n with h2 | h2
      · rw [List.getElem?_append_left (by omega)] at hu hv
        exact ha i j u v g h1 h2 hu hv hgu hgv
      · rw [List.getElem?_append_left (by omega)] at hu
        have := old i u h1 hu hgu
        have := (new j v h2 hjn hv hgv).2
        omega
    · rcases Nat.lt_or_ge j n with h2 | h2
      · rw [List.getElem?_append_left (by omega)] at hv
        have := old j v h2 hv hgv
        have := (new i u h1 hin hu hgu).2
        omega
      · have e1 := (new i u h1 hin hu hgu).1
        have e2 := (new j v h2 hjn hv hgv).1
        have := ha2 (i - n) (j - n) u v g (by omega) (by omega) e1 e2 hgu hgv
        omega
end
end Go.Proofs.Ytcbmnfjbmkpfiaa
