/- Numbers of 64 bits in a row of the call's own. -/
import Derived.Test.YtnihaaifkogpbaaStp
namespace Go.Proofs.Ytnihaaifkogpbaa
open Go.ChangeShapes Go.WideShapes Go.ChangeAt Go.RowKit
set_option linter.unusedVariables false
def uv (x : Nat) : Value := .int .u64 (x : Int)
theorem Src.u64 {w : World} {D : Dom} {A : Option Addr} {n c : Nat} {l : List Nat} (h : rpU64.sl w D A n c l) : Src w A n 1 (l.map uv) := by
  obtain ⟨hlen, _, _⟩ := Rp.sl_len h
  refine ⟨by simp [hlen], fun u hu => ?_, fun hp => ?_⟩
  · obtain ⟨x, _, rfl⟩ := List.mem_map.1 hu; rfl
  · obtain ⟨b, off, x, hA, _⟩ := u64_at (k := 0) h (by simpa [hlen] using hp)
    refine ⟨_, hA, fun j u hu => ?_⟩
    rw [List.getElem?_map] at hu
    cases hj : l[j]? with
    | none => rw [hj] at hu; cases hu
    | some y =>
      rw [hj] at hu
      injection hu with hu
      subst hu
      obtain ⟨b', off', x', hA', _, hx', hc, _⟩ := u64_at (k := j) h (by rw [← hlen]; exact (List.getElem?_eq_some_iff.1 hj).1)
      rw [hA] at hA'
      injection hA' with hA'
      injection hA' with h1 h2
      subst h1; subst h2
      rw [hj] at hx'
      injection hx' with hx'
      subst hx'
      rw [add_plain, hc]; rfl
theorem u64_lt {w : World} {D : Dom} {A : Option Addr} {n c : Nat} {l : List Nat} (h : rpU64.sl w D A n c l) : ∀ x ∈ l, x < 18446744073709551616 := fun x hx => by
  obtain ⟨i, hi⟩ := List.getElem?_of_mem hx
  obtain ⟨_, _, y, _, _, hy, _, hlt⟩ := u64_at h (k := i) (by have := (List.getElem?_eq_some_iff.1 hi).1; have := (Rp.sl_len h).1; omega)
  rw [hi] at hy
  injection hy with hy
  omega
theorem own_u64 {w : World} {base : Nat} {e : TypeId} {A : Option Addr} {n c : Nat} {l : List Nat} (h : w.ownsRow base e 1 (.slice A n c) n (l.map uv)) (hl : ∀ x ∈ l, x < 18446744073709551616) : rpU64.sl w (fun k => some k = (Value.slice A n c).ownBlock) A n c l := by
  have hlen : l.length = n := by have := h.1; simpa using this
  subst hlen
  rcases h.2 with ⟨hv, h0⟩ | ⟨g, cap, cur, hv, hg, hh, hnc, hcm, hcs, htake⟩
  · injection hv with h1 _ h3
    subst h1; subst h3
    rw [h0]
    obtain rfl := List.eq_nil_of_length_eq_zero h0
    exact Rp.sl_nil _ _ _ _ _ (by decide)
  · injection hv with h1 _ h3
    subst h1; subst h3
    refine ⟨_, _, rfl, hnc, hcm, fun _ => ⟨g, 0, rfl, rfl, fun i x hx => ⟨[uv x], ⟨rfl, hl x (List.mem_of_getElem? hx)⟩, fun j u hu => ?_⟩⟩⟩
    have hj : j = 0 := by
      rcases Nat.eq_zero_or_pos j with h0 | h0
      · exact h0
      · rw [List.getElem?_eq_none (by simp; omega)] at hu; cases hu
    subst hj
    simp only [List.getElem?_cons_zero, Option.some.injEq] at hu
    subst hu
    have hi : (l.map uv)[i]? = some (uv x) := by rw [List.getElem?_map, hx]; rfl
    rw [← htake, List.getElem?_take] at hi
    split at hi
    · have := cell_of_row w g (0 + i * rpU64.size + 0) cur e (0, 0) hh
      rw [this]
      have e1 : 0 + i * rpU64.size + 0 = i := by show 0 + i * 1 + 0 = i; omega
      rw [e1]
      simpa using hi
    · cases hi
theorem own_dom {w : World} {base : Nat} {e : TypeId} {size n : Nat} {v : Value} {xs : List Value} (h : w.ownsRow base e size v n xs) : ∀ k, some k = v.ownBlock → k < w.heap.size := fun k hk => (h.lt k hk.symm).2

end Go.Proofs.Ytnihaaifkogpbaa
