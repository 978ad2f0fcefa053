/- slices.Compact of a row of one's own; what compacting a sorted list gives. -/
import Derived.Test.YtmdgmnaaopineaaSr12
namespace Go.Proofs.Ytmdgmnaaopineaa
open Go.ChangeShapes Go.WideShapes Go.ChangeAt Go.RowKit
set_option linter.unusedVariables false
/-- A list without neighbours that are one. -/
def cpl (l : List Nat) : List Nat := (Lib.compactUpTo (arrOf l) l.length).map Int.toNat
theorem cpl_len (l : List Nat) : (cpl l).length = (Lib.compactUpTo (arrOf l) l.length).length := by simp [cpl]
theorem cpl_upto {l : List Nat} (hs : l.Pairwise (· ≤ ·)) : ∀ m, m ≤ l.length → ((Lib.compactUpTo (arrOf l) m).map Int.toNat).Pairwise (· < ·) ∧ ∀ x, x ∈ (Lib.compactUpTo (arrOf l) m).map Int.toNat ↔ x ∈ l.take m
  | 0, _ => by
    have e : Lib.compactUpTo (arrOf l) 0 = [] := rfl
    rw [e]
    exact ⟨List.Pairwise.nil, fun x => by simp⟩
  | m + 1, h => by
    obtain ⟨h1, h2⟩ := cpl_upto hs m (by omega)
    have hx : l[m]? = some l[m] := List.getElem?_eq_getElem (by omega)
    have htk : l.take (m + 1) = l.take m ++ [l[m]] := by rw [List.take_add_one, hx]; rfl
    rw [Lib.compactUpTo_succ, List.map_append, htk]
    have hd : (arrOf l)[m]! = ((l[m] : Nat) : Int) := arr_at hx
    by_cases hk : Lib.keeps (arrOf l) m = true
    · rw [if_pos hk]
      have he : ([(arrOf l)[m]!] : List Int).map Int.toNat = [l[m]] := by rw [hd]; simp
      rw [he]
      refine ⟨List.pairwise_append.2 ⟨h1, List.pairwise_singleton _ _, fun x hx1 y hy => ?_⟩, fun x => by rw [List.mem_append, List.mem_append, h2]⟩
      simp only [List.mem_singleton] at hy
      subst hy
      obtain ⟨i, hi, rfl⟩ := List.mem_iff_getElem.1 ((h2 x).1 hx1)
      rw [List.length_take] at hi
      rw [List.getElem_take]
      have hm0 : 0 < m := by omega
      have hle1 : l[i] ≤ l[m - 1] := by
        rcases Nat.lt_or_ge i (m - 1) with hlt | hge
        · exact List.pairwise_iff_getElem.1 hs i (m - 1) (by omega) (by omega) hlt
        · have : i = m - 1 := by omega
          subst this; exact Nat.le_refl _
      have hle2 : l[m - 1] ≤ l[m] := List.pairwise_iff_getElem.1 hs (m - 1) m (by omega) (by omega) (by omega)
      have hne : l[m] ≠ l[m - 1] := fun e => by
        have h3 : Lib.keeps (arrOf l) m = false := Lib.keeps_neg hm0 (by rw [hd, arr_at (List.getElem?_eq_getElem (show m - 1 < l.length by omega)), e])
        rw [h3] at hk; cases hk
      omega
    · rw [if_neg hk]
      simp only [List.map_nil, List.append_nil]
      refine ⟨h1, fun x => ?_⟩
      rw [h2, List.mem_append, List.mem_singleton]
      refine ⟨.inl, fun hx1 => ?_⟩
      rcases hx1 with hx1 | rfl
      · exact hx1
      · have hm0 : 0 < m := by
          rcases Nat.eq_zero_or_pos m with h0 | h0
          · subst h0
            exact absurd (by simp [Lib.keeps]) hk
          · exact h0
        have e : l[m] = l[m - 1] := by
          rcases Decidable.em (l[m] = l[m - 1]) with e | e
          · exact e
          · refine absurd (Lib.keeps_pos ?_) hk
            rw [hd, arr_at (List.getElem?_eq_getElem (show m - 1 < l.length by omega))]
            omega
        rw [e]
        exact List.mem_iff_getElem.2 ⟨m - 1, by rw [List.length_take]; omega, by rw [List.getElem_take]⟩
theorem cpl_sorted {l : List Nat} (hs : l.Pairwise (· ≤ ·)) : (cpl l).Pairwise (· < ·) ∧ ∀ x, x ∈ cpl l ↔ x ∈ l := by
  obtain ⟨h1, h2⟩ := cpl_upto hs l.length (Nat.le_refl _)
  exact ⟨h1, fun x => (h2 x).trans (by rw [List.take_length])⟩
theorem cpl_short {l : List Nat} (h : l.length < 2) : cpl l = l := by
  rcases l with _ | ⟨x, _ | ⟨y, l⟩⟩
  · rfl
  · unfold cpl
    have e : Lib.compactUpTo (arrOf [x]) [x].length = [(x : Int)] := by
      rw [show [x].length = 0 + 1 from rfl, Lib.compactUpTo_succ, Lib.keeps_lt_one _ 0 (by decide), if_pos rfl, arr_at (l := [x]) (i := 0) rfl]
      rfl
    rw [e]; simp
  · simp at h; omega
section
variable {w w' : World} {base n c : Nat} {A : Option Addr} {l : List Nat}
theorem own_cut {e : TypeId} {xs : List Value} {m : Nat} (h : w.ownsRow base e 1 (.slice A n c) n xs) (hm : m ≤ n) : w.ownsRow base e 1 (.slice A m c) m (xs.take m) := by
  have hlen : xs.length = n := by have := h.1; simpa using this
  refine ⟨by rw [List.length_take]; omega, ?_⟩
  rcases h.2 with ⟨hv, h0⟩ | ⟨q, cap, cur, hv, hq, hh, hnc, hcm, hcs, htake⟩
  · injection hv with h1 h2 h3
    subst h1; subst h3
    exact .inl ⟨by rw [show m = 0 by omega], by omega⟩
  · injection hv with h1 h2 h3
    subst h1; subst h3
    rw [Nat.mul_one] at htake
    refine .inr ⟨q, c, cur, rfl, hq, hh, by omega, hcm, hcs, ?_⟩
    rw [Nat.mul_one, ← htake, List.take_take, Nat.min_eq_left hm]
theorem SW.ownI {g : Nat} {d' : Array Int} {e : TypeId} (h : SW w w' g 0 (arrOf l) d') (ho : w.ownsRow base e 1 (.slice (some ⟨g, 0, none⟩) n c) n (l.map uv)) : w'.ownsRow base e 1 (.slice (some ⟨g, 0, none⟩) n c) n (d'.toList.map eu) := by
  have hn : l.length = n := by have := ho.1; simpa using this
  have hsz : d'.size = n := by have := h.sz; rw [arr_size] at this; omega
  refine ⟨by simp [hsz], ?_⟩
  rcases ho.2 with ⟨hv, h0⟩ | ⟨q, cap, cur, hv, hq, hh, hnc, hcm, hcs, htake⟩
  · injection hv with h1; cases h1
  · injection hv with h1 _ h3
    injection h1 with h1
    injection h1 with h1
    subst h1; subst h3
    rw [Nat.mul_one] at htake hcs
    have hrow := h.row
    refine .inr ⟨g, c, Sort.putCells eu 0 d' cur, rfl, hq, ?_, hnc, hcm, by simpa [Sort.putCells] using hcs, ?_⟩
    · rw [hrow]
      unfold Sort.putRow Sort.mapBlock
      simp only [Array.getElem?_modify, if_true, hh]
      rfl
    · apply List.ext_getElem?
      intro i
      rw [Nat.mul_one, List.getElem?_take]
      by_cases hi : i < n
      · rw [if_pos hi, List.getElem?_map, List.getElem?_eq_getElem (show i < d'.toList.length by simp [hsz]; omega)]
        have hcl : i < cur.size := by
          have h2 := congrArg List.length htake
          simp only [List.length_take, List.length_map, Array.length_toList] at h2
          omega
        simp only [Sort.putCells, Array.getElem?_toList, Array.getElem?_mapIdx, Array.getElem?_eq_getElem hcl, Option.map_some]
        rw [if_pos ⟨Nat.zero_le _, by omega⟩, Nat.sub_zero, getElem!_pos _ i (by omega)]
        simp
      · rw [if_neg hi, List.getElem?_map, List.getElem?_eq_none (show d'.toList.length ≤ i by simp [hsz]; omega)]
        rfl
/-- What slices.Compact of a row of one's own ends in. -/
def Cpted (w : World) (base : Nat) (A : Option Addr) (n c : Nat) (l : List Nat) (e : Ending) (w' : World) : Prop :=
  e = .returned (.slice A (cpl l).length c) ∧ w'.ownsRow base 22 1 (.slice A (cpl l).length c) (cpl l).length ((cpl l).map uv) ∧ Chg (fun k => some k = (Value.slice A n c).ownBlock) w w'
theorem compact_short (A : Option Addr) (n c : Nat) (w : World) (h : n < 2) : Calls Try.prog 122 #[.slice A n c] w fun e w' => e = .returned (.slice A n c) ∧ w = w' := by
  have hd : decide ((n : Int) < 2) = true := by simp; omega
  go_enter Try.func122, Try.ntmps122
  go_wp2_with fail
  go_ret
  exact ⟨rfl, rfl⟩
theorem compact_own (h : w.ownsRow base 22 1 (.slice A n c) n (l.map uv)) (hn : n < 65536) : Calls Try.prog 122 #[.slice A n c] w (Cpted w base A n c l) := by
  have hlen : l.length = n := by have := h.1; simpa using this
  by_cases h2 : n < 2
  · refine (compact_short A n c w h2).mono fun e w' ⟨he, hw⟩ => ?_
    unfold Cpted
    rw [cpl_short (by omega), hlen]
    exact ⟨he, hw ▸ h, hw ▸ Chg.refl _ _⟩
  · rcases h.2 with ⟨_, hx⟩ | ⟨q, cap, cur, hv, hq, hh, hnc, hcm, hcs, htake⟩
    · omega
    · injection hv with h1 _ h3
      subst h1; subst h3
      rw [Nat.mul_one] at htake
      have hb : Blk w q 22 cur := hh
      have hH := uv_holds hb (by rw [hlen]; exact htake)
      refine (compact_row hH hb.lt (by rw [arr_size]; exact hlen) hn (by omega) hnc hcm).mono ?_
      rintro e w' ⟨d', rfl, h1, h2⟩
      rw [← hlen, ← cpl_len] at h2
      have hle := cpt_le (arrOf l) l.length
      rw [← cpl_len] at hle
      have hown := own_cut (h1.ownI h) (m := (cpl l).length) (by omega)
      have hvals : (d'.toList.map eu).take (cpl l).length = (cpl l).map uv := by
        have hsz : d'.size = n := by have := h1.sz; rw [arr_size] at this; omega
        apply List.ext_getElem?
        intro i
        rw [List.getElem?_take]
        by_cases hi : i < (cpl l).length
        · rw [if_pos hi, List.getElem?_map, List.getElem?_map, Array.getElem?_toList, Array.getElem?_eq_getElem (by omega)]
          have h3 := h2 i hi
          rw [getElem!_pos _ i (by omega)] at h3
          unfold cpl
          rw [List.getElem?_map, h3]
          have h4 : ∃ x : Nat, d'[i] = (x : Int) := by
            have h5 := List.mem_of_getElem? h3
            unfold Lib.compactUpTo at h5
            obtain ⟨j, hj, hje⟩ := List.mem_map.1 h5
            have hj2 : j < l.length := List.mem_range.1 (List.mem_filter.1 hj).1
            rw [arr_at (List.getElem?_eq_getElem hj2)] at hje
            exact ⟨_, hje.symm⟩
          obtain ⟨x, hx⟩ := h4
          simp only [Option.map_some, hx, Int.toNat_natCast]
          rfl
        · rw [if_neg hi, List.getElem?_eq_none (by simpa using hi)]
      rw [hvals] at hown
      unfold Cpted
      rw [cpl_len] at hown ⊢
      rw [← hlen]
      refine ⟨rfl, hown, h1.ch.more fun k _ hk => by rw [show k = q from hk]; rfl⟩
end
end Go.Proofs.Ytmdgmnaaopineaa
