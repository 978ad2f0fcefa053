/- slices.Sort at numbers, of a row of one's own, or of no row. -/
import Derived.Test.YtmdgmnaaopineaaSr10
import Derived.Test.YtmdgmnaaopineaaU64
namespace Go.Proofs.Ytmdgmnaaopineaa
open Go.ChangeShapes Go.WideShapes Go.ChangeAt Go.RowKit
set_option linter.unusedVariables false
def Idle (w : World) (e : Ending) (w' : World) : Prop := e = .returned (.tuple #[]) ∧ w = w'
theorem sins_nil (A : Option Addr) (c : Nat) (w : World) : Calls Try.prog 148 #[.slice A 0 c, .int .i64 0, .int .i64 0] w fun e w' => e = .returned (.tuple #[]) ∧ w = w' := by
  go_enter Try.func148, Try.ntmps148
  go_wp2_with fail
  go_loopw [6] (fun vi wr => vi = .int .i64 1 ∧ w = wr) (fun _ _ => 0)
  case atStart => exact ⟨by go_num, rfl⟩
  case round =>
    obtain ⟨rfl, rfl⟩ := hrel
    go_wp2_with fail
    go_end0
    exact ⟨rfl, rfl⟩
set_option maxRecDepth 100000 in
theorem spdq_nil (A : Option Addr) (c k : Nat) (w : World) : Calls Try.prog 143 #[.slice A 0 c, .int .i64 0, .int .i64 0, .int .i64 k] w (Idle w) := by
  go_enter Try.func143, Try.ntmps143
  go_wp2_with fail
  go_loopw [1, 2, 3, 8, 9] (fun va vb vl vwb vwp wr => va = .int .i64 0 ∧ vb = .int .i64 0 ∧ w = wr) (fun _ _ _ _ _ _ => 0)
  case atStart => exact ⟨rfl, rfl, rfl⟩
  case round =>
    obtain ⟨rfl, rfl, rfl⟩ := hrel
    go_wp2_with fail
    refine (sins_nil A c _).mono ?_; rintro e w1 ⟨rfl, rfl⟩
    go_wp2_with fail
    go_end0
    exact ⟨rfl, rfl⟩
theorem ssort_nil (A : Option Addr) (c : Nat) (w : World) : Calls Try.prog 118 #[.slice A 0 c] w fun e w' => e = .returned (.tuple #[]) ∧ w = w' := by
  go_enter Try.func118, Try.ntmps118
  go_wp2_with fail
  refine (len_any 0 _ (by decide)).mono ?_; rintro e w1 ⟨rfl, rfl⟩
  go_wp2_with fail
  refine (spdq_nil A c _ _).mono ?_; rintro e w1 ⟨rfl, rfl⟩
  go_wp2_with fail
  go_end0
  exact ⟨rfl, rfl⟩
theorem ssort_any {blk off c n : Nat} {d : Array Int} {w : World} (hH : Sort.Holds eu w blk off d) (hl : blk < w.heap.size) (hn : d.size = n) (hsz : n < 65536) :
    Calls Try.prog 118 #[.slice (some ⟨blk, off, none⟩) n c] w (SortsIn w blk off 0 n d) := by
  have hp := fun k hk => spdq_ind n hsz blk off c n w d 0 n k (by omega) hH hl hn (Nat.zero_le _) (Nat.le_refl _) hk (Or.inl rfl)
  have HP := Lib.hid hp
  have hle : Lib.bitLen n ≤ 64 := Nat.le_trans (Lib.bitLen_le n 16 (by decide) (by omega)) (by decide)
  have HLE := Lib.hid hle
  obtain ⟨k, hk⟩ : ∃ k, k = Lib.bitLen n := ⟨_, rfl⟩
  have hlen : ∀ w, Calls Try.prog 144 #[.int .u64 n] w fun e w' => e = .returned (.int .i64 (k : Int)) ∧ w' = w := fun w => by rw [hk]; exact len_any n w hsz
  rw [← hk] at HLE
  have HL := Lib.hid hlen
  have hnn : (n : Int) < 65536 := by omega
  clear hp hle hlen hk hH hl hn
  go_enter Try.func118, Try.ntmps118
  go_wp2_with fail
  refine (HL.out _).mono ?_; rintro e w1 ⟨rfl, rfl⟩
  go_wp2_with fail
  refine (HP.out k HLE.out).mono ?_; rintro e w1 ⟨d', rfl, h1, h2, h3⟩
  have H1 := Lib.hid h1
  have H2 := Lib.hid h2
  have H3 := Lib.hid h3
  clear h1 h2 h3
  go_wp2_with fail
  go_end0
  exact ⟨d', rfl, H1.out, H2.out, H3.out⟩
/-- The numbers of a list, as the sort has them. -/
def arrOf (l : List Nat) : Array Int := (l.map (fun (x : Nat) => (x : Int))).toArray
theorem arr_size (l : List Nat) : (arrOf l).size = l.length := by simp [arrOf]
theorem arr_at {l : List Nat} {i x : Nat} (h : l[i]? = some x) : (arrOf l)[i]! = (x : Int) := by
  have hi := (List.getElem?_eq_some_iff.1 h).1
  rw [getElem!_pos _ i (by rw [arr_size]; exact hi)]
  simp only [arrOf, List.getElem_toArray, List.getElem_map]
  rw [(List.getElem?_eq_some_iff.1 h).2]
theorem arr_toList (l : List Nat) : (arrOf l).toList = l.map (fun (x : Nat) => (x : Int)) := by simp [arrOf]
/-- A sorted permutation is the list that comes of sorting. -/
theorem sorted_list {l : List Nat} {d' : Array Int} (hp : Sort.PermIn 0 l.length (arrOf l) d') (hs : Sort.SortedIn lti 0 l.length d') :
    ∃ l' : List Nat, d' = arrOf l' ∧ l'.Perm l ∧ l'.Pairwise (· ≤ ·) := by
  have hsz : d'.size = l.length := by rw [hp.1, arr_size]
  have hperm : d'.toList.Perm (l.map (fun (x : Nat) => (x : Int))) := by
    have h := hp.2.2
    rw [Array.extract_eq_self_of_le (by rw [hsz]; exact Nat.le_refl _), Array.extract_eq_self_of_le (by rw [arr_size]; exact Nat.le_refl _), arr_toList] at h
    exact h
  have hnat : ∀ y ∈ d'.toList, ∃ x : Nat, y = (x : Int) := fun y hy => by
    obtain ⟨x, _, rfl⟩ := List.mem_map.1 (hperm.mem_iff.1 hy)
    exact ⟨x, rfl⟩
  have hback : d'.toList = (d'.toList.map Int.toNat).map (fun (x : Nat) => (x : Int)) := by
    rw [List.map_map]
    have e : d'.toList.map ((fun (x : Nat) => (x : Int)) ∘ Int.toNat) = d'.toList.map id := List.map_congr_left (fun y hy => by
      obtain ⟨x, rfl⟩ := hnat y hy
      simp)
    rw [e, List.map_id]
  refine ⟨d'.toList.map Int.toNat, ?_, ?_, ?_⟩
  · unfold arrOf
    rw [← hback]
  · have h := hperm.map Int.toNat
    rw [List.map_map] at h
    have e : l.map (Int.toNat ∘ fun (x : Nat) => (x : Int)) = l := by
      conv => rhs; rw [← List.map_id l]
      exact List.map_congr_left fun x _ => by simp
    rw [e] at h
    exact h
  · rw [List.pairwise_map, List.pairwise_iff_getElem]
    intro i j hi hj hij
    have h := hs i j (Nat.zero_le _) hij (by rw [← hsz]; simpa using hj)
    rw [getElem!_pos _ j (by simpa using hj), getElem!_pos _ i (by simpa using hi)] at h
    have h' : ¬ d'[j] < d'[i] := by simpa [Sort.ltInt] using h
    simp only [Array.getElem_toList]
    omega
section
variable {w w' : World} {base n c : Nat} {A : Option Addr} {l : List Nat}
theorem uv_holds {g : Nat} {cur : Array Value} {e : TypeId} (hb : Blk w g e cur) (ht : cur.toList.take l.length = l.map uv) : Sort.Holds eu w g 0 (arrOf l) := fun t htt => by
  rw [arr_size] at htt
  refine ⟨?_, by rw [Nat.zero_add]; exact hb.frozen t⟩
  rw [Nat.zero_add, hb.cell]
  have h1 : (l.map uv)[t]? = some (uv l[t]) := by rw [List.getElem?_map, List.getElem?_eq_getElem htt]; rfl
  rw [← ht, List.getElem?_take, if_pos htt] at h1
  have h2 : cur[t]? = some (uv l[t]) := by simpa using h1
  rw [h2, arr_at (List.getElem?_eq_getElem htt)]
  rfl
/-- What a sort makes of a row of one's own. -/
theorem SW.own {g : Nat} {l' : List Nat} {e : TypeId} (h : SW w w' g 0 (arrOf l) (arrOf l')) (ho : w.ownsRow base e 1 (.slice (some ⟨g, 0, none⟩) n c) n (l.map uv)) : w'.ownsRow base e 1 (.slice (some ⟨g, 0, none⟩) n c) n (l'.map uv) := by
  have hsz : l'.length = l.length := by have := h.sz; rwa [arr_size, arr_size] at this
  have hn : l.length = n := by have := ho.1; simpa using this
  refine ⟨by have := ho.1; simpa [hsz] using this, ?_⟩
  rcases ho.2 with ⟨hv, h0⟩ | ⟨q, cap, cur, hv, hq, hh, hnc, hcm, hcs, htake⟩
  · injection hv with h1; cases h1
  · injection hv with h1 _ h3
    injection h1 with h1
    injection h1 with h1
    subst h1; subst h3
    rw [Nat.mul_one] at htake hcs
    have hrow := h.row
    refine .inr ⟨g, c, Sort.putCells eu 0 (arrOf l') cur, rfl, hq, ?_, hnc, hcm, by simpa [Sort.putCells] using hcs, ?_⟩
    · rw [hrow]
      unfold Sort.putRow Sort.mapBlock
      simp only [Array.getElem?_modify, if_true, hh]
      rfl
    · apply List.ext_getElem?
      intro i
      rw [Nat.mul_one, List.getElem?_take]
      by_cases hi : i < n
      · rw [if_pos hi, List.getElem?_map, List.getElem?_eq_getElem (show i < l'.length by omega)]
        have hcl : i < cur.size := by
          have h2 := congrArg List.length htake
          simp only [List.length_take, List.length_map, Array.length_toList] at h2
          omega
        simp only [Sort.putCells, Array.getElem?_toList, Array.getElem?_mapIdx, Array.getElem?_eq_getElem hcl, Option.map_some]
        rw [if_pos ⟨Nat.zero_le _, by rw [arr_size]; omega⟩, Nat.sub_zero, arr_at (List.getElem?_eq_getElem (show i < l'.length by omega))]
        rfl
      · rw [if_neg hi, List.getElem?_map, List.getElem?_eq_none (show l'.length ≤ i by omega)]
        rfl
/-- What slices.Sort ends in. -/
def Sorted (w : World) (base : Nat) (A : Option Addr) (n c : Nat) (l : List Nat) (e : Ending) (w' : World) : Prop :=
  ∃ l' : List Nat, e = .returned (.tuple #[]) ∧ l'.Perm l ∧ l'.Pairwise (· ≤ ·) ∧ w'.ownsRow base 22 1 (.slice A n c) n (l'.map uv) ∧ Chg (fun k => some k = (Value.slice A n c).ownBlock) w w'
theorem sort_own (h : w.ownsRow base 22 1 (.slice A n c) n (l.map uv)) (hn : n < 65536) : Calls Try.prog 118 #[.slice A n c] w (Sorted w base A n c l) := by
  have hlen : l.length = n := by have := h.1; simpa using this
  rcases Nat.eq_zero_or_pos n with h0 | h0
  · subst h0
    obtain rfl := List.eq_nil_of_length_eq_zero hlen
    exact (ssort_nil A c w).mono fun e w' ⟨he, hw⟩ => ⟨[], he, List.Perm.refl _, List.Pairwise.nil, hw ▸ h, hw ▸ Chg.refl _ _⟩
  · rcases h.2 with ⟨_, hx⟩ | ⟨q, cap, cur, hv, hq, hh, hnc, hcm, hcs, htake⟩
    · omega
    · injection hv with h1 _ h3
      subst h1; subst h3
      rw [Nat.mul_one] at htake
      have hb : Blk w q 22 cur := hh
      have hH := uv_holds hb (by rw [hlen]; exact htake)
      refine (ssort_any hH hb.lt (by rw [arr_size]; exact hlen) hn).mono ?_
      rintro e w' ⟨d', rfl, h1, h2, h3⟩
      rw [← hlen] at h2 h3
      obtain ⟨l', rfl, hp, hs⟩ := sorted_list h2 h3
      exact ⟨l', rfl, hp, hs, h1.own h, h1.ch.more fun k _ hk => by rw [show k = q from hk]; rfl⟩
end
end Go.Proofs.Ytmdgmnaaopineaa
